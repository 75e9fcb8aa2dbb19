
/- A region that draws its order, each of whose operations leaves a fact that stays true while more is made: any order leaves all facts. No statement of the program. -/
import Derived.Test.YtkjeedlkkpgopaaLib
import Derived.Orders
namespace Go.Proofs.Ytkjeedlkkpgopaa
open Go.RowKit

def cntF : List Bool → Nat
  | [] => 0
  | b :: r => (if b then 0 else 1) + cntF r
theorem cntF_set : ∀ (l : List Bool) (i : Nat), l[i]? = some false → cntF (l.set i true) + 1 = cntF l
  | [], i, h => by simp at h
  | b :: r, 0, h => by simp at h; subst h; simp [cntF]; omega
  | b :: r, i + 1, h => by
    have := cntF_set r i (by simpa using h)
    simp only [List.set_cons_succ, cntF]; omega
theorem cntF_zero : ∀ (l : List Bool), cntF l = 0 → ∀ i, l.getD i true = true
  | [], _, i => by simp
  | b :: r, h, 0 => by cases b <;> simp_all [cntF]
  | b :: r, h, i + 1 => by
    have := cntF_zero r (by simp only [cntF] at h; omega) i
    simpa using this
theorem cntF_replicate (n : Nat) : cntF (List.replicate n false) = n := by
  induction n with
  | zero => rfl
  | succ n ih => simp only [List.replicate_succ, cntF, ih]; simp; omega

section
variable {P : Program} {ops : Array Oper} {Q : Exit → Act → World → Prop}

theorem wpAny_inv {I : Array Bool → Act → World → Prop}
    (hstep : ∀ listed a w i, I listed a w → i ∈ Region.ready .any ops listed → wpOp P ops Q i (I (listed.setIfInBounds i true)) a w)
    (hfin : ∀ listed a w, I listed a w → Region.ready .any ops listed = [] → Q .normal a w)
    : ∀ (fuel : Nat) (listed : Array Bool) (a : Act) (w : World), cntF listed.toList ≤ fuel → I listed a w → wpAny P .any ops Q fuel listed a w := by
  intro fuel
  induction fuel with
  | zero =>
    intro listed a w hc hI
    have h0 : Region.ready .any ops listed = [] := by
      rw [List.eq_nil_iff_forall_not_mem]
      intro j hj
      obtain ⟨h1, _⟩ := mem_ready.1 hj
      have := cntF_zero listed.toList (by omega) j
      have e : listed.getD j true = listed.toList.getD j true := by simp [Array.getD_eq_getD_getElem?]
      rw [e, this] at h1
      cases h1
    exact ⟨h0, hfin _ _ _ hI h0⟩
  | succ fuel ih =>
    intro listed a w hc hI
    refine ⟨fun h0 => hfin _ _ _ hI h0, fun i hi => wpOp_mono (fun a' w' hI' => ih _ _ _ ?_ hI') (hstep _ _ _ _ hI hi)⟩
    obtain ⟨h1, _⟩ := mem_ready.1 hi
    have h2 : listed.toList[i]? = some false := by
      rw [Array.getElem?_toList]
      cases h : listed[i]? with
      | none => rw [Array.getD_eq_getD_getElem?, h] at h1; cases h1
      | some b => rw [Array.getD_eq_getD_getElem?, h] at h1; simp at h1; rw [h1]
    have := cntF_set _ _ h2
    rw [Array.toList_setIfInBounds]
    omega

theorem getD_set_true' {listed : Array Bool} {i j : Nat} (h : listed.getD j true = true) : (listed.setIfInBounds i true).getD j true = true := by
  by_cases hij : i = j
  · subst hij
    by_cases hl : i < listed.size <;> simp [Array.getD_eq_getD_getElem?, hl]
  · rw [getD_set_ne _ hij]; exact h

def slotOf (a : Act) : Option Tmp → Value
  | some d => a.tmps.getD d undef
  | none => undef

/-- the head: each operation writes a slot of its own inside the frame; edges go back; what stands at 'n' and behind waits for all ahead -/
def Region.headOk (ops : Array Oper) (n size : Nat) : Bool :=
  (List.range ops.size).all fun i => match ops[i]? with
    | none => false
    | some o =>
      (o.after.all fun e => !Region.binds .any e || decide (e.on < i)) &&
      (decide (n ≤ i) || (match o.dst with | some d => decide (d < size) && (List.range i).all (fun j => match ops[j]? with | some o' => o'.dst != some d | none => true) | none => false)) &&
      (decide (i < n) || (List.range i).all fun j => o.after.any fun e => Region.binds .any e && e.on == j)

theorem Region.headOk_spec {n size : Nat} (h : Region.headOk ops n size = true) (i : Nat) (o : Oper) (ho : ops[i]? = some o) :
    (∀ e ∈ o.after, Region.binds .any e = true → e.on < i) ∧
    (i < n → ∃ d, o.dst = some d ∧ d < size ∧ ∀ j o', j < i → ops[j]? = some o' → o'.dst ≠ some d) ∧
    (n ≤ i → ∀ j, j < i → ∃ e ∈ o.after, Region.binds .any e = true ∧ e.on = j) := by
  unfold Region.headOk at h
  rw [List.all_eq_true] at h
  have hlt : i < ops.size := (Array.getElem?_eq_some_iff.1 ho).1
  have h1 := h i (List.mem_range.2 hlt)
  rw [ho] at h1
  simp only [Bool.and_eq_true, Bool.or_eq_true, decide_eq_true_eq] at h1
  obtain ⟨⟨ha, hb⟩, hc⟩ := h1
  refine ⟨?_, ?_, ?_⟩
  · intro e he hbe
    rw [Array.all_eq_true_iff_forall_mem] at ha
    have := ha e he
    simpa [hbe] using this
  · intro hin
    have hb := hb.resolve_left (by omega)
    cases hd : o.dst with
    | none => rw [hd] at hb; simp at hb
    | some d =>
      rw [hd] at hb
      simp only [Bool.and_eq_true, decide_eq_true_eq, List.all_eq_true, List.mem_range] at hb
      refine ⟨d, rfl, hb.1, fun j o' hj ho' => ?_⟩
      have := hb.2 j hj
      rw [ho'] at this
      simpa using this
  · intro hin j hj
    have hc := hc.resolve_left (by omega)
    rw [List.all_eq_true] at hc
    have := hc j (List.mem_range.2 hj)
    rw [← Array.any_toList, List.any_eq_true] at this
    obtain ⟨e, he, h2⟩ := this
    have he := Array.mem_toList_iff.1 he
    simp only [Bool.and_eq_true, beq_iff_eq] at h2
    exact ⟨e, he, h2.1, h2.2⟩

/-- the head's slots, written in the text's order -/
def putN (ops : Array Oper) (vs : Nat → Value) : Nat → Act → Act
  | 0, a => a
  | n + 1, a => (putN ops vs n a).put ((ops[n]?).bind (·.dst)) (vs n)

theorem put_defers (a : Act) (d : Option Tmp) (v : Value) : (a.put d v).defers = a.defers := by cases d <;> rfl
theorem put_size (a : Act) (d : Option Tmp) (v : Value) : (a.put d v).tmps.size = a.tmps.size := by cases d <;> simp [Act.put]
theorem put_same (a : Act) (d : Tmp) (v : Value) (h : d < a.tmps.size) : (a.put (some d) v).tmps.getD d undef = v := by
  simp [Act.put, Array.getD_eq_getD_getElem?, h]
theorem put_other (a : Act) (d : Option Tmp) (v : Value) (t : Tmp) (h : d ≠ some t) : (a.put d v).tmps.getD t undef = a.tmps.getD t undef := by
  cases d with
  | none => rfl
  | some d =>
    have : d ≠ t := fun e => h (by rw [e])
    simp [Act.put, Array.getD_eq_getD_getElem?, Array.getElem?_setIfInBounds_ne this]

theorem putN_spec {n size : Nat} (hB : Region.headOk ops n size = true) (vs : Nat → Value) (a : Act) (hs : a.tmps.size = size) : ∀ m, m ≤ n → m ≤ ops.size →
    (putN ops vs m a).defers = a.defers ∧ (putN ops vs m a).tmps.size = size ∧
    (∀ i o, i < m → ops[i]? = some o → slotOf (putN ops vs m a) o.dst = vs i) ∧
    (∀ t, (∀ i o, i < m → ops[i]? = some o → o.dst ≠ some t) → (putN ops vs m a).tmps.getD t undef = a.tmps.getD t undef) := by
  intro m
  induction m with
  | zero => intro _ _; exact ⟨rfl, hs, fun i o h => by omega, fun _ _ => rfl⟩
  | succ m ih =>
    intro hmn hms
    obtain ⟨h1, h2, h3, h4⟩ := ih (by omega) (by omega)
    obtain ⟨o, ho⟩ : ∃ o, ops[m]? = some o := ⟨_, Array.getElem?_eq_getElem (by omega)⟩
    obtain ⟨d, hd, hds, hdd⟩ := (Region.headOk_spec hB m o ho).2.1 (by omega)
    have e : (ops[m]?).bind (·.dst) = some d := by rw [ho]; exact hd
    simp only [putN, e]
    refine ⟨by rw [put_defers]; exact h1, by rw [put_size]; exact h2, ?_, ?_⟩
    · intro i o' hi ho'
      by_cases him : i = m
      · subst him
        rw [ho] at ho'
        cases ho'
        rw [hd]
        exact put_same _ _ _ (by rw [h2]; exact hds)
      · have hlt : i < m := by omega
        obtain ⟨d', hd', _, _⟩ := (Region.headOk_spec hB i o' ho').2.1 (by omega)
        rw [← h3 i o' hlt ho', hd']
        exact put_other _ _ _ _ (fun e => hdd i o' hlt ho' (by rw [hd', ← e]))
    · intro t ht
      rw [put_other _ _ _ _ (by rw [← hd]; exact ht m o (by omega) ho)]
      exact h4 t (fun i o' hi => ht i o' (by omega))

theorem act_ext {a b : Act} (h1 : a.defers = b.defers) (h2 : a.tmps.size = b.tmps.size) (h : ∀ t, a.tmps.getD t undef = b.tmps.getD t undef) : a = b := by
  obtain ⟨ta, da⟩ := a
  obtain ⟨tb, db⟩ := b
  simp only at h1 h2 h
  subst h1
  have : ta = tb := by
    apply Array.ext h2
    intro i hi hi'
    have := h i
    simpa [Array.getD_eq_getD_getElem?, hi, hi'] using this
  rw [this]

theorem wp_region_facts {id : Nat} {a0 : Act} {w0 : World} (n : Nat) (Φ : Nat → Value → World → Prop) (R : World → World → Prop)
    (hm : P.follows .mixedOrders = true) (hB : Region.headOk ops n a0.tmps.size = true) (hn : n ≤ ops.size)
    (hrefl : ∀ w, R w w) (htrans : ∀ a b c, R a b → R b c → R a c)
    (hstab : ∀ i v w w', Φ i v w → R w w' → Φ i v w')
    (hstep : ∀ i o, i < n → ops[i]? = some o → ∀ a w, R { w0 with drawn := w0.drawn + 1 } w → a.defers = a0.defers → a.tmps.size = a0.tmps.size →
      (∀ t, (∀ j o', j < n → ops[j]? = some o' → o'.dst ≠ some t) → a.tmps.getD t undef = a0.tmps.getD t undef) →
      (∀ e ∈ o.after, Region.binds .any e = true → ∀ oj, ops[e.on]? = some oj → Φ e.on (slotOf a oj.dst) w) →
      if Region.wanted o (yielded ops a.tmps) = true then o.wp P a w (fun a' w' => R w w' ∧ ∃ v, a' = a.put o.dst v ∧ Φ i v w') Q else R w w ∧ Φ i undef w)
    (hfin : ∀ (vs : Nat → Value) w, R { w0 with drawn := w0.drawn + 1 } w → (∀ i, i < n → Φ i (vs i) w) → wpOps P ops Q (List.range' n (ops.size - n)) (putN ops vs n a0) w) :
    (Code.region id ops true).wp P Q a0 w0 := by
  refine wp_region_any hm ?_
  let I1 : Array Bool → Act → World → Prop := fun listed a w =>
    R { w0 with drawn := w0.drawn + 1 } w ∧ a.defers = a0.defers ∧ a.tmps.size = a0.tmps.size ∧
    (∀ t, (∀ j o', j < n → ops[j]? = some o' → listed.getD j true = true → o'.dst ≠ some t) → a.tmps.getD t undef = a0.tmps.getD t undef) ∧
    (∀ i o, i < n → ops[i]? = some o → listed.getD i true = true → Φ i (slotOf a o.dst) w) ∧ (∀ j, n ≤ j → j < ops.size → listed.getD j true = false)
  let I2 : Array Bool → Act → World → Prop := fun listed a w => ∃ k, n ≤ k ∧ k ≤ ops.size ∧ (∀ j, j < k → listed.getD j false = true) ∧ (∀ j, k ≤ j → j < ops.size → listed.getD j true = false) ∧
    wpOps P ops Q (List.range' k (ops.size - k)) a w
  have hI12 : ∀ listed a w, listed.size = ops.size → I1 listed a w → (∀ j, j < n → listed.getD j true = true) → I2 listed a w := by
    intro listed a w hsz ⟨hR, hdf, hts, hag, hΦ, htl⟩ hall
    refine ⟨n, Nat.le_refl _, hn, ?_, htl, ?_⟩
    · intro j hj
      have := hall j hj
      have hlt : j < listed.size := by omega
      simpa [Array.getD_eq_getD_getElem?, hlt] using this
    · have := hfin (fun i => slotOf a ((ops[i]?).bind (·.dst))) w hR (fun i hi => by
        obtain ⟨o, ho⟩ : ∃ o, ops[i]? = some o := ⟨_, Array.getElem?_eq_getElem (by omega)⟩
        have := hΦ i o hi ho (hall i hi)
        rw [ho]; exact this)
      obtain ⟨g1, g2, g3, g4⟩ := putN_spec hB (fun i => slotOf a ((ops[i]?).bind (·.dst))) a0 rfl n (Nat.le_refl _) hn
      have e : a = putN ops (fun i => slotOf a ((ops[i]?).bind (·.dst))) n a0 := by
        refine act_ext (by rw [g1, hdf]) (by rw [g2, hts]) fun t => ?_
        by_cases ht : ∃ i o, i < n ∧ ops[i]? = some o ∧ o.dst = some t
        · obtain ⟨i, o, hi, ho, hd⟩ := ht
          have h3 := g3 i o hi ho
          rw [hd] at h3
          have h5 : slotOf a ((ops[i]?).bind (·.dst)) = a.tmps.getD t undef := by rw [ho]; show slotOf a o.dst = _; rw [hd]; rfl
          exact (h3.trans h5).symm
        · have hno : ∀ i o, i < n → ops[i]? = some o → o.dst ≠ some t := fun i o hi ho hd => ht ⟨i, o, hi, ho, hd⟩
          rw [g4 t hno, hag t (fun j o' hj ho' _ => hno j o' hj ho')]
      rw [e]; exact this
  have key : ∀ (fuel : Nat) (listed : Array Bool) (a : Act) (w : World), cntF listed.toList ≤ fuel → (listed.size = ops.size ∧ (I1 listed a w ∨ I2 listed a w)) → wpAny P .any ops Q fuel listed a w := by
    refine wpAny_inv ?_ ?_
    · rintro listed a w i ⟨hsz, hI⟩ hi
      obtain ⟨hi1, o, ho, hpre⟩ := mem_ready.1 hi
      have hlt : i < ops.size := (Array.getElem?_eq_some_iff.1 ho).1
      have hsz' : (listed.setIfInBounds i true).size = ops.size := by simpa using hsz
      have two : I2 listed a w → wpOp P ops Q i (fun a' w' => (listed.setIfInBounds i true).size = ops.size ∧ (I1 (listed.setIfInBounds i true) a' w' ∨ I2 (listed.setIfInBounds i true) a' w')) a w := by
        rintro ⟨k, hnk, hks, hlo, hhi, hw⟩
        have hik : i = k := by
          rcases Nat.lt_trichotomy i k with h | h | h
          · have h1 := hlo i h
            have hl : i < listed.size := by omega
            simp [Array.getD_eq_getD_getElem?, hl] at h1 hi1
            rw [h1] at hi1; cases hi1
          · exact h
          · obtain ⟨e, he, hb, hon⟩ := (Region.headOk_spec hB i o ho).2.2 (by omega) k h
            have h1 := hpre e he hb
            rw [hon] at h1
            have h2 := hhi k (Nat.le_refl _) (by omega)
            have hl : k < listed.size := by omega
            simp [Array.getD_eq_getD_getElem?, hl] at h1 h2
            rw [h1] at h2; cases h2
        subst hik
        rw [show ops.size - i = (ops.size - (i + 1)) + 1 by omega, List.range'_succ, wpOps_cons] at hw
        refine wpOp_mono (fun a' w' h => ⟨hsz', Or.inr ⟨i + 1, by omega, by omega, ?_, ?_, h⟩⟩) hw
        · intro j hj
          by_cases hji : j = i
          · subst hji
            have hl : j < listed.size := by omega
            simp [Array.getD_eq_getD_getElem?, hl]
          · rw [getD_set_ne _ (fun e => hji e.symm)]
            exact hlo j (by omega)
        · intro j hj hjs
          rw [getD_set_ne _ (by omega)]
          exact hhi j (by omega) hjs
      rcases hI with hI1 | hI2
      · by_cases hin : i < n
        · obtain ⟨hR, hdf, hts, hag, hΦ, htl⟩ := hI1
          have hs := hstep i o hin ho a w hR hdf hts (fun t ht => hag t (fun j o' hj ho' _ => ht j o' hj ho')) (fun e he hb oj hoj => by
            have hj := (Region.headOk_spec hB i o ho).1 e he hb
            have h1 := hpre e he hb
            have hl : e.on < listed.size := by omega
            refine hΦ e.on oj (by omega) hoj ?_
            simp [Array.getD_eq_getD_getElem?, hl] at h1 ⊢
            exact h1)
          obtain ⟨d, hd, hds, hdd⟩ := (Region.headOk_spec hB i o ho).2.1 hin
          have next : ∀ v w', R w w' → Φ i v w' → (listed.setIfInBounds i true).size = ops.size ∧ (I1 (listed.setIfInBounds i true) (a.put o.dst v) w' ∨ I2 (listed.setIfInBounds i true) (a.put o.dst v) w') := by
            intro v w' hR' hv
            refine ⟨hsz', Or.inl ⟨htrans _ _ _ hR hR', by rw [put_defers]; exact hdf, by rw [put_size]; exact hts, ?_, ?_, ?_⟩⟩
            · intro t ht
              have hil : (listed.setIfInBounds i true).getD i true = true := by simp [Array.getD_eq_getD_getElem?, (by omega : i < listed.size)]
              rw [put_other _ _ _ _ (ht i o hin ho hil)]
              exact hag t (fun j o' hj ho' hl => ht j o' hj ho' (getD_set_true' hl))
            · intro j o' hj ho' hl
              by_cases hji : j = i
              · subst hji
                rw [ho] at ho'
                cases ho'
                rw [hd]
                show Φ j ((a.put (some d) v).tmps.getD d undef) w'
                rw [put_same _ _ _ (by rw [hts]; exact hds)]
                exact hv
              · rw [getD_set_ne _ (fun e => hji e.symm)] at hl
                obtain ⟨d', hd', _, hdd'⟩ := (Region.headOk_spec hB j o' ho').2.1 hj
                have hne : (some d : Option Tmp) ≠ some d' := by
                  rcases Nat.lt_or_gt_of_ne hji with h | h
                  · exact fun e => hdd j o' h ho' (by rw [hd', ← e])
                  · exact fun e => hdd' i o h ho (by rw [hd, ← e])
                have h1 := hstab _ _ _ _ (hΦ j o' hj ho' hl) hR'
                rw [hd'] at h1 ⊢
                show Φ j ((a.put o.dst v).tmps.getD d' undef) w'
                rw [hd, put_other _ _ _ _ hne]
                exact h1
            · intro j hj hjs
              rw [getD_set_ne _ (by omega)]
              exact htl j hj hjs
          unfold wpOp
          simp only [ho]
          split
          · rename_i hw
            rw [if_pos hw] at hs
            exact Or.inl (Oper.wp_mono (fun a' w' ⟨hR', v, e, hv⟩ => by rw [e]; exact next v w' hR' hv) hs)
          · rename_i hw
            rw [if_neg hw] at hs
            exact next undef w hs.1 hs.2
        · refine two (hI12 listed a w hsz hI1 fun j hj => ?_)
          obtain ⟨e, he, hb, hon⟩ := (Region.headOk_spec hB i o ho).2.2 (by omega) j (by omega)
          have h1 := hpre e he hb
          rw [hon] at h1
          have hl : j < listed.size := by omega
          simp [Array.getD_eq_getD_getElem?, hl] at h1 ⊢
          exact h1
      · exact two hI2
    · rintro listed a w ⟨hsz, hI⟩ h0
      have all : ∀ j, j < ops.size → listed.getD j true = true := by
        intro j
        induction j using Nat.strongRecOn with
        | _ j ih =>
          intro hj
          cases hb : listed.getD j true with
          | true => rfl
          | false =>
            exfalso
            obtain ⟨o, ho⟩ : ∃ o, ops[j]? = some o := ⟨_, Array.getElem?_eq_getElem hj⟩
            have : j ∈ Region.ready .any ops listed := mem_ready.2 ⟨hb, o, ho, fun e he hbe => by
              have hlt := (Region.headOk_spec hB j o ho).1 e he hbe
              have h1 := ih e.on hlt (by omega)
              have hl : e.on < listed.size := by omega
              simp [Array.getD_eq_getD_getElem?, hl] at h1 ⊢
              exact h1⟩
            rw [h0] at this
            cases this
      have two : I2 listed a w → Q .normal a w := by
        rintro ⟨k, hnk, hks, hlo, hhi, hw⟩
        have hk : k = ops.size := by
          rcases Nat.lt_or_ge k ops.size with h | h
          · have h1 := hhi k (Nat.le_refl _) h
            rw [all k h] at h1; cases h1
          · omega
        subst hk
        simpa [wpOps] using hw
      rcases hI with hI1 | hI2
      · exact two (hI12 listed a w hsz hI1 fun j hj => all j (by omega))
      · exact two hI2
  refine key ops.size _ a0 _ (by simp [cntF_replicate]) ⟨by simp, Or.inl ⟨hrefl _, rfl, rfl, fun _ _ => rfl, ?_, ?_⟩⟩
  · intro i o hi ho hl
    have hlt : i < ops.size := (Array.getElem?_eq_some_iff.1 ho).1
    simp [Array.getD_eq_getD_getElem?, hlt] at hl
  · intro j _ hj
    simp [Array.getD_eq_getD_getElem?, hj]

def noDstB (ops : Array Oper) (n t : Nat) : Bool := (List.range n).all fun j => match ops[j]? with | some o => o.dst != some t | none => true
theorem noDst {n t : Nat} (h : noDstB ops n t = true) : ∀ j o', j < n → ops[j]? = some o' → o'.dst ≠ some t := by
  intro j o' hj ho
  unfold noDstB at h
  rw [List.all_eq_true] at h
  have := h j (List.mem_range.2 hj)
  rw [ho] at this
  simpa using this

/-- the steps of the head, one by one -/
def StepsAt (P : Program) (ops : Array Oper) (Q : Exit → Act → World → Prop) (n : Nat) (Φ : Nat → Value → World → Prop) (R : World → World → Prop) (a0 : Act) (w1 : World) : Nat → List Oper → Prop
  | _, [] => True
  | i, o :: r => (∀ a w, R w1 w → a.defers = a0.defers → a.tmps.size = a0.tmps.size →
      (∀ t, (∀ j o', j < n → ops[j]? = some o' → o'.dst ≠ some t) → a.tmps.getD t undef = a0.tmps.getD t undef) →
      (∀ e ∈ o.after, Region.binds .any e = true → ∀ oj, ops[e.on]? = some oj → Φ e.on (slotOf a oj.dst) w) →
      if Region.wanted o (yielded ops a.tmps) = true then o.wp P a w (fun a' w' => R w w' ∧ ∃ v, a' = a.put o.dst v ∧ Φ i v w') Q else R w w ∧ Φ i undef w) ∧
    StepsAt P ops Q n Φ R a0 w1 (i + 1) r

theorem StepsAt.get {n : Nat} {Φ : Nat → Value → World → Prop} {R : World → World → Prop} {a0 : Act} {w1 : World} : ∀ (l : List Oper) (k : Nat), StepsAt P ops Q n Φ R a0 w1 k l → ∀ j o, l[j]? = some o →
    ∀ a w, R w1 w → a.defers = a0.defers → a.tmps.size = a0.tmps.size →
      (∀ t, (∀ j o', j < n → ops[j]? = some o' → o'.dst ≠ some t) → a.tmps.getD t undef = a0.tmps.getD t undef) →
      (∀ e ∈ o.after, Region.binds .any e = true → ∀ oj, ops[e.on]? = some oj → Φ e.on (slotOf a oj.dst) w) →
      if Region.wanted o (yielded ops a.tmps) = true then o.wp P a w (fun a' w' => R w w' ∧ ∃ v, a' = a.put o.dst v ∧ Φ (k + j) v w') Q else R w w ∧ Φ (k + j) undef w := by
  intro l
  induction l with
  | nil => intro k _ j o h; simp at h
  | cons x r ih =>
    intro k hs j o h
    cases j with
    | zero =>
      simp only [List.getElem?_cons_zero, Option.some.injEq] at h
      subst h
      exact hs.1
    | succ j =>
      have := ih (k + 1) hs.2 j o (by simpa using h)
      rw [show k + (j + 1) = k + 1 + j by omega]
      exact this

theorem wp_region_facts_lit {id : Nat} {l : List Oper} {a0 : Act} {w0 : World} (n : Nat) (Φ : Nat → Value → World → Prop) (R : World → World → Prop)
    (hm : P.follows .mixedOrders = true) (hB : Region.headOk l.toArray n a0.tmps.size = true) (hn : n ≤ l.length)
    (hrefl : ∀ w, R w w) (htrans : ∀ a b c, R a b → R b c → R a c)
    (hstab : ∀ i v w w', Φ i v w → R w w' → Φ i v w')
    (hstep : StepsAt P l.toArray Q n Φ R a0 w0.drew 0 (l.take n))
    (hfin : ∀ (vs : Nat → Value) w, R w0.drew w → (∀ i, i < n → Φ i (vs i) w) → wpList P l.toArray Q (l.drop n) (putN l.toArray vs n a0) w) :
    (Code.region id l.toArray true).wp P Q a0 w0 := by
  refine wp_region_facts n Φ R hm hB (by simpa using hn) hrefl htrans hstab ?_ ?_
  · intro i o hi ho a w hR hd hs hag hpre
    have := StepsAt.get (l.take n) 0 hstep i o (by rw [List.getElem?_take, if_pos hi]; simpa using ho) a w hR hd hs hag hpre
    rw [Nat.zero_add] at this
    exact this
  · intro vs w hR hΦ
    have h := hfin vs w hR hΦ
    have e := wpOps_eq_wpList (P := P) (ops := l.toArray) (Q := Q) (l.drop n) n (fun j => by simp [List.getElem?_drop])
    rw [← e] at h
    simpa using h

theorem ext_refl (w : World) : Below w.heap.size w w := Below.refl _ _
theorem ext_trans (a b c : World) (h : Below a.heap.size a b) (k : Below b.heap.size b c) : Below a.heap.size a c := h.trans (k.mono h.size)
theorem ext_own {w w' : World} {base : Nat} {e : TypeId} {size : Nat} {v : Value} {n : Nat} {xs : List Value} (h : w.ownsRow base e size v n xs) (hb : Below w.heap.size w w') : w'.ownsRow base e size v n xs := by
  refine ⟨h.1, ?_⟩
  rcases h.2 with h | ⟨g, cap, cur, r1, r2, r3, r4⟩
  · exact Or.inl h
  · exact Or.inr ⟨g, cap, cur, r1, r2, (hb.block g (Array.getElem?_eq_some_iff.1 r3).1).trans r3, r4⟩
end
end Go.Proofs.Ytkjeedlkkpgopaa
