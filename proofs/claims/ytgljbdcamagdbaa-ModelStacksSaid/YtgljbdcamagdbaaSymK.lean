/- A region that draws its order, in a symbolic run: the theorem. No statement of the program. -/
import Derived.Test.YtgljbdcamagdbaaSymJ
namespace Go.Proofs.Ytgljbdcamagdbaa
open Go.RowKit

def gateYes (o : IO1) (Si : St) : Prop := o.guard = none ∨ ∃ g want x, o.guard = some (g, want) ∧ look Si.tmps g = some (.c x) ∧ ∀ E, x.den E = .bool want
def gateNo (o : IO1) (Si : St) : Prop := ∃ g want x, o.guard = some (g, want) ∧ look Si.tmps g = some (.c x) ∧ ∀ E, x.den E = .bool (!want)

def StepP (C : Ctx) (o : IO1) (U : List Nat) (done : List Rec) (Si : St) (r : Rec) : Prop :=
  (gateYes o Si ∧ ((∃ f xs vs tmpl nx arrs', o.op = .call f xs ∧ evs Si xs = some vs ∧ CR C f vs Si tmpl nx arrs' ∧ (∀ k ∈ keysA arrs', Si.nid ≤ k ∧ k < Si.nid + nx) ∧ r = ⟨o.dst, tmpl, none, none, arrs', Si.nid, nx, keysO Si.own⟩) ∨
    ∃ vc out, stepOut o.op Si = .ok vc out ∧ vc ∧ wrOk U done out ∧ r = recOf o.dst Si.nid (keysO Si.own) out)) ∨ (gateNo o Si ∧ r = skipR o.dst Si.nid (keysO Si.own))

def foldN (S : St) (l : List Rec) : St := l.foldl St.appN S
theorem foldN_snoc (S : St) (l : List Rec) (r : Rec) : foldN S (l ++ [r]) = (foldN S l).appN r := by simp [foldN]

section
variable {C : Ctx} {K : St → Prop}

theorem runD_step {ex : List Rec → St → Prop} {o : IO1} {U : List Nat} {Si : St} {done : List Rec} {S : St} (hg : gateYes o Si) (h : runD C ex o U Si done S) : ∃ r, StepP C o U done Si r ∧ ex (done ++ [r]) (S.appN r) := by
  unfold runD at h
  split at h
  · next f xs hop =>
    split at h
    · next vs hvs =>
      obtain ⟨tmpl, nx, arrs', h1, h2, h3⟩ := h
      exact ⟨_, Or.inl ⟨hg, Or.inl ⟨f, xs, vs, tmpl, nx, arrs', hop, hvs, h1, h2, rfl⟩⟩, h3⟩
    · exact h.elim
  · unfold thenD at h
    split at h
    · next vc out hst =>
      obtain ⟨h1, h2, h3⟩ := h
      exact ⟨_, Or.inl ⟨hg, Or.inr ⟨vc, out, hst, h1, h2, rfl⟩⟩, h3⟩
    · exact h.elim

theorem gateD_step {ex : List Rec → St → Prop} {o : IO1} {U : List Nat} {Si : St} {done : List Rec} {S : St} (h : gateD C ex o U Si done S) : ∃ r, StepP C o U done Si r ∧ ex (done ++ [r]) (S.appN r) := by
  unfold gateD at h
  split at h
  · next hg => exact runD_step (Or.inl hg) h
  · next g want hg =>
    split at h
    · next b hl =>
      split at h
      · next e => exact runD_step (Or.inr ⟨g, want, _, hg, hl, fun E => by rw [← e]; rfl⟩) h
      · next e => exact ⟨_, Or.inr ⟨⟨g, want, _, hg, hl, fun E => by rw [show (!want) = b by cases b <;> cases want <;> simp_all]; rfl⟩, rfl⟩, h⟩
    · next b hl =>
      split at h
      · next e => exact runD_step (Or.inr ⟨g, want, _, hg, hl, fun E => by rw [← e]; rfl⟩) h
      · next e => exact ⟨_, Or.inr ⟨⟨g, want, _, hg, hl, fun E => by rw [show (!want) = b by cases b <;> cases want <;> simp_all]; rfl⟩, rfl⟩, h⟩
    · exact h.elim

theorem drawX_recs : ∀ (todo : List (IO1 × List Nat × List Nat)) (done : List Rec) (S : St), drawX C K todo done S →
    ∃ more : List Rec, more.length = todo.length ∧ K (foldN S more) ∧ ∀ (k : Nat) (o : IO1) (U H : List Nat) (r : Rec), todo[k]? = some (o, U, H) → more[k]? = some r →
      StepP C o U (done ++ more.take k) ((foldN S (more.take k)).hid H (tchs (done ++ more.take k) U) (keyss (done ++ more.take k) U)) r
  | [], done, S, h => ⟨[], rfl, h, fun k o U H r hk => by simp at hk⟩
  | (o, U, H) :: todo, done, S, h => by
    simp only [drawX] at h
    obtain ⟨r, hr, h⟩ := gateD_step h
    obtain ⟨more, h1, h2, h3⟩ := drawX_recs todo (done ++ [r]) (S.appN r) h
    refine ⟨r :: more, by simp [h1], h2, ?_⟩
    intro k o' U' H' r' hk hr'
    cases k with
    | zero =>
      simp only [List.getElem?_cons_zero, Option.some.injEq, Prod.mk.injEq] at hk hr'
      obtain ⟨rfl, rfl, rfl⟩ := hk
      subst hr'
      simpa [foldN] using hr
    | succ k =>
      have := h3 k o' U' H' r' (by simpa using hk) (by simpa using hr')
      simpa [foldN, List.append_assoc] using this
end

/-- facts of the numbers -/
def LtS (S : St) : Prop := (∀ id b, look S.own id = some b → id < S.nid) ∧ ∀ k A, look S.arrs k = some A → k < S.nid

section
variable {C : Ctx}
theorem StepP.lo {o : IO1} {U : List Nat} {done : List Rec} {Si : St} {r : Rec} (h : StepP C o U done Si r) : r.lo = Si.nid := by
  rcases h with ⟨_, ⟨f, xs, vs, tmpl, nx, arrs', _, _, _, _, rfl⟩ | ⟨vc, out, _, _, _, rfl⟩⟩ | ⟨_, rfl⟩ <;> rfl
theorem StepP.dst {o : IO1} {U : List Nat} {done : List Rec} {Si : St} {r : Rec} (h : StepP C o U done Si r) : r.dst = o.dst := by
  rcases h with ⟨_, ⟨f, xs, vs, tmpl, nx, arrs', _, _, _, _, rfl⟩ | ⟨vc, out, _, _, _, rfl⟩⟩ | ⟨_, rfl⟩ <;> rfl
theorem StepP.kn {o : IO1} {U : List Nat} {done : List Rec} {Si : St} {r : Rec} (h : StepP C o U done Si r) : r.kn = keysO Si.own := by
  rcases h with ⟨_, ⟨f, xs, vs, tmpl, nx, arrs', _, _, _, _, rfl⟩ | ⟨vc, out, _, _, _, rfl⟩⟩ | ⟨_, rfl⟩ <;> rfl
theorem StepP.keys {o : IO1} {U : List Nat} {done : List Rec} {Si : St} {r : Rec} (h : StepP C o U done Si r) : ∀ k ∈ keysA r.arrs, r.lo ≤ k ∧ k < r.lo + r.cnt := by
  rcases h with ⟨_, ⟨f, xs, vs, tmpl, nx, arrs', _, _, _, hk, rfl⟩ | ⟨vc, out, _, _, _, rfl⟩⟩ | ⟨_, rfl⟩
  · exact hk
  · intro k hk; cases hk
  · intro k hk; cases hk
theorem StepP.own {o : IO1} {U : List Nat} {done : List Rec} {Si : St} {r : Rec} (h : StepP C o U done Si r) :
    (∀ id b, r.new = some (id, b) → id = r.lo ∧ r.cnt = 1) ∧ (∀ id cs ty, r.wr = some (id, cs, ty) → r.new = none ∧ (∃ old, look Si.own id = some (old, ty)) ∧ wrFree done id U = true) := by
  rcases h with ⟨_, ⟨f, xs, vs, tmpl, nx, arrs', _, _, _, hk, rfl⟩ | ⟨vc, out, hst, _, hw, rfl⟩⟩ | ⟨_, rfl⟩
  · exact ⟨fun id b h => (by cases h), fun id cs ty h => (by cases h)⟩
  · refine ⟨fun id b h => ?_, fun id cs ty h => ?_⟩
    · obtain ⟨val, new, wr⟩ := out
      cases new with
      | none => simp [recOf] at h
      | some p =>
        simp only [recOf, Option.some.injEq, Prod.mk.injEq] at h ⊢
        exact ⟨h.1.symm, by trivial⟩
    · obtain ⟨h1, h2⟩ := stepOut_wr hst id cs ty h
      refine ⟨by simp only [recOf, h1], h2, ?_⟩
      have h : out.wr = some (id, cs, ty) := h
      simpa [wrOk, h] using hw
  · exact ⟨fun id b h => (by cases h), fun id cs ty h => (by cases h)⟩

theorem lt_appN {S Si : St} {o : IO1} {U H T Ks : List Nat} {done : List Rec} {r : Rec} (hsi : Si = S.hid H T Ks) (h : StepP C o U done Si r) (hl : LtS S) : LtS (S.appN r) := by
  have hlo : r.lo = S.nid := by rw [h.lo, hsi]; rfl
  refine ⟨fun id b hb => ?_, fun k A hA => ?_⟩
  · simp only [St.appN] at hb ⊢
    rw [look_ownR] at hb
    cases he : evO r id with
    | none => rw [he] at hb; have := hl.1 id b hb; omega
    | some b' =>
      obtain ⟨h1, h2⟩ := h.own
      obtain ⟨dst, val, new, wr, arrs, lo, cnt, kn⟩ := r
      cases new with
      | some p =>
        obtain ⟨i, c⟩ := p
        simp only [evO] at he
        split at he
        · next e =>
          obtain ⟨g1, g2⟩ := h1 i c rfl
          simp only at g1 g2 ⊢
          omega
        · cases he
      | none =>
        cases wr with
        | none => simp [evO] at he
        | some p =>
          obtain ⟨i, c, ty⟩ := p
          simp only [evO] at he
          split at he
          · next e =>
            obtain ⟨_, ⟨old, g⟩, _⟩ := h2 i c ty rfl
            rw [hsi] at g
            have := hl.1 i _ (look_hideL g).2
            simp only at hlo ⊢
            omega
          · cases he
  · simp only [St.appN] at hA ⊢
    rcases look_app_or hA with hA | hA
    · exact (h.keys k (look_keysA hA)).2
    · have := hl.2 k A hA; omega
end

theorem hid_nid (S : St) (H T Ks : List Nat) : (S.hid H T Ks).nid = S.nid := rfl

section
variable {C : Ctx}

/-- a gate that is shut: the slot holds nothing -/
theorem sat_skipR {B : Nat} {w0 : World} {E : Env} {S : St} {a : Act} {w : World} (hs : Sat B w0 E S a w) (dst : Option Nat) (nid : Nat) (kn : List Nat) : Sat B w0 E (S.appR (skipR dst nid kn)) (a.put dst undef) w := by
  have := sat_appR hs (skipR dst nid kn) rfl (fun id b h => by cases h) (fun id cs ty h => by cases h)
  exact this

theorem compList_get {T : TT} {all : Array Oper} : ∀ {r : List Oper} {l : List IO1}, compList T all r = some l → l.length = r.length ∧ ∀ (i : Nat) (o : Oper), r[i]? = some o → ∃ io, l[i]? = some io ∧ compIO T all o = some io
  | [], l, h => by
    simp only [compList, Option.some.injEq] at h
    subst h
    exact ⟨rfl, fun i o h => by simp at h⟩
  | o :: r, l, h => by
    simp only [compList, Option.bind_eq_some_iff, Option.map_eq_some_iff] at h
    obtain ⟨io, hio, l', hl', rfl⟩ := h
    obtain ⟨h1, h2⟩ := compList_get hl'
    refine ⟨by simp [h1], fun i o' ho' => ?_⟩
    cases i with
    | zero =>
      simp only [List.getElem?_cons_zero, Option.some.injEq] at ho'
      subst ho'
      exact ⟨io, rfl, hio⟩
    | succ i => exact h2 i o' (by simpa using ho')

theorem callsIn_get {F : List Nat} : ∀ {l : List IO1}, callsIn F l = true → ∀ (i : Nat) (io : IO1) (f : Nat) (xs : List IX), l[i]? = some io → io.op = .call f xs → f ∈ F
  | [], _, i, io, f, xs, h, _ => by simp at h
  | o :: r, hc, i, io, f, xs, h, hop => by
    simp only [callsIn, Bool.and_eq_true] at hc
    cases i with
    | zero =>
      simp only [List.getElem?_cons_zero, Option.some.injEq] at h
      subst h
      have := hc.1
      rw [hop] at this
      simpa using this
    | succ i => exact callsIn_get hc.2 i io f xs (by simpa using h) hop

theorem draw_sound {id : Nat} {ops : Array Oper} {ios : List IO1} {S : St} {K : St → Prop} (hm : C.P.follows .mixedOrders = true) (hTab : C.tab.Ok C.P) (hl : compList C.tab.T ops ops.toList = some ios) (hcalls : callsIn C.tab.F ios = true)
    (hd : dstsOk (ancsOf ops.toList) ios = true) (ha : aftersOk ops.toList = true) (hlt : LtS S) (hx : drawX C K (mkDraw (ancsOf ops.toList) ios) [] S) :
    ∀ E a w, SatA C.B C.w0 E S a w → (Code.region id ops true).wp C.P (fun e a' w' => e = .normal ∧ ∃ E' S', SatA C.B C.w0 E' S' a' w' ∧ K S') a w := by
  intro E a w hs
  obtain ⟨recs, hlen, hK, hrec⟩ := drawX_recs _ _ _ hx
  obtain ⟨hil, hio⟩ := compList_get hl
  have hn : recs.length = ops.size := by rw [hlen]; simp [mkDraw, hil]
  obtain ⟨A, hA⟩ : ∃ A, A = ancsOf ops.toList := ⟨_, rfl⟩
  rw [← hA] at hd hrec
  let rc : Nat → Rec := fun i => recs.getD i (skipR none 0 [])
  have hrc : ∀ i, i < ops.size → recs[i]? = some (rc i) := fun i hi => by
    simp only [rc, List.getD_eq_getElem?_getD]
    rw [List.getElem?_eq_getElem (by omega)]
    rfl
  -- the state of the text's order, ahead of operation i
  let TS : Nat → St := fun i => foldN S (recs.take i)
  have hTS0 : TS 0 = S := rfl
  have hTS1 : ∀ i, i < ops.size → TS (i + 1) = (TS i).appN (rc i) := fun i hi => by
    simp only [TS]
    rw [List.take_add_one, hrc i hi]
    exact foldN_snoc _ _ _
  let Si : Nat → St := fun i => (TS i).hid (unordD A ios i) (tchs (recs.take i) (unordB A i)) (keyss (recs.take i) (unordB A i))
  have hstep : ∀ i io, ios[i]? = some io → i < ops.size → StepP C io (unordB A i) (recs.take i) (Si i) (rc i) := by
    intro i io hi hlti
    have := hrec i io (unordB A i) (unordD A ios i) (rc i) (by simp [mkDraw, hi]) (hrc i hlti)
    simpa using this
  have hios : ∀ i, i < ops.size → ∃ o io, ops[i]? = some o ∧ ios[i]? = some io ∧ compIO C.tab.T ops o = some io := by
    intro i hi
    have ho : ops.toList[i]? = some ops[i] := by simp [hi]
    obtain ⟨io, h1, h2⟩ := hio i _ ho
    exact ⟨ops[i], io, by simp [hi], h1, h2⟩
  have hLt : ∀ i, i ≤ ops.size → LtS (TS i) := by
    intro i
    induction i with
    | zero => intro _; exact hlt
    | succ i ih =>
      intro hi
      obtain ⟨o, io, _, h2, _⟩ := hios i (by omega)
      rw [hTS1 i (by omega)]
      exact lt_appN rfl (hstep i io h2 (by omega)) (ih (by omega))
  have hlo : ∀ i, i < ops.size → (rc i).lo = (TS i).nid := by
    intro i hi
    obtain ⟨o, io, _, h2, _⟩ := hios i hi
    rw [(hstep i io h2 hi).lo]
    rfl
  have hnid1 : ∀ i, i < ops.size → (TS (i + 1)).nid = (rc i).lo + (rc i).cnt := fun i hi => by rw [hTS1 i hi]; rfl
  have hmono : ∀ j i, i ≤ j → j ≤ ops.size → (TS i).nid ≤ (TS j).nid := by
    intro j
    induction j with
    | zero => intro i h1 _; have : i = 0 := by omega
              rw [this]; exact Nat.le_refl _
    | succ j ih =>
      intro i h1 h2
      by_cases e : i = j + 1
      · rw [e]; exact Nat.le_refl _
      · have := ih i (by omega) (by omega)
        have h3 := hnid1 j (by omega)
        have h4 := hlo j (by omega)
        omega
  have hdst : ∀ i, i < ops.size → (rc i).dst = dstAt ios i := by
    intro i hi
    obtain ⟨o, io, _, h2, _⟩ := hios i hi
    rw [(hstep i io h2 hi).dst]
    simp [dstAt, h2]
  -- the text's order as a set of operations
  let S' : St := ⟨S.nt, S.tmps, S.own, S.arrs, S.facts, (TS ops.size).nid⟩
  have hTS : ∀ i, i ≤ ops.size → TS i = ⟨S.nt, (SL rc (fun _ => true) S' i).tmps, (SL rc (fun _ => true) S' i).own, (SL rc (fun _ => true) S' i).arrs, S.facts, (TS i).nid⟩ := by
    intro i
    induction i with
    | zero => intro _; rfl
    | succ i ih =>
      intro hi
      have h1 := ih (by omega)
      have e1 : SL rc (fun _ => true) S' (i + 1) = (SL rc (fun _ => true) S' i).appR (rc i) := by simp [SL]
      have e2 := hTS1 i (by omega)
      have e3 := hnid1 i (by omega)
      rw [e1]
      have enid : (TS (i + 1)).nid = (rc i).lo + (rc i).cnt := e3
      rw [enid, e2, h1]
      have ent : (SL rc (fun _ => true) S' i).nt = S.nt := SL_nt i
      simp only [St.appN, St.appR, St.putT, ent]
  -- unordered pairs
  have hun : ∀ i j, i < ops.size → j < ops.size → i ≠ j → ¬ j ∈ A.getD i [] → ¬ i ∈ A.getD j [] → unord A i j = true := by
    intro i j _ _ h1 h2 h3
    have e2 : (A.getD i []).contains j = false := by rw [← Bool.not_eq_true, List.contains_iff_mem]; exact h2
    have e3 : (A.getD j []).contains i = false := by rw [← Bool.not_eq_true, List.contains_iff_mem]; exact h3
    have e1 : (i != j) = true := by rw [bne_iff_ne]; exact h1
    rw [unord, e1, e2, e3]
    rfl
  have hunD : ∀ i j d, i < ops.size → j < ops.size → unord A i j = true → (rc j).dst = some d → d ∈ unordD A ios i := by
    intro i j d hi hj hu hdj
    rw [hdst j hj] at hdj
    simp only [unordD, List.mem_filterMap, List.mem_filter, List.mem_range]
    exact ⟨j, ⟨by rw [hil]; simpa using hj, hu⟩, hdj⟩
  have hunB : ∀ i j, j < i → unord A i j = true → j ∈ unordB A i := by
    intro i j hj hu
    simp only [unordB, List.mem_filter, List.mem_range]
    exact ⟨hj, hu⟩
  have hsym : ∀ i j, unord A i j = true → unord A j i = true := by
    intro i j h
    simp only [unord, Bool.and_eq_true, bne_iff_ne, Bool.not_eq_true'] at h ⊢
    exact ⟨⟨Ne.symm h.1.1, h.2⟩, h.1.2⟩
  have hanc : ∀ i j, i < ops.size → j ∈ A.getD i [] → j < i := by
    intro i j hi hj
    rw [hA] at hj
    exact ((anc_good ops.toList).2 i ops[i] (by simp [hi]) j hj).1
  -- an element of the own blocks is touched
  have hev : ∀ j id b, j < ops.size → evO (rc j) id = some b → id < (TS j).nid ∨ (id = (rc j).lo ∧ (rc j).cnt = 1) := by
    intro j id b hj he
    obtain ⟨o, io, _, h2, _⟩ := hios j hj
    obtain ⟨g1, g2⟩ := (hstep j io h2 hj).own
    have hL := hLt j (by omega)
    generalize hr : rc j = r at he g1 g2
    obtain ⟨dst, val, new, wr, arrs, lo, cnt, kn⟩ := r
    cases new with
    | some p =>
      obtain ⟨i, c⟩ := p
      simp only [evO] at he
      split at he
      · next e => right; have := g1 i c rfl; rw [← e]; exact this
      · cases he
    | none =>
      cases wr with
      | none => simp [evO] at he
      | some p =>
        obtain ⟨i, c, ty⟩ := p
        simp only [evO] at he
        split at he
        · next e =>
          left
          obtain ⟨_, ⟨old, g⟩, _⟩ := g2 i c ty rfl
          rw [← e]
          exact hL.1 i _ (look_hideL g).2
        · cases he
  have hevw : ∀ j id b, j < ops.size → evO (rc j) id = some b → ((id = (rc j).lo ∧ (rc j).cnt = 1) ∨ (wrFree (recs.take j) id (unordB A j) = true ∧ ∃ b', look (Si j).own id = some b')) := by
    intro j id b hj he
    obtain ⟨o, io, _, h2, _⟩ := hios j hj
    obtain ⟨g1, g2⟩ := (hstep j io h2 hj).own
    generalize hr : rc j = r at he g1 g2
    obtain ⟨dst, val, new, wr, arrs, lo, cnt, kn⟩ := r
    cases new with
    | some p =>
      obtain ⟨i, c⟩ := p
      simp only [evO] at he
      split at he
      · next e => left; have := g1 i c rfl; rw [← e]; exact this
      · cases he
    | none =>
      cases wr with
      | none => simp [evO] at he
      | some p =>
        obtain ⟨i, c, ty⟩ := p
        simp only [evO] at he
        split at he
        · next e =>
          right
          obtain ⟨_, ⟨old, g⟩, g3⟩ := g2 i c ty rfl
          rw [← e]
          exact ⟨g3, _, g⟩
        · cases he
  have hkey : ∀ j k B', j < ops.size → look (rc j).arrs k = some B' → (rc j).lo ≤ k ∧ k < (rc j).lo + (rc j).cnt := by
    intro j k B' hj hk
    obtain ⟨o, io, _, h2, _⟩ := hios j hj
    exact (hstep j io h2 hj).keys k (look_keysA hk)
  -- the invariant
  let DL : (Nat → Bool) → Nat → Prop := fun L k => k < S.nid ∨ ∃ j, j < ops.size ∧ L j = true ∧ (rc j).lo ≤ k ∧ k < (rc j).lo + (rc j).cnt
  let Lf : Array Bool → Nat → Bool := fun listed j => listed.getD j false
  let I : Array Bool → Act → World → Prop := fun listed a w => listed.size = ops.size ∧ ClosedL ops.toList (Lf listed) ∧ ∃ E, (∀ i, (E.χ i).oneCell' = true) ∧ SatD (DL (Lf listed)) C.B C.w0 E (SL rc (Lf listed) S' ops.size) a w
  -- what is known of i lies within what is known of any set that i may join
  have hsub : ∀ i L, i < ops.size → ClosedL ops.toList L → L i = false → (∀ j ∈ A.getD i [], L j = true) → Sub (Si i) (SL rc L S' ops.size) := by
    intro i L hi hcl hLi hanci
    have hlater : ∀ j, i < j → j < ops.size → L j = true → unord A i j = true := by
      intro j hij hj hLj
      refine hun i j hi hj (by omega) (fun h => ?_) (fun h => ?_)
      · have := hanc i j hi h; omega
      · rw [hA] at h
        have hoj : ops.toList[j]? = some ops[j] := by simp [hj]
        have := anc_listed hcl (j + 1) j ops[j] (by omega) hoj (hcl j ops[j] hoj hLj) i h
        rw [hLi] at this
        cases this
    have hearly : ∀ j, j < i → L j = false → unord A i j = true := by
      intro j hji hLj
      refine hun i j hi (by omega) (by omega) (fun h => ?_) (fun h => ?_)
      · rw [hanci j h] at hLj; cases hLj
      · have := hanc j i (by omega) h; omega
    have fold : ∀ {β : Type} (ev : Nat → Option β) (base : Option β), (∀ j, j < ops.size → unord A i j = true → ev j = none) → foldE ev (fun _ => true) base i = foldE ev L base ops.size := by
      intro β ev base hev0
      rw [foldE_more (L := L) (i := i) (n := ops.size) (by omega) (fun j h1 h2 h3 => by
        by_cases e : j = i
        · rw [e, hLi] at h3; cases h3
        · exact hev0 j h2 (hlater j (by omega) h2 h3))]
      refine foldE_congr (fun j hj => ?_)
      cases hLj : L j with
      | true => exact Or.inl rfl
      | false => exact Or.inr (hev0 j (by omega) (hearly j hj hLj))
    refine ⟨?_, ?_, ?_, ?_, ?_⟩
    · show (TS i).nt = _
      rw [hTS i (by omega), SL_nt]
    · intro t v h
      obtain ⟨h1, h2⟩ := look_hideL h
      rw [hTS i (by omega)] at h2
      simp only [SL_tmps] at h2
      rw [SL_tmps, ← h2]
      refine (fold _ _ (fun j hj hu => ?_)).symm
      unfold evT
      cases hdj : (rc j).dst with
      | none => rfl
      | some d =>
        simp only
        split
        · split
          · next e => exact absurd (e ▸ hunD i j d hi hj hu hdj) h1
          · rfl
        · rfl
    · intro t v h
      obtain ⟨h1, h2⟩ := look_hideL h
      have hti := (hLt i (by omega)).1 t v h2
      rw [hTS i (by omega)] at h2
      simp only [SL_own] at h2
      rw [SL_own, ← h2]
      refine (fold _ _ (fun j hj hu => ?_)).symm
      cases he : evO (rc j) t with
      | none => rfl
      | some b =>
        exfalso
        rcases Nat.lt_or_ge j i with hji | hji
        · have hr : (recs.take i)[j]? = some (rc j) := by rw [List.getElem?_take, if_pos hji]; exact hrc j hj
          exact h1 (mem_tchs hr (evO_tch he) (hunB i j hji hu))
        · have hij : i < j := by
            rcases Nat.lt_or_ge i j with h | h
            · exact h
            · have : i = j := by omega
              subst this
              simp [unord] at hu
          have hm1 := hmono j i (by omega) (by omega)
          have hlj := hlo j hj
          rcases hevw j t b hj he with ⟨e, _⟩ | ⟨e, _⟩
          · omega
          · have hr : (recs.take j)[i]? = some (rc i) := by rw [List.getElem?_take, if_pos hij]; exact hrc i hi
            have hkn : (rc i).kn = keysO (Si i).own := by
              obtain ⟨o, io, _, g2, _⟩ := hios i hi
              exact (hstep i io g2 hi).kn
            have := wrFree_mem e i (hunB j i hij (hsym i j hu)) _ hr
            rw [hkn] at this
            exact this (look_keysO h)
    · intro t v h
      obtain ⟨h1, h2⟩ := look_hideL h
      have hti := (hLt i (by omega)).2 t v h2
      rw [hTS i (by omega)] at h2
      simp only [SL_arrs] at h2
      rw [SL_arrs, ← h2]
      refine (fold _ _ (fun j hj hu => ?_)).symm
      cases he : look (rc j).arrs t with
      | none => rfl
      | some b =>
        exfalso
        rcases Nat.lt_or_ge j i with hji | hji
        · have hr : (recs.take i)[j]? = some (rc j) := by rw [List.getElem?_take, if_pos hji]; exact hrc j hj
          exact h1 (mem_keyss hr (look_keysA he) (hunB i j hji hu))
        · have hm1 := hmono j i hji (by omega)
          have hlj := hlo j hj
          have := hkey j t b hj he
          omega
    · intro φ hφ
      have : φ ∈ (TS i).facts := hφ
      rw [hTS i (by omega)] at this
      rw [SL_facts]
      exact this
  have hadd : ∀ i L L', i < ops.size → ClosedL ops.toList L → L i = false → (∀ j, L' j = if j = i then true else L j) → Sub (SL rc L' S' ops.size) ((SL rc L S' ops.size).appR (rc i)) := by
    intro i L L' hi hcl hLi hL'
    have hlater : ∀ j, i < j → j < ops.size → L j = true → unord A i j = true := by
      intro j hij hj hLj
      refine hun i j hi hj (by omega) (fun h => ?_) (fun h => ?_)
      · have := hanc i j hi h; omega
      · rw [hA] at h
        have hoj : ops.toList[j]? = some ops[j] := by simp [hj]
        have := anc_listed hcl (j + 1) j ops[j] (by omega) hoj (hcl j ops[j] hoj hLj) i h
        rw [hLi] at this
        cases this
    refine ⟨by rw [SL_nt]; exact (SL_nt _).symm, ?_, ?_, ?_, ?_⟩
    · intro t v h
      rw [SL_tmps, foldE_add hi hLi hL'] at h
      · simp only [St.appR]
        rw [look_putT, SL_nt, SL_tmps]
        exact h
      · intro j hij hj hLj
        have hu := hlater j hij hj hLj
        cases hdi : (rc i).dst with
        | none => right; simp [evT, hdi]
        | some d =>
          have h1 : ¬ d ∈ unordD A ios i := by
            simp only [dstsOk, List.all_eq_true, List.mem_range] at hd
            have := hd i (by rw [hil]; simpa using hi)
            rw [← hdst i hi, hdi] at this
            simpa using this
          by_cases e : d = t
          · left
            unfold evT
            cases hdj : (rc j).dst with
            | none => rfl
            | some d' =>
              simp only
              split
              · split
                · next e' => exact absurd (by rw [e, ← e']; exact hunD i j d' hi hj hu hdj) h1
                · rfl
              · rfl
          · right
            simp [evT, hdi, e]
    · intro t v h
      rw [SL_own, foldE_add hi hLi hL'] at h
      · simp only [St.appR]
        rw [look_ownR, SL_own]
        exact h
      · intro j hij hj hLj
        have hu := hlater j hij hj hLj
        cases hei : evO (rc i) t with
        | none => exact Or.inr rfl
        | some b =>
          left
          cases hej : evO (rc j) t with
          | none => rfl
          | some b' =>
            exfalso
            have hm1 := hmono j (i + 1) (by omega) (by omega)
            have hlj := hlo j hj
            have hli := hlo i hi
            have hni := hnid1 i hi
            rcases hevw j t b' hj hej with ⟨e, _⟩ | ⟨_, b2, e⟩
            · rcases hev i t b hi hei with h3 | ⟨h3, h4⟩
              · omega
              · omega
            · have hr : (recs.take j)[i]? = some (rc i) := by rw [List.getElem?_take, if_pos hij]; exact hrc i hi
              exact (look_hideL e).1 (mem_tchs hr (evO_tch hei) (hunB j i hij (hsym i j hu)))
    · intro t v h
      rw [SL_arrs, foldE_add hi hLi hL'] at h
      · simp only [St.appR]
        rw [look_app, SL_arrs]
        exact h
      · intro j hij hj hLj
        cases hei : look (rc i).arrs t with
        | none => exact Or.inr rfl
        | some b =>
          left
          cases hej : look (rc j).arrs t with
          | none => rfl
          | some b' =>
            exfalso
            have hm1 := hmono j (i + 1) (by omega) (by omega)
            have hlj := hlo j hj
            have hni := hnid1 i hi
            have h3 := hkey i t b hi hei
            have h4 := hkey j t b' hj hej
            omega
    · intro φ hφ
      rw [SL_facts] at hφ
      show φ ∈ (SL rc L S' ops.size).facts
      rw [SL_facts]
      exact hφ
  refine wp_region_any hm (wpAny_inv (I := I) ?_ ?_ _ _ _ _ ?_ ?_)
  · -- one operation
    rintro listed a w i ⟨hsz, hcl, E, hone, hsat⟩ hready
    obtain ⟨hun0, o, ho, hall⟩ := mem_ready.1 hready
    have hi : i < ops.size := (Array.getElem?_eq_some_iff.1 ho).1
    have hLi : Lf listed i = false := by
      simp only [Lf]
      have h1 : i < listed.size := by omega
      rw [Array.getD_eq_getD_getElem?, Array.getElem?_eq_getElem h1] at hun0 ⊢
      exact hun0
    have hafter : ∀ p ∈ afterOn o, Lf listed p = true := by
      intro p hp
      obtain ⟨e, h1, h2, rfl⟩ := mem_afterOn.1 hp
      exact hall e h1 h2
    have hol : ops.toList[i]? = some o := by simpa using ho
    have hanci : ∀ j ∈ A.getD i [], Lf listed j = true := by
      intro j hj
      rw [hA] at hj
      exact anc_listed hcl (i + 1) i o (by omega) hol hafter j hj
    obtain ⟨o', io, ho', hio1, hcio⟩ := hios i hi
    rw [ho] at ho'
    cases ho'
    have hSub := hsub i (Lf listed) hi hcl hLi hanci
    have hst := hstep i io hio1 hi
    have hL' : ∀ j, Lf (listed.setIfInBounds i true) j = if j = i then true else Lf listed j := by
      intro j
      simp only [Lf, Array.getD_eq_getD_getElem?, Array.getElem?_setIfInBounds]
      by_cases e : j = i
      · subst e
        rw [if_pos rfl, if_pos rfl, if_pos (by omega)]
        rfl
      · rw [if_neg (fun e' => e e'.symm), if_neg e]
    have hcl' : ClosedL ops.toList (Lf (listed.setIfInBounds i true)) := by
      intro j oj hoj hj p hp
      rw [hL'] at hj ⊢
      by_cases e : j = i
      · subst e
        rw [hol] at hoj
        cases hoj
        rw [hafter p hp]
        split <;> rfl
      · rw [if_neg e] at hj
        rw [hcl j oj hoj hj p hp]
        split <;> rfl
    have hdone : ∀ E1 a1 w1, (∀ i, (E1.χ i).oneCell' = true) → SatD (fun k => DL (Lf listed) k ∨ ((rc i).lo ≤ k ∧ k < (rc i).lo + (rc i).cnt)) C.B C.w0 E1 ((SL rc (Lf listed) S' ops.size).appR (rc i)) a1 w1 → I (listed.setIfInBounds i true) a1 w1 := by
      intro E1 a1 w1 ho1 hs1
      refine ⟨by simpa using hsz, hcl', E1, ho1, ?_⟩
      refine (hs1.sub (hadd i _ _ hi hcl hLi hL')).grow ?_
      rintro k (h | h)
      · rcases h with h | ⟨j, hj, hLj, h⟩
        · exact Or.inl h
        · refine Or.inr ⟨j, hj, ?_, h⟩
          rw [hL', hLj]
          split <;> rfl
      · refine Or.inr ⟨i, hi, ?_, h⟩
        rw [hL', if_pos rfl]
    have hDno : ∀ k, (rc i).lo ≤ k → k < (rc i).lo + (rc i).cnt → ¬ DL (Lf listed) k := by
      intro k h1 h2
      have hli := hlo i hi
      have hni := hnid1 i hi
      have h0 := hmono i 0 (by omega) (by omega)
      rintro (h | ⟨j, hj, hLj, h3, h4⟩)
      · rw [hTS0] at h0; omega
      · have hlj := hlo j hj
        have hnj := hnid1 j hj
        rcases Nat.lt_trichotomy j i with e | e | e
        · have := hmono i (j + 1) (by omega) (by omega); omega
        · rw [e, hLi] at hLj; cases hLj
        · have := hmono j (i + 1) (by omega) (by omega); omega
    simp only [compIO, Option.bind_eq_some_iff] at hcio
    obtain ⟨op, hop, hgd⟩ := hcio
    have hsE := hsat E (fun _ _ => ⟨rfl, rfl⟩) hone
    have hsi := sat_sub hSub hsE
    unfold wpOp
    rw [ho]
    simp only
    have hgyes : gateYes io (Si i) → io.op = op ∧ io.dst = o.dst → Region.wanted o (yielded ops a.tmps) = true := by
      intro hg _
      cases hog : o.guard with
      | none => simp [Region.wanted, hog]
      | some jw =>
        obtain ⟨j, want⟩ := jw
        rw [hog] at hgd
        simp only [Option.map_eq_some_iff] at hgd
        obtain ⟨g, hg1, rfl⟩ := hgd
        rcases hg with hg | ⟨g', want', x, hg, hlk, hden⟩
        · simp at hg
        · simp only [Option.some.injEq, Prod.mk.injEq] at hg
          obtain ⟨rfl, rfl⟩ := hg
          rw [wanted_of hsi hog hg1 hlk (hden E)]
          simp
    have hgno : gateNo io (Si i) → Region.wanted o (yielded ops a.tmps) = false := by
      rintro ⟨g', want', x, hg, hlk, hden⟩
      cases hog : o.guard with
      | none =>
        rw [hog] at hgd
        simp only [Option.some.injEq] at hgd
        subst hgd
        simp at hg
      | some jw =>
        obtain ⟨j, want⟩ := jw
        rw [hog] at hgd
        simp only [Option.map_eq_some_iff] at hgd
        obtain ⟨g, hg1, rfl⟩ := hgd
        simp only [Option.some.injEq, Prod.mk.injEq] at hg
        obtain ⟨rfl, rfl⟩ := hg
        rw [wanted_of hsi hog hg1 hlk (hden E)]
        cases want <;> rfl
    have hiod : io.op = op ∧ io.dst = o.dst := by
      cases hog : o.guard with
      | none =>
        rw [hog] at hgd
        simp only [Option.some.injEq] at hgd
        subst hgd
        exact ⟨rfl, rfl⟩
      | some jw =>
        obtain ⟨j, want⟩ := jw
        rw [hog] at hgd
        simp only [Option.map_eq_some_iff] at hgd
        obtain ⟨g, hg1, rfl⟩ := hgd
        exact ⟨rfl, rfl⟩
    rcases hst with ⟨hg, hrun⟩ | ⟨hg, hr⟩
    · rw [if_pos (hgyes hg hiod)]
      left
      have hlc : LC C o (Si i) (rc i) := by
        rcases hrun with ⟨f, xs, vs, tmpl, nx, arrs', hcall, hvs, hcr, _, hr⟩ | ⟨vc, out, hso, hvc, _, hr⟩
        · rw [hr, hiod.2]
          rw [hiod.1] at hcall
          refine lc_call (hTab.2 f (callsIn_get hcalls i io f xs hio1 (by rw [hiod.1, hcall]))) (by rw [hop, hcall]) hvs hcr
        · rw [hr, hiod.2]
          rw [hiod.1] at hso
          exact lc_op hTab.1 hop hso hvc
      exact hlc _ _ E a w hone hSub hsat hDno _ _ hdone
    · rw [if_neg (by rw [hgno hg]; simp)]
      refine hdone E _ w hone ?_
      rw [hr, hiod.2]
      intro E2 hE2 ho2
      exact sat_skipR (hsat E2 (fun k hk => hE2 k (Or.inl hk)) ho2) o.dst _ _
  · -- the end
    rintro listed a w ⟨hsz, hcl, E, hone, hsat⟩ hnone
    refine ⟨rfl, ?_⟩
    have hall : ∀ m i, i < m → i < ops.size → Lf listed i = true := by
      intro m
      induction m with
      | zero => intro i h; omega
      | succ m ih =>
        intro i him hi
        cases hLi : Lf listed i with
        | true => rfl
        | false =>
          exfalso
          have : i ∈ Region.ready .any ops listed := by
            rw [mem_ready]
            have h1 : i < listed.size := by omega
            simp only [Lf] at hLi
            rw [Array.getD_eq_getD_getElem?, Array.getElem?_eq_getElem h1] at hLi
            refine ⟨by rw [Array.getD_eq_getD_getElem?, Array.getElem?_eq_getElem h1]; exact hLi, ops[i], by simp [hi], fun e he hb => ?_⟩
            have hlt1 : e.on < i := by
              simp only [aftersOk, List.all_eq_true, List.mem_range] at ha
              have := ha i (by simpa using hi)
              simp only [Array.getElem?_toList, Array.getElem?_eq_getElem hi, List.all_eq_true, decide_eq_true_eq] at this
              exact this e.on (mem_afterOn.2 ⟨e, he, hb, rfl⟩)
            exact ih e.on (by omega) (by omega)
          rw [hnone] at this
          cases this
    refine ⟨E, foldN S recs, ?_, hK⟩
    intro E' hE'
    have hs1 := hsat E' (fun k hk => by
      have hk' : k < (TS ops.size).nid := by
        rcases hk with hk | ⟨j, hj, _, h1, h2⟩
        · have := hmono ops.size 0 (by omega) (Nat.le_refl _); rw [hTS0] at this; omega
        · have h3 := hnid1 j hj
          have := hmono ops.size (j + 1) (by omega) (Nat.le_refl _); omega
      refine hE'.1 k ?_
      have : TS ops.size = foldN S recs := by simp only [TS]; rw [List.take_of_length_le (by omega)]
      rw [← this]; exact hk') (hE'.2 hone)
    refine sat_sub ?_ hs1
    have efull : foldN S recs = TS ops.size := by simp only [TS]; rw [List.take_of_length_le (by omega)]
    rw [efull, hTS ops.size (Nat.le_refl _)]
    have hf : ∀ {β : Type} (ev : Nat → Option β) (base : Option β), foldE ev (fun _ => true) base ops.size = foldE ev (Lf listed) base ops.size := by
      intro β ev base
      exact foldE_congr (fun j hj => Or.inl (hall (j + 1) j (by omega) hj).symm)
    refine ⟨(show S'.nt = _ from (SL_nt (S := S') _).symm), ?_, ?_, ?_, ?_⟩
    · intro t v h
      simp only [SL_tmps] at h ⊢
      rw [← hf]; exact h
    · intro t v h
      simp only [SL_own] at h ⊢
      rw [← hf]; exact h
    · intro t v h
      simp only [SL_arrs] at h ⊢
      rw [← hf]; exact h
    · intro φ hφ
      rw [SL_facts]
      exact hφ
  · rw [Array.toList_replicate, cntF_replicate]
    exact Nat.le_refl _
  · refine ⟨by simp, ?_, E, hs.sat.one, ?_⟩
    · intro j o hj hL
      have hjl : j < ops.size := by have := (List.getElem?_eq_some_iff.1 hj).1; simpa using this
      simp [Lf, Array.getD_eq_getD_getElem?, hjl] at hL
    · intro E' hE' ho'
      have h1 := sat_drew (hs E' ⟨fun k hk => hE' k (Or.inl hk), fun _ => ho'⟩)
      refine sat_sub ?_ h1
      have hf : ∀ {β : Type} (ev : Nat → Option β) (base : Option β), foldE ev (Lf (Array.replicate ops.size false)) base ops.size = base := by
        intro β ev base
        have := foldE_more (ev := ev) (L := Lf (Array.replicate ops.size false)) (base := base) (i := 0) (n := ops.size) (by omega) (fun j _ hj hL => by
          simp [Lf, Array.getD_eq_getD_getElem?, hj] at hL)
        rw [this]; rfl
      refine ⟨SL_nt _, ?_, ?_, ?_, ?_⟩
      · intro t v h
        rw [SL_tmps, hf] at h
        exact h
      · intro t v h
        rw [SL_own, hf] at h
        exact h
      · intro t v h
        rw [SL_arrs, hf] at h
        exact h
      · intro φ hφ
        rw [SL_facts] at hφ
        exact hφ

theorem dr_nil (K : St → Prop) (done : List Rec) (S : St) : drawX C K [] done S = K S := rfl
theorem dr_cons (K : St → Prop) (o : IO1) (U H : List Nat) (r : List (IO1 × List Nat × List Nat)) (done : List Rec) (S : St) : drawX C K ((o, U, H) :: r) done S = gateD C (drawX C K r) o U (S.hid H (tchs done U) (keyss done U)) done S := rfl

/-- **a region that draws, by its run in the text's order** -/
theorem draw_vc {l : List (IO1 × List Nat × List Nat)} {S : St} {K : St → Prop} (hm : C.P.follows .mixedOrders = true) (hTab : C.tab.Ok C.P) (ho : ltAll (keysO S.own) S.nid = true) (hk : ltAll (keysA S.arrs) S.nid = true)
    (h : drawX C K l [] S) : DrawVC C l S K := by
  intro id ops hc
  simp only [compC, Option.bind_eq_some_iff] at hc
  obtain ⟨ios, hl, hc⟩ := hc
  split at hc
  · next hok =>
    simp only [Bool.and_eq_true] at hok
    simp only [Option.some.injEq, IR.draw.injEq] at hc
    subst hc
    exact draw_sound hm hTab hl hok.1.1 hok.1.2 hok.2 ⟨fun id b hb => ltAll_mem ho id (look_keysO hb), fun k A hA => ltAll_mem hk k (look_keysA hA)⟩ h
  · cases hc
theorem draw_at {P : Program} {w : World} {rs : List RS} {R : Ending → World → Prop} {l : List (IO1 × List Nat × List Nat)} {S : St} {K : St → Prop} (hm : P.follows .mixedOrders = true) (ho : ltAll (keysO S.own) S.nid = true) (hk : ltAll (keysA S.arrs) S.nid = true)
    (h : drawX (mkC P w rs R) K l [] S) : DrawVC (mkC P w rs R) l S K := draw_vc hm (mkTab_ok P) ho hk h

/-- a call in such a region -/
theorem dcall_intro {f : Nat} {vs : List SV} {dst : Option Nat} {Si S : St} {done : List Rec} {ex : List Rec → St → Prop} {tmpl : SV} {nx : Nat} {arrs' : List (Nat × ArrF)} (hrule : CR C f vs Si tmpl nx arrs') (hk : ∀ k ∈ keysA arrs', Si.nid ≤ k ∧ k < Si.nid + nx)
    (h : ex (done ++ [⟨dst, tmpl, none, none, arrs', Si.nid, nx, keysO Si.own⟩]) (S.appN ⟨dst, tmpl, none, none, arrs', Si.nid, nx, keysO Si.own⟩)) : DCallVC C f vs dst Si done S ex := ⟨tmpl, nx, arrs', hrule, hk, h⟩
end
end Go.Proofs.Ytgljbdcamagdbaa
