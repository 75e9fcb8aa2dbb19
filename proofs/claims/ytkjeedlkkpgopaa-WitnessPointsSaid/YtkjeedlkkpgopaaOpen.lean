
/- How an argument that reads as data is opened: the cells of a struct, flat; a slice of flat elements as a list. No statement of the program. -/
import Derived.Test.YtkjeedlkkpgopaaLib
namespace Go.Proofs.Ytkjeedlkkpgopaa
open Go.RowKit
section
variable {H : Type} {enc : TypeId × Value → H} {P : Program} {w : World} {base : Nat} {spare : Nat → Bool} {held : Bool}

def leavesFields (L : TypeId → Option (List TypeId)) (P : Program) : List Field → Nat → Option (List TypeId)
  | [], _ => some []
  | f :: r, off => if f.offset = off then (L f.type).bind fun l => if l.length = P.cellsOf f.type then (leavesFields L P r (off + l.length)).map (l ++ ·) else none else none
def leavesIn (P : Program) : Nat → TypeId → Option (List TypeId)
  | 0, _ => none
  | n + 1, t => match P.underlying t with
    | some (.struct fs) => leavesFields (leavesIn P n) P fs.toList 0
    | some (.array k e) => (leavesIn P n e).bind fun l => if l.length = P.cellsOf e then some (List.replicate k l).flatten else none
    | some _ => some [t]
    | none => none

theorem trod_one {t : TypeId} {fuel : Nat} {cs : List Value} {x : DataW H × List MemPlace} {d : TypeDesc} (hu : P.underlying t = some d) (hs : ∀ fs, d ≠ .struct fs) (ha : ∀ n e, d ≠ .array n e)
    (h : DataW.trod enc P w base spare held fuel t cs = some x) : ∃ c, cs = [c] := by
  cases fuel with
  | zero => simp [DataW.trod] at h
  | succ n =>
    rcases cs with _ | ⟨c, _ | ⟨c2, r⟩⟩
    · exfalso
      cases d <;> first | exact hs _ rfl | exact ha _ _ rfl | simp [DataW.trod, hu] at h
    · exact ⟨c, rfl⟩
    · exfalso
      cases d <;> first | exact hs _ rfl | exact ha _ _ rfl | simp [DataW.trod, hu] at h

/-- what is known of a leaf -/
def LeafAt (enc : TypeId × Value → H) (P : Program) (w : World) (base : Nat) (spare : Nat → Bool) (held : Bool) (bound : Nat) (ws : List Nat) (u : TypeId) (c : Value) : Prop :=
  ∃ m y, DataW.trod enc P w base spare held m u [c] = some y ∧ Rows.uptoBulk y.1 ≤ bound ∧ ∀ k ∈ y.1.weights P u, k ∈ ws

theorem bulk_mem {d : DataW H} {l : List (DataW H)} (h : d ∈ l) : Rows.uptoBulk d ≤ Rows.uptoBulkAll l := by
  induction l with
  | nil => cases h
  | cons x r ih =>
    simp only [Rows.uptoBulkAll]
    cases List.mem_cons.1 h with
    | inl e => subst e; omega
    | inr e => have := ih e; omega
theorem one_le_bulk (d : DataW H) : 1 ≤ Rows.uptoBulk d := by
  cases d with
  | lit l => cases l <;> simp [Rows.uptoBulk]
  | nil => simp [Rows.uptoBulk]
  | ptr d => simp [Rows.uptoBulk]
  | slice elems spare => simp [Rows.uptoBulk]
  | agg parts => simp [Rows.uptoBulk]
  | iface t d => simp [Rows.uptoBulk]
  | map entries => simp [Rows.uptoBulk]
  | held h => simp [Rows.uptoBulk]
theorem length_le_bulk (l : List (DataW H)) : l.length ≤ Rows.uptoBulkAll l := by
  induction l with
  | nil => simp [Rows.uptoBulkAll]
  | cons x r ih => have := one_le_bulk x; simp only [Rows.uptoBulkAll, List.length_cons]; omega
theorem weightsEach_mem {ts : List TypeId} {ds : List (DataW H)} {i : Nat} {t : TypeId} {d : DataW H} (ht : ts[i]? = some t) (hd : ds[i]? = some d) : ∀ k ∈ d.weights P t, k ∈ DataW.weightsEach P ts ds := by
  intro k hk
  induction ts generalizing ds i with
  | nil => simp at ht
  | cons t0 ts ih =>
    cases ds with
    | nil => simp at hd
    | cons d0 ds =>
      simp only [DataW.weightsEach, List.mem_append]
      cases i with
      | zero => simp at ht hd; subst ht; subst hd; exact Or.inl hk
      | succ i => exact Or.inr (ih (by simpa using ht) (by simpa using hd))
theorem weightsAll_mem {e : TypeId} {ds : List (DataW H)} {d : DataW H} (hd : d ∈ ds) : ∀ k ∈ d.weights P e, k ∈ DataW.weightsAll P e ds := by
  intro k hk
  induction ds with
  | nil => cases hd
  | cons d0 ds ih =>
    simp only [DataW.weightsAll, List.mem_append]
    cases List.mem_cons.1 hd with
    | inl e => subst e; exact Or.inl hk
    | inr e => exact Or.inr (ih e)

theorem LeafAt.mono {b b' : Nat} {ws ws' : List Nat} {u : TypeId} {c : Value} (h : LeafAt enc P w base spare held b ws u c) (hb : b ≤ b') (hw : ∀ k ∈ ws, k ∈ ws') : LeafAt enc P w base spare held b' ws' u c := by
  obtain ⟨m, y, h1, h2, h3⟩ := h
  exact ⟨m, y, h1, by omega, fun k hk => hw k (h3 k hk)⟩

theorem leavesFields_at {L : TypeId → Option (List TypeId)} : ∀ (fs : List Field) (off : Nat) (l : List TypeId), leavesFields L P fs off = some l → ∀ i u, l[i]? = some u →
    ∃ (k : Nat) (f : Field) (lf : List TypeId) (j : Nat), fs[k]? = some f ∧ L f.type = some lf ∧ lf.length = P.cellsOf f.type ∧ lf[j]? = some u ∧ off + i = f.offset + j := by
  intro fs
  induction fs with
  | nil => intro off l h i u hi; simp [leavesFields] at h; subst h; simp at hi
  | cons f r ih =>
    intro off l h i u hi
    simp only [leavesFields] at h
    split at h
    · rename_i ho
      obtain ⟨lf, hlf, h⟩ := Option.bind_eq_some_iff.1 h
      split at h
      · rename_i hlen
        obtain ⟨l', hl', rfl⟩ := Option.map_eq_some_iff.1 h
        by_cases hlt : i < lf.length
        · rw [List.getElem?_append_left hlt] at hi
          exact ⟨0, f, lf, i, rfl, hlf, hlen, hi, by omega⟩
        · rw [List.getElem?_append_right (by omega)] at hi
          obtain ⟨k, f', lf', j, h1, h2, h3, h4, h5⟩ := ih _ _ hl' _ _ hi
          exact ⟨k + 1, f', lf', j, by simpa using h1, h2, h3, h4, by omega⟩
      · cases h
    · cases h

theorem flatten_rep_at {α : Type} : ∀ (k : Nat) (l : List α) (i : Nat) (u : α), (List.replicate k l).flatten[i]? = some u → ∃ a j, a < k ∧ l[j]? = some u ∧ i = a * l.length + j := by
  intro k
  induction k with
  | zero => intro l i u h; simp at h
  | succ k ih =>
    intro l i u h
    rw [List.replicate_succ, List.flatten_cons] at h
    by_cases hlt : i < l.length
    · rw [List.getElem?_append_left hlt] at h
      exact ⟨0, i, by omega, h, by omega⟩
    · rw [List.getElem?_append_right (by omega)] at h
      obtain ⟨a, j, h1, h2, h3⟩ := ih l _ u h
      refine ⟨a + 1, j, by omega, h2, ?_⟩
      rw [Nat.add_mul]; omega

theorem leaf_of : ∀ (n : Nat) (t : TypeId) (L : List TypeId), leavesIn P n t = some L → ∀ (fuel : Nat) (cs : List Value) (x : DataW H × List MemPlace), DataW.trod enc P w base spare held fuel t cs = some x →
    ∀ (i : Nat) (u : TypeId) (c : Value), L[i]? = some u → cs[i]? = some c → LeafAt enc P w base spare held (Rows.uptoBulk x.1) (x.1.weights P t) u c := by
  intro n
  induction n with
  | zero => intro t L h; simp [leavesIn] at h
  | succ n ih =>
    intro t L hL fuel cs x hx i u c hi hc
    cases hu : P.underlying t with
    | none => simp [leavesIn, hu] at hL
    | some d =>
      by_cases hs : ∃ fs, d = .struct fs
      · obtain ⟨fs, rfl⟩ := hs
        simp only [leavesIn, hu] at hL
        obtain ⟨k, f, lf, j, h1, h2, h3, h4, h5⟩ := leavesFields_at _ _ _ hL i u hi
        obtain ⟨xs, n', _, rfl, hlen, hxl, hg⟩ := DataW.trod_struct hu hx
        have h1' : fs[k]? = some f := by simpa using h1
        have hk := hg k f h1'
        have hkl : k < xs.length := by rw [hxl]; exact (Array.getElem?_eq_some_iff.1 h1').1
        rw [List.getElem?_eq_getElem hkl] at hk
        have hj : j < lf.length := (List.getElem?_eq_some_iff.1 h4).1
        have hcj : ((cs.drop f.offset).take (P.cellsOf f.type))[j]? = some c := by
          rw [List.getElem?_take, if_pos (by omega), List.getElem?_drop, ← h5, Nat.zero_add]; exact hc
        have := ih f.type lf h2 n' _ _ hk j u c h4 hcj
        have hm : xs[k].1 ∈ xs.map (·.1) := List.mem_map.2 ⟨xs[k], List.getElem_mem hkl, rfl⟩
        refine this.mono ?_ ?_
        · have := bulk_mem hm
          simp only [Rows.uptoBulk]; omega
        · intro q hq
          simp only [DataW.weights, hu]
          exact weightsEach_mem (i := k) (t := f.type) (d := xs[k].1) (by rw [List.getElem?_map]; rw [h1]; rfl) (by rw [List.getElem?_map, List.getElem?_eq_getElem hkl]; rfl) q hq
      · by_cases ha : ∃ k e, d = .array k e
        · obtain ⟨k, e, rfl⟩ := ha
          simp only [leavesIn, hu] at hL
          obtain ⟨l, hl, hL⟩ := Option.bind_eq_some_iff.1 hL
          split at hL
          · rename_i hlen
            cases hL
            obtain ⟨a, j, h1, h2, h3⟩ := flatten_rep_at _ _ _ _ hi
            obtain ⟨xs, n', _, rfl, _, hxl, hg⟩ := DataW.trod_array hu hx
            have hk := hg a h1
            have hkl : a < xs.length := by omega
            rw [List.getElem?_eq_getElem hkl] at hk
            have hj : j < l.length := (List.getElem?_eq_some_iff.1 h2).1
            have hcj : ((cs.drop (a * P.cellsOf e)).take (P.cellsOf e))[j]? = some c := by
              rw [List.getElem?_take, if_pos (by omega), List.getElem?_drop, ← hlen, ← h3]; exact hc
            have := ih e l hl n' _ _ hk j u c h2 hcj
            have hm : xs[a].1 ∈ xs.map (·.1) := List.mem_map.2 ⟨xs[a], List.getElem_mem hkl, rfl⟩
            refine this.mono ?_ ?_
            · have := bulk_mem hm
              simp only [Rows.uptoBulk]; omega
            · intro q hq
              simp only [DataW.weights, hu]
              exact weightsAll_mem hm q hq
          · cases hL
        · have hL' : L = [t] := by
            simp only [leavesIn, hu] at hL
            cases d <;> first | exact absurd ⟨_, rfl⟩ hs | exact absurd ⟨_, _, rfl⟩ ha | (simpa using hL.symm)
          subst hL'
          obtain ⟨c', rfl⟩ := trod_one hu (fun fs e => hs ⟨fs, e⟩) (fun k e e' => ha ⟨k, e, e'⟩) hx
          have hi0 : i = 0 := by have := (List.getElem?_eq_some_iff.1 hi).1; simpa using this
          subst hi0
          simp at hi hc
          subst hi; subst hc
          exact ⟨fuel, x, hx, Nat.le_refl _, fun _ h => h⟩

theorem LeafAt.int {b : Nat} {ws : List Nat} {u : TypeId} {c : Value} {k : IntKind} (hu : P.underlying u = some (.int k)) (h : LeafAt enc P w base spare held b ws u c) : ∃ n, c = .int k n ∧ (Lit.int k n).wf = true := by
  obtain ⟨m, y, h1, _⟩ := h
  obtain ⟨n, hc, _, hw⟩ := DataW.trod_int hu h1
  exact ⟨n, by simpa using hc, hw⟩
theorem LeafAt.bool {b : Nat} {ws : List Nat} {u : TypeId} {c : Value} (hu : P.underlying u = some .bool) (h : LeafAt enc P w base spare held b ws u c) : ∃ n, c = .bool n := by
  obtain ⟨m, y, h1, _⟩ := h
  obtain ⟨n, hc, _⟩ := DataW.trod_bool hu h1
  exact ⟨n, by simpa using hc⟩

theorem choose_list {α : Type} {R : Nat → α → Prop} : ∀ n, (∀ i, i < n → ∃ x, R i x) → ∃ xs : List α, xs.length = n ∧ ∀ i x, xs[i]? = some x → R i x := by
  intro n
  induction n with
  | zero => intro _; exact ⟨[], rfl, fun i x h => by simp at h⟩
  | succ n ih =>
    intro h
    obtain ⟨xs, hl, hx⟩ := ih (fun i hi => h i (by omega))
    obtain ⟨y, hy⟩ := h n (by omega)
    refine ⟨xs ++ [y], by simp [hl], fun i x hi => ?_⟩
    by_cases hlt : i < xs.length
    · rw [List.getElem?_append_left hlt] at hi
      exact hx i x hi
    · rw [List.getElem?_append_right (by omega)] at hi
      have h0 : i - xs.length = 0 := by have := (List.getElem?_eq_some_iff.1 hi).1; simp at this; omega
      rw [h0] at hi
      simp at hi
      subst hi
      have : i = n := by omega
      subst this
      exact hy

/-- a slice whose elements have s cells each -/
theorem LeafAt.slice {α : Type} {b : Nat} {ws : List Nat} {u e : TypeId} {c : Value} (hu : P.underlying u = some (.slice e)) {s : Nat} (hpos : 0 < s) (hc : P.cellsOf e = s) (encA : α → List Value) (Q : α → Prop)
    (helem : ∀ (m : Nat) (cs : List Value) (y : DataW H × List MemPlace), cs.length = s → DataW.trod enc P w base spare held m e cs = some y → ∃ x : α, cs = encA x ∧ Q x)
    (h : LeafAt enc P w base spare held b ws u c) : ∃ xs : List α, Arr w encA s c xs ∧ (∀ x ∈ xs, Q x) ∧ xs.length + 1 ≤ b ∧ (xs = [] ∨ ∃ k ∈ ws, xs.length * P.bytesOf e ≤ k) := by
  obtain ⟨m, y, h1, hb, hw⟩ := h
  rcases DataW.trod_slice hu h1 with ⟨hcs, rfl⟩ | ⟨a, len, cap, elems, rest, n, _, hcs, rfl, hba, hl, hm, hlen, hel, hsp, hns⟩
  · simp only [List.cons.injEq, and_true] at hcs
    subst hcs
    refine ⟨[], Arr.nil _ _ _, by simp, ?_, Or.inl rfl⟩
    simp only [Rows.uptoBulk] at hb
    simpa using hb
  · simp only [List.cons.injEq, and_true] at hcs
    subst hcs
    have each : ∀ i, i < len → ∃ x : α, (∃ cs, w.cells? base (a.add (i * s)) s = some cs ∧ cs = encA x) ∧ Q x := by
      intro i hi
      have h2 := hel i hi
      rw [List.getElem?_eq_getElem (by omega), hc] at h2
      obtain ⟨cs, h3, h4⟩ := Option.bind_eq_some_iff.1 h2
      obtain ⟨x, h5, h6⟩ := helem n cs _ (World.cells?_some h3).2.1 h4
      exact ⟨x, ⟨cs, h3, h5⟩, h6⟩
    obtain ⟨xs, hxl, hx⟩ := choose_list len each
    refine ⟨xs, ?_, ?_, ?_, ?_⟩
    · refine ⟨some a, cap, by rw [hxl], by omega, hm, ?_⟩
      by_cases h0 : xs = []
      · exact Or.inl h0
      · right
        by_cases hspot : a.spot = none
        · obtain ⟨ab, ao, sp⟩ := a
          simp only at hspot
          subst hspot
          refine ⟨ab, ao, rfl, fun k x hk j u hj => ?_⟩
          obtain ⟨⟨cs, h3, rfl⟩, _⟩ := hx k x hk
          obtain ⟨_, hlc, hcell⟩ := World.cells?_some h3
          have hjs : j < s := by rw [← hlc]; exact (List.getElem?_eq_some_iff.1 hj).1
          have h4 := hcell j hjs
          rw [hj] at h4
          rw [← h4]
          congr 1
          unfold Addr.add
          split <;> split <;> simp_all
        · exfalso
          obtain ⟨x0, hx0⟩ : ∃ x0, xs[0]? = some x0 := by cases xs with | nil => exact absurd rfl h0 | cons y _ => exact ⟨y, rfl⟩
          obtain ⟨⟨cs, h3, _⟩, _⟩ := hx 0 x0 hx0
          obtain ⟨_, hlc, hcell⟩ := World.cells?_some h3
          have h4 := hcell 0 hpos
          rw [Nat.zero_mul] at h4
          have e : (a.add 0).add 0 = a := by simp [Addr.add]
          rw [e, List.getElem?_eq_getElem (by omega)] at h4
          unfold World.cell? at h4
          split at h4
          · cases hs : a.spot with
            | none => exact hspot hs
            | some q => rw [hs] at h4; simp at h4
          · cases h4
    · intro x hx'
      obtain ⟨i, hi⟩ := List.getElem?_of_mem hx'
      exact (hx i x hi).2
    · have h2 := length_le_bulk (elems.map (·.1))
      simp only [Rows.uptoBulk, List.length_map] at hb h2
      omega
    · right
      refine ⟨_, hw (((elems.map (·.1)).length + (rest.map (·.1)).length) * P.bytesOf e) ?_, ?_⟩
      · simp only [DataW.weights, hu]
        exact List.mem_cons_self
      · rw [hxl, List.length_map, hlen]
        exact Nat.mul_le_mul_right _ (by omega)
end
end Go.Proofs.Ytkjeedlkkpgopaa
