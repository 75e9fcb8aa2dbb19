/- Small words for slices whose elements are read as data, and what closes a law: no statement of the program. -/
import Derived.Test.YtgljbdcamagdbaaRows
import Derived.WalkKit
import Derived.WalkSpells
import Derived.Lib.Hide
import Derived.WalkLawsBesides
import Derived.ProofKit
import Derived.OpenShut
import Derived.JoinedCond
import Derived.BigQuiet
import Derived.Deep.QuietTactic
namespace Go.Proofs.Ytgljbdcamagdbaa
open Go.RowKit

/-! ### flat lists of cells -/
theorem flat_len {α : Type} {enc : α → List Value} {s : Nat} (hs : ∀ x, (enc x).length = s) (xs : List α) : (xs.flatMap enc).length = xs.length * s := by
  induction xs with
  | nil => simp
  | cons x r ih => simp only [List.flatMap_cons, List.length_append, hs, ih, List.length_cons, Nat.add_mul, Nat.one_mul]; omega

theorem flat_get {α : Type} {enc : α → List Value} {s : Nat} (hs : ∀ x, (enc x).length = s) (xs : List α) (k j : Nat) (x : α) (hk : xs[k]? = some x) (hj : j < s) :
    (xs.flatMap enc)[k * s + j]? = (enc x)[j]? := by
  induction xs generalizing k with
  | nil => simp at hk
  | cons y r ih =>
    cases k with
    | zero =>
      simp only [List.getElem?_cons_zero, Option.some.injEq] at hk
      subst hk
      simp only [List.flatMap_cons, Nat.zero_mul, Nat.zero_add]
      rw [List.getElem?_append_left (by rw [hs]; exact hj)]
    | succ k =>
      simp only [List.getElem?_cons_succ] at hk
      simp only [List.flatMap_cons]
      rw [List.getElem?_append_right (by rw [hs, Nat.add_mul]; omega)]
      rw [show (k + 1) * s + j - (enc y).length = k * s + j by rw [hs, Nat.add_mul]; omega]
      exact ih k hk

/-- the slice value v reads as xs: each element has s cells, 'enc x' -/
def Arr {α : Type} (w : World) (enc : α → List Value) (s : Nat) (v : Value) (xs : List α) : Prop :=
  ∃ ba cap, v = .slice ba xs.length cap ∧ xs.length ≤ cap ∧ cap ≤ maxLen ∧
    (xs = [] ∨ ∃ b off, ba = some ⟨b, off, none⟩ ∧ ∀ k x, xs[k]? = some x → ∀ j u, (enc x)[j]? = some u → w.cell? ⟨b, off + k * s + j, none⟩ = some u)

def eI (x : Int) : List Value := [.int .i64 x]

theorem Arr.nil {α : Type} (w : World) (enc : α → List Value) (s : Nat) : Arr w enc s (.slice none 0 0) [] :=
  ⟨none, 0, rfl, Nat.le_refl _, by unfold maxLen; omega, Or.inl rfl⟩

/-- whoever keeps every cell keeps the reading -/
theorem Arr.keep {α : Type} {w w' : World} {enc : α → List Value} {s : Nat} {v : Value} {xs : List α} (h : Arr w enc s v xs) (hk : ∀ a u, w.cell? a = some u → w'.cell? a = some u) : Arr w' enc s v xs := by
  obtain ⟨ba, cap, hv, hl, hm, h0⟩ := h
  refine ⟨ba, cap, hv, hl, hm, ?_⟩
  rcases h0 with h0 | ⟨b, off, hb, hc⟩
  · exact Or.inl h0
  · exact Or.inr ⟨b, off, hb, fun k x hx j u hu => hk _ _ (hc k x hx j u hu)⟩

theorem keeps_below {w w' : World} (hb : Below w.heap.size w w') : ∀ a u, w.cell? a = some u → w'.cell? a = some u :=
  fun a _ h => (hb.cell (World.block_lt_of_cell? w a h)).trans h

theorem Arr.below {α : Type} {w w' : World} {enc : α → List Value} {s : Nat} {v : Value} {xs : List α} (h : Arr w enc s v xs) (hb : Below w.heap.size w w') : Arr w' enc s v xs :=
  h.keep (keeps_below hb)

theorem Arr.len {α : Type} {w : World} {enc : α → List Value} {s : Nat} {v : Value} {xs : List α} (h : Arr w enc s v xs) : xs.length ≤ 9223372036854775807 := by
  obtain ⟨_, cap, _, h1, h2, _⟩ := h
  unfold maxLen at h2; omega

/-- an own row reads so -/
theorem Arr.own {α : Type} {w : World} {base : Nat} {e : TypeId} {enc : α → List Value} {s : Nat} (hs : ∀ x, (enc x).length = s) {v : Value} {xs : List α} (h : w.ownsRow base e s v xs.length (xs.flatMap enc)) : Arr w enc s v xs := by
  obtain ⟨_, h | ⟨g, cap, cur, rfl, _, hg, hn, hm, hc, ht⟩⟩ := h
  · obtain ⟨rfl, h0⟩ := h
    have : xs = [] := List.eq_nil_of_length_eq_zero h0
    subst this
    exact Arr.nil _ _ _
  · refine ⟨_, cap, rfl, hn, hm, Or.inr ⟨g, 0, rfl, fun k x hx j u hu => ?_⟩⟩
    have hj : j < s := by rw [← hs x]; exact (List.getElem?_eq_some_iff.1 hu).1
    rw [Nat.zero_add, cell_of_row w g (k * s + j) cur e (0, 0) hg]
    have h1 : (xs.flatMap enc)[k * s + j]? = some u := by rw [flat_get hs xs k j x hx hj]; exact hu
    rw [← ht, List.getElem?_take] at h1
    split at h1
    · simpa using h1
    · cases h1

/-- the cells of a slice that reads so, at its address -/
theorem Arr.cells {α : Type} {w : World} {enc : α → List Value} {s : Nat} (hs : ∀ x, (enc x).length = s) (h0 : 0 < s) {b off n cap : Nat} {xs : List α}
    (h : Arr w enc s (.slice (some ⟨b, off, none⟩) n cap) xs) : ∀ j u, (xs.flatMap enc)[j]? = some u → w.cell? ((⟨b, off, none⟩ : Addr).add j) = some u := by
  intro j u hu
  obtain ⟨ba, cap', hv, _, _, h1⟩ := h
  cases hv
  have hadd : (⟨b, off, none⟩ : Addr).add j = ⟨b, off + j, none⟩ := by unfold Addr.add; split <;> simp_all
  rcases h1 with h1 | ⟨b', off', hb, hc⟩
  · subst h1; simp at hu
  · cases hb
    have hlt : j < xs.length * s := by rw [← flat_len hs]; exact (List.getElem?_eq_some_iff.1 hu).1
    have hk : j / s < xs.length := Nat.div_lt_of_lt_mul (by rw [Nat.mul_comm]; exact hlt)
    have hm : j % s < s := Nat.mod_lt _ h0
    have e : j / s * s + j % s = j := by rw [Nat.mul_comm]; exact Nat.div_add_mod j s
    have hx : xs[j / s]? = some xs[j / s] := List.getElem?_eq_getElem hk
    have := flat_get hs xs (j / s) (j % s) _ hx hm
    rw [e] at this
    have h2 := hc (j / s) _ hx (j % s) u (by rw [← this]; exact hu)
    rw [hadd]
    rw [show off + j / s * s + j % s = off + j by omega] at h2
    exact h2

/-- append(own, xs...): the source any slice that reads as data -/
theorem run_append_arr {P : Program} {w : World} (base : Nat) (t ty e : TypeId) (i : TypeInfo) (z : Value) (size bytes : Nat) (ht : P.underlying t = some (.slice e)) (hi : P.info? e = some i) (hz : i.zero = some z)
    (hsize : i.size = size) (hby : i.bytes = bytes) (hzs : z.cells.size = size) (hsz : 0 < size)
    (v : Value) (n : Nat) (cs : List Value) (hown : w.ownsRow base e size v n cs)
    {α : Type} {enc : α → List Value} (hs : ∀ x, (enc x).length = size) (h1 : ∀ x, ∀ u ∈ enc x, u.oneCell' = true) (v2 : Value) (xs : List α) (hx : Arr w enc size v2 xs)
    (h63 : n + xs.length ≤ maxLen) (hbytes : (n + xs.length) * bytes ≤ 140737488355328) (hbase : base ≤ w.heap.size) :
    ∃ v' w', (Builtin.append_ #[t, t] ty #[v, v2]).run P w = .ok v' w' ∧ w'.ownsRow base e size v' (n + xs.length) (cs ++ xs.flatMap enc) ∧ w.grownBy w' v.ownBlock := by
  have hx0 := hx
  obtain ⟨ba, cap, rfl, hl, hm, hc⟩ := hx
  rcases ba with _ | ⟨b, off, sp⟩
  · have he : xs = [] := by
      rcases hc with h | ⟨b, off, hb, _⟩
      · exact h
      · cases hb
    subst he
    refine ⟨v, w, ?_, by simpa using hown, ⟨rfl, rfl, rfl, Nat.le_refl _, fun _ _ _ => rfl⟩⟩
    obtain ⟨_, hv⟩ := hown
    rcases hv with ⟨rfl, rfl⟩ | ⟨g, cap', cur, rfl, _, hg, hn, _, hcs, _⟩
    · simp [Builtin.append_, run_underlying ht, sizeOf, typeInfo, hi, Builtin.lenOf, Builtin.firstCells]
    · simp [Builtin.append_, run_underlying ht, sizeOf, typeInfo, hi, Builtin.lenOf, Builtin.firstCells, hn, storeCells]
  · rcases hc with h | ⟨b', off', hb, hc⟩
    · subst h
      obtain ⟨v', w', hr, ho, hg, _⟩ := run_append_own (P := P) w base t ty e i z size bytes ht hi hz hsize hby hzs hsz v n cs hown ⟨b, off, sp⟩ 0 cap [] (by simp) (by simp) (by simp) (by simpa using h63) (by simpa using hbytes) hbase
      exact ⟨v', w', hr, by simpa using ho, hg⟩
    · simp only [Option.some.injEq, Addr.mk.injEq] at hb
      obtain ⟨rfl, rfl, rfl⟩ := hb
      obtain ⟨v', w', hr, ho, hg, _⟩ := run_append_own (P := P) w base t ty e i z size bytes ht hi hz hsize hby hzs hsz v n cs hown ⟨b, off, none⟩ xs.length cap (xs.flatMap enc) (flat_len hs xs)
        (Arr.cells hs hsz hx0) (fun u hu => by obtain ⟨x, _, h⟩ := List.mem_flatMap.1 hu; exact h1 x u h) h63 hbytes hbase
      exact ⟨v', w', hr, ho, hg⟩

/-! ### what closes a law -/
section
variable {H : Type} {enc : TypeId × Value → H} {P : Program}
theorem trodAll_below (hl : laidOutB P = true) {W W' : World} (hb : Below W.heap.size W W') : ∀ (ts : List TypeId) (vs : List Value) (ds : List (DataW H)) (ps : List MemPlace),
    (∀ t ∈ ts, P.readableRec t = true ∧ t < P.types.size) → DataW.TrodAll enc P W 0 (fun _ => true) true ts vs ds ps → (∀ x ∈ ps, x.block < W.heap.size) →
    DataW.TrodAll enc P W' 0 (fun b => decide (b < W.heap.size)) true ts vs ds ps := by
  intro ts
  induction ts with
  | nil =>
    intro vs ds ps _ h _
    cases vs <;> cases ds <;> simp_all [DataW.TrodAll]
  | cons t ts ih =>
    intro vs ds ps hr h hlt
    cases vs with
    | nil => simp [DataW.TrodAll] at h
    | cons v vs =>
      cases ds with
      | nil => simp [DataW.TrodAll] at h
      | cons d ds =>
        obtain ⟨p, q, h1, h2, rfl⟩ := h
        refine ⟨p, q, ?_, ?_, rfl⟩
        · exact Below.trod hl (hr t (by simp)).1 (hr t (by simp)).2 h1 hb (fun x hx => hlt x (by simp [hx]))
        · exact ih vs ds q (fun t ht => hr t (by simp [ht])) h2 (fun x hx => hlt x (by simp [hx]))

/-- A law that answers true and leaves all that was there as it was. -/
theorem post_of_below {f : Func} {s : ChangeSpec} {apart : Bool} {W W' : World} {args : Array Value} {ds gs : List (DataW H)} {before : List MemPlace} {tb : TypeId}
    (hl : laidOutB P = true) (hs : s.vars = []) (hpar : ∀ t ∈ f.params.toList, P.readableRec t = true ∧ t < P.types.size) (hres : f.resultTypes = #[tb]) (htb : P.underlying tb = some .bool)
    (hW : DataW.Whole enc P f.params.toList s.vars apart W args.toList ds gs before)
    (hfn : s.fn H ds = { results := [.lit (.bool true)], args := ds }) (hb : Below W.heap.size W W') : s.post enc P f apart true false false W args (.bool true) W' := by
  have hW' := hW
  obtain ⟨p, q, hA, hV, rfl, hfz, hnd⟩ := hW
  rw [hs] at hV
  obtain ⟨rfl, rfl⟩ := ChangeShapes.trodVars_none hV
  have hlt : ∀ x ∈ p, x.block < W.heap.size := fun x hx => hW'.lt x (by simp [hx])
  refine ⟨ds, [], p ++ [], [], p, [], hW', ?_, ?_, ?_, hb.frame _, fun h => by cases h⟩
  · rw [List.append_nil, hfn, hres]
    exact ChangeShapes.trodAll_mk1 (RowKit.shut_bool htb true)
  · rw [List.append_nil, hfn]
    exact trodAll_below hl hb _ _ _ _ hpar hA hlt
  · rw [List.append_nil, hfn, hs]
    exact rfl
end
end Go.Proofs.Ytgljbdcamagdbaa
