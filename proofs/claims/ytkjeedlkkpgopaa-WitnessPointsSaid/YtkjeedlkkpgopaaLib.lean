
/- Small words for slices whose elements are read as data, and what closes a law: no statement of the program. -/
import Derived.Test.YtkjeedlkkpgopaaRows
import Derived.WalkKit
import Derived.WalkSpells
import Derived.Lib.Hide
import Derived.WalkLawsBesides
import Derived.ProofKit
import Derived.OpenShut
import Derived.JoinedCond
import Derived.BigQuiet
import Derived.Deep.QuietTactic
namespace Go.Proofs.Ytkjeedlkkpgopaa
open Go.RowKit

/-! ### flat lists of cells -/
theorem flat_len {α : Type} {enc : α → List Value} {s : Nat} (hs : ∀ x, (enc x).length = s) (xs : List α) : (xs.flatMap enc).length = xs.length * s := by
  induction xs with
  | nil => simp
  | cons x r ih => simp only [List.flatMap_cons, List.length_append, hs, ih, List.length_cons, Nat.add_mul, Nat.one_mul]; omega

theorem flat_get {α : Type} {enc : α → List Value} {s : Nat} (hs : ∀ x, (enc x).length = s) (xs : List α) (k j : Nat) (x : α) (hk : xs[k]? = some x) (hj : j < s) :
    (xs.flatMap enc)[k * s + j]? = (enc x)[j]? := by
  induction xs generalizing k with
  | nil => simp at hk
  | cons y r ih =>
    cases k with
    | zero =>
      simp only [List.getElem?_cons_zero, Option.some.injEq] at hk
      subst hk
      simp only [List.flatMap_cons, Nat.zero_mul, Nat.zero_add]
      rw [List.getElem?_append_left (by rw [hs]; exact hj)]
    | succ k =>
      simp only [List.getElem?_cons_succ] at hk
      simp only [List.flatMap_cons]
      rw [List.getElem?_append_right (by rw [hs, Nat.add_mul]; omega)]
      rw [show (k + 1) * s + j - (enc y).length = k * s + j by rw [hs, Nat.add_mul]; omega]
      exact ih k hk

/-- the slice value v reads as xs: each element has s cells, 'enc x' -/
def Arr {α : Type} (w : World) (enc : α → List Value) (s : Nat) (v : Value) (xs : List α) : Prop :=
  ∃ ba cap, v = .slice ba xs.length cap ∧ xs.length ≤ cap ∧ cap ≤ maxLen ∧
    (xs = [] ∨ ∃ b off, ba = some ⟨b, off, none⟩ ∧ ∀ k x, xs[k]? = some x → ∀ j u, (enc x)[j]? = some u → w.cell? ⟨b, off + k * s + j, none⟩ = some u)

def eI (x : Int) : List Value := [.int .i64 x]

theorem Arr.nil {α : Type} (w : World) (enc : α → List Value) (s : Nat) : Arr w enc s (.slice none 0 0) [] :=
  ⟨none, 0, rfl, Nat.le_refl _, by unfold maxLen; omega, Or.inl rfl⟩

/-- whoever keeps every cell keeps the reading -/
theorem Arr.keep {α : Type} {w w' : World} {enc : α → List Value} {s : Nat} {v : Value} {xs : List α} (h : Arr w enc s v xs) (hk : ∀ a u, w.cell? a = some u → w'.cell? a = some u) : Arr w' enc s v xs := by
  obtain ⟨ba, cap, hv, hl, hm, h0⟩ := h
  refine ⟨ba, cap, hv, hl, hm, ?_⟩
  rcases h0 with h0 | ⟨b, off, hb, hc⟩
  · exact Or.inl h0
  · exact Or.inr ⟨b, off, hb, fun k x hx j u hu => hk _ _ (hc k x hx j u hu)⟩

theorem keeps_below {w w' : World} (hb : Below w.heap.size w w') : ∀ a u, w.cell? a = some u → w'.cell? a = some u :=
  fun a _ h => (hb.cell (World.block_lt_of_cell? w a h)).trans h

theorem Arr.below {α : Type} {w w' : World} {enc : α → List Value} {s : Nat} {v : Value} {xs : List α} (h : Arr w enc s v xs) (hb : Below w.heap.size w w') : Arr w' enc s v xs :=
  h.keep (keeps_below hb)

theorem Arr.len {α : Type} {w : World} {enc : α → List Value} {s : Nat} {v : Value} {xs : List α} (h : Arr w enc s v xs) : xs.length ≤ 9223372036854775807 := by
  obtain ⟨_, cap, _, h1, h2, _⟩ := h
  unfold maxLen at h2; omega

/-- an own row reads so -/
theorem Arr.own {α : Type} {w : World} {base : Nat} {e : TypeId} {enc : α → List Value} {s : Nat} (hs : ∀ x, (enc x).length = s) {v : Value} {xs : List α} (h : w.ownsRow base e s v xs.length (xs.flatMap enc)) : Arr w enc s v xs := by
  obtain ⟨_, h | ⟨g, cap, cur, rfl, _, hg, hn, hm, hc, ht⟩⟩ := h
  · obtain ⟨rfl, h0⟩ := h
    have : xs = [] := List.eq_nil_of_length_eq_zero h0
    subst this
    exact Arr.nil _ _ _
  · refine ⟨_, cap, rfl, hn, hm, Or.inr ⟨g, 0, rfl, fun k x hx j u hu => ?_⟩⟩
    have hj : j < s := by rw [← hs x]; exact (List.getElem?_eq_some_iff.1 hu).1
    rw [Nat.zero_add, cell_of_row w g (k * s + j) cur e (0, 0) hg]
    have h1 : (xs.flatMap enc)[k * s + j]? = some u := by rw [flat_get hs xs k j x hx hj]; exact hu
    rw [← ht, List.getElem?_take] at h1
    split at h1
    · simpa using h1
    · cases h1

/-- the cells of a slice that reads so, at its address -/
theorem Arr.cells {α : Type} {w : World} {enc : α → List Value} {s : Nat} (hs : ∀ x, (enc x).length = s) (h0 : 0 < s) {b off n cap : Nat} {xs : List α}
    (h : Arr w enc s (.slice (some ⟨b, off, none⟩) n cap) xs) : ∀ j u, (xs.flatMap enc)[j]? = some u → w.cell? ((⟨b, off, none⟩ : Addr).add j) = some u := by
  intro j u hu
  obtain ⟨ba, cap', hv, _, _, h1⟩ := h
  cases hv
  have hadd : (⟨b, off, none⟩ : Addr).add j = ⟨b, off + j, none⟩ := by unfold Addr.add; split <;> simp_all
  rcases h1 with h1 | ⟨b', off', hb, hc⟩
  · subst h1; simp at hu
  · cases hb
    have hlt : j < xs.length * s := by rw [← flat_len hs]; exact (List.getElem?_eq_some_iff.1 hu).1
    have hk : j / s < xs.length := Nat.div_lt_of_lt_mul (by rw [Nat.mul_comm]; exact hlt)
    have hm : j % s < s := Nat.mod_lt _ h0
    have e : j / s * s + j % s = j := by rw [Nat.mul_comm]; exact Nat.div_add_mod j s
    have hx : xs[j / s]? = some xs[j / s] := List.getElem?_eq_getElem hk
    have := flat_get hs xs (j / s) (j % s) _ hx hm
    rw [e] at this
    have h2 := hc (j / s) _ hx (j % s) u (by rw [← this]; exact hu)
    rw [hadd]
    rw [show off + j / s * s + j % s = off + j by omega] at h2
    exact h2

/-- element k of a slice of ints -/
theorem Arr.at1 {w : World} {v : Value} {xs : List Int} (h : Arr w eI 1 v xs) : ∃ ba cap, v = .slice ba xs.length cap ∧ xs.length ≤ cap ∧ cap ≤ 9223372036854775807 ∧
    ∀ k x, xs[k]? = some x → ∃ b off, ba = some ⟨b, off, none⟩ ∧ b < w.heap.size ∧ w.cell? ⟨b, off + k, none⟩ = some (.int .i64 x) := by
  obtain ⟨ba, cap, hv, hl, hm, hc⟩ := h
  refine ⟨ba, cap, hv, hl, hm, fun k x hx => ?_⟩
  rcases hc with h | ⟨b, off, hb, hc⟩
  · subst h; simp at hx
  · have := hc k x hx 0 (.int .i64 x) rfl
    rw [Nat.mul_one, Nat.add_zero] at this
    exact ⟨b, off, hb, World.block_lt_of_cell? w _ this, this⟩

def eP (p : Int × Int) : List Value := [.int .i64 p.1, .int .i64 p.2]

/-- element k of a slice of pairs -/
theorem Arr.at2 {w : World} {v : Value} {xs : List (Int × Int)} (h : Arr w eP 2 v xs) : ∃ ba cap, v = .slice ba xs.length cap ∧ xs.length ≤ cap ∧ cap ≤ 9223372036854775807 ∧
    ∀ k x, xs[k]? = some x → ∃ b off, ba = some ⟨b, off, none⟩ ∧ b < w.heap.size ∧ w.cell? ⟨b, off + k * 2, none⟩ = some (.int .i64 x.1) ∧ w.cell? ⟨b, off + k * 2 + 1, none⟩ = some (.int .i64 x.2) := by
  obtain ⟨ba, cap, hv, hl, hm, hc⟩ := h
  refine ⟨ba, cap, hv, hl, hm, fun k x hx => ?_⟩
  rcases hc with h | ⟨b, off, hb, hc⟩
  · subst h; simp at hx
  · have h0 := hc k x hx 0 (.int .i64 x.1) rfl
    have h1 := hc k x hx 1 (.int .i64 x.2) rfl
    rw [Nat.add_zero] at h0
    exact ⟨b, off, hb, World.block_lt_of_cell? w _ h0, h0, h1⟩

theorem take_eq_succ {α : Type} {xs ys : List α} {k : Nat} {x y : α} (h : xs.take k = ys.take k) (hx : xs[k]? = some x) (hy : ys[k]? = some y) (e : x = y) : xs.take (k + 1) = ys.take (k + 1) := by
  rw [List.take_add_one, List.take_add_one, h, hx, hy, e]
theorem ne_of_at {α : Type} {xs ys : List α} {k : Nat} {x y : α} (hx : xs[k]? = some x) (hy : ys[k]? = some y) (e : x ≠ y) : xs ≠ ys := by
  rintro rfl; rw [hx] at hy; exact e (Option.some.inj hy)

theorem box_cell (w : World) (cs : Array Value) (t : TypeId) (j : Nat) (u : Value) (h : cs[j]? = some u) : (w.alloc (.cells cs t)).cell? ⟨w.heap.size, j, none⟩ = some u := by
  rw [cell_of_row _ w.heap.size j cs t (0, 0) (heap_alloc_new w _)]
  exact h
theorem box_cell' {w : World} {n : Nat} (cs : Array Value) (t : TypeId) (hn : w.heap.size = n) (j : Nat) (u : Value) (h : cs[j]? = some u) : (w.alloc (.cells cs t)).cell? ⟨n, j, none⟩ = some u := by
  subst hn; exact box_cell w cs t j u h
theorem below_box (w : World) (o : Obj) : Below w.heap.size w (w.alloc o) := (Below.refl _ _).alloc (Nat.le_refl _) _
/-- from behind a new block on -/
theorem below_from {w w' : World} {o : Obj} (h : Below (w.heap.size + 1) (w.alloc o) w') : Below w.heap.size w w' :=
  (below_box w o).trans (h.mono (by omega))

/-! ### rising lists -/
def incB : List Int → Bool
  | x :: y :: r => decide (x < y) && incB (y :: r)
  | _ => true
theorem incB_iff (xs : List Int) : incB xs = true ↔ ∀ i x y, xs[i]? = some x → xs[i + 1]? = some y → x < y := by
  induction xs with
  | nil => simp [incB]
  | cons a r ih =>
    cases r with
    | nil => simp [incB]
    | cons b r =>
      simp only [incB, Bool.and_eq_true, decide_eq_true_eq, ih]
      constructor
      · rintro ⟨h1, h2⟩ i x y hx hy
        cases i with
        | zero => simp at hx hy; omega
        | succ i => exact h2 i x y (by simpa using hx) (by simpa using hy)
      · intro h
        exact ⟨h 0 a b rfl rfl, fun i x y hx hy => h (i + 1) x y (by simpa using hx) (by simpa using hy)⟩
theorem incB_no {xs : List Int} {i : Nat} {x y : Int} (hx : xs[i]? = some x) (hy : xs[i + 1]? = some y) (h : y ≤ x) : incB xs = false := by
  cases hb : incB xs with
  | false => rfl
  | true => have := (incB_iff xs).1 hb i x y hx hy; omega
theorem incB_no' {xs : List Int} {k : Nat} {x y : Int} (h1 : 1 ≤ k) (hx : xs[k - 1]? = some x) (hy : xs[k]? = some y) (h : y ≤ x) : incB xs = false :=
  incB_no hx (by rw [show k - 1 + 1 = k by omega]; exact hy) h
/-- the first k entries rise -/
def IncTo (xs : List Int) (k : Nat) : Prop := ∀ i x y, i + 1 < k → xs[i]? = some x → xs[i + 1]? = some y → x < y
theorem IncTo.step {xs : List Int} {k : Nat} {x y : Int} (h : IncTo xs k) (hk : 1 ≤ k) (hx : xs[k - 1]? = some x) (hy : xs[k]? = some y) (hxy : x < y) : IncTo xs (k + 1) := by
  intro i a b hi ha hb
  by_cases e : i + 1 < k
  · exact h i a b e ha hb
  · have : i = k - 1 := by omega
    subst this
    rw [show k - 1 + 1 = k by omega, hy] at hb
    rw [hx] at ha
    cases ha; cases hb; exact hxy
theorem IncTo.all {xs : List Int} {k : Nat} (h : IncTo xs k) (hk : xs.length ≤ k) : incB xs = true := by
  rw [incB_iff]
  intro i x y hx hy
  exact h i x y (by have := (List.getElem?_eq_some_iff.1 hy).1; omega) hx hy

/-- append(own, xs...): the source any slice that reads as data -/
theorem run_append_arr {P : Program} {w : World} (base : Nat) (t ty e : TypeId) (i : TypeInfo) (z : Value) (size bytes : Nat) (ht : P.underlying t = some (.slice e)) (hi : P.info? e = some i) (hz : i.zero = some z)
    (hsize : i.size = size) (hby : i.bytes = bytes) (hzs : z.cells.size = size) (hsz : 0 < size)
    (v : Value) (n : Nat) (cs : List Value) (hown : w.ownsRow base e size v n cs)
    {α : Type} {enc : α → List Value} (hs : ∀ x, (enc x).length = size) (h1 : ∀ x, ∀ u ∈ enc x, u.oneCell' = true) (v2 : Value) (xs : List α) (hx : Arr w enc size v2 xs)
    (h63 : n + xs.length ≤ maxLen) (hbytes : (n + xs.length) * bytes ≤ 140737488355328) (hbase : base ≤ w.heap.size) :
    ∃ v' w', (Builtin.append_ #[t, t] ty #[v, v2]).run P w = .ok v' w' ∧ w'.ownsRow base e size v' (n + xs.length) (cs ++ xs.flatMap enc) ∧ w.grownBy w' v.ownBlock := by
  have hx0 := hx
  obtain ⟨ba, cap, rfl, hl, hm, hc⟩ := hx
  rcases ba with _ | ⟨b, off, sp⟩
  · have he : xs = [] := by
      rcases hc with h | ⟨b, off, hb, _⟩
      · exact h
      · cases hb
    subst he
    refine ⟨v, w, ?_, by simpa using hown, ⟨rfl, rfl, rfl, Nat.le_refl _, fun _ _ _ => rfl⟩⟩
    obtain ⟨_, hv⟩ := hown
    rcases hv with ⟨rfl, rfl⟩ | ⟨g, cap', cur, rfl, _, hg, hn, _, hcs, _⟩
    · simp [Builtin.append_, run_underlying ht, sizeOf, typeInfo, hi, Builtin.lenOf, Builtin.firstCells]
    · simp [Builtin.append_, run_underlying ht, sizeOf, typeInfo, hi, Builtin.lenOf, Builtin.firstCells, hn, storeCells]
  · rcases hc with h | ⟨b', off', hb, hc⟩
    · subst h
      obtain ⟨v', w', hr, ho, hg, _⟩ := run_append_own (P := P) w base t ty e i z size bytes ht hi hz hsize hby hzs hsz v n cs hown ⟨b, off, sp⟩ 0 cap [] (by simp) (by simp) (by simp) (by simpa using h63) (by simpa using hbytes) hbase
      exact ⟨v', w', hr, by simpa using ho, hg⟩
    · simp only [Option.some.injEq, Addr.mk.injEq] at hb
      obtain ⟨rfl, rfl, rfl⟩ := hb
      obtain ⟨v', w', hr, ho, hg, _⟩ := run_append_own (P := P) w base t ty e i z size bytes ht hi hz hsize hby hzs hsz v n cs hown ⟨b, off, none⟩ xs.length cap (xs.flatMap enc) (flat_len hs xs)
        (Arr.cells hs hsz hx0) (fun u hu => by obtain ⟨x, _, h⟩ := List.mem_flatMap.1 hu; exact h1 x u h) h63 hbytes hbase
      exact ⟨v', w', hr, ho, hg⟩

/-- what the laws on append ask of a slice's type -/
structure ElemT (P : Program) (t e : TypeId) (size bytes : Nat) : Prop where
  ht : P.underlying t = some (.slice e)
  ex : ∃ i z, P.info? e = some i ∧ i.zero = some z ∧ i.size = size ∧ i.bytes = bytes ∧ z.cells.size = size
  pos : 0 < size

/-- what the laws ask of the reading of an element -/
structure EncT {α : Type} (enc : α → List Value) (size : Nat) : Prop where
  len : ∀ x, (enc x).length = size
  one : ∀ x, ∀ u ∈ enc x, u.oneCell' = true

theorem eI_ok : EncT eI 1 := ⟨fun _ => rfl, fun x u hu => by simp [eI] at hu; subst hu; rfl⟩
theorem eP_ok : EncT eP 2 := ⟨fun _ => rfl, fun x u hu => by simp [eP] at hu; rcases hu with rfl | rfl <;> rfl⟩

theorem wp_append_arr {P : Program} {w : World} {o : Oper} {a : Act} {K : Act → World → Prop} {Q : Exit → Act → World → Prop} (s x : Operand) {t e : TypeId} {size bytes : Nat}
    (ho : o.op = .call { callee := .builtin .append, args := #[s, x], argTypes := #[t, t] }) (T : ElemT P t e size bytes) (base : Nat)
    {v : Value} {n : Nat} {cs : List Value} (hs : a.eval s = v) (hown : w.ownsRow base e size v n cs)
    {α : Type} {enc : α → List Value} (E : EncT enc size) {v2 : Value} {xs : List α} (hx : a.eval x = v2) (hxs : Arr w enc size v2 xs)
    (hbytes : (n + xs.length) * bytes ≤ 140737488355328) (h63 : n + xs.length ≤ maxLen) (hbase : base ≤ w.heap.size)
    (h : ∀ v' w', w'.ownsRow base e size v' (n + xs.length) (cs ++ xs.flatMap enc) → w.grownBy w' v.ownBlock → K (a.put o.dst v') w') : o.wp P a w K Q := by
  obtain ⟨i, z, hi, hz, hsz, hby, hzs⟩ := T.ex
  obtain ⟨v', w', hr, h2, h3⟩ := run_append_arr (P := P) (w := w) base t o.type e i z size bytes T.ht hi hz hsz hby hzs T.pos v n cs hown E.len E.one v2 xs hxs h63 hbytes hbase
  unfold Oper.wp execOp
  simp only [ho, resolve, invoke, builtin, Sem.run_bind, Sem.run_pure, Result.andThen_ok, List.map_toArray, List.map_cons, List.map_nil, hs, hx, hr]
  exact h v' w' h2 h3

theorem wpList_append_arr {P : Program} {w : World} {ops : Array Oper} {rest : List Oper} {o : Oper} {a : Act} {Q : Exit → Act → World → Prop} (hgd : o.guard = none) (s x : Operand) {t e : TypeId} {size bytes : Nat}
    (ho : o.op = .call { callee := .builtin .append, args := #[s, x], argTypes := #[t, t] }) (T : ElemT P t e size bytes) (base : Nat)
    {v : Value} {n : Nat} {cs : List Value} (hs : a.eval s = v) (hown : w.ownsRow base e size v n cs)
    {α : Type} {enc : α → List Value} (E : EncT enc size) {v2 : Value} {xs : List α} (hx : a.eval x = v2) (hxs : Arr w enc size v2 xs)
    (hbytes : (n + xs.length) * bytes ≤ 140737488355328) (h63 : n + xs.length ≤ maxLen) (hbase : base ≤ w.heap.size)
    (h : ∀ v' w', w'.ownsRow base e size v' (n + xs.length) (cs ++ xs.flatMap enc) → w.grownBy w' v.ownBlock → wpList P ops Q rest (a.put o.dst v') w') : wpList P ops Q (o :: rest) a w :=
  wpList_plain hgd fun _ hK => wp_append_arr s x ho T base hs hown E hx hxs hbytes h63 hbase fun v' w' h2 h3 => hK _ _ (h v' w' h2 h3)

theorem step_append_arr {P : Program} {w : World} {ops : Array Oper} {o : Oper} {a : Act} {K : Act → World → Prop} {Q : Exit → Act → World → Prop} {F : Prop} (hgd : o.guard = none) (s x : Operand) {t e : TypeId} {size bytes : Nat}
    (ho : o.op = .call { callee := .builtin .append, args := #[s, x], argTypes := #[t, t] }) (T : ElemT P t e size bytes) (base : Nat)
    {v : Value} {n : Nat} {cs : List Value} (hs : a.eval s = v) (hown : w.ownsRow base e size v n cs)
    {α : Type} {enc : α → List Value} (E : EncT enc size) {v2 : Value} {xs : List α} (hx : a.eval x = v2) (hxs : Arr w enc size v2 xs)
    (hbytes : (n + xs.length) * bytes ≤ 140737488355328) (h63 : n + xs.length ≤ maxLen) (hbase : base ≤ w.heap.size)
    (h : ∀ v' w', w'.ownsRow base e size v' (n + xs.length) (cs ++ xs.flatMap enc) → w.grownBy w' v.ownBlock → K (a.put o.dst v') w') :
    if Region.wanted o (yielded ops a.tmps) = true then Oper.wp P o a w K Q else F := by
  have hw : Region.wanted o (yielded ops a.tmps) = true := by simp [Region.wanted, hgd]
  rw [if_pos hw]
  exact wp_append_arr s x ho T base hs hown E hx hxs hbytes h63 hbase h

/-- append onto a slice that is full (or nil): the same slice, or a row of the call's own -/
theorem run_append_full {P : Program} {w : World} {t e : TypeId} {size bytes : Nat} (T : ElemT P t e size bytes) (ty : TypeId) {α : Type} {enc : α → List Value} (E : EncT enc size)
    {ba : Option Addr} {n : Nat} {ys xs : List α} (hd : Arr w enc size (.slice ba n n) ys) {v2 : Value} (hx : Arr w enc size v2 xs)
    (hbytes : (n + xs.length) * bytes ≤ 140737488355328) (h63 : n + xs.length ≤ maxLen) :
    ∃ v' w', (Builtin.append_ #[t, t] ty #[.slice ba n n, v2]).run P w = .ok v' w' ∧ Below w.heap.size w w' ∧
      ((xs = [] ∧ v' = .slice ba n n ∧ w' = w) ∨ (xs ≠ [] ∧ w'.ownsRow w.heap.size e size v' (n + xs.length) ((ys ++ xs).flatMap enc))) := by
  obtain ⟨i, z, hi, hz, hsz, hby, hzs⟩ := T.ex
  have ht := T.ht
  subst hsz
  subst hby
  have hd0 := hd
  obtain ⟨ba', cap', hv, hl, hm, hc⟩ := hd
  simp only [Value.slice.injEq] at hv
  obtain ⟨rfl, hn, rfl⟩ := hv
  have hx0 := hx
  obtain ⟨bx, cx, rfl, hlx, hmx, hcx⟩ := hx
  by_cases he : xs = []
  · subst he
    refine ⟨.slice ba n n, w, ?_, Below.refl _ _, Or.inl ⟨rfl, rfl, rfl⟩⟩
    rcases bx with _ | bx <;> rcases ba with _ | ba <;>
      simp [Builtin.append_, run_underlying ht, sizeOf, typeInfo, hi, Builtin.lenOf, Builtin.firstCells, loadCells, loadCellsFrom, storeCells]
  · rcases hcx with h | ⟨b, off, rfl, hcx⟩
    · exact absurd h he
    have hpos : 0 < xs.length := by cases xs with | nil => exact absurd rfl he | cons _ _ => simp
    have hnews := Arr.cells E.len T.pos hx0
    have h1 : ∀ u ∈ xs.flatMap enc, u.oneCell' = true := fun u hu => by obtain ⟨x, _, h⟩ := List.mem_flatMap.1 hu; exact E.one x u h
    have hg63 : n + xs.length ≤ 9223372036854775807 := by unfold maxLen at h63; omega
    have hlen : ((ys ++ xs).flatMap enc).length = (n + xs.length) * i.size := by rw [flat_len E.len, List.length_append, hn]
    have fin : ∀ (old : Nat), old < n + xs.length →
        (w.drew.alloc (.cells ((ys.flatMap enc).toArray ++ (xs.flatMap enc).toArray ++ Builtin.zeroCells z.cells (grownCap w (n + xs.length) old e - (n + xs.length))) e)).ownsRow w.heap.size e i.size
          (.slice (some ⟨w.heap.size, 0, none⟩) (n + xs.length) (grownCap w (n + xs.length) old e)) (n + xs.length) ((ys ++ xs).flatMap enc) ∧
        Below w.heap.size w (w.drew.alloc (.cells ((ys.flatMap enc).toArray ++ (xs.flatMap enc).toArray ++ Builtin.zeroCells z.cells (grownCap w (n + xs.length) old e - (n + xs.length))) e)) := by
      intro old ho
      have hge := grownCap_ge w (n + xs.length) old e
      have hcm : grownCap w (n + xs.length) old e ≤ maxLen := grownCap_le_maxLen w (n + xs.length) old e h63
      refine ⟨⟨hlen, .inr ⟨w.heap.size, _, _, rfl, Nat.le_refl _, heap_alloc_new w.drew _, hge, hcm, ?_, ?_⟩⟩, ((Below.refl _ _).drew).alloc (Nat.le_refl _) _⟩
      · simp only [Array.size_append, List.size_toArray, size_zeroCells, hzs, flat_len E.len, ← Nat.add_mul]
        rw [← hn]
        congr 1
        omega
      · simp only [Array.toList_append]
        rw [← List.flatMap_append, ← hlen]
        exact List.take_left
    rcases ba with _ | ⟨b0, o0, sp⟩
    · have hys : ys = [] := by
        rcases hc with h | ⟨_, _, h, _⟩
        · exact h
        · cases h
      subst hys
      simp only [List.length_nil] at hn
      subst hn
      have hr := run_append_nil (P := P) w t ty e i z ht hi hz ⟨b, off, none⟩ xs.length cx (xs.flatMap enc) (flat_len E.len xs) hnews hpos (by omega) (by simp only [Nat.zero_add] at hbytes; omega)
      have hf := fin 0 (by omega)
      simp only [Nat.zero_add, List.nil_append, List.flatMap_nil, Array.empty_append] at hf hr ⊢
      exact ⟨_, _, hr, hf.2, Or.inr ⟨he, hf.1⟩⟩
    · have holds : ∀ j u, (ys.flatMap enc)[j]? = some u → w.cell? ((⟨b0, o0, sp⟩ : Addr).add j) = some u := by
        rcases hc with h | ⟨b', o', h, _⟩
        · subst h; intro j u hu; simp at hu
        · simp only [Option.some.injEq, Addr.mk.injEq] at h
          obtain ⟨rfl, rfl, rfl⟩ := h
          exact Arr.cells E.len T.pos hd0
      have hr := run_append_grow (P := P) w t ty e i z ht hi hz ⟨b0, o0, sp⟩ n n (ys.flatMap enc) (by rw [flat_len E.len, hn]) holds ⟨b, off, none⟩ xs.length cx (xs.flatMap enc) (flat_len E.len xs) hnews (by omega) (by omega) (growslice_fits (by omega) hbytes)
      have hf := fin n (by omega)
      exact ⟨_, _, hr, hf.2, Or.inr ⟨he, hf.1⟩⟩

theorem wp_append_full {P : Program} {w : World} {o : Oper} {a : Act} {K : Act → World → Prop} {Q : Exit → Act → World → Prop} (s x : Operand) {t e : TypeId} {size bytes : Nat}
    (ho : o.op = .call { callee := .builtin .append, args := #[s, x], argTypes := #[t, t] }) (T : ElemT P t e size bytes)
    {α : Type} {enc : α → List Value} (E : EncT enc size) {ba : Option Addr} {n : Nat} {ys xs : List α} (hs : a.eval s = .slice ba n n) (hd : Arr w enc size (.slice ba n n) ys)
    {v2 : Value} (hx : a.eval x = v2) (hxs : Arr w enc size v2 xs)
    (hbytes : (n + xs.length) * bytes ≤ 140737488355328) (h63 : n + xs.length ≤ maxLen)
    (h : ∀ v' w', Below w.heap.size w w' → ((xs = [] ∧ v' = .slice ba n n ∧ w' = w) ∨ (xs ≠ [] ∧ w'.ownsRow w.heap.size e size v' (n + xs.length) ((ys ++ xs).flatMap enc))) → K (a.put o.dst v') w') : o.wp P a w K Q := by
  obtain ⟨v', w', hr, h2, h3⟩ := run_append_full (w := w) T o.type E hd hxs hbytes h63
  unfold Oper.wp execOp
  simp only [ho, resolve, invoke, builtin, Sem.run_bind, Sem.run_pure, Result.andThen_ok, List.map_toArray, List.map_cons, List.map_nil, hs, hx, hr]
  exact h v' w' h2 h3

/-- a slice of the call's own, or one without room -/
def OwnE {α : Type} (w : World) (base : Nat) (e : TypeId) (enc : α → List Value) (size : Nat) (v : Value) (xs : List α) : Prop :=
  (xs = [] ∧ ∃ ba, v = .slice ba 0 0) ∨ w.ownsRow base e size v xs.length (xs.flatMap enc)
theorem arr_empty {α : Type} (w : World) (enc : α → List Value) (s : Nat) (ba : Option Addr) : Arr w enc s (.slice ba 0 0) ([] : List α) :=
  ⟨ba, 0, rfl, Nat.le_refl _, by unfold maxLen; omega, Or.inl rfl⟩
theorem OwnE.arr {α : Type} {w : World} {base : Nat} {e : TypeId} {enc : α → List Value} {size : Nat} (E : EncT enc size) {v : Value} {xs : List α} (h : OwnE w base e enc size v xs) : Arr w enc size v xs := by
  rcases h with ⟨rfl, ba, rfl⟩ | h
  · exact arr_empty _ _ _ _
  · exact Arr.own E.len h
theorem OwnE.form {α : Type} {w : World} {base : Nat} {e : TypeId} {enc : α → List Value} {size : Nat} {v : Value} {xs : List α} (h : OwnE w base e enc size v xs) : ∃ ba cap, v = .slice ba xs.length cap := by
  rcases h with ⟨rfl, ba, rfl⟩ | ⟨_, ⟨rfl, h⟩ | ⟨g, cap, _, rfl, _⟩⟩
  · exact ⟨_, _, rfl⟩
  · rw [h]; exact ⟨_, _, rfl⟩
  · exact ⟨_, _, rfl⟩
theorem OwnE.ext {α : Type} {w w' : World} {base : Nat} {e : TypeId} {enc : α → List Value} {size : Nat} {v : Value} {xs : List α} (h : OwnE w base e enc size v xs) (hb : Below w.heap.size w w') : OwnE w' base e enc size v xs := by
  rcases h with h | ⟨h1, h⟩
  · exact Or.inl h
  · refine Or.inr ⟨h1, ?_⟩
    rcases h with h | ⟨g, cap, cur, r1, r2, r3, r4⟩
    · exact Or.inl h
    · exact Or.inr ⟨g, cap, cur, r1, r2, (hb.block g (Array.getElem?_eq_some_iff.1 r3).1).trans r3, r4⟩
theorem OwnE.base {α : Type} {w : World} {base base' : Nat} {e : TypeId} {enc : α → List Value} {size : Nat} {v : Value} {xs : List α} (h : OwnE w base e enc size v xs) (hb : base' ≤ base) : OwnE w base' e enc size v xs := by
  rcases h with h | ⟨h1, h⟩
  · exact Or.inl h
  · refine Or.inr ⟨h1, ?_⟩
    rcases h with h | ⟨g, cap, cur, r1, r2, r3⟩
    · exact Or.inl h
    · exact Or.inr ⟨g, cap, cur, r1, Nat.le_trans hb r2, r3⟩
/-- while another block is written -/
theorem OwnE.keep {α : Type} {w w' : World} {base : Nat} {e : TypeId} {enc : α → List Value} {size : Nat} {v : Value} {xs : List α} {g : Nat} (h : OwnE w base e enc size v xs) (hg : w.grownBy w' (some g)) (hlt : g < base) : OwnE w' base e enc size v xs := by
  rcases h with h | h
  · exact Or.inl h
  · refine Or.inr (h.kept hg ?_)
    cases hv : v.ownBlock with
    | none => exact Or.inl rfl
    | some k =>
      have := (h.lt k hv).1
      right
      intro e
      have e := Option.some.inj e
      omega

/-! ### a struct written whole into a block -/
theorem own_keep0 {w w' : World} {base : Nat} {e : TypeId} {size : Nat} {v : Value} {n : Nat} {xs : List Value} (h : w.ownsRow base e size v n xs) (hg : w.grownBy w' none) : w'.ownsRow base e size v n xs :=
  h.kept hg (by cases v.ownBlock <;> simp)
theorem own_keep {w w' : World} {base : Nat} {e : TypeId} {size : Nat} {v : Value} {n : Nat} {xs : List Value} {g : Nat} (h : w.ownsRow base e size v n xs) (hg : w.grownBy w' (some g)) (hlt : g < base) : w'.ownsRow base e size v n xs := by
  refine h.kept hg ?_
  cases hv : v.ownBlock with
  | none => exact Or.inl rfl
  | some k =>
    have := (h.lt k hv).1
    right
    intro e
    have e := Option.some.inj e
    omega
theorem own_base {w : World} {base base' : Nat} {e : TypeId} {size : Nat} {v : Value} {n : Nat} {xs : List Value} (h : w.ownsRow base e size v n xs) (hb : base' ≤ base) : w.ownsRow base' e size v n xs := by
  refine ⟨h.1, ?_⟩
  rcases h.2 with h | ⟨g, cap, cur, r1, r2, r3⟩
  · exact Or.inl h
  · exact Or.inr ⟨g, cap, cur, r1, Nat.le_trans hb r2, r3⟩
theorem own_form {w : World} {base : Nat} {e : TypeId} {size : Nat} {v : Value} {n : Nat} {xs : List Value} (h : w.ownsRow base e size v n xs) : ∃ ba cap, v = .slice ba n cap := by
  obtain ⟨_, ⟨rfl, rfl⟩ | ⟨g, cap, _, rfl, _⟩⟩ := h
  · exact ⟨_, _, rfl⟩
  · exact ⟨_, _, rfl⟩
/-- two rows, the one made behind the other -/
theorem own_apart {w w' : World} {base base' : Nat} {e e' : TypeId} {size size' : Nat} {v v' : Value} {n n' : Nat} {xs xs' : List Value} (h : w.ownsRow base e size v n xs) (h' : w'.ownsRow base' e' size' v' n' xs') (hb : w.heap.size ≤ base') :
    v'.ownBlock = none ∨ v.ownBlock ≠ v'.ownBlock := by
  cases hv' : v'.ownBlock with
  | none => exact Or.inl rfl
  | some k' =>
    right
    intro e
    have h1 := (h.lt k' e).2
    have h2 := (h'.lt k' hv').1
    omega
theorem grownBy_setRow (w : World) (n : Nat) (cs : Array Value) : w.grownBy (w.setRow n cs) (some n) :=
  ⟨rfl, rfl, rfl, by simp, fun k _ hk => setRow_other w n k cs (fun e => hk (by rw [e]))⟩
theorem below_setRow' {B n : Nat} {w0 w : World} (hb : Below B w0 w) (hB : B ≤ n) (cs : Array Value) : Below B w0 (w.setRow n cs) :=
  hb.trans ⟨rfl, rfl, rfl, by simp, fun k hk => setRow_other w n k cs (by omega)⟩
theorem set5 {w : World} {n : Nat} {t : TypeId} {a0 b0 c0 d0 e0 : Value} (h : w.heap[n]? = some (.cells #[a0, b0, c0, d0, e0] t)) (a b c d e : Value) :
    ((((w.setCell ⟨n, 0, none⟩ a).setCell ⟨n, 1, none⟩ b).setCell ⟨n, 2, none⟩ c).setCell ⟨n, 3, none⟩ d).setCell ⟨n, 4, none⟩ e = w.setRow n #[a, b, c, d, e] := by
  rw [setCell_eq_setRow w n 0 _ t (0, 0) a h]
  have h1 := setRow_heap w n _ (#[a0, b0, c0, d0, e0].setIfInBounds 0 a) t (0, 0) h
  rw [setCell_eq_setRow _ n 1 _ t (0, 0) b h1, setRow_setRow]
  have h2 := setRow_heap w n _ ((#[a0, b0, c0, d0, e0].setIfInBounds 0 a).setIfInBounds 1 b) t (0, 0) h
  rw [setCell_eq_setRow _ n 2 _ t (0, 0) c h2, setRow_setRow]
  have h3 := setRow_heap w n _ (((#[a0, b0, c0, d0, e0].setIfInBounds 0 a).setIfInBounds 1 b).setIfInBounds 2 c) t (0, 0) h
  rw [setCell_eq_setRow _ n 3 _ t (0, 0) d h3, setRow_setRow]
  have h4 := setRow_heap w n _ ((((#[a0, b0, c0, d0, e0].setIfInBounds 0 a).setIfInBounds 1 b).setIfInBounds 2 c).setIfInBounds 3 d) t (0, 0) h
  rw [setCell_eq_setRow _ n 4 _ t (0, 0) e h4, setRow_setRow]
  rfl

theorem two_boxes (w : World) (A B : Array Value) (t u : TypeId) :
    Below w.heap.size w ((w.alloc (.cells A t)).alloc (.cells B u)) ∧ ((w.alloc (.cells A t)).alloc (.cells B u)).heap.size = w.heap.size + 2 ∧
    ((w.alloc (.cells A t)).alloc (.cells B u)).heap[w.heap.size]? = some (.cells A t) ∧ ((w.alloc (.cells A t)).alloc (.cells B u)).heap[w.heap.size + 1]? = some (.cells B u) := by
  refine ⟨(below_box _ _).trans ((below_box _ _).mono (by simp)), by simp, ?_, ?_⟩
  · rw [((below_box (w.alloc (.cells A t)) (.cells B u)).block w.heap.size (by simp))]
    exact heap_alloc_new w _
  · have := heap_alloc_new (w.alloc (.cells A t)) (.cells B u)
    simpa using this
theorem one_box (w : World) (A : Array Value) (t : TypeId) :
    Below w.heap.size w (w.alloc (.cells A t)) ∧ (w.alloc (.cells A t)).heap.size = w.heap.size + 1 ∧ (w.alloc (.cells A t)).heap[w.heap.size]? = some (.cells A t) :=
  ⟨below_box _ _, by simp, heap_alloc_new w _⟩

/-! ### what closes a law -/
section
variable {H : Type} {enc : TypeId × Value → H} {P : Program}
theorem trodAll_below (hl : laidOutB P = true) {W W' : World} (hb : Below W.heap.size W W') : ∀ (ts : List TypeId) (vs : List Value) (ds : List (DataW H)) (ps : List MemPlace),
    (∀ t ∈ ts, P.readableRec t = true ∧ t < P.types.size) → DataW.TrodAll enc P W 0 (fun _ => true) true ts vs ds ps → (∀ x ∈ ps, x.block < W.heap.size) →
    DataW.TrodAll enc P W' 0 (fun b => decide (b < W.heap.size)) true ts vs ds ps := by
  intro ts
  induction ts with
  | nil =>
    intro vs ds ps _ h _
    cases vs <;> cases ds <;> simp_all [DataW.TrodAll]
  | cons t ts ih =>
    intro vs ds ps hr h hlt
    cases vs with
    | nil => simp [DataW.TrodAll] at h
    | cons v vs =>
      cases ds with
      | nil => simp [DataW.TrodAll] at h
      | cons d ds =>
        obtain ⟨p, q, h1, h2, rfl⟩ := h
        refine ⟨p, q, ?_, ?_, rfl⟩
        · exact Below.trod hl (hr t (by simp)).1 (hr t (by simp)).2 h1 hb (fun x hx => hlt x (by simp [hx]))
        · exact ih vs ds q (fun t ht => hr t (by simp [ht])) h2 (fun x hx => hlt x (by simp [hx]))

/-- A law that answers true and leaves all that was there as it was. -/
theorem post_of_below {f : Func} {s : ChangeSpec} {apart : Bool} {W W' : World} {args : Array Value} {ds gs : List (DataW H)} {before : List MemPlace} {tb : TypeId}
    (hl : laidOutB P = true) (hs : s.vars = []) (hpar : ∀ t ∈ f.params.toList, P.readableRec t = true ∧ t < P.types.size) (hres : f.resultTypes = #[tb]) (htb : P.underlying tb = some .bool)
    (hW : DataW.Whole enc P f.params.toList s.vars apart W args.toList ds gs before)
    (hfn : s.fn H ds = { results := [.lit (.bool true)], args := ds }) (hb : Below W.heap.size W W') : s.post enc P f apart true false false W args (.bool true) W' := by
  have hW' := hW
  obtain ⟨p, q, hA, hV, rfl, hfz, hnd⟩ := hW
  rw [hs] at hV
  obtain ⟨rfl, rfl⟩ := ChangeShapes.trodVars_none hV
  have hlt : ∀ x ∈ p, x.block < W.heap.size := fun x hx => hW'.lt x (by simp [hx])
  refine ⟨ds, [], p ++ [], [], p, [], hW', ?_, ?_, ?_, hb.frame _, fun h => by cases h⟩
  · rw [List.append_nil, hfn, hres]
    exact ChangeShapes.trodAll_mk1 (RowKit.shut_bool htb true)
  · rw [List.append_nil, hfn]
    exact trodAll_below hl hb _ _ _ _ hpar hA hlt
  · rw [List.append_nil, hfn, hs]
    exact rfl
end
end Go.Proofs.Ytkjeedlkkpgopaa
