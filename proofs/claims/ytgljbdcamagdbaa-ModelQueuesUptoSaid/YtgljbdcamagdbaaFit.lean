/- Append under the model's own bound (the next capacity's bytes at most 2^48). No statement of the program. -/
import Derived.Test.YtgljbdcamagdbaaLib
namespace Go.Proofs.Ytgljbdcamagdbaa
open Go.RowKit

/-- append onto a slice that is full (or nil): the same slice, or a row of the call's own -/
theorem run_append_fit {P : Program} {w : World} {t e : TypeId} {size bytes : Nat} (T : ElemT P t e size bytes) (ty : TypeId) {α : Type} {enc : α → List Value} (E : EncT enc size)
    {ba : Option Addr} {n : Nat} {ys xs : List α} (hd : Arr w enc size (.slice ba n n) ys) {v2 : Value} (hx : Arr w enc size v2 xs)
    (hfit : Builtin.nextslicecap (n + xs.length) n * bytes ≤ 281474976710656) (h63 : n + xs.length ≤ maxLen) :
    ∃ v' w', (Builtin.append_ #[t, t] ty #[.slice ba n n, v2]).run P w = .ok v' w' ∧ Below w.heap.size w w' ∧
      ((xs = [] ∧ v' = .slice ba n n ∧ w' = w) ∨ (xs ≠ [] ∧ w'.ownsRow w.heap.size e size v' (n + xs.length) ((ys ++ xs).flatMap enc))) := by
  obtain ⟨i, z, hi, hz, hsz, hby, hzs⟩ := T.ex
  have ht := T.ht
  subst hsz
  subst hby
  have hd0 := hd
  obtain ⟨ba', cap', hv, hl, hm, hc⟩ := hd
  simp only [Value.slice.injEq] at hv
  obtain ⟨rfl, hn, rfl⟩ := hv
  have hx0 := hx
  obtain ⟨bx, cx, rfl, hlx, hmx, hcx⟩ := hx
  by_cases he : xs = []
  · subst he
    refine ⟨.slice ba n n, w, ?_, Below.refl _ _, Or.inl ⟨rfl, rfl, rfl⟩⟩
    rcases bx with _ | bx <;> rcases ba with _ | ba <;>
      simp [Builtin.append_, run_underlying ht, sizeOf, typeInfo, hi, Builtin.lenOf, Builtin.firstCells, loadCells, loadCellsFrom, storeCells]
  · rcases hcx with h | ⟨b, off, rfl, hcx⟩
    · exact absurd h he
    have hpos : 0 < xs.length := by cases xs with | nil => exact absurd rfl he | cons _ _ => simp
    have hnews := Arr.cells E.len T.pos hx0
    have h1 : ∀ u ∈ xs.flatMap enc, u.oneCell' = true := fun u hu => by obtain ⟨x, _, h⟩ := List.mem_flatMap.1 hu; exact E.one x u h
    have hg63 : n + xs.length ≤ 9223372036854775807 := by unfold maxLen at h63; omega
    have hlen : ((ys ++ xs).flatMap enc).length = (n + xs.length) * i.size := by rw [flat_len E.len, List.length_append, hn]
    have fin : ∀ (old : Nat), old < n + xs.length →
        (w.drew.alloc (.cells ((ys.flatMap enc).toArray ++ (xs.flatMap enc).toArray ++ Builtin.zeroCells z.cells (grownCap w (n + xs.length) old e - (n + xs.length))) e)).ownsRow w.heap.size e i.size
          (.slice (some ⟨w.heap.size, 0, none⟩) (n + xs.length) (grownCap w (n + xs.length) old e)) (n + xs.length) ((ys ++ xs).flatMap enc) ∧
        Below w.heap.size w (w.drew.alloc (.cells ((ys.flatMap enc).toArray ++ (xs.flatMap enc).toArray ++ Builtin.zeroCells z.cells (grownCap w (n + xs.length) old e - (n + xs.length))) e)) := by
      intro old ho
      have hge := grownCap_ge w (n + xs.length) old e
      have hcm : grownCap w (n + xs.length) old e ≤ maxLen := grownCap_le_maxLen w (n + xs.length) old e h63
      refine ⟨⟨hlen, .inr ⟨w.heap.size, _, _, rfl, Nat.le_refl _, heap_alloc_new w.drew _, hge, hcm, ?_, ?_⟩⟩, ((Below.refl _ _).drew).alloc (Nat.le_refl _) _⟩
      · simp only [Array.size_append, List.size_toArray, size_zeroCells, hzs, flat_len E.len, ← Nat.add_mul]
        rw [← hn]
        congr 1
        omega
      · simp only [Array.toList_append]
        rw [← List.flatMap_append, ← hlen]
        exact List.take_left
    rcases ba with _ | ⟨b0, o0, sp⟩
    · have hys : ys = [] := by
        rcases hc with h | ⟨_, _, h, _⟩
        · exact h
        · cases h
      subst hys
      simp only [List.length_nil] at hn
      subst hn
      have hr := run_append_nil (P := P) w t ty e i z ht hi hz ⟨b, off, none⟩ xs.length cx (xs.flatMap enc) (flat_len E.len xs) hnews hpos (by omega) (by rw [Nat.zero_add, nextslicecap_zero hpos] at hfit; exact hfit)
      have hf := fin 0 (by omega)
      simp only [Nat.zero_add, List.nil_append, List.flatMap_nil, Array.empty_append] at hf hr ⊢
      exact ⟨_, _, hr, hf.2, Or.inr ⟨he, hf.1⟩⟩
    · have holds : ∀ j u, (ys.flatMap enc)[j]? = some u → w.cell? ((⟨b0, o0, sp⟩ : Addr).add j) = some u := by
        rcases hc with h | ⟨b', o', h, _⟩
        · subst h; intro j u hu; simp at hu
        · simp only [Option.some.injEq, Addr.mk.injEq] at h
          obtain ⟨rfl, rfl, rfl⟩ := h
          exact Arr.cells E.len T.pos hd0
      have hr := run_append_grow (P := P) w t ty e i z ht hi hz ⟨b0, o0, sp⟩ n n (ys.flatMap enc) (by rw [flat_len E.len, hn]) holds ⟨b, off, none⟩ xs.length cx (xs.flatMap enc) (flat_len E.len xs) hnews (by omega) (by omega) hfit
      have hf := fin n (by omega)
      exact ⟨_, _, hr, hf.2, Or.inr ⟨he, hf.1⟩⟩


theorem cap0 (k : Nat) : Builtin.nextslicecap k 0 = k := by
  rcases Nat.eq_zero_or_pos k with rfl | h
  · rfl
  · exact nextslicecap_zero h
theorem cap1 (k : Nat) : Builtin.nextslicecap (1 + k) 1 ≤ 2 + k := by
  unfold Builtin.nextslicecap
  split
  · omega
  · simp only [show (1 : Nat) < 256 from by decide, if_true]
    omega

/-- onto a slice without room -/
theorem wp_append_zero {P : Program} {w : World} {o : Oper} {a : Act} {K : Act → World → Prop} {Q : Exit → Act → World → Prop} (s x : Operand) {t e : TypeId} {size bytes : Nat}
    (ho : o.op = .call { callee := .builtin .append, args := #[s, x], argTypes := #[t, t] }) (T : ElemT P t e size bytes)
    {α : Type} {enc : α → List Value} (E : EncT enc size) {ba : Option Addr} {xs : List α} (hs : a.eval s = .slice ba 0 0) (hd : Arr w enc size (.slice ba 0 0) ([] : List α))
    {v2 : Value} (hx : a.eval x = v2) (hxs : Arr w enc size v2 xs)
    (hbytes : (0 + xs.length) * bytes ≤ 281474976710656) (h63 : 0 + xs.length ≤ maxLen)
    (h : ∀ v' w', Below w.heap.size w w' → ((xs = [] ∧ v' = .slice ba 0 0 ∧ w' = w) ∨ (xs ≠ [] ∧ w'.ownsRow w.heap.size e size v' (0 + xs.length) (([] ++ xs).flatMap enc))) → K (a.put o.dst v') w') : o.wp P a w K Q := by
  obtain ⟨v', w', hr, h2, h3⟩ := run_append_fit (w := w) T o.type E hd hxs (by rw [cap0]; exact hbytes) h63
  unfold Oper.wp execOp
  simp only [ho, resolve, invoke, builtin, Sem.run_bind, Sem.run_pure, Result.andThen_ok, List.map_toArray, List.map_cons, List.map_nil, hs, hx, hr]
  exact h v' w' h2 h3

/-- onto nil, as one step of a region (in place of step_append_arr) -/
theorem step_append_nil {P : Program} {w : World} {ops : Array Oper} {o : Oper} {a : Act} {K : Act → World → Prop} {Q : Exit → Act → World → Prop} {F : Prop} (hgd : o.guard = none) (s x : Operand) {t e : TypeId} {size bytes : Nat}
    (ho : o.op = .call { callee := .builtin .append, args := #[s, x], argTypes := #[t, t] }) (T : ElemT P t e size bytes)
    {α : Type} {enc : α → List Value} (E : EncT enc size) (hs : a.eval s = .slice none 0 0) {v2 : Value} {xs : List α} (hx : a.eval x = v2) (hxs : Arr w enc size v2 xs)
    (hbytes : (0 + xs.length) * bytes ≤ 281474976710656) (h63 : 0 + xs.length ≤ maxLen)
    (h : ∀ v' w', w'.ownsRow w.heap.size e size v' (0 + xs.length) ([] ++ xs.flatMap enc) → w.grownBy w' (Value.ownBlock (.slice none 0 0)) → K (a.put o.dst v') w') :
    if Region.wanted o (yielded ops a.tmps) = true then Oper.wp P o a w K Q else F := by
  have hw : Region.wanted o (yielded ops a.tmps) = true := by simp [Region.wanted, hgd]
  rw [if_pos hw]
  refine wp_append_zero s x ho T E hs (arr_empty _ _ _ _) hx hxs hbytes h63 fun v' w' hb h2 => h v' w' ?_ ⟨hb.os, hb.tape, hb.output, hb.size, fun k hk _ => hb.block k hk⟩
  rcases h2 with ⟨rfl, rfl, rfl⟩ | ⟨_, h2⟩
  · exact World.ownsRow_nil _ _ _ _
  · exact h2

/-- onto a list of one that is the call's own and full -/
theorem wpList_append_one {P : Program} {w : World} {ops : Array Oper} {rest : List Oper} {o : Oper} {a : Act} {Q : Exit → Act → World → Prop} (hgd : o.guard = none) (s x : Operand) {t e : TypeId} {size bytes : Nat}
    (ho : o.op = .call { callee := .builtin .append, args := #[s, x], argTypes := #[t, t] }) (T : ElemT P t e size bytes) (base : Nat)
    {α : Type} {enc : α → List Value} (E : EncT enc size) {ba : Option Addr} {ys : List α} (hs : a.eval s = .slice ba 1 1) (hown : OwnE w base e enc size (.slice ba 1 1) ys)
    {v2 : Value} {xs : List α} (hx : a.eval x = v2) (hxs : Arr w enc size v2 xs)
    (hbytes : (2 + xs.length) * bytes ≤ 281474976710656) (hbase : base ≤ w.heap.size)
    (h : ∀ v' w', OwnE w' base e enc size v' (ys ++ xs) → Below base w w' → wpList P ops Q rest (a.put o.dst v') w') (h63 : 1 + xs.length ≤ maxLen) : wpList P ops Q (o :: rest) a w := by
  refine wpList_plain hgd fun K hK => ?_
  have hl : ys.length = 1 := by
    obtain ⟨_, _, hv⟩ := hown.form
    simp only [Value.slice.injEq] at hv
    exact hv.2.1.symm
  obtain ⟨v', w', hr, h2, h3⟩ := run_append_fit (w := w) T o.type E (hown.arr E) hxs (Nat.le_trans (Nat.mul_le_mul_right _ (cap1 _)) hbytes) h63
  unfold Oper.wp execOp
  simp only [ho, resolve, invoke, builtin, Sem.run_bind, Sem.run_pure, Result.andThen_ok, List.map_toArray, List.map_cons, List.map_nil, hs, hx, hr]
  refine hK _ _ (h v' w' ?_ (h2.mono hbase))
  rcases h3 with ⟨rfl, rfl, rfl⟩ | ⟨_, h3⟩
  · rw [List.append_nil]; exact hown
  · have e1 : 1 + xs.length = (ys ++ xs).length := by rw [List.length_append, hl]
    rw [e1] at h3
    exact OwnE.base (Or.inr h3) hbase
end Go.Proofs.Ytgljbdcamagdbaa
