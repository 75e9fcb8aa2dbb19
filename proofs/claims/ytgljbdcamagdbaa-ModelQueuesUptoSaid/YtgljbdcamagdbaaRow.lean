/- copy, append and clear over a block of the call's own, elements of any number of cells. No statement of the program. -/
import Derived.Test.YtgljbdcamagdbaaLib
import Derived.Laws.CopyOwn
import Derived.Lib.AppendZerosOnto
import Derived.Lib.SliceRun
import Derived.ArgAppend
namespace Go.Proofs.Ytgljbdcamagdbaa
open Go.RowKit

/-- what the laws ask of an element type -/
structure ElemI (P : Program) (e : TypeId) (size bytes : Nat) (z : Value) : Prop where
  ex : ∃ i, P.info? e = some i ∧ i.zero = some z ∧ i.size = size ∧ i.bytes = bytes
  zs : z.cells.size = size
  z1 : ∀ u ∈ z.cells.toList, u.oneCell' = true
  pos : 0 < size

theorem ElemI.sizeOf {P : Program} {e : TypeId} {size bytes : Nat} {z : Value} (I : ElemI P e size bytes z) (w : World) : (Go.sizeOf e).run P w = .ok size w := by
  obtain ⟨i0, hi, _, hs, _⟩ := I.ex
  simp [Go.sizeOf, typeInfo, hi, hs]

theorem run_copy_rowS {P : Program} (w : World) (dT sT ty elem : TypeId) (s : Nat) (g o dLen dCap : Nat) (a : Addr) (sLen sCap : Nat) (cur : List Value) (t : TypeId) (cs : List Value)
    (hu : P.underlying dT = some (.slice elem)) (hs : (P.info? elem).map (·.size) = some s)
    (hg : w.heap[g]? = some (.cells cur.toArray t (0, 0))) (hn : cs.length = Nat.min sLen dLen * s)
    (hsrc : ∀ j v, cs[j]? = some v → w.cell? (a.add j) = some v) (hfit : o + cs.length ≤ cur.length) (h1 : ∀ v ∈ cs, v.oneCell' = true) :
    (Builtin.copy_ #[dT, sT] ty #[.slice (some ⟨g, o, none⟩) dLen dCap, .slice (some a) sLen sCap]).run P w =
      .ok (goInt (Nat.min sLen dLen)) (w.setRow g (splice cur o cs).toArray) := by
  have hl := run_loadCells_list (P := P) w a cs hsrc
  have hst := run_storeCells_at P g o t cs 0 cur.toArray w hg (by simpa using hfit) h1
  cases hq : P.info? elem with
  | none => simp [hq] at hs
  | some i =>
    have hi : i.size = s := by simpa [hq] using hs
    subst hi
    simp [Builtin.copy_, run_underlying hu, Builtin.lenOf, Builtin.firstCells, sizeOf, typeInfo, hq, ← hn, hl, hst, splice]

theorem wp_copy_rowS {P : Program} {w : World} {o : Oper} {a : Act} {K : Act → World → Prop} {Q : Exit → Act → World → Prop} (d s : Operand) (dT sT : TypeId)
    (ho : o.op = .call { callee := .builtin .copy, args := #[d, s], argTypes := #[dT, sT] }) (elem : TypeId) (size : Nat) (hu : P.underlying dT = some (.slice elem)) (hsz : (P.info? elem).map (·.size) = some size)
    {g off dLen dCap : Nat} {ad : Addr} {sLen sCap : Nat} (hd : a.eval d = .slice (some ⟨g, off, none⟩) dLen dCap) (hs : a.eval s = .slice (some ad) sLen sCap)
    {cur : List Value} {t : TypeId} (hg : w.heap[g]? = some (.cells cur.toArray t (0, 0))) (cs : List Value) (hn : cs.length = Nat.min sLen dLen * size)
    (hsrc : ∀ j v, cs[j]? = some v → w.cell? (ad.add j) = some v) (hfit : off + cs.length ≤ cur.length) (h1 : ∀ v ∈ cs, v.oneCell' = true)
    (h : ∀ w', w' = w.setRow g (splice cur off cs).toArray → K (a.put o.dst (goInt (Nat.min sLen dLen))) w') : o.wp P a w K Q := by
  have hr := run_copy_rowS (P := P) w dT sT o.type elem size g off dLen dCap ad sLen sCap cur t cs hu hsz hg hn hsrc hfit h1
  unfold Oper.wp execOp
  simp only [ho, resolve, invoke, builtin, Sem.run_bind, Sem.run_pure, Result.andThen_ok, List.map_toArray, List.map_cons, List.map_nil, hs, hd, hr]
  exact h _ rfl
theorem wpList_copy_rowS {P : Program} {w : World} {ops : Array Oper} {rest : List Oper} {o : Oper} {a : Act} {Q : Exit → Act → World → Prop} (hgd : o.guard = none) (d s : Operand) (dT sT : TypeId)
    (ho : o.op = .call { callee := .builtin .copy, args := #[d, s], argTypes := #[dT, sT] }) (elem : TypeId) (size : Nat) (hu : P.underlying dT = some (.slice elem)) (hsz : (P.info? elem).map (·.size) = some size)
    {g off dLen dCap : Nat} {ad : Addr} {sLen sCap : Nat} (hd : a.eval d = .slice (some ⟨g, off, none⟩) dLen dCap) (hs : a.eval s = .slice (some ad) sLen sCap)
    {cur : List Value} {t : TypeId} (hg : w.heap[g]? = some (.cells cur.toArray t (0, 0))) (cs : List Value) (hn : cs.length = Nat.min sLen dLen * size)
    (hsrc : ∀ j v, cs[j]? = some v → w.cell? (ad.add j) = some v) (hfit : off + cs.length ≤ cur.length) (h1 : ∀ v ∈ cs, v.oneCell' = true)
    (h : ∀ w', w' = w.setRow g (splice cur off cs).toArray → wpList P ops Q rest (a.put o.dst (goInt (Nat.min sLen dLen))) w') : wpList P ops Q (o :: rest) a w :=
  wpList_plain hgd fun _ hK => wp_copy_rowS d s dT sT ho elem size hu hsz hd hs hg cs hn hsrc hfit h1 fun w' e => hK _ _ (h w' e)
theorem step_copy_rowS {P : Program} {w : World} {ops : Array Oper} {o : Oper} {a : Act} {K : Act → World → Prop} {Q : Exit → Act → World → Prop} {F : Prop} (hgd : o.guard = none) (d s : Operand) (dT sT : TypeId)
    (ho : o.op = .call { callee := .builtin .copy, args := #[d, s], argTypes := #[dT, sT] }) (elem : TypeId) (size : Nat) (hu : P.underlying dT = some (.slice elem)) (hsz : (P.info? elem).map (·.size) = some size)
    {g off dLen dCap : Nat} {ad : Addr} {sLen sCap : Nat} (hd : a.eval d = .slice (some ⟨g, off, none⟩) dLen dCap) (hs : a.eval s = .slice (some ad) sLen sCap)
    {cur : List Value} {t : TypeId} (hg : w.heap[g]? = some (.cells cur.toArray t (0, 0))) (cs : List Value) (hn : cs.length = Nat.min sLen dLen * size)
    (hsrc : ∀ j v, cs[j]? = some v → w.cell? (ad.add j) = some v) (hfit : off + cs.length ≤ cur.length) (h1 : ∀ v ∈ cs, v.oneCell' = true)
    (h : ∀ w', w' = w.setRow g (splice cur off cs).toArray → K (a.put o.dst (goInt (Nat.min sLen dLen))) w') :
    if Region.wanted o (yielded ops a.tmps) = true then Oper.wp P o a w K Q else F := by
  have hw : Region.wanted o (yielded ops a.tmps) = true := by simp [Region.wanted, hgd]
  rw [if_pos hw]
  exact wp_copy_rowS d s dT sT ho elem size hu hsz hd hs hg cs hn hsrc hfit h1 h

/-- append(s[:i], make(S, k)...) that must grow: a new row -/
theorem run_append_zeros {P : Program} {w : World} {t tn e : TypeId} (ty : TypeId) {size bytes : Nat} {z : Value} (I : ElemI P e size bytes z) (ht : P.underlying t = some (.slice e)) (htn : P.underlying tn = some (.int .i64))
    (b : Addr) (sLen sCap k : Nat) (olds : List Value) (hlo : olds.length = sLen * size) (holds : ∀ j v, olds[j]? = some v → w.cell? (b.add j) = some v) (h0 : 0 < k) (hg : sCap < sLen + k)
    (hbytes : (sLen + k) * bytes ≤ 140737488355328) (h63 : sLen + k ≤ maxLen) :
    ∃ (cap : Nat) (spare : List Value), (Builtin.append_ #[t, tn] ty #[.slice (some b) sLen sCap, .int .i64 k]).run P w =
      .ok (.slice (some ⟨w.heap.size, 0, none⟩) (sLen + k) cap) (w.drew.alloc (.cells (olds ++ (Builtin.zeroCells z.cells k).toList ++ spare).toArray e)) ∧ sLen + k ≤ cap ∧ cap ≤ maxLen ∧
      (olds ++ (Builtin.zeroCells z.cells k).toList ++ spare).length = cap * size := by
  obtain ⟨i, hi, hz, hsz, hby⟩ := I.ex
  subst hsz
  subst hby
  have hold : (Builtin.firstCells i.size sLen (.slice (some b) sLen sCap)).run P w.drew = .ok olds.toArray w.drew :=
    run_firstCells_some (P := P) w.drew i.size sLen b sLen sCap olds hlo (by simpa using holds)
  have hr := Lib.run_append_grow_zeros w t tn ty e i z .i64 .i64 ht htn hi hz (some b) sLen sCap olds hold k h0 I.pos hg (by unfold maxLen at h63; omega) (by
    have : k * i.bytes ≤ (sLen + k) * i.bytes := Nat.mul_le_mul_right _ (by omega)
    omega) (growslice_fits hg hbytes)
  have hge := grownCap_ge w (sLen + k) sCap e
  have hcm : grownCap w (sLen + k) sCap e ≤ maxLen := grownCap_le_maxLen w (sLen + k) sCap e h63
  refine ⟨grownCap w (sLen + k) sCap e, (Builtin.zeroCells z.cells (grownCap w (sLen + k) sCap e - (sLen + k))).toList, ?_, hge, hcm, ?_⟩
  · rw [hr]
    congr 2
    simp
  · simp only [List.length_append, Array.length_toList, size_zeroCells, I.zs, hlo, ← Nat.add_mul]
    congr 1
    omega

theorem wpList_append_zeros {P : Program} {w : World} {ops : Array Oper} {rest : List Oper} {o : Oper} {a : Act} {Q : Exit → Act → World → Prop} (hgd : o.guard = none) (s x : Operand) {t tn e : TypeId} {size bytes : Nat} {z : Value}
    (ho : o.op = .call { callee := .builtin .append, args := #[s, x], argTypes := #[t, tn] }) (I : ElemI P e size bytes z) (ht : P.underlying t = some (.slice e)) (htn : P.underlying tn = some (.int .i64))
    {b : Addr} {sLen sCap : Nat} (hs : a.eval s = .slice (some b) sLen sCap) (k : Nat) {kk : Int} (hx : a.eval x = .int .i64 kk) (hk : kk = k) (olds : List Value) (hlo : olds.length = sLen * size) (holds : ∀ j v, olds[j]? = some v → w.cell? (b.add j) = some v) (h0 : 0 < k) (hg : sCap < sLen + k)
    (hbytes : (sLen + k) * bytes ≤ 140737488355328) (h63 : sLen + k ≤ maxLen)
    (h : ∀ w' cap Z spare, w'.heap[w.heap.size]? = some (.cells (olds ++ (Z ++ spare)).toArray e (0, 0)) → Below w.heap.size w w' → w.heap.size < w'.heap.size → Z.length = k * size → sLen + k ≤ cap → cap ≤ maxLen → (olds ++ (Z ++ spare)).length = cap * size →
      wpList P ops Q rest (a.put o.dst (.slice (some ⟨w.heap.size, 0, none⟩) (sLen + k) cap)) w') : wpList P ops Q (o :: rest) a w := by
  subst hk
  obtain ⟨cap, spare, hr, h1, h2, h3⟩ := run_append_zeros (w := w) o.type I ht htn b sLen sCap k olds hlo holds h0 hg hbytes h63
  refine wpList_plain hgd fun K hK => ?_
  unfold Oper.wp execOp
  simp only [ho, resolve, invoke, builtin, Sem.run_bind, Sem.run_pure, Result.andThen_ok, List.map_toArray, List.map_cons, List.map_nil, hs, hx, hr]
  rw [List.append_assoc] at h3 ⊢
  refine hK _ _ (h _ cap _ spare (heap_alloc_new w.drew _) (((Below.refl _ _).drew).alloc (Nat.le_refl _) _) (by simp) ?_ h1 h2 h3)
  rw [Array.length_toList, size_zeroCells, I.zs]

/-- append within its room, in a row of the call's own -/
theorem run_append_rowS {P : Program} (w : World) {t ty e : TypeId} {size bytes : Nat} {z : Value} (I : ElemI P e size bytes z) (ht : P.underlying t = some (.slice e))
    (g o n cap : Nat) (a : Addr) (m c : Nat) (cur : List Value) (tt : TypeId) (cs : List Value)
    (hg : w.heap[g]? = some (.cells cur.toArray tt (0, 0))) (hn : cs.length = m * size) (hroom : n + m ≤ cap)
    (hsrc : ∀ j v, cs[j]? = some v → w.cell? (a.add j) = some v) (hfit : o + n * size + cs.length ≤ cur.length) (h1 : ∀ v ∈ cs, v.oneCell' = true) :
    (Builtin.append_ #[t, t] ty #[.slice (some ⟨g, o, none⟩) n cap, .slice (some a) m c]).run P w =
      .ok (.slice (some ⟨g, o, none⟩) (n + m) cap) (w.setRow g (splice cur (o + n * size) cs).toArray) := by
  obtain ⟨i, hi, _, hs, _⟩ := I.ex
  subst hs
  have hfc := run_firstCells_some (P := P) w i.size m a m c cs hn hsrc
  have hst := run_storeCells_at P g (o + n * i.size) tt cs 0 cur.toArray w hg (by simpa using hfit) h1
  simp only [Nat.add_zero] at hst
  simp [Builtin.append_, run_underlying ht, sizeOf, typeInfo, hi, Builtin.lenOf, hroom, hfc, Addr.add_lit, hst, splice]
theorem step_append_rowS {P : Program} {w : World} {ops : Array Oper} {o : Oper} {a : Act} {K : Act → World → Prop} {Q : Exit → Act → World → Prop} {F : Prop} (hgd : o.guard = none) (d s : Operand) (dT : TypeId)
    (ho : o.op = .call { callee := .builtin .append, args := #[d, s], argTypes := #[dT, dT] }) {e : TypeId} {size bytes : Nat} {z : Value} (I : ElemI P e size bytes z) (hu : P.underlying dT = some (.slice e))
    {g off n cap : Nat} {ad : Addr} {m c : Nat} (hd : a.eval d = .slice (some ⟨g, off, none⟩) n cap) (hs : a.eval s = .slice (some ad) m c)
    {cur : List Value} {t : TypeId} (hg : w.heap[g]? = some (.cells cur.toArray t (0, 0))) (cs : List Value) (hn : cs.length = m * size) (hroom : n + m ≤ cap)
    (hsrc : ∀ j v, cs[j]? = some v → w.cell? (ad.add j) = some v) (hfit : off + n * size + cs.length ≤ cur.length) (h1 : ∀ v ∈ cs, v.oneCell' = true)
    (h : ∀ w', w' = w.setRow g (splice cur (off + n * size) cs).toArray → K (a.put o.dst (.slice (some ⟨g, off, none⟩) (n + m) cap)) w') :
    if Region.wanted o (yielded ops a.tmps) = true then Oper.wp P o a w K Q else F := by
  have hw : Region.wanted o (yielded ops a.tmps) = true := by simp [Region.wanted, hgd]
  rw [if_pos hw]
  have hr := run_append_rowS (P := P) w (ty := o.type) I hu g off n cap ad m c cur t cs hg hn hroom hsrc hfit h1
  unfold Oper.wp execOp
  simp only [ho, resolve, invoke, builtin, Sem.run_bind, Sem.run_pure, Result.andThen_ok, List.map_toArray, List.map_cons, List.map_nil, hs, hd, hr]
  exact h _ rfl

theorem mem_zeroCells {z : Array Value} {n : Nat} {u : Value} (h : u ∈ (Builtin.zeroCells z n).toList) : u ∈ z.toList := by
  simp only [Builtin.zeroCells] at h
  simp only [Array.toList_map, Array.toList_range, List.mem_map, List.mem_range] at h
  obtain ⟨a, ha, rfl⟩ := h
  have h0 : 0 < z.size := by rcases Nat.eq_zero_or_pos z.size with h | h; · rw [h] at ha; omega
                             · exact h
  have h1 : a % z.size < z.size := Nat.mod_lt _ h0
  simp [getElem!_pos, h1]
/-- clear of one element in a row of the call's own -/
theorem run_clear_rowS {P : Program} (w : World) {t ty e : TypeId} {size bytes : Nat} {z : Value} (I : ElemI P e size bytes z) (ht : P.underlying t = some (.slice e))
    (g o n c : Nat) (cur : List Value) (tt : TypeId)
    (hg : w.heap[g]? = some (.cells cur.toArray tt (0, 0))) (hn : n ≠ 0) (hfit : o + n * size ≤ cur.length) :
    ∃ cs : List Value, cs.length = n * size ∧ (Builtin.clear_ #[t] ty #[.slice (some ⟨g, o, none⟩) n c]).run P w =
      .ok (.tuple #[]) (w.setRow g (splice cur o cs).toArray) := by
  obtain ⟨i, hi, hz, hs, _⟩ := I.ex
  subst hs
  refine ⟨(Builtin.zeroCells z.cells n).toList, by rw [Array.length_toList, size_zeroCells, I.zs], ?_⟩
  have hst := run_storeCells_at P g o tt (Builtin.zeroCells z.cells n).toList 0 cur.toArray w hg (by rw [Array.length_toList, size_zeroCells, I.zs]; simpa using hfit) (by
    intro u hu
    exact I.z1 u (mem_zeroCells hu))
  have hv : (zeroValue e).run P w = .ok z w := by simp [zeroValue, typeInfo, hi, hz]
  obtain ⟨k, rfl⟩ : ∃ k, n = k + 1 := ⟨n - 1, by omega⟩
  simp [Builtin.clear_, run_underlying ht, hv, hst, splice]
theorem wpList_clear_rowS {P : Program} {w : World} {ops : Array Oper} {rest : List Oper} {o : Oper} {a : Act} {Q : Exit → Act → World → Prop} (hgd : o.guard = none) (d : Operand) (dT : TypeId)
    (ho : o.op = .call { callee := .builtin .clear, args := #[d], argTypes := #[dT] }) {e : TypeId} {size bytes : Nat} {z : Value} (I : ElemI P e size bytes z) (hu : P.underlying dT = some (.slice e))
    {g off n c : Nat} (hd : a.eval d = .slice (some ⟨g, off, none⟩) n c) {cur : List Value} {t : TypeId} (hg : w.heap[g]? = some (.cells cur.toArray t (0, 0))) (hn : n ≠ 0) (hfit : off + n * size ≤ cur.length)
    (h : ∀ w' cs, cs.length = n * size → w' = w.setRow g (splice cur off cs).toArray → wpList P ops Q rest (a.put o.dst (.tuple #[])) w') : wpList P ops Q (o :: rest) a w := by
  obtain ⟨cs, hcs, hr⟩ := run_clear_rowS (P := P) w (ty := o.type) I hu g off n c cur t hg hn hfit
  refine wpList_plain hgd fun K hK => ?_
  unfold Oper.wp execOp
  simp only [ho, resolve, invoke, builtin, Sem.run_bind, Sem.run_pure, Result.andThen_ok, List.map_toArray, List.map_cons, List.map_nil, hd, hr]
  exact hK _ _ (h _ cs hcs rfl)

theorem splice_at {α : Type} (X Z R E : List α) (k : Nat) (hX : X.length = k) (hZ : Z.length = E.length) : splice (X ++ (Z ++ R)) k E = X ++ (E ++ R) := by
  subst hX
  unfold splice
  rw [List.take_left, ← hZ]
  congr 2
  rw [← List.append_assoc, show X.length + Z.length = (X ++ Z).length by simp, List.drop_left]
/-- an entry put in, in place: the tail moved up, then the entry laid -/
theorem splice_ins {α : Type} (X Y S E : List α) (k s : Nat) (hX : X.length = k) (hE : E.length = s) (hS : s ≤ S.length) :
    splice (splice (X ++ (Y ++ S)) (k + s) Y) k E = X ++ (E ++ (Y ++ S.drop s)) := by
  obtain ⟨Z, R, hZR, hZ⟩ : ∃ Z R, Y ++ S = Z ++ R ∧ Z.length = s := ⟨(Y ++ S).take s, (Y ++ S).drop s, (List.take_append_drop _ _).symm, by rw [List.length_take, List.length_append]; omega⟩
  have e1 : splice (X ++ (Y ++ S)) (k + s) Y = (X ++ Z) ++ (Y ++ S.drop s) := by
    rw [hZR, ← List.append_assoc]
    have hR : R = (R.take Y.length) ++ R.drop Y.length := (List.take_append_drop _ _).symm
    have hRl : R.length = Y.length + S.length - s := by
      have := congrArg List.length hZR
      simp only [List.length_append] at this
      omega
    rw [hR, splice_at (X ++ Z) (R.take Y.length) (R.drop Y.length) Y (k + s) (by simp [hX, hZ]) (by rw [List.length_take]; omega)]
    congr 2
    have h2 : (Y ++ S).drop (s + Y.length) = R.drop Y.length := by
      rw [hZR, ← hZ, List.drop_append, show Z.length + Y.length - Z.length = Y.length by omega, List.drop_eq_nil_of_le (by omega), List.nil_append]
    rw [← h2, List.drop_append, show s + Y.length - Y.length = s by omega, List.drop_eq_nil_of_le (by omega), List.nil_append]
  rw [e1, List.append_assoc, splice_at X Z (Y ++ S.drop s) E k hX (by rw [hZ, hE])]
/-- an entry put in, into a new row -/
theorem splice_new {α : Type} (X Z S E Y : List α) (k s : Nat) (hX : X.length = k) (hE : E.length = s) (hZ : Z.length = s + Y.length) :
    splice (splice (X ++ (Z ++ S)) k E) (k + s) Y = X ++ (E ++ (Y ++ S)) := by
  have hz : Z = Z.take s ++ Z.drop s := (List.take_append_drop _ _).symm
  rw [hz, List.append_assoc, splice_at X (Z.take s) (Z.drop s ++ S) E k hX (by rw [List.length_take, hE]; omega), ← List.append_assoc,
    splice_at (X ++ E) (Z.drop s) S Y (k + s) (by simp [hX, hE]) (by rw [List.length_drop]; omega), List.append_assoc]
end Go.Proofs.Ytgljbdcamagdbaa
