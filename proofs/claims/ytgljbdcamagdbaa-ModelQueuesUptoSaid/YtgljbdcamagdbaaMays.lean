/- The wrappers of the reference, and the law ModelMays. No conditions but those of its statement. -/
import Derived.Test.YtgljbdcamagdbaaCopied
namespace Go.Proofs.Ytgljbdcamagdbaa
open Go.RowKit

theorem mSame {v v' : Value} {m m' : MC} {w : World} (h : Cont w v m) (h' : Cont w v' m') :
    Calls Try.prog 19 #[v, v'] w fun e w' => e = .returned (.bool (decide (m = m'))) ∧ Below w.heap.size w w' := by
  obtain ⟨a, b, c, d, e, rfl, h1, h2, h3, h4, h5⟩ := h
  obtain ⟨a', b', c', d', e', rfl, h1', h2', h3', h4', h5'⟩ := h'
  obtain ⟨be, ce, rfl, _, _, g5⟩ := h5.at2
  obtain ⟨be', ce', rfl, _, _, g5'⟩ := h5'.at2
  exact mSame_core a b c d a' b' c' d' be be' _ _ ce ce' m m' w rfl rfl (by omega) (by omega) h1 h2 h3 h4 h1' h2' h3' h4' g5 g5'
theorem rSame0 {v v' : Value} {m m' : MC} {w : World} (h : Cont w v m) (h' : Cont w v' m') :
    Calls Try.prog 39 #[v, v'] w fun e w' => e = .returned (.bool (decide (m = m'))) ∧ Below w.heap.size w w' := by
  obtain ⟨a, b, c, d, e, rfl, h1, h2, h3, h4, h5⟩ := h
  obtain ⟨a', b', c', d', e', rfl, h1', h2', h3', h4', h5'⟩ := h'
  obtain ⟨be, ce, rfl, _, _, g5⟩ := h5.at2
  obtain ⟨be', ce', rfl, _, _, g5'⟩ := h5'.at2
  exact rSame_core a b c d a' b' c' d' be be' _ _ ce ce' m m' w rfl rfl (by omega) (by omega) h1 h2 h3 h4 h1' h2' h3' h4' g5 g5'

set_option maxHeartbeats 400000 in
theorem rSame {v v' : Value} {m m' : MC} {w : World} (h : Cont w v m) (h' : Cont w v' m') :
    Calls Try.prog 21 #[v, v'] w fun e w' => e = .returned (.bool (decide (m = m'))) ∧ Below w.heap.size w w' := by
  have h0 := h
  have h0' := h'
  obtain ⟨a, b, c, d, e, rfl, _⟩ := h
  obtain ⟨a', b', c', d', e', rfl, _⟩ := h'
  have C : Hid (∀ wx, Below w.heap.size w wx → Calls Try.prog 39 #[.agg #[a, b, c, d, e], .agg #[a', b', c', d', e']] wx fun e w' => e = .returned (.bool (decide (m = m'))) ∧ Below wx.heap.size wx w') :=
    fun wx hb => rSame0 (h0.below hb) (h0'.below hb)
  clear h0 h0'
  have hb0 : Hid (Below w.heap.size w ((w.alloc (.cells #[a, b, c, d, e] 29)).alloc (.cells #[a', b', c', d', e'] 29))) := (below_box _ _).trans ((below_box _ _).mono (by simp))
  go_enter Try.func21, Try.ntmps21
  go_wp2_with fail
  generalize (w.alloc (.cells #[a, b, c, d, e] 29)).alloc (.cells #[a', b', c', d', e'] 29) = W1 at *
  go_wp2_with (go_at_call 39; (with_reducible refine (C.out _ hb0.out).mono ?_); rintro e w' ⟨rfl, hb⟩)
  go_ret
  exact ⟨rfl, hb0.out.trans (hb.mono hb0.out.size)⟩

/-- what a copy answers -/
def RetOwn (W : World) (m : MC) (r : Ending) (w' : World) : Prop := ∃ v', r = .returned v' ∧ OwnC w' W.heap.size v' m ∧ Below W.heap.size W w'
/-- what a call that makes contents answers -/
def RetC (W : World) (m : MC) (r : Ending) (w' : World) : Prop := ∃ v', r = .returned v' ∧ Cont w' v' m ∧ Below W.heap.size W w'

theorem OwnC.base {w : World} {base base' : Nat} {v : Value} {m : MC} (h : OwnC w base v m) (hb : base' ≤ base) : OwnC w base' v m := by
  obtain ⟨a, b, c, d, e, rfl, h1, h2, h3, h4, h5, h6⟩ := h
  exact ⟨a, b, c, d, e, rfl, own_base h1 hb, own_base h2 hb, own_base h3 hb, own_base h4 hb, own_base h5 hb, h6⟩

set_option maxHeartbeats 400000 in
theorem rCopy {v : Value} {m : MC} {w : World} (h : Cont w v m) (hok : m.ok 0) :
    Calls Try.prog 22 #[v] w (RetOwn w m) := by
  have h0 := h
  obtain ⟨a, b, c, d, e, rfl, _⟩ := h
  have C : Hid (∀ wx, Below w.heap.size w wx → Calls Try.prog 40 #[.agg #[a, b, c, d, e]] wx (RetOwn wx m)) :=
    fun wx hb => rCopy0 (h0.below hb) hok
  clear h0 hok
  have hb0 : Hid (Below w.heap.size w ((w.alloc (.cells #[a, b, c, d, e] 29)).alloc (.cells #[.slice none 0 0, .slice none 0 0, .slice none 0 0, .slice none 0 0, .slice none 0 0] 29))) := (below_box _ _).trans ((below_box _ _).mono (by simp))
  have Y : Hid (((w.alloc (.cells #[a, b, c, d, e] 29)).alloc (.cells #[.slice none 0 0, .slice none 0 0, .slice none 0 0, .slice none 0 0, .slice none 0 0] 29)).heap[w.heap.size + 1]? = some (.cells #[.slice none 0 0, .slice none 0 0, .slice none 0 0, .slice none 0 0, .slice none 0 0] 29)) := by
    show _ = _
    have := heap_alloc_new (w.alloc (.cells #[a, b, c, d, e] 29)) (.cells #[.slice none 0 0, .slice none 0 0, .slice none 0 0, .slice none 0 0, .slice none 0 0] 29)
    simpa using this
  have hsz : w.heap.size + 2 ≤ ((w.alloc (.cells #[a, b, c, d, e] 29)).alloc (.cells #[.slice none 0 0, .slice none 0 0, .slice none 0 0, .slice none 0 0, .slice none 0 0] 29)).heap.size := by simp
  go_enter Try.func22, Try.ntmps22
  go_wp2_with fail
  generalize ((w.alloc (.cells #[a, b, c, d, e] 29)).alloc (.cells #[.slice none 0 0, .slice none 0 0, .slice none 0 0, .slice none 0 0, .slice none 0 0] 29)) = W1 at *
  (with_reducible refine (C.out _ hb0.out).mono ?_)
  rintro r w' ⟨v', rfl, ho, hb⟩
  obtain ⟨a1, b1, c1, d1, e1, rfl, h1, h2, h3, h4, h5, h6⟩ := ho
  obtain ⟨p1, q1, rfl⟩ := own_form h1
  obtain ⟨p2, q2, rfl⟩ := own_form h2
  obtain ⟨p3, q3, rfl⟩ := own_form h3
  obtain ⟨p4, q4, rfl⟩ := own_form h4
  obtain ⟨p5, q5, rfl⟩ := own_form h5
  have hY := (hb.block _ (show w.heap.size + 1 < W1.heap.size by omega)).trans Y.out
  have hBW : Below w.heap.size w w' := hb0.out.trans (hb.mono (by omega))
  have OB : Hid (OwnC (w'.setRow (w.heap.size + 1) #[.slice p1 m.cell.length q1, .slice p2 m.stack.length q2, .slice p3 m.queue.length q3, .slice p4 m.set.length q4, .slice p5 m.table.length q5]) w.heap.size (.agg #[.slice p1 m.cell.length q1, .slice p2 m.stack.length q2, .slice p3 m.queue.length q3, .slice p4 m.set.length q4, .slice p5 m.table.length q5]) m) := by
    have G := grownBy_setRow w' (w.heap.size + 1) #[.slice p1 m.cell.length q1, .slice p2 m.stack.length q2, .slice p3 m.queue.length q3, .slice p4 m.set.length q4, .slice p5 m.table.length q5]
    exact ⟨_, _, _, _, _, rfl, own_base (own_keep h1 G (by omega)) (by omega), own_base (own_keep h2 G (by omega)) (by omega), own_base (own_keep h3 G (by omega)) (by omega), own_base (own_keep h4 G (by omega)) (by omega), own_base (own_keep h5 G (by omega)) (by omega), h6⟩
  have BB : Hid (Below w.heap.size w (w'.setRow (w.heap.size + 1) #[.slice p1 m.cell.length q1, .slice p2 m.stack.length q2, .slice p3 m.queue.length q3, .slice p4 m.set.length q4, .slice p5 m.table.length q5])) :=
    below_setRow' hBW (by omega) _
  clear h1 h2 h3 h4 h5 h6 hb C
  obtain ⟨⟨z0, z1, z2, z3, z4⟩, ⟨f0, f1, f2, f3, f4⟩⟩ := blk5 hY
  go_wp2
  rw [set5 hY]
  clear z0 z1 z2 z3 z4 f0 f1 f2 f3 f4
  obtain ⟨⟨z0, z1, z2, z3, z4⟩, _⟩ := blk5 (setRow_heap w' (w.heap.size + 1) _ #[.slice p1 m.cell.length q1, .slice p2 m.stack.length q2, .slice p3 m.queue.length q3, .slice p4 m.set.length q4, .slice p5 m.table.length q5] 29 (0, 0) hY)
  refine bodyPost_ret (v := .agg #[.slice p1 m.cell.length q1, .slice p2 m.stack.length q2, .slice p3 m.queue.length q3, .slice p4 m.set.length q4, .slice p5 m.table.length q5])
    (by simp [results, Try.results22, go_sem, z0, z1, z2, z3, z4]) rfl ⟨_, rfl, OB.out, BB.out⟩

/-- contents that are made of literals -/
theorem arr_one {w : World} {B : Nat} {x : Int} {t : TypeId} (h : w.heap[B]? = some (.cells #[.int .i64 x] t)) : Arr w eI 1 (.slice (some ⟨B, 0, none⟩) 1 1) [x] := by
  refine ⟨_, 1, rfl, Nat.le_refl _, by unfold maxLen; omega, Or.inr ⟨B, 0, rfl, fun k y hk j u hu => ?_⟩⟩
  have hk0 : k = 0 := by have := (List.getElem?_eq_some_iff.1 hk).1; simpa using this
  subst hk0
  simp only [List.getElem?_cons_zero, Option.some.injEq] at hk
  subst hk
  have hj0 : j = 0 := by have := (List.getElem?_eq_some_iff.1 hu).1; simpa [eI] using this
  subst hj0
  simp only [eI, List.getElem?_cons_zero, Option.some.injEq] at hu
  subst hu
  rw [cell_of_row w B _ _ t (0, 0) h]
  rfl
theorem arr_two {w : World} {B : Nat} {x y : Int} {t : TypeId} (h : w.heap[B]? = some (.cells #[.int .i64 x, .int .i64 y] t)) : Arr w eI 1 (.slice (some ⟨B, 0, none⟩) 2 2) [x, y] := by
  refine ⟨_, 2, rfl, Nat.le_refl _, by unfold maxLen; omega, Or.inr ⟨B, 0, rfl, fun k z hk j u hu => ?_⟩⟩
  have hk0 : k < 2 := by have := (List.getElem?_eq_some_iff.1 hk).1; simpa using this
  have hj0 : j = 0 := by have := (List.getElem?_eq_some_iff.1 hu).1; simpa [eI] using this
  subst hj0
  simp only [eI, List.getElem?_cons_zero, Option.some.injEq] at hu
  subst hu
  rw [cell_of_row w B _ _ t (0, 0) h]
  match k, hk0, hk with
  | 0, _, hk => simp at hk; subst hk; rfl
  | 1, _, hk => simp at hk; subst hk; rfl

set_option maxHeartbeats 2000000 in
theorem lawMays {va vb : Value} {ma mb : MC} {w : World} (ha : Cont w va ma) (hb : Cont w vb mb) (oka : ma.ok 0) :
    Calls Try.prog 4 #[va, vb] w fun e w' => e = .returned (.bool true) ∧ Below w.heap.size w w' := by
  have ha0 := ha
  have hb0 := hb
  obtain ⟨a, b, c, d, e, rfl, _⟩ := ha
  obtain ⟨a', b', c', d', e', rfl, _⟩ := hb
  go_enter Try.func4, Try.ntmps4
  go_wp2_with fail
  have hW2 : Below w.heap.size w ((w.alloc (.cells #[a, b, c, d, e] 29)).alloc (.cells #[a', b', c', d', e'] 29)) := (below_box _ _).trans ((below_box _ _).mono (by simp))
  have hsz : ((w.alloc (.cells #[a, b, c, d, e] 29)).alloc (.cells #[a', b', c', d', e'] 29)).heap.size = w.heap.size + 1 + 1 := by simp
  have X : Hid (∀ j u, #[a, b, c, d, e][j]? = some u → ((w.alloc (.cells #[a, b, c, d, e] 29)).alloc (.cells #[a', b', c', d', e'] 29)).cell? ⟨w.heap.size, j, none⟩ = some u) :=
    fun j u h => ((below_box _ _).cell (by simp)).trans (box_cell w _ _ j u h)
  have X' : Hid (∀ j u, #[a', b', c', d', e'][j]? = some u → ((w.alloc (.cells #[a, b, c, d, e] 29)).alloc (.cells #[a', b', c', d', e'] 29)).cell? ⟨w.heap.size + 1, j, none⟩ = some u) :=
    fun j u h => box_cell' _ _ (by simp) j u h
  generalize (w.alloc (.cells #[a, b, c, d, e] 29)).alloc (.cells #[a', b', c', d', e'] 29) = W2 at *
  have HSZ := Lib.hid hsz; clear hsz
  have hle : w.heap.size + 2 ≤ W2.heap.size := by rw [HSZ.out]; omega
  -- the first three calls: contents of literals
  have k1 : Cont (W2.alloc (.cells #[.int .i64 1, .int .i64 2] 3)) (.agg #[.slice none 0 0, .slice none 0 0, .slice none 0 0, .slice (some ⟨w.heap.size + 1 + 1, 0, none⟩) 2 2, .slice none 0 0]) ⟨[], [], [], [1, 2], []⟩ :=
    ⟨_, _, _, _, _, rfl, Arr.nil _ _ _, Arr.nil _ _ _, Arr.nil _ _ _, arr_two (t := 3) (by rw [← HSZ.out]; exact heap_alloc_new W2 _), Arr.nil _ _ _⟩
  refine (mMay k1).mono ?_
  clear k1
  rintro r w3 ⟨rfl, hb3⟩
  have hb : Below (w.heap.size + 2) W2 w3 := ((Below.refl _ _).alloc hle _).trans (hb3.mono (by simp; omega))
  clear hb3
  have hm : mayB ⟨[], [], [], [1, 2], []⟩ = true := by decide
  rw [hm]
  clear hm
  go_wp2_with fail
  have k2 : Cont (w3.alloc (.cells #[.int .i64 1] 3)) (.agg #[.slice (some ⟨w3.heap.size, 0, none⟩) 1 1, .slice none 0 0, .slice none 0 0, .slice none 0 0, .slice none 0 0]) ⟨[1], [], [], [], []⟩ :=
    ⟨_, _, _, _, _, rfl, arr_one (t := 3) (heap_alloc_new w3 _), Arr.nil _ _ _, Arr.nil _ _ _, Arr.nil _ _ _, Arr.nil _ _ _⟩
  have k3 : ∀ W, Cont W (.agg #[.slice none 0 0, .slice none 0 0, .slice none 0 0, .slice none 0 0, .slice none 0 0]) ⟨[], [], [], [], []⟩ :=
    fun W => ⟨_, _, _, _, _, rfl, Arr.nil _ _ _, Arr.nil _ _ _, Arr.nil _ _ _, Arr.nil _ _ _, Arr.nil _ _ _⟩
  have hs3 := hb.size
  refine (mSame (k3 _) k2).mono ?_
  clear k2
  rintro r w4 ⟨rfl, hb4⟩
  have hb4' : Below (w.heap.size + 2) W2 w4 := (hb.alloc (by omega) _).trans (hb4.mono (by simp; omega))
  clear hb hb4
  have hm : decide ((⟨[], [], [], [], []⟩ : MC) = ⟨[1], [], [], [], []⟩) = false := by decide
  rw [hm]
  clear hm
  go_wp2_with fail
  have k4 : Cont (w4.alloc (.cells #[] 3)) (.agg #[.slice none 0 0, .slice none 0 0, .slice (some ⟨w4.heap.size, 0, none⟩) 0 0, .slice none 0 0, .slice none 0 0]) ⟨[], [], [], [], []⟩ :=
    ⟨_, _, _, _, _, rfl, Arr.nil _ _ _, Arr.nil _ _ _, arr_empty _ _ _ _, Arr.nil _ _ _, Arr.nil _ _ _⟩
  have hs4 := hb4'.size
  refine (mSame k4 (k3 _)).mono ?_
  clear k4 k3
  rintro r w5 ⟨rfl, hb5⟩
  have hb : Below (w.heap.size + 2) W2 w5 := (hb4'.alloc (by omega) _).trans (hb5.mono (by simp; omega))
  clear hb4' hb5
  have hm : decide ((⟨[], [], [], [], []⟩ : MC) = ⟨[], [], [], [], []⟩) = true := by decide
  rw [hm]
  clear hm hs3 hs4
  go_wp2_with fail
  -- the last statement: ten calls
  obtain ⟨pa, qa⟩ : ∃ p, mayB ma = p := ⟨_, rfl⟩
  obtain ⟨pb, qb⟩ : ∃ p, mayB mb = p := ⟨_, rfl⟩
  obtain ⟨pc, qc⟩ : ∃ p, decide (ma = mb) = p := ⟨_, rfl⟩
  have qc' : decide (mb = ma) = pc := by rw [← qc]; exact decide_eq_decide.2 eq_comm
  have HA := Lib.hid ha0; clear ha0
  have HB := Lib.hid hb0; clear hb0
  have A1 : Hid (∀ wx, Below w.heap.size w wx → Calls Try.prog 18 #[.agg #[a, b, c, d, e]] wx fun e w' => e = .returned (.bool pa) ∧ Below wx.heap.size wx w') := fun wx h => by rw [← qa]; exact mMay (HA.out.below h)
  have A2 : Hid (∀ wx, Below w.heap.size w wx → Calls Try.prog 20 #[.agg #[a, b, c, d, e]] wx fun e w' => e = .returned (.bool pa) ∧ Below wx.heap.size wx w') := fun wx h => by rw [← qa]; exact rMay (HA.out.below h)
  have B1 : Hid (∀ wx, Below w.heap.size w wx → Calls Try.prog 18 #[.agg #[a', b', c', d', e']] wx fun e w' => e = .returned (.bool pb) ∧ Below wx.heap.size wx w') := fun wx h => by rw [← qb]; exact mMay (HB.out.below h)
  have B2 : Hid (∀ wx, Below w.heap.size w wx → Calls Try.prog 20 #[.agg #[a', b', c', d', e']] wx fun e w' => e = .returned (.bool pb) ∧ Below wx.heap.size wx w') := fun wx h => by rw [← qb]; exact rMay (HB.out.below h)
  have S1 : Hid (∀ wx, Below w.heap.size w wx → Calls Try.prog 19 #[.agg #[a, b, c, d, e], .agg #[a', b', c', d', e']] wx fun e w' => e = .returned (.bool pc) ∧ Below wx.heap.size wx w') := fun wx h => by rw [← qc]; exact mSame (HA.out.below h) (HB.out.below h)
  have S2 : Hid (∀ wx, Below w.heap.size w wx → Calls Try.prog 21 #[.agg #[a, b, c, d, e], .agg #[a', b', c', d', e']] wx fun e w' => e = .returned (.bool pc) ∧ Below wx.heap.size wx w') := fun wx h => by rw [← qc]; exact rSame (HA.out.below h) (HB.out.below h)
  have S3 : Hid (∀ wx, Below w.heap.size w wx → Calls Try.prog 19 #[.agg #[a', b', c', d', e'], .agg #[a, b, c, d, e]] wx fun e w' => e = .returned (.bool pc) ∧ Below wx.heap.size wx w') := fun wx h => by rw [← qc']; exact mSame (HB.out.below h) (HA.out.below h)
  have K1 : Hid (∀ wx, Below w.heap.size w wx → Calls Try.prog 22 #[.agg #[a, b, c, d, e]] wx (RetOwn wx ma)) := fun wx h => rCopy (HA.out.below h) oka
  have S4 : Hid (∀ wx v, Below w.heap.size w wx → Hid (Cont wx v ma) → Calls Try.prog 19 #[.agg #[a, b, c, d, e], v] wx fun e w' => e = .returned (.bool true) ∧ Below wx.heap.size wx w') := fun wx v h hv => by have := mSame (HA.out.below h) hv.out; simpa using this
  clear qa qb qc qc' oka HA HB
  have hl2 : w.heap.size < w.heap.size + 2 := by omega
  have hl3 : w.heap.size + 1 < w.heap.size + 2 := by omega
  have hbd := Below.drew hb
  clear hb
  have hbw : Below w.heap.size w w5.drew := hW2.trans (hbd.mono (by omega))
  go_region_held3 (fun w' => (w'.cell? ⟨w.heap.size, 0, none⟩ = some a ∧ w'.cell? ⟨w.heap.size, 1, none⟩ = some b ∧ w'.cell? ⟨w.heap.size, 2, none⟩ = some c ∧ w'.cell? ⟨w.heap.size, 3, none⟩ = some d ∧ w'.cell? ⟨w.heap.size, 4, none⟩ = some e) ∧
      (w'.cell? ⟨w.heap.size + 1, 0, none⟩ = some a' ∧ w'.cell? ⟨w.heap.size + 1, 1, none⟩ = some b' ∧ w'.cell? ⟨w.heap.size + 1, 2, none⟩ = some c' ∧ w'.cell? ⟨w.heap.size + 1, 3, none⟩ = some d' ∧ w'.cell? ⟨w.heap.size + 1, 4, none⟩ = some e'))
    (first | (with_reducible exact ⟨box5 X.out hbd hl2, box5 X'.out hbd hl3⟩))
    (first
      | (go_at_call 22; (with_reducible refine (K1.out _ hbw).mono ?_); rintro r w6 ⟨v6, rfl, ho6, hb6⟩; have hbd := below_call hbd hle hb6; have hbw := hW2.trans (hbd.mono (by omega)); have hv6 := Lib.hid ho6.cont)
      | ((first | (go_at_call 18; first | (with_reducible refine (A1.out _ hbw).mono ?_) | (with_reducible refine (B1.out _ hbw).mono ?_)) | (go_at_call 20; first | (with_reducible refine (A2.out _ hbw).mono ?_) | (with_reducible refine (B2.out _ hbw).mono ?_)) | (go_at_call 19; first | (with_reducible refine (S1.out _ hbw).mono ?_) | (with_reducible refine (S3.out _ hbw).mono ?_) | (with_reducible refine (S4.out _ _ hbw hv6).mono ?_)) | (go_at_call 21; (with_reducible refine (S2.out _ hbw).mono ?_))); rintro r w6 ⟨rfl, hb6⟩; have hbd := below_call hbd hle hb6; have hbw := hW2.trans (hbd.mono (by omega))))
  go_wp2
  go_ret
  exact ⟨rfl, hbw⟩
end Go.Proofs.Ytgljbdcamagdbaa
