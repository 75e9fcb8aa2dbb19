/- reclaimmodel.Copy and model.copied make contents in new memory. The lists are so short that memory bears them. -/
import Derived.Test.YtgljbdcamagdbaaSame2
import Derived.Test.YtgljbdcamagdbaaFit
import Derived.Deep.RegionHeld3
import Derived.Deep.AppendLies
namespace Go.Proofs.Ytgljbdcamagdbaa
open Go.RowKit

theorem tI : ElemT Try.prog 26 3 1 8 := by
  refine ⟨Try.underlying26, ?_, by decide⟩
  obtain ⟨i0, hi, hz0, hz1, hz2⟩ := info_parts (show (Try.prog.info? 3).map (fun i => (i.zero, i.size, i.bytes)) = some (some (.int .i64 0), 1, 8) by kernel_rfl)
  exact ⟨i0, _, hi, hz0, hz1, hz2, rfl⟩
theorem tP : ElemT Try.prog 27 76 2 16 := by
  refine ⟨Try.underlying27, ?_, by decide⟩
  obtain ⟨i0, hi, hz0, hz1, hz2⟩ := info_parts (show (Try.prog.info? 76).map (fun i => (i.zero, i.size, i.bytes)) = some (some (.agg #[.int .i64 0, .int .i64 0]), 2, 16) by kernel_rfl)
  exact ⟨i0, _, hi, hz0, hz1, hz2, rfl⟩

/-- room for k entries more in each list -/
def MC.ok (k : Nat) (m : MC) : Prop :=
  (m.cell.length + k) * 8 ≤ 140737488355328 ∧ (m.stack.length + k) * 8 ≤ 281474976710648 ∧ (m.queue.length + k) * 8 ≤ 140737488355328 ∧ (m.set.length + k) * 8 ≤ 140737488355328 ∧ (m.table.length + k) * 16 ≤ 140737488355328

def Apart (x y : Value) : Prop := y.ownBlock = none ∨ x.ownBlock ≠ y.ownBlock

/-- contents in memory of the call's own, from block 'base' on, each list in a block of its own -/
def OwnC (w : World) (base : Nat) (v : Value) (m : MC) : Prop :=
  ∃ a b c d e, v = .agg #[a, b, c, d, e] ∧ w.ownsRow base 3 1 a m.cell.length (m.cell.flatMap eI) ∧ w.ownsRow base 3 1 b m.stack.length (m.stack.flatMap eI) ∧
    w.ownsRow base 3 1 c m.queue.length (m.queue.flatMap eI) ∧ w.ownsRow base 3 1 d m.set.length (m.set.flatMap eI) ∧ w.ownsRow base 76 2 e m.table.length (m.table.flatMap eP) ∧
    Apart a c ∧ Apart b c ∧ Apart d c ∧ Apart e c

theorem OwnC.cont {w : World} {base : Nat} {v : Value} {m : MC} (h : OwnC w base v m) : Cont w v m := by
  obtain ⟨a, b, c, d, e, rfl, h1, h2, h3, h4, h5, _⟩ := h
  exact ⟨a, b, c, d, e, rfl, Arr.own eI_ok.len h1, Arr.own eI_ok.len h2, Arr.own eI_ok.len h3, Arr.own eI_ok.len h4, Arr.own eP_ok.len h5⟩

theorem blk5 {W : World} {n : Nat} {a b c d e : Value} {t : TypeId} (h : W.heap[n]? = some (.cells #[a, b, c, d, e] t)) :
    (W.cell? ⟨n, 0, none⟩ = some a ∧ W.cell? ⟨n, 1, none⟩ = some b ∧ W.cell? ⟨n, 2, none⟩ = some c ∧ W.cell? ⟨n, 3, none⟩ = some d ∧ W.cell? ⟨n, 4, none⟩ = some e) ∧
    (W.frozen? ⟨n, 0, none⟩ = false ∧ W.frozen? ⟨n, 1, none⟩ = false ∧ W.frozen? ⟨n, 2, none⟩ = false ∧ W.frozen? ⟨n, 3, none⟩ = false ∧ W.frozen? ⟨n, 4, none⟩ = false) := by
  refine ⟨⟨?_, ?_, ?_, ?_, ?_⟩, ?_, ?_, ?_, ?_, ?_⟩ <;> first | (rw [cell_of_row W n _ _ t (0, 0) h]; rfl) | simp [World.frozen?, h]

set_option maxHeartbeats 2000000 in
theorem rCopy0 {a b c d e : Value} {m : MC} {w : World} (h : Cont w (.agg #[a, b, c, d, e]) m) (hok : m.ok 0) :
    Calls Try.prog 40 #[.agg #[a, b, c, d, e]] w fun r w' => ∃ v, r = .returned v ∧ OwnC w' w.heap.size v m ∧ Below w.heap.size w w' := by
  obtain ⟨_, _, _, _, _, hv, h1, h2, h3, h4, h5⟩ := h
  cases hv
  have H1 := Lib.hid h1; clear h1
  have H2 := Lib.hid h2; clear h2
  have H3 := Lib.hid h3; clear h3
  have H4 := Lib.hid h4; clear h4
  have H5 := Lib.hid h5; clear h5
  obtain ⟨k1, k2, k3, k4, k5⟩ := hok
  go_enter Try.func40, Try.ntmps40
  go_wp2_with fail
  have hb00 : Below w.heap.size w ((w.alloc (.cells #[a, b, c, d, e] 29)).alloc (.cells #[.slice none 0 0, .slice none 0 0, .slice none 0 0, .slice none 0 0, .slice none 0 0] 29)) := (below_box _ _).trans ((below_box _ _).mono (by simp))
  have hbs : w.heap.size + 2 ≤ ((w.alloc (.cells #[a, b, c, d, e] 29)).alloc (.cells #[.slice none 0 0, .slice none 0 0, .slice none 0 0, .slice none 0 0, .slice none 0 0] 29)).heap.size := by simp
  have X : Hid (∀ j u, #[a, b, c, d, e][j]? = some u → ((w.alloc (.cells #[a, b, c, d, e] 29)).alloc (.cells #[.slice none 0 0, .slice none 0 0, .slice none 0 0, .slice none 0 0, .slice none 0 0] 29)).cell? ⟨w.heap.size, j, none⟩ = some u) :=
    fun j u h => ((below_box _ _).cell (by simp)).trans (box_cell w _ _ j u h)
  have Y : Hid (((w.alloc (.cells #[a, b, c, d, e] 29)).alloc (.cells #[.slice none 0 0, .slice none 0 0, .slice none 0 0, .slice none 0 0, .slice none 0 0] 29)).heap[w.heap.size + 1]? = some (.cells #[.slice none 0 0, .slice none 0 0, .slice none 0 0, .slice none 0 0, .slice none 0 0] 29)) := by
    show _ = _
    have := heap_alloc_new (w.alloc (.cells #[a, b, c, d, e] 29)) (.cells #[.slice none 0 0, .slice none 0 0, .slice none 0 0, .slice none 0 0, .slice none 0 0] 29)
    simpa using this
  generalize ((w.alloc (.cells #[a, b, c, d, e] 29)).alloc (.cells #[.slice none 0 0, .slice none 0 0, .slice none 0 0, .slice none 0 0, .slice none 0 0] 29)) = W1 at *
  obtain ⟨x0, x1, x2, x3, x4⟩ := box5 X.out (Below.refl _ _) (show w.heap.size < W1.heap.size by omega)
  have hl2 : w.heap.size < w.heap.size + 2 := by omega
  have hb0 : Below (w.heap.size + 2) W1 W1.drew := (Below.refl _ _).drew
  go_region_held3 (fun w' => w'.cell? ⟨w.heap.size, 0, none⟩ = some a ∧ w'.cell? ⟨w.heap.size, 1, none⟩ = some b ∧ w'.cell? ⟨w.heap.size, 2, none⟩ = some c ∧ w'.cell? ⟨w.heap.size, 3, none⟩ = some d ∧ w'.cell? ⟨w.heap.size, 4, none⟩ = some e)
    (first | (go_keep; done) | (with_reducible exact box5 X.out hb0 hl2) | (with_reducible exact box5 X.out hb1 hl2) | (with_reducible exact box5 X.out hb2 hl2) | (with_reducible exact box5 X.out hb3 hl2) | (with_reducible exact box5 X.out hb4 hl2) | (with_reducible exact box5 X.out hb5 hl2))
    (first
      | (refine step_append_arr (by rfl) _ (.tmp 4) (by rfl) tI _ (by rfl) (World.ownsRow_nil _ _ _ _) eI_ok (by rfl) (H1.out.below (hb00.trans (hb0.mono (by omega)))) (by omega) (by unfold maxLen; omega) (Nat.le_refl _) ?_; intro v1 w1 ho1 hg1; simp only [Nat.zero_add, List.nil_append] at ho1; obtain ⟨p1, q1, rfl⟩ := own_form ho1; have hb1 : Below (w.heap.size + 2) W1 w1 := hb0.grown hg1 (by have := hb0.size; omega) (by simp [Value.ownBlock]))
      | (refine step_append_nil (by rfl) _ (.tmp 7) (by rfl) tI eI_ok (by rfl) (by rfl) (H2.out.below (hb00.trans (hb1.mono (by omega)))) (by omega) (by unfold maxLen; omega) ?_; intro v2 w2 ho2 hg2; simp only [Nat.zero_add, List.nil_append] at ho2; obtain ⟨p2, q2, rfl⟩ := own_form ho2; have hb2 : Below (w.heap.size + 2) W1 w2 := hb1.grown hg2 (by have := hb1.size; omega) (by simp [Value.ownBlock]))
      | (refine step_append_arr (by rfl) _ (.tmp 10) (by rfl) tI _ (by rfl) (World.ownsRow_nil _ _ _ _) eI_ok (by rfl) (H3.out.below (hb00.trans (hb2.mono (by omega)))) (by omega) (by unfold maxLen; omega) (Nat.le_refl _) ?_; intro v3 w3 ho3 hg3; simp only [Nat.zero_add, List.nil_append] at ho3; obtain ⟨p3, q3, rfl⟩ := own_form ho3; have hb3 : Below (w.heap.size + 2) W1 w3 := hb2.grown hg3 (by have := hb2.size; omega) (by simp [Value.ownBlock]))
      | (refine step_append_arr (by rfl) _ (.tmp 13) (by rfl) tI _ (by rfl) (World.ownsRow_nil _ _ _ _) eI_ok (by rfl) (H4.out.below (hb00.trans (hb3.mono (by omega)))) (by omega) (by unfold maxLen; omega) (Nat.le_refl _) ?_; intro v4 w4 ho4 hg4; simp only [Nat.zero_add, List.nil_append] at ho4; obtain ⟨p4, q4, rfl⟩ := own_form ho4; have hb4 : Below (w.heap.size + 2) W1 w4 := hb3.grown hg4 (by have := hb3.size; omega) (by simp [Value.ownBlock]))
      | (refine step_append_arr (by rfl) _ (.tmp 16) (by rfl) tP _ (by rfl) (World.ownsRow_nil _ _ _ _) eP_ok (by rfl) (H5.out.below (hb00.trans (hb4.mono (by omega)))) (by omega) (by unfold maxLen; omega) (Nat.le_refl _) ?_; intro v5 w5 ho5 hg5; simp only [Nat.zero_add, List.nil_append] at ho5; obtain ⟨p5, q5, rfl⟩ := own_form ho5; have hb5 : Below (w.heap.size + 2) W1 w5 := hb4.grown hg5 (by have := hb4.size; omega) (by simp [Value.ownBlock]); obtain ⟨⟨z0, z1, z2, z3, z4⟩, ⟨f0, f1, f2, f3, f4⟩⟩ := blk5 ((hb5.block _ (by omega)).trans Y.out)))
  have o5 := ho5
  have o4 := own_keep0 ho4 hg5
  have o3 := own_keep0 (own_keep0 ho3 hg4) hg5
  have o2 := own_keep0 (own_keep0 (own_keep0 ho2 hg3) hg4) hg5
  have o1 := own_keep0 (own_keep0 (own_keep0 (own_keep0 ho1 hg2) hg3) hg4) hg5
  have A13 := own_apart (own_keep0 ho1 hg2) o3 (Nat.le_refl _)
  have A23 := own_apart ho2 o3 (Nat.le_refl _)
  have A43 : Apart (.slice p4 m.set.length q4) (.slice p3 m.queue.length q3) := (own_apart ho3 o4 (Nat.le_refl _)).elim (fun h => by
    unfold Apart; rw [h]; cases (Value.slice p3 m.queue.length q3).ownBlock <;> simp) (fun h => Or.inr (Ne.symm h))
  have A53 : Apart (.slice p5 m.table.length q5) (.slice p3 m.queue.length q3) := (own_apart (own_keep0 ho3 hg4) o5 (Nat.le_refl _)).elim (fun h => by
    unfold Apart; rw [h]; cases (Value.slice p3 m.queue.length q3).ownBlock <;> simp) (fun h => Or.inr (Ne.symm h))
  have hY := (hb5.block _ (show w.heap.size + 1 < w.heap.size + 2 by omega)).trans Y.out
  have s1 := hb1.size
  have s2 := hb2.size
  have s3 := hb3.size
  have s4 := hb4.size
  have s0 := hb0.size
  have OB : Hid (OwnC (w5.setRow (w.heap.size + 1) #[.slice p1 m.cell.length q1, .slice p2 m.stack.length q2, .slice p3 m.queue.length q3, .slice p4 m.set.length q4, .slice p5 m.table.length q5]) w.heap.size (.agg #[.slice p1 m.cell.length q1, .slice p2 m.stack.length q2, .slice p3 m.queue.length q3, .slice p4 m.set.length q4, .slice p5 m.table.length q5]) m) := by
    have G := grownBy_setRow w5 (w.heap.size + 1) #[.slice p1 m.cell.length q1, .slice p2 m.stack.length q2, .slice p3 m.queue.length q3, .slice p4 m.set.length q4, .slice p5 m.table.length q5]
    exact ⟨_, _, _, _, _, rfl, own_base (own_keep o1 G (by omega)) (by omega), own_base (own_keep o2 G (by omega)) (by omega), own_base (own_keep o3 G (by omega)) (by omega), own_base (own_keep o4 G (by omega)) (by omega), own_base (own_keep o5 G (by omega)) (by omega), A13, A23, A43, A53⟩
  have BB : Hid (Below w.heap.size w (w5.setRow (w.heap.size + 1) #[.slice p1 m.cell.length q1, .slice p2 m.stack.length q2, .slice p3 m.queue.length q3, .slice p4 m.set.length q4, .slice p5 m.table.length q5])) :=
    below_setRow' (hb00.trans (hb5.mono (by omega))) (by omega) _
  clear o1 o2 o3 o4 o5 A13 A23 A43 A53 ho1 ho2 ho3 ho4 ho5 hg1 hg2 hg3 hg4 hg5
  go_wp2
  rw [set5 hY]
  obtain ⟨⟨z0, z1, z2, z3, z4⟩, _⟩ := blk5 (setRow_heap w5 (w.heap.size + 1) _ #[.slice p1 m.cell.length q1, .slice p2 m.stack.length q2, .slice p3 m.queue.length q3, .slice p4 m.set.length q4, .slice p5 m.table.length q5] 29 (0, 0) hY)
  refine bodyPost_ret (v := .agg #[.slice p1 m.cell.length q1, .slice p2 m.stack.length q2, .slice p3 m.queue.length q3, .slice p4 m.set.length q4, .slice p5 m.table.length q5])
    (by simp [results, Try.results40, go_sem, z0, z1, z2, z3, z4]) rfl ⟨_, rfl, OB.out, BB.out⟩
end Go.Proofs.Ytgljbdcamagdbaa
