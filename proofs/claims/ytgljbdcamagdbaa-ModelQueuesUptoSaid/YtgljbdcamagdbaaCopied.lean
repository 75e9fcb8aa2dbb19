/- model.copied makes contents in new memory. The lists are so short that memory bears them. -/
import Derived.Test.YtgljbdcamagdbaaCopy
import Derived.Test.YtgljbdcamagdbaaStable
namespace Go.Proofs.Ytgljbdcamagdbaa
open Go.RowKit

/-- contents in memory of the call's own, from block 'base' on; an empty list may be without room -/
def OwnD (w : World) (base : Nat) (v : Value) (m : MC) : Prop :=
  ∃ a b c d e, v = .agg #[a, b, c, d, e] ∧ OwnE w base 3 eI 1 a m.cell ∧ OwnE w base 3 eI 1 b m.stack ∧ OwnE w base 3 eI 1 c m.queue ∧ OwnE w base 3 eI 1 d m.set ∧ OwnE w base 76 eP 2 e m.table
theorem OwnD.cont {w : World} {base : Nat} {v : Value} {m : MC} (h : OwnD w base v m) : Cont w v m := by
  obtain ⟨a, b, c, d, e, rfl, h1, h2, h3, h4, h5⟩ := h
  exact ⟨a, b, c, d, e, rfl, h1.arr eI_ok, h2.arr eI_ok, h3.arr eI_ok, h4.arr eI_ok, h5.arr eP_ok⟩
theorem OwnD.base {w : World} {base base' : Nat} {v : Value} {m : MC} (h : OwnD w base v m) (hb : base' ≤ base) : OwnD w base' v m := by
  obtain ⟨a, b, c, d, e, rfl, h1, h2, h3, h4, h5⟩ := h
  exact ⟨a, b, c, d, e, rfl, h1.base hb, h2.base hb, h3.base hb, h4.base hb, h5.base hb⟩
theorem OwnD.ext {w w' : World} {base : Nat} {v : Value} {m : MC} (h : OwnD w base v m) (hb : Below w.heap.size w w') : OwnD w' base v m := by
  obtain ⟨a, b, c, d, e, rfl, h1, h2, h3, h4, h5⟩ := h
  exact ⟨a, b, c, d, e, rfl, h1.ext hb, h2.ext hb, h3.ext hb, h4.ext hb, h5.ext hb⟩
theorem OwnD.keep {w w' : World} {base g : Nat} {v : Value} {m : MC} (h : OwnD w base v m) (hg : w.grownBy w' (some g)) (hlt : g < base) : OwnD w' base v m := by
  obtain ⟨a, b, c, d, e, rfl, h1, h2, h3, h4, h5⟩ := h
  exact ⟨a, b, c, d, e, rfl, h1.keep hg hlt, h2.keep hg hlt, h3.keep hg hlt, h4.keep hg hlt, h5.keep hg hlt⟩
/-- what a call answers that makes contents in memory of its own -/
def RetD (W : World) (m : MC) (r : Ending) (w' : World) : Prop := ∃ v', r = .returned v' ∧ OwnD w' W.heap.size v' m ∧ Below W.heap.size W w'

def PhiC (B bx : Nat) (a b c d e : Value) (m : MC) : Nat → Value → World → Prop
  | 0, v, _ => ∃ ba, v = .slice ba 0 0
  | 4, v, _ => ∃ ba, v = .slice ba 0 0
  | 8, v, _ => ∃ ba, v = .slice ba 0 0
  | 12, v, _ => ∃ ba, v = .slice ba 0 0
  | 16, v, _ => ∃ ba, v = .slice ba 0 0
  | 1, v, _ => v = .pointer (some ⟨bx, 0, none⟩)
  | 5, v, _ => v = .pointer (some ⟨bx, 1, none⟩)
  | 9, v, _ => v = .pointer (some ⟨bx, 2, none⟩)
  | 13, v, _ => v = .pointer (some ⟨bx, 3, none⟩)
  | 17, v, _ => v = .pointer (some ⟨bx, 4, none⟩)
  | 2, v, _ => v = a
  | 6, v, _ => v = b
  | 10, v, _ => v = c
  | 14, v, _ => v = d
  | 18, v, _ => v = e
  | 3, v, w => OwnE w B 3 eI 1 v m.cell
  | 7, v, w => OwnE w B 3 eI 1 v m.stack
  | 11, v, w => OwnE w B 3 eI 1 v m.queue
  | 15, v, w => OwnE w B 3 eI 1 v m.set
  | 19, v, w => OwnE w B 76 eP 2 v m.table
  | 20, v, w => ∃ p1 q1 p2 q2 p3 q3 p4 q4 p5 q5, v = .agg #[.slice p1 m.cell.length q1, .slice p2 m.stack.length q2, .slice p3 m.queue.length q3, .slice p4 m.set.length q4, .slice p5 m.table.length q5] ∧
      OwnE w B 3 eI 1 (.slice p1 m.cell.length q1) m.cell ∧ OwnE w B 3 eI 1 (.slice p2 m.stack.length q2) m.stack ∧ OwnE w B 3 eI 1 (.slice p3 m.queue.length q3) m.queue ∧
      OwnE w B 3 eI 1 (.slice p4 m.set.length q4) m.set ∧ OwnE w B 76 eP 2 (.slice p5 m.table.length q5) m.table
  | _, _, _ => True

theorem PhiC_stab (B bx : Nat) (a b c d e : Value) (m : MC) : ∀ i v w w', PhiC B bx a b c d e m i v w → Below w.heap.size w w' → PhiC B bx a b c d e m i v w' := by
  intro i v w w' h hb
  unfold PhiC at h ⊢
  split <;> simp only at h <;> first | exact h.ext hb | exact h | trivial | skip
  obtain ⟨p1, q1, p2, q2, p3, q3, p4, q4, p5, q5, h0, h1, h2, h3, h4, h5⟩ := h
  exact ⟨p1, q1, p2, q2, p3, q3, p4, q4, p5, q5, h0, h1.ext hb, h2.ext hb, h3.ext hb, h4.ext hb, h5.ext hb⟩

/-- what such an append leaves -/
theorem full_own {α : Type} {w w' : World} {B : Nat} {e : TypeId} {enc : α → List Value} {size : Nat} {ba : Option Addr} {v' : Value} {xs : List α} (hB : B ≤ w.heap.size)
    (h : (xs = [] ∧ v' = .slice ba 0 0 ∧ w' = w) ∨ (xs ≠ [] ∧ w'.ownsRow w.heap.size e size v' (0 + xs.length) (([] ++ xs).flatMap enc))) : OwnE w' B e enc size v' xs := by
  rcases h with ⟨h1, h2, _⟩ | ⟨_, h⟩
  · exact Or.inl ⟨h1, ba, h2⟩
  · simp only [Nat.zero_add, List.nil_append] at h
    exact OwnE.base (Or.inr h) hB

set_option maxRecDepth 100000 in
set_option maxHeartbeats 2000000 in
theorem mCopied {a b c d e : Value} {m : MC} {w : World} (h : Cont w (.agg #[a, b, c, d, e]) m) (hok : m.ok 0) :
    Calls Try.prog 42 #[.agg #[a, b, c, d, e]] w (RetD w m) := by
  obtain ⟨_, _, _, _, _, hv, h1, h2, h3, h4, h5⟩ := h
  cases hv
  have H1 := Lib.hid h1; clear h1
  have H2 := Lib.hid h2; clear h2
  have H3 := Lib.hid h3; clear h3
  have H4 := Lib.hid h4; clear h4
  have H5 := Lib.hid h5; clear h5
  obtain ⟨k1, k2, k3, k4, k5⟩ := hok
  go_enter Try.func42, Try.ntmps42
  go_wp2_with fail
  have hb00 : Below w.heap.size w ((w.alloc (.cells #[a, b, c, d, e] 29)).alloc (.cells #[.slice none 0 0, .slice none 0 0, .slice none 0 0, .slice none 0 0, .slice none 0 0] 29)) := (below_box _ _).trans ((below_box _ _).mono (by simp))
  have hbs : w.heap.size + 2 ≤ ((w.alloc (.cells #[a, b, c, d, e] 29)).alloc (.cells #[.slice none 0 0, .slice none 0 0, .slice none 0 0, .slice none 0 0, .slice none 0 0] 29)).heap.size := by simp
  have X : Hid (∀ j u, #[a, b, c, d, e][j]? = some u → ((w.alloc (.cells #[a, b, c, d, e] 29)).alloc (.cells #[.slice none 0 0, .slice none 0 0, .slice none 0 0, .slice none 0 0, .slice none 0 0] 29)).cell? ⟨w.heap.size, j, none⟩ = some u) :=
    fun j u h => ((below_box _ _).cell (by simp)).trans (box_cell w _ _ j u h)
  have Y : Hid (((w.alloc (.cells #[a, b, c, d, e] 29)).alloc (.cells #[.slice none 0 0, .slice none 0 0, .slice none 0 0, .slice none 0 0, .slice none 0 0] 29)).heap[w.heap.size + 1]? = some (.cells #[.slice none 0 0, .slice none 0 0, .slice none 0 0, .slice none 0 0, .slice none 0 0] 29)) := by
    show _ = _
    have := heap_alloc_new (w.alloc (.cells #[a, b, c, d, e] 29)) (.cells #[.slice none 0 0, .slice none 0 0, .slice none 0 0, .slice none 0 0, .slice none 0 0] 29)
    simpa using this
  generalize ((w.alloc (.cells #[a, b, c, d, e] 29)).alloc (.cells #[.slice none 0 0, .slice none 0 0, .slice none 0 0, .slice none 0 0, .slice none 0 0] 29)) = W1 at *
  refine wp_region_facts_lit 21 (PhiC W1.heap.size w.heap.size a b c d e m) (fun w w' => Below w.heap.size w w') (by kernel_rfl) (by kernel_rfl) (by simp) ext_refl ext_trans (PhiC_stab _ _ _ _ _ _ _ _) ?_ ?_
  · refine ⟨?_, ?_, ?_, ?_, ?_, ?_, ?_, ?_, ?_, ?_, ?_, ?_, ?_, ?_, ?_, ?_, ?_, ?_, ?_, ?_, ?_, trivial⟩
    all_goals intro A W hR hd hs hag hpre
    all_goals rw [if_pos (by rfl)]
    all_goals have hlt1 : w.heap.size < W1.heap.size := by omega
    all_goals have hle1 : w.heap.size ≤ W1.drew.heap.size := by show w.heap.size ≤ W1.heap.size; omega
    · go_simp
      exact ⟨below_box _ _, _, rfl, _, rfl⟩
    · have t1 := hag 1 (noDst (by kernel_rfl))
      have t1' : A.tmps.getD 1 undef = .pointer (some ⟨w.heap.size, 0, none⟩) := t1
      clear t1
      go_simp
      exact ⟨Below.refl _ _, _, rfl, rfl⟩
    · have p : A.tmps.getD 4 undef = .pointer (some ⟨w.heap.size, 0, none⟩) := hpre ⟨1, .data⟩ (by simp) rfl _ rfl
      have c := (hR.cell (show w.heap.size < W1.drew.heap.size by exact hlt1)).trans (X.out 0 _ rfl)
      go_simp
      exact ⟨Below.refl _ _, _, rfl, rfl⟩
    · obtain ⟨ba, p⟩ : ∃ ba, A.tmps.getD 3 undef = .slice ba 0 0 := hpre ⟨0, .data⟩ (by simp) rfl _ rfl
      have q : A.tmps.getD 5 undef = a := hpre ⟨2, .data⟩ (by simp) rfl _ rfl
      exact wp_append_full (.tmp 3) (.tmp 5) rfl tI eI_ok p (arr_empty _ _ _ _) q (H1.out.below (hb00.drew.trans (hR.mono hle1))) (by omega) (by unfold maxLen; omega)
        fun v' w' hb h => ⟨hb, v', rfl, full_own hR.size h⟩
    · go_simp
      exact ⟨below_box _ _, _, rfl, _, rfl⟩
    · have t1 := hag 1 (noDst (by kernel_rfl))
      have t1' : A.tmps.getD 1 undef = .pointer (some ⟨w.heap.size, 0, none⟩) := t1
      clear t1
      go_simp
      exact ⟨Below.refl _ _, _, rfl, rfl⟩
    · have p : A.tmps.getD 8 undef = .pointer (some ⟨w.heap.size, 1, none⟩) := hpre ⟨5, .data⟩ (by simp) rfl _ rfl
      have c := (hR.cell (show w.heap.size < W1.drew.heap.size by exact hlt1)).trans (X.out 1 _ rfl)
      go_simp
      exact ⟨Below.refl _ _, _, rfl, rfl⟩
    · obtain ⟨ba, p⟩ : ∃ ba, A.tmps.getD 7 undef = .slice ba 0 0 := hpre ⟨4, .data⟩ (by simp) rfl _ rfl
      have q : A.tmps.getD 9 undef = b := hpre ⟨6, .data⟩ (by simp) rfl _ rfl
      exact wp_append_zero (.tmp 7) (.tmp 9) rfl tI eI_ok p (arr_empty _ _ _ _) q (H2.out.below (hb00.drew.trans (hR.mono hle1))) (by omega) (by unfold maxLen; omega)
        fun v' w' hb h => ⟨hb, v', rfl, full_own hR.size h⟩
    · go_simp
      exact ⟨below_box _ _, _, rfl, _, rfl⟩
    · have t1 := hag 1 (noDst (by kernel_rfl))
      have t1' : A.tmps.getD 1 undef = .pointer (some ⟨w.heap.size, 0, none⟩) := t1
      clear t1
      go_simp
      exact ⟨Below.refl _ _, _, rfl, rfl⟩
    · have p : A.tmps.getD 12 undef = .pointer (some ⟨w.heap.size, 2, none⟩) := hpre ⟨9, .data⟩ (by simp) rfl _ rfl
      have c := (hR.cell (show w.heap.size < W1.drew.heap.size by exact hlt1)).trans (X.out 2 _ rfl)
      go_simp
      exact ⟨Below.refl _ _, _, rfl, rfl⟩
    · obtain ⟨ba, p⟩ : ∃ ba, A.tmps.getD 11 undef = .slice ba 0 0 := hpre ⟨8, .data⟩ (by simp) rfl _ rfl
      have q : A.tmps.getD 13 undef = c := hpre ⟨10, .data⟩ (by simp) rfl _ rfl
      exact wp_append_full (.tmp 11) (.tmp 13) rfl tI eI_ok p (arr_empty _ _ _ _) q (H3.out.below (hb00.drew.trans (hR.mono hle1))) (by omega) (by unfold maxLen; omega)
        fun v' w' hb h => ⟨hb, v', rfl, full_own hR.size h⟩
    · go_simp
      exact ⟨below_box _ _, _, rfl, _, rfl⟩
    · have t1 := hag 1 (noDst (by kernel_rfl))
      have t1' : A.tmps.getD 1 undef = .pointer (some ⟨w.heap.size, 0, none⟩) := t1
      clear t1
      go_simp
      exact ⟨Below.refl _ _, _, rfl, rfl⟩
    · have p : A.tmps.getD 16 undef = .pointer (some ⟨w.heap.size, 3, none⟩) := hpre ⟨13, .data⟩ (by simp) rfl _ rfl
      have c := (hR.cell (show w.heap.size < W1.drew.heap.size by exact hlt1)).trans (X.out 3 _ rfl)
      go_simp
      exact ⟨Below.refl _ _, _, rfl, rfl⟩
    · obtain ⟨ba, p⟩ : ∃ ba, A.tmps.getD 15 undef = .slice ba 0 0 := hpre ⟨12, .data⟩ (by simp) rfl _ rfl
      have q : A.tmps.getD 17 undef = d := hpre ⟨14, .data⟩ (by simp) rfl _ rfl
      exact wp_append_full (.tmp 15) (.tmp 17) rfl tI eI_ok p (arr_empty _ _ _ _) q (H4.out.below (hb00.drew.trans (hR.mono hle1))) (by omega) (by unfold maxLen; omega)
        fun v' w' hb h => ⟨hb, v', rfl, full_own hR.size h⟩
    · go_simp
      exact ⟨below_box _ _, _, rfl, _, rfl⟩
    · have t1 := hag 1 (noDst (by kernel_rfl))
      have t1' : A.tmps.getD 1 undef = .pointer (some ⟨w.heap.size, 0, none⟩) := t1
      clear t1
      go_simp
      exact ⟨Below.refl _ _, _, rfl, rfl⟩
    · have p : A.tmps.getD 20 undef = .pointer (some ⟨w.heap.size, 4, none⟩) := hpre ⟨17, .data⟩ (by simp) rfl _ rfl
      have c := (hR.cell (show w.heap.size < W1.drew.heap.size by exact hlt1)).trans (X.out 4 _ rfl)
      go_simp
      exact ⟨Below.refl _ _, _, rfl, rfl⟩
    · obtain ⟨ba, p⟩ : ∃ ba, A.tmps.getD 19 undef = .slice ba 0 0 := hpre ⟨16, .data⟩ (by simp) rfl _ rfl
      have q : A.tmps.getD 21 undef = e := hpre ⟨18, .data⟩ (by simp) rfl _ rfl
      exact wp_append_full (.tmp 19) (.tmp 21) rfl tP eP_ok p (arr_empty _ _ _ _) q (H5.out.below (hb00.drew.trans (hR.mono hle1))) (by omega) (by unfold maxLen; omega)
        fun v' w' hb h => ⟨hb, v', rfl, full_own hR.size h⟩
    · have g1 : OwnE W W1.heap.size 3 eI 1 (A.tmps.getD 6 undef) m.cell := hpre ⟨3, .data⟩ (by simp) rfl _ rfl
      have g2 : OwnE W W1.heap.size 3 eI 1 (A.tmps.getD 10 undef) m.stack := hpre ⟨7, .data⟩ (by simp) rfl _ rfl
      have g3 : OwnE W W1.heap.size 3 eI 1 (A.tmps.getD 14 undef) m.queue := hpre ⟨11, .data⟩ (by simp) rfl _ rfl
      have g4 : OwnE W W1.heap.size 3 eI 1 (A.tmps.getD 18 undef) m.set := hpre ⟨15, .data⟩ (by simp) rfl _ rfl
      have g5 : OwnE W W1.heap.size 76 eP 2 (A.tmps.getD 22 undef) m.table := hpre ⟨19, .data⟩ (by simp) rfl _ rfl
      obtain ⟨p1, q1, e1⟩ := g1.form
      obtain ⟨p2, q2, e2⟩ := g2.form
      obtain ⟨p3, q3, e3⟩ := g3.form
      obtain ⟨p4, q4, e4⟩ := g4.form
      obtain ⟨p5, q5, e5⟩ := g5.form
      rw [e1] at g1
      rw [e2] at g2
      rw [e3] at g3
      rw [e4] at g4
      rw [e5] at g5
      have G : Hid (PhiC W1.heap.size w.heap.size a b c d e m 20 (.agg #[.slice p1 m.cell.length q1, .slice p2 m.stack.length q2, .slice p3 m.queue.length q3, .slice p4 m.set.length q4, .slice p5 m.table.length q5]) W) :=
        ⟨p1, q1, p2, q2, p3, q3, p4, q4, p5, q5, rfl, g1, g2, g3, g4, g5⟩
      clear g1 g2 g3 g4 g5 hs hag hd hpre
      simp only [Array.getD_eq_getD_getElem?] at e1 e2 e3 e4 e5
      go_simp
      exact ⟨Below.refl _ _, _, rfl, G.out⟩
  · intro vs W hR hΦ
    obtain ⟨p1, q1, p2, q2, p3, q3, p4, q4, p5, q5, e20, g1, g2, g3, g4, g5⟩ := hΦ 20 (by omega)
    simp only [putN, List.getElem?_toArray, List.getElem?_cons_succ, List.getElem?_cons_zero, Option.bind_some, Act.put, List.setIfInBounds_toArray, List.set_cons_succ, List.set_cons_zero, List.drop_succ_cons, List.drop_zero, e20]
    have hY := (hR.block _ (show w.heap.size + 1 < W1.drew.heap.size by show _ < W1.heap.size; omega)).trans Y.out
    have hBW : Below w.heap.size w W := hb00.drew.trans (hR.mono (show w.heap.size ≤ W1.heap.size by omega))
    have OB : Hid (OwnD (W.setRow (w.heap.size + 1) #[.slice p1 m.cell.length q1, .slice p2 m.stack.length q2, .slice p3 m.queue.length q3, .slice p4 m.set.length q4, .slice p5 m.table.length q5]) w.heap.size (.agg #[.slice p1 m.cell.length q1, .slice p2 m.stack.length q2, .slice p3 m.queue.length q3, .slice p4 m.set.length q4, .slice p5 m.table.length q5]) m) := by
      have G := grownBy_setRow W (w.heap.size + 1) #[.slice p1 m.cell.length q1, .slice p2 m.stack.length q2, .slice p3 m.queue.length q3, .slice p4 m.set.length q4, .slice p5 m.table.length q5]
      exact ⟨_, _, _, _, _, rfl, (g1.keep G (by omega)).base (by omega), (g2.keep G (by omega)).base (by omega), (g3.keep G (by omega)).base (by omega), (g4.keep G (by omega)).base (by omega), (g5.keep G (by omega)).base (by omega)⟩
    have BB : Hid (Below w.heap.size w (W.setRow (w.heap.size + 1) #[.slice p1 m.cell.length q1, .slice p2 m.stack.length q2, .slice p3 m.queue.length q3, .slice p4 m.set.length q4, .slice p5 m.table.length q5])) :=
      below_setRow' hBW (by omega) _
    clear g1 g2 g3 g4 g5 e20 hΦ hR
    obtain ⟨⟨z0, z1, z2, z3, z4⟩, ⟨f0, f1, f2, f3, f4⟩⟩ := blk5 hY
    go_wp2
    rw [set5 hY]
    clear z0 z1 z2 z3 z4 f0 f1 f2 f3 f4
    obtain ⟨⟨z0, z1, z2, z3, z4⟩, _⟩ := blk5 (setRow_heap W (w.heap.size + 1) _ #[.slice p1 m.cell.length q1, .slice p2 m.stack.length q2, .slice p3 m.queue.length q3, .slice p4 m.set.length q4, .slice p5 m.table.length q5] 29 (0, 0) hY)
    refine bodyPost_ret (v := .agg #[.slice p1 m.cell.length q1, .slice p2 m.stack.length q2, .slice p3 m.queue.length q3, .slice p4 m.set.length q4, .slice p5 m.table.length q5])
      (by simp [results, Try.results42, go_sem, z0, z1, z2, z3, z4]) rfl ⟨_, rfl, OB.out, BB.out⟩
end Go.Proofs.Ytgljbdcamagdbaa
