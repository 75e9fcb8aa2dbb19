/- slices.Clone at the types of lists: a copy in memory of the call's own. The lists are so short that memory bears them. -/
import Derived.Test.YtgljbdcamagdbaaOpenC
import Derived.Deep.Cut
import Derived.Lib.SliceRun
namespace Go.Proofs.Ytgljbdcamagdbaa
open Go.RowKit

/-- what slices.Clone answers -/
def RetE {α : Type} (W : World) (e : TypeId) (enc : α → List Value) (s : Nat) (l : List α) (r : Ending) (w' : World) : Prop := ∃ v', r = .returned v' ∧ OwnE w' W.heap.size e enc s v' l ∧ Below W.heap.size W w'

/-- append onto an empty slice without room -/
theorem wpList_append_empty {P : Program} {w : World} {ops : Array Oper} {rest : List Oper} {o : Oper} {a : Act} {Q : Exit → Act → World → Prop} (hgd : o.guard = none) (s x : Operand) {t e : TypeId} {size bytes : Nat}
    (ho : o.op = .call { callee := .builtin .append, args := #[s, x], argTypes := #[t, t] }) (T : ElemT P t e size bytes)
    {α : Type} {enc : α → List Value} (E : EncT enc size) {ba : Option Addr} {xs : List α} (hs : a.eval s = .slice ba 0 0)
    {v2 : Value} (hx : a.eval x = v2) (hxs : Arr w enc size v2 xs)
    (hbytes : xs.length * bytes ≤ 281474976710656) (h63 : xs.length ≤ maxLen)
    (h : ∀ v' w', Below w.heap.size w w' → OwnE w' w.heap.size e enc size v' xs → wpList P ops Q rest (a.put o.dst v') w') : wpList P ops Q (o :: rest) a w :=
  wpList_plain hgd fun _ hK => wp_append_zero s x ho T E hs (arr_empty _ _ _ _) hx hxs (by simpa using hbytes) (by simpa using h63) fun v' w' hb h2 => hK _ _ (h v' w' hb (by
    rcases h2 with ⟨h1, h2, _⟩ | ⟨_, h2⟩
    · exact Or.inl ⟨h1, ba, h2⟩
    · simp only [Nat.zero_add, List.nil_append] at h2
      exact Or.inr h2))

theorem tE_stack : ElemT Try.prog 91 3 1 8 := ⟨Try.underlying91, tI.ex, by decide⟩

set_option maxRecDepth 100000 in
set_option maxHeartbeats 400000 in
theorem clone_stack {v : Value} {l : List Int} {w : World} (h : Arr w eI 1 v l) (hl : l.length * 8 ≤ 281474976710656) :
    Calls Try.prog 78 #[v] w (RetE w 3 eI 1 l) := by
  have h0 := h
  obtain ⟨ba, cap, rfl, hlc, hcm, hc⟩ := h
  have H := Lib.hid h0; clear h0
  have HC := Lib.hid hc; clear hc
  have HL := Lib.hid hl; clear hl
  have HM := Lib.hid (Nat.le_trans hlc hcm); clear hlc hcm
  have hq := fun wx => Lib.run_eql_slice_nil (P := Try.prog) wx 91 _ ba l.length cap 0 0 Try.underlying91
  rcases ba with _ | ba
  · have hl0 : l = [] := by
      rcases HC.out with h | ⟨_, _, h, _⟩
      · exact h
      · cases h
    have HL0 := Lib.hid hl0; clear hl0
    go_enter Try.func78, Try.ntmps78
    go_wp2
    go_ret
    exact ⟨_, rfl, Or.inl ⟨HL0.out, none, rfl⟩, Below.refl _ _⟩
  · go_enter Try.func78, Try.ntmps78
    go_wp2_with (at_builtin; refine wpList_append_empty rfl (.tmp 5) (.tmp 6) rfl tE_stack eI_ok rfl rfl (H.out.below (below_box _ _)) HL.out HM.out ?_; intro v' w' hb ho)
    have HO := Lib.hid ho; clear ho
    go_wp2
    go_ret
    exact ⟨v', rfl, HO.out.base (by simp), below_from (hb.mono (by simp))⟩

theorem tE_queue : ElemT Try.prog 92 3 1 8 := ⟨Try.underlying92, tI.ex, by decide⟩

set_option maxRecDepth 100000 in
set_option maxHeartbeats 400000 in
theorem clone_queue {v : Value} {l : List Int} {w : World} (h : Arr w eI 1 v l) (hl : l.length * 8 ≤ 281474976710656) :
    Calls Try.prog 81 #[v] w (RetE w 3 eI 1 l) := by
  have h0 := h
  obtain ⟨ba, cap, rfl, hlc, hcm, hc⟩ := h
  have H := Lib.hid h0; clear h0
  have HC := Lib.hid hc; clear hc
  have HL := Lib.hid hl; clear hl
  have HM := Lib.hid (Nat.le_trans hlc hcm); clear hlc hcm
  have hq := fun wx => Lib.run_eql_slice_nil (P := Try.prog) wx 92 _ ba l.length cap 0 0 Try.underlying92
  rcases ba with _ | ba
  · have hl0 : l = [] := by
      rcases HC.out with h | ⟨_, _, h, _⟩
      · exact h
      · cases h
    have HL0 := Lib.hid hl0; clear hl0
    go_enter Try.func81, Try.ntmps81
    go_wp2
    go_ret
    exact ⟨_, rfl, Or.inl ⟨HL0.out, none, rfl⟩, Below.refl _ _⟩
  · go_enter Try.func81, Try.ntmps81
    go_wp2_with (at_builtin; refine wpList_append_empty rfl (.tmp 5) (.tmp 6) rfl tE_queue eI_ok rfl rfl (H.out.below (below_box _ _)) HL.out HM.out ?_; intro v' w' hb ho)
    have HO := Lib.hid ho; clear ho
    go_wp2
    go_ret
    exact ⟨v', rfl, HO.out.base (by simp), below_from (hb.mono (by simp))⟩

theorem tE_set : ElemT Try.prog 93 3 1 8 := ⟨Try.underlying93, tI.ex, by decide⟩

set_option maxRecDepth 100000 in
set_option maxHeartbeats 400000 in
theorem clone_set {v : Value} {l : List Int} {w : World} (h : Arr w eI 1 v l) (hl : l.length * 8 ≤ 281474976710656) :
    Calls Try.prog 87 #[v] w (RetE w 3 eI 1 l) := by
  have h0 := h
  obtain ⟨ba, cap, rfl, hlc, hcm, hc⟩ := h
  have H := Lib.hid h0; clear h0
  have HC := Lib.hid hc; clear hc
  have HL := Lib.hid hl; clear hl
  have HM := Lib.hid (Nat.le_trans hlc hcm); clear hlc hcm
  have hq := fun wx => Lib.run_eql_slice_nil (P := Try.prog) wx 93 _ ba l.length cap 0 0 Try.underlying93
  rcases ba with _ | ba
  · have hl0 : l = [] := by
      rcases HC.out with h | ⟨_, _, h, _⟩
      · exact h
      · cases h
    have HL0 := Lib.hid hl0; clear hl0
    go_enter Try.func87, Try.ntmps87
    go_wp2
    go_ret
    exact ⟨_, rfl, Or.inl ⟨HL0.out, none, rfl⟩, Below.refl _ _⟩
  · go_enter Try.func87, Try.ntmps87
    go_wp2_with (at_builtin; refine wpList_append_empty rfl (.tmp 5) (.tmp 6) rfl tE_set eI_ok rfl rfl (H.out.below (below_box _ _)) HL.out HM.out ?_; intro v' w' hb ho)
    have HO := Lib.hid ho; clear ho
    go_wp2
    go_ret
    exact ⟨v', rfl, HO.out.base (by simp), below_from (hb.mono (by simp))⟩

theorem tE_table : ElemT Try.prog 94 76 2 16 := ⟨Try.underlying94, tP.ex, by decide⟩

set_option maxRecDepth 100000 in
set_option maxHeartbeats 400000 in
theorem clone_table {v : Value} {l : List (Int × Int)} {w : World} (h : Arr w eP 2 v l) (hl : l.length * 16 ≤ 281474976710656) :
    Calls Try.prog 102 #[v] w (RetE w 76 eP 2 l) := by
  have h0 := h
  obtain ⟨ba, cap, rfl, hlc, hcm, hc⟩ := h
  have H := Lib.hid h0; clear h0
  have HC := Lib.hid hc; clear hc
  have HL := Lib.hid hl; clear hl
  have HM := Lib.hid (Nat.le_trans hlc hcm); clear hlc hcm
  have hq := fun wx => Lib.run_eql_slice_nil (P := Try.prog) wx 94 _ ba l.length cap 0 0 Try.underlying94
  rcases ba with _ | ba
  · have hl0 : l = [] := by
      rcases HC.out with h | ⟨_, _, h, _⟩
      · exact h
      · cases h
    have HL0 := Lib.hid hl0; clear hl0
    go_enter Try.func102, Try.ntmps102
    go_wp2
    go_ret
    exact ⟨_, rfl, Or.inl ⟨HL0.out, none, rfl⟩, Below.refl _ _⟩
  · go_enter Try.func102, Try.ntmps102
    go_wp2_with (at_builtin; refine wpList_append_empty rfl (.tmp 5) (.tmp 6) rfl tE_table eP_ok rfl rfl (H.out.below (below_box _ _)) HL.out HM.out ?_; intro v' w' hb ho)
    have HO := Lib.hid ho; clear ho
    go_wp2
    go_ret
    exact ⟨v', rfl, HO.out.base (by simp), below_from (hb.mono (by simp))⟩

end Go.Proofs.Ytgljbdcamagdbaa
