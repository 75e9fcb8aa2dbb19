/- Whether a call may answer so: the program's and the reference's Allows. No statement of the program. -/
import Derived.Test.YtgljbdcamagdbaaZDoes
import Derived.Test.YtgljbdcamagdbaaFull
import Derived.Test.YtgljbdcamagdbaaZQ
-- bundled -- short draws
namespace Go.Proofs.Ytgljbdcamagdbaa.Z
open Go Go.RowKit
set_option linter.unusedSimpArgs false
set_option linter.unusedVariables false

/-! ### a call -/
structure Cl where
  thread : Int
  op : Int
  arg : Int
  data : Int
  beg : Int
  fin : Int
  point : Int
  kind : Int
  val : Int
  deriving DecidableEq
def iv (n : Int) : Value := .int .i64 n
def Cl.enc (c : Cl) : List Value := [iv c.thread, iv c.op, iv c.arg, iv c.data, iv c.beg, iv c.fin, iv c.point, iv c.kind, iv c.val]
def Cl.sc (c : Cl) : List SC := [.v (iv c.thread), .v (iv c.op), .v (iv c.arg), .v (iv c.data), .v (iv c.beg), .v (iv c.fin), .v (iv c.point), .v (iv c.kind), .v (iv c.val)]
theorem cl_ok : EncT Cl.enc 9 := ⟨fun _ => rfl, fun x u hu => by simp [Cl.enc, iv] at hu; rcases hu with rfl | rfl | rfl | rfl | rfl | rfl | rfl | rfl | rfl <;> rfl⟩
def cl0 : Cl := ⟨0, 0, 0, 0, 0, 0, 0, 0, 0⟩

/-- may it find no slot? -/
def fullB (op : Int) : Bool := decide (op = 22 ∨ op = 30 ∨ op = 40 ∨ op = 50 ∨ op = 60)
/-- what is left, and whether it may answer so -/
def allowM (m : MC) (c : Cl) : MC × Bool :=
  if c.kind = 0 then ((doM m c.op c.arg c.data).1, true) else if c.kind = 4 then (if fullB c.op = true then (m, true) else (mc0, false)) else
    if c.kind = (doM m c.op c.arg c.data).2.1 ∧ c.val = (doM m c.op c.arg c.data).2.2 then ((doM m c.op c.arg c.data).1, true) else (mc0, false)

/-- a list that lies in new memory -/
theorem rdN_nw {C : Ctx} {S : St} {α : Type} {enc : α → List Value} {s : Nat} {xs : List α} {d : α} {L : List (Nat × Fm ArrF)} (i : Nat) (hf : NwL C.B L ∈ S.facts) (hi : atN L (i, 0, 0) = some (arrOf enc s xs d)) : RdN C S (.xv (i, 0, 0)) (arrOf enc s xs d) := fun E a w' hs => by
  have hn := (holds_of hs.sat).2 _ hf
  have tr : ∀ {w'' : World} {E2 : Env} {x : Nm}, E2.χ x = E.χ (i, 0, 0) → ArrAt E w'' (i, 0, 0) (arrOf enc s xs d) → ArrAt E2 w'' x (arrOf enc s xs d) := fun {w'' E2 x} hx h => by
    obtain ⟨ba, cap, h1, h2, h3, h4⟩ := h
    refine ⟨ba, cap, hx.trans h1, h2, h3, ?_⟩
    rcases h4 with h4 | ⟨b, off, h5, h7, h6⟩
    · exact Or.inl h4
    · refine Or.inr ⟨b, off, h5, h7, fun k hk => ⟨(h6 k hk).1, fun j u hu => ?_⟩⟩
      have := (h6 k hk).2 j u hu
      simp only [arrOf, List.getElem?_map, Option.map_eq_some_iff] at hu
      obtain ⟨u', _, rfl⟩ := hu
      rw [den_v] at this ⊢
      exact this
  refine ⟨?_, fun w'' hw'' E2 x hx => tr (by rw [hx, den_xv]) (hn w'' hw'' _ _ hi)⟩
  obtain ⟨ba, cap, h1, _⟩ := hn w' (fun _ _ _ => rfl) _ _ hi
  rw [den_xv, h1]
  rfl
def alT (p : MC × Bool) (b : Nat) : SV := .tup [(true, mcS b), (false, [.bo p.2]), (false, [.v (.int .i64 0)])]
def ralT (p : MC × Bool) (b : Nat) : SV := .tup [(true, mcS b), (false, [.bo p.2])]
theorem alT_ok (c0 c1 c2 c3 c4 x : SC) (p : MC × Bool) (hx : ∀ E, x.den E = .bool p.2) : ∀ b (E E2 : Env), E2.χ (b, 0, 0) = c0.den E → E2.χ (b + 1, 0, 0) = c1.den E → E2.χ (b + 2, 0, 0) = c2.den E → E2.χ (b + 3, 0, 0) = c3.den E → E2.χ (b + 4, 0, 0) = c4.den E →
    (SV.tup [(true, [c0, c1, c2, c3, c4]), (false, [x]), (false, [.v (.int .i64 0)])]).den E = (alT p b).den E2 := fun b E E2 e0 e1 e2 e3 e4 => by
  simp [alT, mcS, SV.den, den1, SC.den, e0, e1, e2, e3, e4, hx]
theorem ralT_ok (c0 c1 c2 c3 c4 x : SC) (p : MC × Bool) (hx : ∀ E, x.den E = .bool p.2) : ∀ b (E E2 : Env), E2.χ (b, 0, 0) = c0.den E → E2.χ (b + 1, 0, 0) = c1.den E → E2.χ (b + 2, 0, 0) = c2.den E → E2.χ (b + 3, 0, 0) = c3.den E → E2.χ (b + 4, 0, 0) = c4.den E →
    (SV.tup [(true, [c0, c1, c2, c3, c4]), (false, [x])]).den E = (ralT p b).den E2 := fun b E E2 e0 e1 e2 e3 e4 => by
  simp [ralT, mcS, SV.den, den1, SC.den, e0, e1, e2, e3, e4, hx]

def ir29 : IR := (.seq (.ops [⟨(some 2), (.box 29 (.t 0)), none⟩, ⟨(some 3), (.box 55 (.t 1)), none⟩, ⟨(some 4), (.new 29 [(.v (.slice none 0 0)), (.v (.slice none 0 0)), (.v (.slice none 0 0)), (.v (.slice none 0 0)), (.v (.slice none 0 0))]), none⟩, ⟨(some 5), (.mv (.k (.c (.v (.bool false))))), none⟩, ⟨(some 6), (.mv (.k (.c (.v (.int .i64 0))))), none⟩]) (.kill [0, 1, 5, 6, 7, 8, 9, 10, 11] (.seq (.ops [⟨(some 11), (.ld true 5 (.t 2)), none⟩, ⟨(some 12), (.fa 1 (.t 3)), none⟩, ⟨(some 13), (.ld false 1 (.t 12)), none⟩, ⟨(some 14), (.fa 2 (.t 3)), none⟩, ⟨(some 15), (.ld false 1 (.t 14)), none⟩, ⟨(some 16), (.fa 3 (.t 3)), none⟩, ⟨(some 17), (.ld false 1 (.t 16)), none⟩, ⟨(some 18), (.call 25 [(.t 11), (.t 13), (.t 15), (.t 17)]), none⟩, ⟨(some 10), (.mv (.t 18)), none⟩, ⟨(some 19), (.ext 0 (.t 10)), none⟩, ⟨(some 20), (.ext 1 (.t 10)), none⟩, ⟨(some 21), (.ext 2 (.t 10)), none⟩, ⟨(some 7), (.new 29 [(.v (.slice none 0 0)), (.v (.slice none 0 0)), (.v (.slice none 0 0)), (.v (.slice none 0 0)), (.v (.slice none 0 0))]), none⟩, ⟨(some 8), (.new 42 [(.v (.int .i64 0)), (.v (.int .i64 0))]), none⟩, ⟨none, (.st 5 (.t 7) (.t 19)), none⟩, ⟨none, (.st 2 (.t 8) (.t 20)), none⟩, ⟨(some 9), (.mv (.t 21)), none⟩]) (.kill [10, 11, 12, 13, 14, 15, 16, 17, 18, 19, 20, 21] (.seq (.seq (.ops [⟨(some 22), (.mv (.t 9)), none⟩, ⟨(some 23), (.bin .neq (.t 22) (.k (.c (.v (.int .i64 0))))), none⟩]) (.kill [22] (.cond (.t 23) (.seq (.ops [⟨(some 24), (.build [(.v (.slice none 0 0)), (.v (.slice none 0 0)), (.v (.slice none 0 0)), (.v (.slice none 0 0)), (.v (.slice none 0 0))] []), none⟩, ⟨(some 25), (.mv (.t 9)), none⟩, ⟨none, (.st 5 (.t 4) (.t 24)), none⟩, ⟨(some 5), (.mv (.k (.c (.v (.bool false))))), none⟩, ⟨(some 6), (.mv (.t 25)), none⟩]) (.kill [2, 3, 7, 8, 9, 23, 24, 25] .ret)) .skip))) (.kill [5, 6, 9, 23] (.seq (.blk 0 (.seq (.ops [⟨(some 27), (.fa 7 (.t 3)), none⟩, ⟨(some 28), (.fa 0 (.t 27)), none⟩, ⟨(some 29), (.ld false 1 (.t 28)), none⟩, ⟨(some 30), (.bin .eql (.t 29) (.k (.c (.v (.int .i64 0))))), none⟩, ⟨(some 26), (.mv (.t 30)), none⟩]) (.kill [27, 28, 29, 30] (.cond (.t 26) (.seq (.ops [⟨(some 31), (.ld true 5 (.t 7)), none⟩, ⟨none, (.st 5 (.t 4) (.t 31)), none⟩, ⟨(some 5), (.mv (.k (.c (.v (.bool true))))), none⟩, ⟨(some 6), (.mv (.k (.c (.v (.int .i64 0))))), none⟩]) (.kill [2, 3, 7, 8, 26, 31] .ret)) (.seq (.ops [⟨(some 33), (.fa 7 (.t 3)), none⟩, ⟨(some 34), (.fa 0 (.t 33)), none⟩, ⟨(some 35), (.ld false 1 (.t 34)), none⟩, ⟨(some 36), (.bin .eql (.t 35) (.k (.c (.v (.int .i64 4))))), none⟩, ⟨(some 32), (.mv (.t 36)), none⟩]) (.kill [26, 33, 34, 35, 36] (.cond (.t 32) (.seq (.seq (.draw [(⟨(some 37), (.ld true 5 (.t 2)), none⟩, ([], [38, 39, 40, 42, 43])), (⟨(some 38), (.fa 1 (.t 3)), none⟩, ([0], [37, 42, 43])), (⟨(some 39), (.ld false 1 (.t 38)), none⟩, ([0], [37, 42, 43])), (⟨(some 40), (.call 16 [(.t 39)]), none⟩, ([0], [37, 42, 43])), (⟨(some 41), (.call 41 [(.t 37), (.t 40)]), none⟩, ([], [42, 43])), (⟨(some 42), (.fa 1 (.t 3)), none⟩, ([0, 1, 2, 3, 4], [37, 38, 39, 40, 41])), (⟨(some 43), (.ld false 1 (.t 42)), none⟩, ([0, 1, 2, 3, 4], [37, 38, 39, 40, 41])), (⟨(some 44), (.call 46 [(.t 41), (.t 43)]), none⟩, ([], []))]) (.kill [3, 7, 8, 32, 37, 38, 39, 40, 41, 42, 43] (.cond (.t 44) (.seq (.ops [⟨(some 45), (.ld true 5 (.t 2)), none⟩, ⟨(some 46), (.call 42 [(.t 45)]), none⟩, ⟨none, (.st 5 (.t 4) (.t 46)), none⟩, ⟨(some 5), (.mv (.k (.c (.v (.bool true))))), none⟩, ⟨(some 6), (.mv (.k (.c (.v (.int .i64 0))))), none⟩]) (.kill [2, 44, 45, 46] .ret)) .skip))) (.kill [2, 5, 6, 44] (.seq (.ops [⟨(some 47), (.build [(.v (.slice none 0 0)), (.v (.slice none 0 0)), (.v (.slice none 0 0)), (.v (.slice none 0 0)), (.v (.slice none 0 0))] []), none⟩, ⟨none, (.st 5 (.t 4) (.t 47)), none⟩, ⟨(some 5), (.mv (.k (.c (.v (.bool false))))), none⟩, ⟨(some 6), (.mv (.k (.c (.v (.int .i64 0))))), none⟩]) (.kill [47] .ret)))) (.seq (.ops [⟨(some 49), (.fa 7 (.t 3)), none⟩, ⟨(some 50), (.ld true 2 (.t 49)), none⟩, ⟨(some 51), (.ld true 2 (.t 8)), none⟩, ⟨(some 52), (.eqa false [true, true] (.t 50) (.t 51)), none⟩, ⟨(some 48), (.mv (.t 52)), none⟩]) (.kill [2, 3, 8, 32, 49, 50, 51, 52] (.cond (.t 48) (.seq (.ops [⟨(some 53), (.ld true 5 (.t 7)), none⟩, ⟨none, (.st 5 (.t 4) (.t 53)), none⟩, ⟨(some 5), (.mv (.k (.c (.v (.bool true))))), none⟩, ⟨(some 6), (.mv (.k (.c (.v (.int .i64 0))))), none⟩]) (.kill [7, 48, 53] .ret)) .skip)))))))))) (.kill [2, 3, 5, 6, 7, 8, 26, 27, 28, 29, 30, 31, 32, 33, 34, 35, 36, 37, 38, 39, 40, 41, 42, 43, 44, 45, 46, 47, 48, 49, 50, 51, 52, 53] (.seq (.ops [⟨(some 54), (.build [(.v (.slice none 0 0)), (.v (.slice none 0 0)), (.v (.slice none 0 0)), (.v (.slice none 0 0)), (.v (.slice none 0 0))] []), none⟩, ⟨none, (.st 5 (.t 4) (.t 54)), none⟩, ⟨(some 5), (.mv (.k (.c (.v (.bool false))))), none⟩, ⟨(some 6), (.mv (.k (.c (.v (.int .i64 0))))), none⟩]) (.kill [54] .ret))))))))))
def rs29 : List RS := [(.cell 4 true 5), (.t 5), (.t 6)]
def nt29 : Nat := 55
def ir47 : IR := (.seq (.ops [⟨(some 2), (.box 29 (.t 0)), none⟩, ⟨(some 3), (.box 55 (.t 1)), none⟩, ⟨(some 4), (.new 29 [(.v (.slice none 0 0)), (.v (.slice none 0 0)), (.v (.slice none 0 0)), (.v (.slice none 0 0)), (.v (.slice none 0 0))]), none⟩, ⟨(some 5), (.mv (.k (.c (.v (.bool false))))), none⟩]) (.kill [0, 1, 5, 6, 7, 8, 9, 10, 11] (.seq (.ops [⟨(some 9), (.ld true 5 (.t 2)), none⟩, ⟨(some 10), (.fa 1 (.t 3)), none⟩, ⟨(some 11), (.ld false 1 (.t 10)), none⟩, ⟨(some 12), (.fa 2 (.t 3)), none⟩, ⟨(some 13), (.ld false 1 (.t 12)), none⟩, ⟨(some 14), (.fa 3 (.t 3)), none⟩, ⟨(some 15), (.ld false 1 (.t 14)), none⟩, ⟨(some 16), (.call 45 [(.t 9), (.t 11), (.t 13), (.t 15)]), none⟩, ⟨(some 8), (.mv (.t 16)), none⟩, ⟨(some 17), (.ext 0 (.t 8)), none⟩, ⟨(some 18), (.ext 1 (.t 8)), none⟩, ⟨(some 6), (.new 29 [(.v (.slice none 0 0)), (.v (.slice none 0 0)), (.v (.slice none 0 0)), (.v (.slice none 0 0)), (.v (.slice none 0 0))]), none⟩, ⟨(some 7), (.new 42 [(.v (.int .i64 0)), (.v (.int .i64 0))]), none⟩, ⟨none, (.st 5 (.t 6) (.t 17)), none⟩, ⟨none, (.st 2 (.t 7) (.t 18)), none⟩]) (.kill [8, 9, 10, 11, 12, 13, 14, 15, 16, 17, 18] (.seq (.seq (.ops [⟨(some 19), (.fa 7 (.t 3)), none⟩, ⟨(some 20), (.fa 0 (.t 19)), none⟩, ⟨(some 21), (.ld false 1 (.t 20)), none⟩]) (.kill [19, 20] (.blk 0 (.seq (.ops [⟨(some 23), (.bin .eql (.t 21) (.k (.c (.v (.int .i64 0))))), none⟩, ⟨(some 22), (.mv (.t 23)), none⟩]) (.kill [23] (.cond (.t 22) (.seq (.ops [⟨(some 24), (.ld true 5 (.t 6)), none⟩, ⟨none, (.st 5 (.t 4) (.t 24)), none⟩, ⟨(some 5), (.mv (.k (.c (.v (.bool true))))), none⟩]) (.kill [2, 3, 6, 7, 21, 22, 24] .ret)) (.seq (.ops [⟨(some 26), (.bin .eql (.t 21) (.k (.c (.v (.int .i64 4))))), none⟩, ⟨(some 25), (.mv (.t 26)), none⟩]) (.kill [21, 22, 26] (.cond (.t 25) (.seq (.seq (.ops [⟨(some 27), (.fa 1 (.t 3)), none⟩, ⟨(some 28), (.ld false 1 (.t 27)), none⟩]) (.kill [3, 6, 7, 25, 27] (.blk 1 (.seq (.seq (.ops [⟨(some 30), (.bin .eql (.t 28) (.k (.c (.v (.int .i64 22))))), none⟩, ⟨(some 29), (.mv (.t 30)), none⟩]) (.kill [30] (.cond (.t 29) .skip (.seq (.ops [⟨(some 31), (.bin .eql (.t 28) (.k (.c (.v (.int .i64 30))))), none⟩, ⟨(some 29), (.mv (.t 31)), none⟩]) (.kill [31] (.cond (.t 29) .skip (.seq (.ops [⟨(some 32), (.bin .eql (.t 28) (.k (.c (.v (.int .i64 40))))), none⟩, ⟨(some 29), (.mv (.t 32)), none⟩]) (.kill [32] (.cond (.t 29) .skip (.seq (.ops [⟨(some 33), (.bin .eql (.t 28) (.k (.c (.v (.int .i64 50))))), none⟩, ⟨(some 29), (.mv (.t 33)), none⟩]) (.kill [33] (.cond (.t 29) .skip (.ops [⟨(some 34), (.bin .eql (.t 28) (.k (.c (.v (.int .i64 60))))), none⟩, ⟨(some 29), (.mv (.t 34)), none⟩]))))))))))))) (.kill [28, 34] (.cond (.t 29) (.seq (.ops [⟨(some 35), (.ld true 5 (.t 2)), none⟩, ⟨(some 36), (.call 40 [(.t 35)]), none⟩, ⟨none, (.st 5 (.t 4) (.t 36)), none⟩, ⟨(some 5), (.mv (.k (.c (.v (.bool true))))), none⟩]) (.kill [2, 29, 35, 36] .ret)) .skip)))))) (.kill [2, 5, 28, 29, 30, 31, 32, 33, 34, 35, 36] (.seq (.ops [⟨(some 37), (.build [(.v (.slice none 0 0)), (.v (.slice none 0 0)), (.v (.slice none 0 0)), (.v (.slice none 0 0)), (.v (.slice none 0 0))] []), none⟩, ⟨none, (.st 5 (.t 4) (.t 37)), none⟩, ⟨(some 5), (.mv (.k (.c (.v (.bool false))))), none⟩]) (.kill [37] .ret)))) .skip))))))))) (.kill [2, 5, 21, 22, 23, 24, 25, 26, 27, 28, 29, 30, 31, 32, 33, 34, 35, 36, 37] (.seq (.seq (.ops [⟨(some 38), (.fa 0 (.t 7)), none⟩, ⟨(some 39), (.ld false 1 (.t 38)), none⟩, ⟨(some 40), (.fa 7 (.t 3)), none⟩, ⟨(some 41), (.fa 0 (.t 40)), none⟩, ⟨(some 42), (.ld false 1 (.t 41)), none⟩, ⟨(some 43), (.bin .neq (.t 39) (.t 42)), none⟩, ⟨(some 44), (.mv (.t 43)), none⟩, ⟨(some 45), (.fa 1 (.t 7)), (some (44, false))⟩, ⟨(some 46), (.ld false 1 (.t 45)), (some (44, false))⟩, ⟨(some 47), (.fa 7 (.t 3)), (some (44, false))⟩, ⟨(some 48), (.fa 1 (.t 47)), (some (44, false))⟩, ⟨(some 49), (.ld false 1 (.t 48)), (some (44, false))⟩, ⟨(some 50), (.bin .neq (.t 46) (.t 49)), (some (44, false))⟩, ⟨(some 51), (.pick (.t 44) (.k (.c (.v (.bool true)))) (.t 50)), none⟩]) (.kill [3, 7, 38, 39, 40, 41, 42, 43, 44, 45, 46, 47, 48, 49, 50] (.cond (.t 51) (.seq (.ops [⟨(some 52), (.build [(.v (.slice none 0 0)), (.v (.slice none 0 0)), (.v (.slice none 0 0)), (.v (.slice none 0 0)), (.v (.slice none 0 0))] []), none⟩, ⟨none, (.st 5 (.t 4) (.t 52)), none⟩, ⟨(some 5), (.mv (.k (.c (.v (.bool false))))), none⟩]) (.kill [6, 51, 52] .ret)) .skip))) (.kill [5, 51] (.seq (.ops [⟨(some 53), (.ld true 5 (.t 6)), none⟩, ⟨none, (.st 5 (.t 4) (.t 53)), none⟩, ⟨(some 5), (.mv (.k (.c (.v (.bool true))))), none⟩]) (.kill [6, 53] .ret))))))))))
def rs47 : List RS := [(.cell 4 true 5), (.t 5)]
def nt47 : Nat := 54

theorem mcR_id (m : MC) (b : Nat) : ∀ x A', atN (mcR m b) x = some A' → NewIds b 5 x.1 := fun x A' hx => by
  simp only [mcR, mcA] at hx
  rcases atN_one hx with ⟨rfl, _⟩ | hx
  · exact ⟨by simp, by simp⟩
  rcases atN_one hx with ⟨rfl, _⟩ | hx
  · exact ⟨by simp, by simp⟩
  rcases atN_one hx with ⟨rfl, _⟩ | hx
  · exact ⟨by simp, by simp⟩
  rcases atN_one hx with ⟨rfl, _⟩ | hx
  · exact ⟨by simp, by simp⟩
  rcases atN_one hx with ⟨rfl, _⟩ | hx
  · exact ⟨by simp, by simp⟩
  exact (atN_nil hx).elim
theorem full1 {op : Int} (h : objOf op = 1) : fullB op = (op == 22) := by
  unfold fullB; unfold objOf at h; repeat' split at h
  all_goals first | omega | (rw [Bool.eq_iff_iff]; simp; omega)
theorem full2 {op : Int} (h : objOf op = 2) : fullB op = (op == 30) := by
  unfold fullB; unfold objOf at h; repeat' split at h
  all_goals first | omega | (rw [Bool.eq_iff_iff]; simp; omega)
theorem full3 {op : Int} (h : objOf op = 3) : fullB op = (op == 40) := by
  unfold fullB; unfold objOf at h; repeat' split at h
  all_goals first | omega | (rw [Bool.eq_iff_iff]; simp; omega)
theorem full4 {op : Int} (h : objOf op = 4) : fullB op = (op == 50 || op == 60) := by
  unfold fullB; unfold objOf at h; repeat' split at h
  all_goals first | omega | (rw [Bool.eq_iff_iff]; simp; omega)
theorem full5 {op : Int} (h : objOf op = 5) : fullB op = (op == 50 || op == 60) := by
  unfold fullB; unfold objOf at h; repeat' split at h
  all_goals first | omega | (rw [Bool.eq_iff_iff]; simp; omega)
theorem mcopy_Z {v : Value} {m : MC} {w : World} (h : Cont w v m) (hok : m.ok 0) : Calls Try.prog 42 #[v] w (RetB w (fun _ => True) 5 cT (mcR m)) := by
  obtain ⟨x0, x1, x2, x3, x4, rfl, g0, g1, g2, g3, g4⟩ := h
  refine (mCopied (m := m) ⟨_, _, _, _, _, rfl, g0, g1, g2, g3, g4⟩ hok).mono ?_
  rintro e w' ⟨v', rfl, hown, hb⟩
  refine ⟨_, rfl, hb, fun b => ?_⟩
  obtain ⟨N, h1, h2⟩ := retB_D hown b
  refine ⟨N, h1, fun E2 hE => ?_⟩
  obtain ⟨h3, h4⟩ := h2 E2 hE
  exact ⟨h3, fun w'' _ hw'' => h4 w'' hw''⟩
/-- the object of a number, of lists by their names -/
def ofS (n : Int) (i : Nat) : SC := if n = 1 then .ifc 90 (.xv (i, 0, 0)) else if n = 2 then .ifc 91 (.xv (i + 1, 0, 0)) else if n = 3 then .ifc 92 (.xv (i + 2, 0, 0)) else if n = 4 then .ifc 93 (.xv (i + 3, 0, 0)) else .ifc 94 (.xv (i + 4, 0, 0))

set_option maxRecDepth 100000 in
set_option maxHeartbeats 400000 in
theorem al_Z {w : World} {v : Value} {m : MC} (c : Cl) (h : Cont w v m) (hok : MC.okR m) (hm : mayB m = true) (ho : objOf c.op ≠ 0) : Calls Try.prog 29 #[v, .agg c.enc.toArray] w (RetB w (fun _ => True) 5 (alT (allowM m c)) (mcR (allowM m c).1)) := by
  refine enterC (A := []) (c := ir29) (rs := rs29) (nt := nt29) h [.agg (mcS 0), .agg c.sc] _ Try.func29 rfl (by kernel_rfl) (by kernel_rfl) rfl (fun E' h0 => by rw [List.map_cons, h0]; simp [SV.den, SC.den, Cl.sc, Cl.enc]) (of_decide_eq_true rfl) ?_
  simp (config := { maxSteps := 2000000 }) only [ir29, nt29, rs29, go_sem, ↓condS, ↓exitS, ↓gateS, ↓runOp, ↓gateD, ↓runD, ↓imp_ft, ↓imp_tf, ↓imp_tt, ↓imp_ff, ↓imp_fn, ↓imp_tn, ↓imp_fy, ↓imp_ty, ↓reduceIte, Nat.reduceLT, Nat.reduceLeDiff, Nat.reduceAdd, Nat.reduceSub, Nat.reduceMul, Nat.reduceEqDiff, reduceCtorEq, Int.reduceToNat, Int.reduceEq, Int.reduceBEq, Int.reduceBNe, Int.reduceLT, Int.reduceLE, Int.reduceNeg, Int.reduceAdd, Int.reduceSub, Int.reduceMul, Int.reduceGE, Int.reduceGT, Cl.enc, iv, endO, mcS, mcA, Cl.sc, iv]
  refine callF 5 (d3T (doM m c.op c.arg c.data) 0) (mcR (doM m c.op c.arg c.data).1) (fun x A' hx => ?_) (fun E a w' hs => do_Z c.op c.arg c.data (cont_at hs 0 rfl rfl rfl rfl rfl) hok.1 hm ho) ?_
  · exact mcR_id _ _ x A' hx
  simp (config := { maxSteps := 2000000 }) only [go_sem, ↓condS, ↓exitS, ↓gateS, ↓runOp, ↓gateD, ↓runD, ↓imp_ft, ↓imp_tf, ↓imp_tt, ↓imp_ff, ↓imp_fn, ↓imp_tn, ↓imp_fy, ↓imp_ty, ↓reduceIte, Nat.reduceLT, Nat.reduceLeDiff, Nat.reduceAdd, Nat.reduceSub, Nat.reduceMul, Nat.reduceEqDiff, reduceCtorEq, Int.reduceToNat, Int.reduceEq, Int.reduceBEq, Int.reduceBNe, Int.reduceLT, Int.reduceLE, Int.reduceNeg, Int.reduceAdd, Int.reduceSub, Int.reduceMul, Int.reduceGE, Int.reduceGT, Cl.enc, iv, endO, d3T, mcS, mcR, mcA]
  have hB : (mkC Try.prog [] w rs29 (RetB w (fun _ => True) 5 (alT (allowM m c)) (mcR (allowM m c).1))).B = w.heap.size := rfl
  refine both (fun hk => ?_) (fun hk => ?_)
  · have hk : c.kind = 0 := by simpa using hk
    have hd : allowM m c = ((doM m c.op c.arg c.data).1, true) := by simp [allowM, hk]
    rw [hd]
    exact retB5 _ _ _ _ _ (rdN_nw 8 List.mem_cons_self rfl) (rdN_nw 9 List.mem_cons_self rfl) (rdN_nw 10 List.mem_cons_self rfl) (rdN_nw 11 List.mem_cons_self rfl) (rdN_nw 12 List.mem_cons_self rfl) (alT_ok _ _ _ _ _ _ _ fun E => by rw [den_v])
  have hk : c.kind ≠ 0 := by simpa using hk
  refine both (fun h4 => ?_) (fun h4 => ?_)
  · have h4 : c.kind = 4 := by simpa using h4
    have hd : allowM m c = if fullB c.op = true then (m, true) else (mc0, false) := by simp [allowM, h4]
    rw [hd]
    by_cases h1 : objOf c.op = 1
    · skip
      refine draw_vc (by kernel_rfl) (mkTab_ok _ _) (of_decide_eq_true rfl) (of_decide_eq_true rfl) ?_
      repeat (first | simp (config := { maxSteps := 2000000 }) only [go_sem, ↓condS, ↓exitS, ↓gateS, ↓runOp, ↓gateD, ↓runD, ↓imp_ft, ↓imp_tf, ↓imp_tt, ↓imp_ff, ↓imp_fn, ↓imp_tn, ↓imp_fy, ↓imp_ty, ↓reduceIte, Nat.reduceLT, Nat.reduceLeDiff, Nat.reduceAdd, Nat.reduceSub, Nat.reduceMul, Nat.reduceEqDiff, reduceCtorEq, Int.reduceToNat, Int.reduceEq, Int.reduceBEq, Int.reduceBNe, Int.reduceLT, Int.reduceLE, Int.reduceNeg, Int.reduceAdd, Int.reduceSub, Int.reduceMul, Int.reduceGE, Int.reduceGT, Cl.enc, iv, endO] | rw [dr_cons])
      repeat (with_reducible refine And.intro (by first | (simp only [maxLen]; omega) | omega | decide | (simp; done) | (simp [maxLen]; omega)) ?_)
      refine dcallV (.c (.v (.int .i64 (objOf c.op)))) _ (fun E => rfl) (fun E a w' _ => by
        refine (mObject c.op w').mono ?_
        rintro e w'' ⟨rfl, rfl⟩
        exact ⟨rfl, Below.refl _ _⟩) ?_
      repeat (first | simp (config := { maxSteps := 2000000 }) only [go_sem, ↓condS, ↓exitS, ↓gateS, ↓runOp, ↓gateD, ↓runD, ↓imp_ft, ↓imp_tf, ↓imp_tt, ↓imp_ff, ↓imp_fn, ↓imp_tn, ↓imp_fy, ↓imp_ty, ↓reduceIte, Nat.reduceLT, Nat.reduceLeDiff, Nat.reduceAdd, Nat.reduceSub, Nat.reduceMul, Nat.reduceEqDiff, reduceCtorEq, Int.reduceToNat, Int.reduceEq, Int.reduceBEq, Int.reduceBNe, Int.reduceLT, Int.reduceLE, Int.reduceNeg, Int.reduceAdd, Int.reduceSub, Int.reduceMul, Int.reduceGE, Int.reduceGT, Cl.enc, iv, endO] | rw [dr_cons])
      refine dcall_intro (ks := [0]) (cr_valN (.c (.ifc 90 (.xv (0, 0, 0)))) [0] (List.mem_cons_self) fun E a w' hs => by
        have := of_any (E.χ (0, 0, 0)) (E.χ (1, 0, 0)) (E.χ (2, 0, 0)) (E.χ (3, 0, 0)) (E.χ (4, 0, 0)) (objOf c.op) w'
        simp [ofV, h1] at this
        simp [SV.den, SC.den, h1]
        exact this) rfl trivial trivial (fun k hk => by cases hk) ?_
      repeat (first | simp (config := { maxSteps := 2000000 }) only [go_sem, ↓condS, ↓exitS, ↓gateS, ↓runOp, ↓gateD, ↓runD, ↓imp_ft, ↓imp_tf, ↓imp_tt, ↓imp_ff, ↓imp_fn, ↓imp_tn, ↓imp_fy, ↓imp_ty, ↓reduceIte, Nat.reduceLT, Nat.reduceLeDiff, Nat.reduceAdd, Nat.reduceSub, Nat.reduceMul, Nat.reduceEqDiff, reduceCtorEq, Int.reduceToNat, Int.reduceEq, Int.reduceBEq, Int.reduceBNe, Int.reduceLT, Int.reduceLE, Int.reduceNeg, Int.reduceAdd, Int.reduceSub, Int.reduceMul, Int.reduceGE, Int.reduceGT, Cl.enc, iv, endO] | rw [dr_cons])
      refine dcallV (.c (.bo (c.op == 22))) (.bool (c.op == 22)) (fun E => by rw [den_c, den_b]) (fun E a w' hs => by
        obtain ⟨ba, cap, hv, _⟩ := (holds_of hs).1 (0, 0, 0) _ rfl
        have := full_cell ba m.cell.length cap c.op w'
        simp only [List.map_cons, List.map_nil, den_c, SC.den, hv, arrOf_len]
        exact this) ?_
      repeat (first | simp (config := { maxSteps := 2000000 }) only [go_sem, ↓condS, ↓exitS, ↓gateS, ↓runOp, ↓gateD, ↓runD, ↓imp_ft, ↓imp_tf, ↓imp_tt, ↓imp_ff, ↓imp_fn, ↓imp_tn, ↓imp_fy, ↓imp_ty, ↓reduceIte, Nat.reduceLT, Nat.reduceLeDiff, Nat.reduceAdd, Nat.reduceSub, Nat.reduceMul, Nat.reduceEqDiff, reduceCtorEq, Int.reduceToNat, Int.reduceEq, Int.reduceBEq, Int.reduceBNe, Int.reduceLT, Int.reduceLE, Int.reduceNeg, Int.reduceAdd, Int.reduceSub, Int.reduceMul, Int.reduceGE, Int.reduceGT, Cl.enc, iv, endO] | rw [dr_cons])
      have hf : fullB c.op = (c.op == 22) := full1 h1
      refine both (fun hf1 => ?_) (fun hf1 => ?_)
      · rw [if_pos (by rw [hf]; exact hf1)]
        refine callF 5 cT (mcR m) (mcR_id _ _) (fun E a w' hs => mcopy_Z (cont_at hs 0 rfl rfl rfl rfl rfl) (hok.1.le (by decide))) ?_
        simp (config := { maxSteps := 2000000 }) only [go_sem, ↓condS, ↓exitS, ↓gateS, ↓runOp, ↓gateD, ↓runD, ↓imp_ft, ↓imp_tf, ↓imp_tt, ↓imp_ff, ↓imp_fn, ↓imp_tn, ↓imp_fy, ↓imp_ty, ↓reduceIte, Nat.reduceLT, Nat.reduceLeDiff, Nat.reduceAdd, Nat.reduceSub, Nat.reduceMul, Nat.reduceEqDiff, reduceCtorEq, Int.reduceToNat, Int.reduceEq, Int.reduceBEq, Int.reduceBNe, Int.reduceLT, Int.reduceLE, Int.reduceNeg, Int.reduceAdd, Int.reduceSub, Int.reduceMul, Int.reduceGE, Int.reduceGT, Cl.enc, iv, endO, cT, mcS, mcR, mcA]
        exact retB5 _ _ _ _ _ (rdN_nw 15 List.mem_cons_self rfl) (rdN_nw 16 List.mem_cons_self rfl) (rdN_nw 17 List.mem_cons_self rfl) (rdN_nw 18 List.mem_cons_self rfl) (rdN_nw 19 List.mem_cons_self rfl) (alT_ok _ _ _ _ _ _ _ fun E => by rw [den_v])
      · rw [if_neg (by rw [hf, hf1]; simp)]
        exact retB5 _ _ _ _ _ rdN_nil rdN_nil rdN_nil rdN_nil rdN_nil (alT_ok _ _ _ _ _ _ _ fun E => by rw [den_v])
    by_cases h2 : objOf c.op = 2
    · skip
      refine draw_vc (by kernel_rfl) (mkTab_ok _ _) (of_decide_eq_true rfl) (of_decide_eq_true rfl) ?_
      repeat (first | simp (config := { maxSteps := 2000000 }) only [go_sem, ↓condS, ↓exitS, ↓gateS, ↓runOp, ↓gateD, ↓runD, ↓imp_ft, ↓imp_tf, ↓imp_tt, ↓imp_ff, ↓imp_fn, ↓imp_tn, ↓imp_fy, ↓imp_ty, ↓reduceIte, Nat.reduceLT, Nat.reduceLeDiff, Nat.reduceAdd, Nat.reduceSub, Nat.reduceMul, Nat.reduceEqDiff, reduceCtorEq, Int.reduceToNat, Int.reduceEq, Int.reduceBEq, Int.reduceBNe, Int.reduceLT, Int.reduceLE, Int.reduceNeg, Int.reduceAdd, Int.reduceSub, Int.reduceMul, Int.reduceGE, Int.reduceGT, Cl.enc, iv, endO] | rw [dr_cons])
      repeat (with_reducible refine And.intro (by first | (simp only [maxLen]; omega) | omega | decide | (simp; done) | (simp [maxLen]; omega)) ?_)
      refine dcallV (.c (.v (.int .i64 (objOf c.op)))) _ (fun E => rfl) (fun E a w' _ => by
        refine (mObject c.op w').mono ?_
        rintro e w'' ⟨rfl, rfl⟩
        exact ⟨rfl, Below.refl _ _⟩) ?_
      repeat (first | simp (config := { maxSteps := 2000000 }) only [go_sem, ↓condS, ↓exitS, ↓gateS, ↓runOp, ↓gateD, ↓runD, ↓imp_ft, ↓imp_tf, ↓imp_tt, ↓imp_ff, ↓imp_fn, ↓imp_tn, ↓imp_fy, ↓imp_ty, ↓reduceIte, Nat.reduceLT, Nat.reduceLeDiff, Nat.reduceAdd, Nat.reduceSub, Nat.reduceMul, Nat.reduceEqDiff, reduceCtorEq, Int.reduceToNat, Int.reduceEq, Int.reduceBEq, Int.reduceBNe, Int.reduceLT, Int.reduceLE, Int.reduceNeg, Int.reduceAdd, Int.reduceSub, Int.reduceMul, Int.reduceGE, Int.reduceGT, Cl.enc, iv, endO] | rw [dr_cons])
      refine dcall_intro (ks := [1]) (cr_valN (.c (.ifc 91 (.xv (1, 0, 0)))) [1] (List.mem_cons_self) fun E a w' hs => by
        have := of_any (E.χ (0, 0, 0)) (E.χ (1, 0, 0)) (E.χ (2, 0, 0)) (E.χ (3, 0, 0)) (E.χ (4, 0, 0)) (objOf c.op) w'
        simp [ofV, h2] at this
        simp [SV.den, SC.den, h2]
        exact this) rfl trivial trivial (fun k hk => by cases hk) ?_
      repeat (first | simp (config := { maxSteps := 2000000 }) only [go_sem, ↓condS, ↓exitS, ↓gateS, ↓runOp, ↓gateD, ↓runD, ↓imp_ft, ↓imp_tf, ↓imp_tt, ↓imp_ff, ↓imp_fn, ↓imp_tn, ↓imp_fy, ↓imp_ty, ↓reduceIte, Nat.reduceLT, Nat.reduceLeDiff, Nat.reduceAdd, Nat.reduceSub, Nat.reduceMul, Nat.reduceEqDiff, reduceCtorEq, Int.reduceToNat, Int.reduceEq, Int.reduceBEq, Int.reduceBNe, Int.reduceLT, Int.reduceLE, Int.reduceNeg, Int.reduceAdd, Int.reduceSub, Int.reduceMul, Int.reduceGE, Int.reduceGT, Cl.enc, iv, endO] | rw [dr_cons])
      refine dcallV (.c (.bo (c.op == 30))) (.bool (c.op == 30)) (fun E => by rw [den_c, den_b]) (fun E a w' hs => by
        obtain ⟨ba, cap, hv, _⟩ := (holds_of hs).1 (1, 0, 0) _ rfl
        have := full_stack ba m.stack.length cap c.op w'
        simp only [List.map_cons, List.map_nil, den_c, SC.den, hv, arrOf_len]
        exact this) ?_
      repeat (first | simp (config := { maxSteps := 2000000 }) only [go_sem, ↓condS, ↓exitS, ↓gateS, ↓runOp, ↓gateD, ↓runD, ↓imp_ft, ↓imp_tf, ↓imp_tt, ↓imp_ff, ↓imp_fn, ↓imp_tn, ↓imp_fy, ↓imp_ty, ↓reduceIte, Nat.reduceLT, Nat.reduceLeDiff, Nat.reduceAdd, Nat.reduceSub, Nat.reduceMul, Nat.reduceEqDiff, reduceCtorEq, Int.reduceToNat, Int.reduceEq, Int.reduceBEq, Int.reduceBNe, Int.reduceLT, Int.reduceLE, Int.reduceNeg, Int.reduceAdd, Int.reduceSub, Int.reduceMul, Int.reduceGE, Int.reduceGT, Cl.enc, iv, endO] | rw [dr_cons])
      have hf : fullB c.op = (c.op == 30) := full2 h2
      refine both (fun hf1 => ?_) (fun hf1 => ?_)
      · rw [if_pos (by rw [hf]; exact hf1)]
        refine callF 5 cT (mcR m) (mcR_id _ _) (fun E a w' hs => mcopy_Z (cont_at hs 0 rfl rfl rfl rfl rfl) (hok.1.le (by decide))) ?_
        simp (config := { maxSteps := 2000000 }) only [go_sem, ↓condS, ↓exitS, ↓gateS, ↓runOp, ↓gateD, ↓runD, ↓imp_ft, ↓imp_tf, ↓imp_tt, ↓imp_ff, ↓imp_fn, ↓imp_tn, ↓imp_fy, ↓imp_ty, ↓reduceIte, Nat.reduceLT, Nat.reduceLeDiff, Nat.reduceAdd, Nat.reduceSub, Nat.reduceMul, Nat.reduceEqDiff, reduceCtorEq, Int.reduceToNat, Int.reduceEq, Int.reduceBEq, Int.reduceBNe, Int.reduceLT, Int.reduceLE, Int.reduceNeg, Int.reduceAdd, Int.reduceSub, Int.reduceMul, Int.reduceGE, Int.reduceGT, Cl.enc, iv, endO, cT, mcS, mcR, mcA]
        exact retB5 _ _ _ _ _ (rdN_nw 15 List.mem_cons_self rfl) (rdN_nw 16 List.mem_cons_self rfl) (rdN_nw 17 List.mem_cons_self rfl) (rdN_nw 18 List.mem_cons_self rfl) (rdN_nw 19 List.mem_cons_self rfl) (alT_ok _ _ _ _ _ _ _ fun E => by rw [den_v])
      · rw [if_neg (by rw [hf, hf1]; simp)]
        exact retB5 _ _ _ _ _ rdN_nil rdN_nil rdN_nil rdN_nil rdN_nil (alT_ok _ _ _ _ _ _ _ fun E => by rw [den_v])
    by_cases h3 : objOf c.op = 3
    · skip
      refine draw_vc (by kernel_rfl) (mkTab_ok _ _) (of_decide_eq_true rfl) (of_decide_eq_true rfl) ?_
      repeat (first | simp (config := { maxSteps := 2000000 }) only [go_sem, ↓condS, ↓exitS, ↓gateS, ↓runOp, ↓gateD, ↓runD, ↓imp_ft, ↓imp_tf, ↓imp_tt, ↓imp_ff, ↓imp_fn, ↓imp_tn, ↓imp_fy, ↓imp_ty, ↓reduceIte, Nat.reduceLT, Nat.reduceLeDiff, Nat.reduceAdd, Nat.reduceSub, Nat.reduceMul, Nat.reduceEqDiff, reduceCtorEq, Int.reduceToNat, Int.reduceEq, Int.reduceBEq, Int.reduceBNe, Int.reduceLT, Int.reduceLE, Int.reduceNeg, Int.reduceAdd, Int.reduceSub, Int.reduceMul, Int.reduceGE, Int.reduceGT, Cl.enc, iv, endO] | rw [dr_cons])
      repeat (with_reducible refine And.intro (by first | (simp only [maxLen]; omega) | omega | decide | (simp; done) | (simp [maxLen]; omega)) ?_)
      refine dcallV (.c (.v (.int .i64 (objOf c.op)))) _ (fun E => rfl) (fun E a w' _ => by
        refine (mObject c.op w').mono ?_
        rintro e w'' ⟨rfl, rfl⟩
        exact ⟨rfl, Below.refl _ _⟩) ?_
      repeat (first | simp (config := { maxSteps := 2000000 }) only [go_sem, ↓condS, ↓exitS, ↓gateS, ↓runOp, ↓gateD, ↓runD, ↓imp_ft, ↓imp_tf, ↓imp_tt, ↓imp_ff, ↓imp_fn, ↓imp_tn, ↓imp_fy, ↓imp_ty, ↓reduceIte, Nat.reduceLT, Nat.reduceLeDiff, Nat.reduceAdd, Nat.reduceSub, Nat.reduceMul, Nat.reduceEqDiff, reduceCtorEq, Int.reduceToNat, Int.reduceEq, Int.reduceBEq, Int.reduceBNe, Int.reduceLT, Int.reduceLE, Int.reduceNeg, Int.reduceAdd, Int.reduceSub, Int.reduceMul, Int.reduceGE, Int.reduceGT, Cl.enc, iv, endO] | rw [dr_cons])
      refine dcall_intro (ks := [2]) (cr_valN (.c (.ifc 92 (.xv (2, 0, 0)))) [2] (List.mem_cons_self) fun E a w' hs => by
        have := of_any (E.χ (0, 0, 0)) (E.χ (1, 0, 0)) (E.χ (2, 0, 0)) (E.χ (3, 0, 0)) (E.χ (4, 0, 0)) (objOf c.op) w'
        simp [ofV, h3] at this
        simp [SV.den, SC.den, h3]
        exact this) rfl trivial trivial (fun k hk => by cases hk) ?_
      repeat (first | simp (config := { maxSteps := 2000000 }) only [go_sem, ↓condS, ↓exitS, ↓gateS, ↓runOp, ↓gateD, ↓runD, ↓imp_ft, ↓imp_tf, ↓imp_tt, ↓imp_ff, ↓imp_fn, ↓imp_tn, ↓imp_fy, ↓imp_ty, ↓reduceIte, Nat.reduceLT, Nat.reduceLeDiff, Nat.reduceAdd, Nat.reduceSub, Nat.reduceMul, Nat.reduceEqDiff, reduceCtorEq, Int.reduceToNat, Int.reduceEq, Int.reduceBEq, Int.reduceBNe, Int.reduceLT, Int.reduceLE, Int.reduceNeg, Int.reduceAdd, Int.reduceSub, Int.reduceMul, Int.reduceGE, Int.reduceGT, Cl.enc, iv, endO] | rw [dr_cons])
      refine dcallV (.c (.bo (c.op == 40))) (.bool (c.op == 40)) (fun E => by rw [den_c, den_b]) (fun E a w' hs => by
        obtain ⟨ba, cap, hv, _⟩ := (holds_of hs).1 (2, 0, 0) _ rfl
        have := full_queue ba m.queue.length cap c.op w'
        simp only [List.map_cons, List.map_nil, den_c, SC.den, hv, arrOf_len]
        exact this) ?_
      repeat (first | simp (config := { maxSteps := 2000000 }) only [go_sem, ↓condS, ↓exitS, ↓gateS, ↓runOp, ↓gateD, ↓runD, ↓imp_ft, ↓imp_tf, ↓imp_tt, ↓imp_ff, ↓imp_fn, ↓imp_tn, ↓imp_fy, ↓imp_ty, ↓reduceIte, Nat.reduceLT, Nat.reduceLeDiff, Nat.reduceAdd, Nat.reduceSub, Nat.reduceMul, Nat.reduceEqDiff, reduceCtorEq, Int.reduceToNat, Int.reduceEq, Int.reduceBEq, Int.reduceBNe, Int.reduceLT, Int.reduceLE, Int.reduceNeg, Int.reduceAdd, Int.reduceSub, Int.reduceMul, Int.reduceGE, Int.reduceGT, Cl.enc, iv, endO] | rw [dr_cons])
      have hf : fullB c.op = (c.op == 40) := full3 h3
      refine both (fun hf1 => ?_) (fun hf1 => ?_)
      · rw [if_pos (by rw [hf]; exact hf1)]
        refine callF 5 cT (mcR m) (mcR_id _ _) (fun E a w' hs => mcopy_Z (cont_at hs 0 rfl rfl rfl rfl rfl) (hok.1.le (by decide))) ?_
        simp (config := { maxSteps := 2000000 }) only [go_sem, ↓condS, ↓exitS, ↓gateS, ↓runOp, ↓gateD, ↓runD, ↓imp_ft, ↓imp_tf, ↓imp_tt, ↓imp_ff, ↓imp_fn, ↓imp_tn, ↓imp_fy, ↓imp_ty, ↓reduceIte, Nat.reduceLT, Nat.reduceLeDiff, Nat.reduceAdd, Nat.reduceSub, Nat.reduceMul, Nat.reduceEqDiff, reduceCtorEq, Int.reduceToNat, Int.reduceEq, Int.reduceBEq, Int.reduceBNe, Int.reduceLT, Int.reduceLE, Int.reduceNeg, Int.reduceAdd, Int.reduceSub, Int.reduceMul, Int.reduceGE, Int.reduceGT, Cl.enc, iv, endO, cT, mcS, mcR, mcA]
        exact retB5 _ _ _ _ _ (rdN_nw 15 List.mem_cons_self rfl) (rdN_nw 16 List.mem_cons_self rfl) (rdN_nw 17 List.mem_cons_self rfl) (rdN_nw 18 List.mem_cons_self rfl) (rdN_nw 19 List.mem_cons_self rfl) (alT_ok _ _ _ _ _ _ _ fun E => by rw [den_v])
      · rw [if_neg (by rw [hf, hf1]; simp)]
        exact retB5 _ _ _ _ _ rdN_nil rdN_nil rdN_nil rdN_nil rdN_nil (alT_ok _ _ _ _ _ _ _ fun E => by rw [den_v])
    by_cases h4 : objOf c.op = 4
    · skip
      refine draw_vc (by kernel_rfl) (mkTab_ok _ _) (of_decide_eq_true rfl) (of_decide_eq_true rfl) ?_
      repeat (first | simp (config := { maxSteps := 2000000 }) only [go_sem, ↓condS, ↓exitS, ↓gateS, ↓runOp, ↓gateD, ↓runD, ↓imp_ft, ↓imp_tf, ↓imp_tt, ↓imp_ff, ↓imp_fn, ↓imp_tn, ↓imp_fy, ↓imp_ty, ↓reduceIte, Nat.reduceLT, Nat.reduceLeDiff, Nat.reduceAdd, Nat.reduceSub, Nat.reduceMul, Nat.reduceEqDiff, reduceCtorEq, Int.reduceToNat, Int.reduceEq, Int.reduceBEq, Int.reduceBNe, Int.reduceLT, Int.reduceLE, Int.reduceNeg, Int.reduceAdd, Int.reduceSub, Int.reduceMul, Int.reduceGE, Int.reduceGT, Cl.enc, iv, endO] | rw [dr_cons])
      repeat (with_reducible refine And.intro (by first | (simp only [maxLen]; omega) | omega | decide | (simp; done) | (simp [maxLen]; omega)) ?_)
      refine dcallV (.c (.v (.int .i64 (objOf c.op)))) _ (fun E => rfl) (fun E a w' _ => by
        refine (mObject c.op w').mono ?_
        rintro e w'' ⟨rfl, rfl⟩
        exact ⟨rfl, Below.refl _ _⟩) ?_
      repeat (first | simp (config := { maxSteps := 2000000 }) only [go_sem, ↓condS, ↓exitS, ↓gateS, ↓runOp, ↓gateD, ↓runD, ↓imp_ft, ↓imp_tf, ↓imp_tt, ↓imp_ff, ↓imp_fn, ↓imp_tn, ↓imp_fy, ↓imp_ty, ↓reduceIte, Nat.reduceLT, Nat.reduceLeDiff, Nat.reduceAdd, Nat.reduceSub, Nat.reduceMul, Nat.reduceEqDiff, reduceCtorEq, Int.reduceToNat, Int.reduceEq, Int.reduceBEq, Int.reduceBNe, Int.reduceLT, Int.reduceLE, Int.reduceNeg, Int.reduceAdd, Int.reduceSub, Int.reduceMul, Int.reduceGE, Int.reduceGT, Cl.enc, iv, endO] | rw [dr_cons])
      refine dcall_intro (ks := [3]) (cr_valN (.c (.ifc 93 (.xv (3, 0, 0)))) [3] (List.mem_cons_self) fun E a w' hs => by
        have := of_any (E.χ (0, 0, 0)) (E.χ (1, 0, 0)) (E.χ (2, 0, 0)) (E.χ (3, 0, 0)) (E.χ (4, 0, 0)) (objOf c.op) w'
        simp [ofV, h4] at this
        simp [SV.den, SC.den, h4]
        exact this) rfl trivial trivial (fun k hk => by cases hk) ?_
      repeat (first | simp (config := { maxSteps := 2000000 }) only [go_sem, ↓condS, ↓exitS, ↓gateS, ↓runOp, ↓gateD, ↓runD, ↓imp_ft, ↓imp_tf, ↓imp_tt, ↓imp_ff, ↓imp_fn, ↓imp_tn, ↓imp_fy, ↓imp_ty, ↓reduceIte, Nat.reduceLT, Nat.reduceLeDiff, Nat.reduceAdd, Nat.reduceSub, Nat.reduceMul, Nat.reduceEqDiff, reduceCtorEq, Int.reduceToNat, Int.reduceEq, Int.reduceBEq, Int.reduceBNe, Int.reduceLT, Int.reduceLE, Int.reduceNeg, Int.reduceAdd, Int.reduceSub, Int.reduceMul, Int.reduceGE, Int.reduceGT, Cl.enc, iv, endO] | rw [dr_cons])
      refine dcallV (.c (.bo (c.op == 50 || c.op == 60))) (.bool (c.op == 50 || c.op == 60)) (fun E => by rw [den_c, den_b]) (fun E a w' hs => by
        obtain ⟨ba, cap, hv, _⟩ := (holds_of hs).1 (3, 0, 0) _ rfl
        have := full_set ba m.set.length cap c.op w'
        simp only [List.map_cons, List.map_nil, den_c, SC.den, hv, arrOf_len]
        exact this) ?_
      repeat (first | simp (config := { maxSteps := 2000000 }) only [go_sem, ↓condS, ↓exitS, ↓gateS, ↓runOp, ↓gateD, ↓runD, ↓imp_ft, ↓imp_tf, ↓imp_tt, ↓imp_ff, ↓imp_fn, ↓imp_tn, ↓imp_fy, ↓imp_ty, ↓reduceIte, Nat.reduceLT, Nat.reduceLeDiff, Nat.reduceAdd, Nat.reduceSub, Nat.reduceMul, Nat.reduceEqDiff, reduceCtorEq, Int.reduceToNat, Int.reduceEq, Int.reduceBEq, Int.reduceBNe, Int.reduceLT, Int.reduceLE, Int.reduceNeg, Int.reduceAdd, Int.reduceSub, Int.reduceMul, Int.reduceGE, Int.reduceGT, Cl.enc, iv, endO] | rw [dr_cons])
      have hf : fullB c.op = (c.op == 50 || c.op == 60) := full4 h4
      refine both (fun hf1 => ?_) (fun hf1 => ?_)
      · rw [if_pos (by rw [hf]; exact hf1)]
        refine callF 5 cT (mcR m) (mcR_id _ _) (fun E a w' hs => mcopy_Z (cont_at hs 0 rfl rfl rfl rfl rfl) (hok.1.le (by decide))) ?_
        simp (config := { maxSteps := 2000000 }) only [go_sem, ↓condS, ↓exitS, ↓gateS, ↓runOp, ↓gateD, ↓runD, ↓imp_ft, ↓imp_tf, ↓imp_tt, ↓imp_ff, ↓imp_fn, ↓imp_tn, ↓imp_fy, ↓imp_ty, ↓reduceIte, Nat.reduceLT, Nat.reduceLeDiff, Nat.reduceAdd, Nat.reduceSub, Nat.reduceMul, Nat.reduceEqDiff, reduceCtorEq, Int.reduceToNat, Int.reduceEq, Int.reduceBEq, Int.reduceBNe, Int.reduceLT, Int.reduceLE, Int.reduceNeg, Int.reduceAdd, Int.reduceSub, Int.reduceMul, Int.reduceGE, Int.reduceGT, Cl.enc, iv, endO, cT, mcS, mcR, mcA]
        exact retB5 _ _ _ _ _ (rdN_nw 15 List.mem_cons_self rfl) (rdN_nw 16 List.mem_cons_self rfl) (rdN_nw 17 List.mem_cons_self rfl) (rdN_nw 18 List.mem_cons_self rfl) (rdN_nw 19 List.mem_cons_self rfl) (alT_ok _ _ _ _ _ _ _ fun E => by rw [den_v])
      · rw [if_neg (by rw [hf, hf1]; simp)]
        exact retB5 _ _ _ _ _ rdN_nil rdN_nil rdN_nil rdN_nil rdN_nil (alT_ok _ _ _ _ _ _ _ fun E => by rw [den_v])
    by_cases h5 : objOf c.op = 5
    · skip
      refine draw_vc (by kernel_rfl) (mkTab_ok _ _) (of_decide_eq_true rfl) (of_decide_eq_true rfl) ?_
      repeat (first | simp (config := { maxSteps := 2000000 }) only [go_sem, ↓condS, ↓exitS, ↓gateS, ↓runOp, ↓gateD, ↓runD, ↓imp_ft, ↓imp_tf, ↓imp_tt, ↓imp_ff, ↓imp_fn, ↓imp_tn, ↓imp_fy, ↓imp_ty, ↓reduceIte, Nat.reduceLT, Nat.reduceLeDiff, Nat.reduceAdd, Nat.reduceSub, Nat.reduceMul, Nat.reduceEqDiff, reduceCtorEq, Int.reduceToNat, Int.reduceEq, Int.reduceBEq, Int.reduceBNe, Int.reduceLT, Int.reduceLE, Int.reduceNeg, Int.reduceAdd, Int.reduceSub, Int.reduceMul, Int.reduceGE, Int.reduceGT, Cl.enc, iv, endO] | rw [dr_cons])
      repeat (with_reducible refine And.intro (by first | (simp only [maxLen]; omega) | omega | decide | (simp; done) | (simp [maxLen]; omega)) ?_)
      refine dcallV (.c (.v (.int .i64 (objOf c.op)))) _ (fun E => rfl) (fun E a w' _ => by
        refine (mObject c.op w').mono ?_
        rintro e w'' ⟨rfl, rfl⟩
        exact ⟨rfl, Below.refl _ _⟩) ?_
      repeat (first | simp (config := { maxSteps := 2000000 }) only [go_sem, ↓condS, ↓exitS, ↓gateS, ↓runOp, ↓gateD, ↓runD, ↓imp_ft, ↓imp_tf, ↓imp_tt, ↓imp_ff, ↓imp_fn, ↓imp_tn, ↓imp_fy, ↓imp_ty, ↓reduceIte, Nat.reduceLT, Nat.reduceLeDiff, Nat.reduceAdd, Nat.reduceSub, Nat.reduceMul, Nat.reduceEqDiff, reduceCtorEq, Int.reduceToNat, Int.reduceEq, Int.reduceBEq, Int.reduceBNe, Int.reduceLT, Int.reduceLE, Int.reduceNeg, Int.reduceAdd, Int.reduceSub, Int.reduceMul, Int.reduceGE, Int.reduceGT, Cl.enc, iv, endO] | rw [dr_cons])
      refine dcall_intro (ks := [4]) (cr_valN (.c (.ifc 94 (.xv (4, 0, 0)))) [4] (List.mem_cons_self) fun E a w' hs => by
        have := of_any (E.χ (0, 0, 0)) (E.χ (1, 0, 0)) (E.χ (2, 0, 0)) (E.χ (3, 0, 0)) (E.χ (4, 0, 0)) (objOf c.op) w'
        simp [ofV, h5] at this
        simp [SV.den, SC.den, h5]
        exact this) rfl trivial trivial (fun k hk => by cases hk) ?_
      repeat (first | simp (config := { maxSteps := 2000000 }) only [go_sem, ↓condS, ↓exitS, ↓gateS, ↓runOp, ↓gateD, ↓runD, ↓imp_ft, ↓imp_tf, ↓imp_tt, ↓imp_ff, ↓imp_fn, ↓imp_tn, ↓imp_fy, ↓imp_ty, ↓reduceIte, Nat.reduceLT, Nat.reduceLeDiff, Nat.reduceAdd, Nat.reduceSub, Nat.reduceMul, Nat.reduceEqDiff, reduceCtorEq, Int.reduceToNat, Int.reduceEq, Int.reduceBEq, Int.reduceBNe, Int.reduceLT, Int.reduceLE, Int.reduceNeg, Int.reduceAdd, Int.reduceSub, Int.reduceMul, Int.reduceGE, Int.reduceGT, Cl.enc, iv, endO] | rw [dr_cons])
      refine dcallV (.c (.bo (c.op == 50 || c.op == 60))) (.bool (c.op == 50 || c.op == 60)) (fun E => by rw [den_c, den_b]) (fun E a w' hs => by
        obtain ⟨ba, cap, hv, _⟩ := (holds_of hs).1 (4, 0, 0) _ rfl
        have := full_table ba m.table.length cap c.op w'
        simp only [List.map_cons, List.map_nil, den_c, SC.den, hv, arrOf_len]
        exact this) ?_
      repeat (first | simp (config := { maxSteps := 2000000 }) only [go_sem, ↓condS, ↓exitS, ↓gateS, ↓runOp, ↓gateD, ↓runD, ↓imp_ft, ↓imp_tf, ↓imp_tt, ↓imp_ff, ↓imp_fn, ↓imp_tn, ↓imp_fy, ↓imp_ty, ↓reduceIte, Nat.reduceLT, Nat.reduceLeDiff, Nat.reduceAdd, Nat.reduceSub, Nat.reduceMul, Nat.reduceEqDiff, reduceCtorEq, Int.reduceToNat, Int.reduceEq, Int.reduceBEq, Int.reduceBNe, Int.reduceLT, Int.reduceLE, Int.reduceNeg, Int.reduceAdd, Int.reduceSub, Int.reduceMul, Int.reduceGE, Int.reduceGT, Cl.enc, iv, endO] | rw [dr_cons])
      have hf : fullB c.op = (c.op == 50 || c.op == 60) := full5 h5
      refine both (fun hf1 => ?_) (fun hf1 => ?_)
      · rw [if_pos (by rw [hf]; exact hf1)]
        refine callF 5 cT (mcR m) (mcR_id _ _) (fun E a w' hs => mcopy_Z (cont_at hs 0 rfl rfl rfl rfl rfl) (hok.1.le (by decide))) ?_
        simp (config := { maxSteps := 2000000 }) only [go_sem, ↓condS, ↓exitS, ↓gateS, ↓runOp, ↓gateD, ↓runD, ↓imp_ft, ↓imp_tf, ↓imp_tt, ↓imp_ff, ↓imp_fn, ↓imp_tn, ↓imp_fy, ↓imp_ty, ↓reduceIte, Nat.reduceLT, Nat.reduceLeDiff, Nat.reduceAdd, Nat.reduceSub, Nat.reduceMul, Nat.reduceEqDiff, reduceCtorEq, Int.reduceToNat, Int.reduceEq, Int.reduceBEq, Int.reduceBNe, Int.reduceLT, Int.reduceLE, Int.reduceNeg, Int.reduceAdd, Int.reduceSub, Int.reduceMul, Int.reduceGE, Int.reduceGT, Cl.enc, iv, endO, cT, mcS, mcR, mcA]
        exact retB5 _ _ _ _ _ (rdN_nw 15 List.mem_cons_self rfl) (rdN_nw 16 List.mem_cons_self rfl) (rdN_nw 17 List.mem_cons_self rfl) (rdN_nw 18 List.mem_cons_self rfl) (rdN_nw 19 List.mem_cons_self rfl) (alT_ok _ _ _ _ _ _ _ fun E => by rw [den_v])
      · rw [if_neg (by rw [hf, hf1]; simp)]
        exact retB5 _ _ _ _ _ rdN_nil rdN_nil rdN_nil rdN_nil rdN_nil (alT_ok _ _ _ _ _ _ _ fun E => by rw [den_v])
    rcases objOf_six c.op with h | h | h | h | h | h
    · exact absurd h ho
    · exact absurd h h1
    · exact absurd h h2
    · exact absurd h h3
    · exact absurd h h4
    · exact absurd h h5
  have h4 : c.kind ≠ 4 := by simpa using h4
  refine both (fun he => ?_) (fun he => ?_)
  · have he : c.kind = (doM m c.op c.arg c.data).2.1 ∧ c.val = (doM m c.op c.arg c.data).2.2 := by simpa using he
    have hd : allowM m c = ((doM m c.op c.arg c.data).1, true) := by unfold allowM; rw [if_neg hk, if_neg h4, if_pos he]
    rw [hd]
    exact retB5 _ _ _ _ _ (rdN_nw 8 List.mem_cons_self rfl) (rdN_nw 9 List.mem_cons_self rfl) (rdN_nw 10 List.mem_cons_self rfl) (rdN_nw 11 List.mem_cons_self rfl) (rdN_nw 12 List.mem_cons_self rfl) (alT_ok _ _ _ _ _ _ _ fun E => by rw [den_v])
  · have he : ¬ (c.kind = (doM m c.op c.arg c.data).2.1 ∧ c.val = (doM m c.op c.arg c.data).2.2) := by
      intro h
      rw [h.1, h.2] at he
      simp at he
    have hd : allowM m c = (mc0, false) := by unfold allowM; rw [if_neg hk, if_neg h4, if_neg he]
    rw [hd]
    exact retB5 _ _ _ _ _ rdN_nil rdN_nil rdN_nil rdN_nil rdN_nil (alT_ok _ _ _ _ _ _ _ fun E => by rw [den_v])
end Go.Proofs.Ytgljbdcamagdbaa.Z
