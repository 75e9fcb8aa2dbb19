/- Calls one behind the other: the program's and the reference's Play. No statement of the program. -/
import Derived.Test.YtgljbdcamagdbaaZPlain
-- bundled -- short draws -- cl
namespace Go.Proofs.Ytgljbdcamagdbaa.Z
open Go Go.RowKit
set_option linter.unusedSimpArgs false
set_option linter.unusedVariables false

/-- contents and a list handed in -/
theorem enterCL {P : Program} {A : List Nat} {f nt : Nat} {fn : Func} {x : Code} {c : IR} {w : World} {rs : List RS} {R : Ending → World → Prop} {v : Value} {m : MC} (h : Cont w v m) {α : Type} {enc : α → List Value} {s : Nat} {xs : List α} (d : α) {v' : Value} (T : EncT enc s) (h' : Arr w enc s v' xs) (sc : List SV) (args : Array Value)
    (hf : P.funcs[f]? = some fn) (hb : fn.body = some x) (hc : compC (mkTab P A) x = some c.strip) (hr : compR (mkTab P A).T fn.results.toList = some rs) (hn : fn.ntmps = nt)
    (hargs : ∀ E' : Env, (SV.agg (mcS 0)).den E' = v → E'.χ (5, 0, 0) = v' → (sc.map (SV.den E')).toArray = args) (hnt : sc.length ≤ nt)
    (hex : exec (mkC P A w rs R) 1000 [.code c] ⟨nt, enumT 0 sc, [], mcA 0 m ++ [(5, .one (arrOf enc s xs d))], [], 6⟩) : Calls P f args w R := by
  obtain ⟨v0, v1, v2, v3, v4, rfl, h0, h1, h2, h3, h4⟩ := h
  have hone : OneC ⟨fun _ => 0, fun _ => 0, fun _ => false, fun x => if x.1 = 5 then v' else fiv v0 v1 v2 v3 v4 x.1⟩ := fun x => by
    simp only [fiv]
    split
    · exact arr_one h'
    split
    · exact arr_one h0
    · exact arr_one h1
    · exact arr_one h2
    · exact arr_one h3
    · exact arr_one h4
  refine calls_sym (c := c) (C := mkC P A w rs R) 1000 sc ⟨fun _ => 0, fun _ => 0, fun _ => false, fun x => if x.1 = 5 then v' else fiv v0 v1 v2 v3 v4 x.1⟩ [] _ [] 6 nt args (mkTab_ok _ _) hf hb hc hr hn rfl rfl hone (fun E' hE' => hargs E' ?_ ?_) hnt (fun E' hE' => inOk_arrs fun w' hw' x A hA => ?_) hex
  all_goals have e0 : E'.χ (0, 0, 0) = v0 := (hE' (0, 0, 0) (by decide)).2.2.2
  all_goals have e1 : E'.χ (1, 0, 0) = v1 := (hE' (1, 0, 0) (by decide)).2.2.2
  all_goals have e2 : E'.χ (2, 0, 0) = v2 := (hE' (2, 0, 0) (by decide)).2.2.2
  all_goals have e3 : E'.χ (3, 0, 0) = v3 := (hE' (3, 0, 0) (by decide)).2.2.2
  all_goals have e4 : E'.χ (4, 0, 0) = v4 := (hE' (4, 0, 0) (by decide)).2.2.2
  all_goals have e5 : E'.χ (5, 0, 0) = v' := (hE' (5, 0, 0) (by decide)).2.2.2
  · simp [mcS, SV.den, SC.den, e0, e1, e2, e3, e4]
  · exact e5
  · rcases atN_one hA with ⟨rfl, rfl⟩ | hA
    · exact arr1 eI_ok e0 h0 hw'
    rcases atN_one hA with ⟨rfl, rfl⟩ | hA
    · exact arr1 eI_ok e1 h1 hw'
    rcases atN_one hA with ⟨rfl, rfl⟩ | hA
    · exact arr1 eI_ok e2 h2 hw'
    rcases atN_one hA with ⟨rfl, rfl⟩ | hA
    · exact arr1 eI_ok e3 h3 hw'
    rcases atN_one hA with ⟨rfl, rfl⟩ | hA
    · exact arr1 eP_ok e4 h4 hw'
    rcases atN_one hA with ⟨rfl, rfl⟩ | hA
    · exact arr1 T e5 h' hw'
    exact (atN_nil hA).elim

theorem arrOf_tr {α : Type} {enc : α → List Value} {s : Nat} {xs : List α} {d : α} {E E2 : Env} {w : World} {x y : Nm} (hx : E2.χ x = E.χ y) (h : ArrAt E w y (arrOf enc s xs d)) : ArrAt E2 w x (arrOf enc s xs d) := by
  obtain ⟨ba, cap, h1, h2, h3, h4⟩ := h
  refine ⟨ba, cap, hx.trans h1, h2, h3, ?_⟩
  rcases h4 with h4 | ⟨b, off, h5, h7, h6⟩
  · exact Or.inl h4
  · refine Or.inr ⟨b, off, h5, h7, fun k hk => ⟨(h6 k hk).1, fun j u hu => ?_⟩⟩
    have := (h6 k hk).2 j u hu
    simp only [arrOf, List.getElem?_map, Option.map_eq_some_iff] at hu
    obtain ⟨u', _, rfl⟩ := hu
    rw [den_v] at this ⊢
    exact this
theorem nwL_fact {σ : Nm → Nm} {n B : Nat} {fs : List (Env → World → Prop)} {m : MC} (i j : Nat) (h : NwL B (mcA j m) ∈ fs) (h0 : σ (i, 0, 0) = (j, 0, 0)) (h1 : σ (i + 1, 0, 0) = (j + 1, 0, 0)) (h2 : σ (i + 2, 0, 0) = (j + 2, 0, 0)) (h3 : σ (i + 3, 0, 0) = (j + 3, 0, 0)) (h4 : σ (i + 4, 0, 0) = (j + 4, 0, 0)) (hn : i + 5 ≤ n) : FactLe σ n fs (NwL B (mcA i m)) := by
  refine ⟨_, h, fun E E2 w hR hφ w'' hw'' x A hx => ?_⟩
  have key : ∀ k l, σ (k, 0, 0) = (l, 0, 0) → k < n → E2.χ (k, 0, 0) = E.χ (l, 0, 0) := fun k l e hk => by
    have := (hR (k, 0, 0) hk).2.2.2
    rw [e] at this
    exact this
  have hφ := hφ w'' hw''
  rcases atN_one hx with ⟨rfl, rfl⟩ | hx
  · exact arrOf_tr (key _ _ h0 (by omega)) (hφ (j, 0, 0) _ (by simp [mcA, atN, look, Fm.get]))
  rcases atN_one hx with ⟨rfl, rfl⟩ | hx
  · exact arrOf_tr (key _ _ h1 (by omega)) (hφ (j + 1, 0, 0) _ (by simp [mcA, atN, look, Fm.get]))
  rcases atN_one hx with ⟨rfl, rfl⟩ | hx
  · exact arrOf_tr (key _ _ h2 (by omega)) (hφ (j + 2, 0, 0) _ (by simp [mcA, atN, look, Fm.get]))
  rcases atN_one hx with ⟨rfl, rfl⟩ | hx
  · exact arrOf_tr (key _ _ h3 (by omega)) (hφ (j + 3, 0, 0) _ (by simp [mcA, atN, look, Fm.get]))
  rcases atN_one hx with ⟨rfl, rfl⟩ | hx
  · exact arrOf_tr (key _ _ h4 (by omega)) (hφ (j + 4, 0, 0) _ (by simp [mcA, atN, look, Fm.get]))
  exact (atN_nil hx).elim

def plT (p : MC × Int) (b : Nat) : SV := .tup [(true, mcS b), (false, [.v (.int .i64 p.2)]), (false, [.v (.int .i64 0)])]
def rplT (p : MC × Int) (b : Nat) : SV := .tup [(true, mcS b), (false, [.v (.int .i64 p.2)])]
theorem plT_ok (c0 c1 c2 c3 c4 : SC) (p : MC × Int) : ∀ b (E E2 : Env), E2.χ (b, 0, 0) = c0.den E → E2.χ (b + 1, 0, 0) = c1.den E → E2.χ (b + 2, 0, 0) = c2.den E → E2.χ (b + 3, 0, 0) = c3.den E → E2.χ (b + 4, 0, 0) = c4.den E →
    (SV.tup [(true, [c0, c1, c2, c3, c4]), (false, [.v (.int .i64 p.2)]), (false, [.v (.int .i64 0)])]).den E = (plT p b).den E2 := fun b E E2 e0 e1 e2 e3 e4 => by
  simp [plT, mcS, SV.den, den1, SC.den, e0, e1, e2, e3, e4]
theorem rplT_ok (c0 c1 c2 c3 c4 : SC) (p : MC × Int) : ∀ b (E E2 : Env), E2.χ (b, 0, 0) = c0.den E → E2.χ (b + 1, 0, 0) = c1.den E → E2.χ (b + 2, 0, 0) = c2.den E → E2.χ (b + 3, 0, 0) = c3.den E → E2.χ (b + 4, 0, 0) = c4.den E →
    (SV.tup [(true, [c0, c1, c2, c3, c4]), (false, [.v (.int .i64 p.2)])]).den E = (rplT p b).den E2 := fun b E E2 e0 e1 e2 e3 e4 => by
  simp [rplT, mcS, SV.den, den1, SC.den, e0, e1, e2, e3, e4]
/-- calls made so far -/
structure Plg (m0 : MC) (xs : List Cl) (N : Nat) where
  k : Nat
  m : MC
  hk : k ≤ xs.length
  may : mayB m = true
  up : m.upto (N + k)
  eq : playM m0 0 xs = playM m k (xs.drop k)

def ir32 : IR := (.seq (.ops [⟨(some 2), (.box 29 (.t 0)), none⟩, ⟨(some 4), (.new 29 [(.v (.slice none 0 0)), (.v (.slice none 0 0)), (.v (.slice none 0 0)), (.v (.slice none 0 0)), (.v (.slice none 0 0))]), none⟩, ⟨(some 5), (.mv (.k (.c (.v (.int .i64 0))))), none⟩, ⟨(some 6), (.mv (.k (.c (.v (.int .i64 0))))), none⟩]) (.kill [0, 3, 5, 6, 7, 8, 9, 10, 11] (.seq (.seq (.ops [⟨(some 15), (.ld true 5 (.t 2)), none⟩, ⟨(some 16), (.call 18 [(.t 15)]), none⟩, ⟨(some 17), (.un .not (.t 16)), none⟩]) (.kill [15, 16] (.cond (.t 17) (.seq (.ops [⟨(some 18), (.build [(.v (.slice none 0 0)), (.v (.slice none 0 0)), (.v (.slice none 0 0)), (.v (.slice none 0 0)), (.v (.slice none 0 0))] []), none⟩, ⟨none, (.st 5 (.t 4) (.t 18)), none⟩, ⟨(some 5), (.mv (.k (.c (.v (.int .i64 0))))), none⟩, ⟨(some 6), (.mv (.k (.c (.v (.int .i64 111))))), none⟩]) (.kill [1, 2, 17, 18] .ret)) .skip))) (.kill [5, 6, 17] (.seq (.seq (.ops [⟨(some 19), (.mv (.t 1)), none⟩, ⟨(some 20), (.len (.t 19)), none⟩, ⟨(some 21), (.mv (.k (.c (.v (.int .i64 0))))), none⟩]) (.blk 0 (.loop (.seq (.ops [⟨(some 22), (.bin .lss (.t 21) (.t 20)), none⟩]) (.kill [5, 6, 8, 23, 24, 25, 26, 27, 28, 29, 30] (.seq (.cond (.t 22) .skip (.exit 0)) (.kill [22] (.seq (.blk 1 (.seq (.ops [⟨(some 23), (.ia 9 (.t 19) (.t 21)), none⟩, ⟨(some 24), (.ld true 9 (.t 23)), none⟩, ⟨(some 8), (.new 55 [(.v (.int .i64 0)), (.v (.int .i64 0)), (.v (.int .i64 0)), (.v (.int .i64 0)), (.v (.int .i64 0)), (.v (.int .i64 0)), (.v (.int .i64 0)), (.v (.int .i64 0)), (.v (.int .i64 0))]), none⟩, ⟨none, (.st 9 (.t 8) (.t 24)), none⟩]) (.kill [23, 24] (.seq (.ops [⟨(some 25), (.fa 1 (.t 8)), none⟩, ⟨(some 26), (.ld false 1 (.t 25)), none⟩, ⟨(some 27), (.call 16 [(.t 26)]), none⟩, ⟨(some 28), (.bin .eql (.t 27) (.k (.c (.v (.int .i64 0))))), none⟩]) (.kill [8, 25, 26, 27] (.cond (.t 28) (.seq (.ops [⟨(some 29), (.build [(.v (.slice none 0 0)), (.v (.slice none 0 0)), (.v (.slice none 0 0)), (.v (.slice none 0 0)), (.v (.slice none 0 0))] []), none⟩, ⟨none, (.st 5 (.t 4) (.t 29)), none⟩, ⟨(some 5), (.mv (.k (.c (.v (.int .i64 0))))), none⟩, ⟨(some 6), (.mv (.k (.c (.v (.int .i64 110))))), none⟩]) (.kill [1, 2, 19, 20, 21, 28, 29] .ret)) .skip)))))) (.kill [5, 6, 8, 23, 24, 25, 26, 27, 28, 29] (.ops [⟨(some 30), (.bin .add (.t 21) (.k (.c (.v (.int .i64 1))))), none⟩, ⟨(some 21), (.mv (.t 30)), none⟩])))))))))) (.kill [5, 6, 8, 19, 20, 21, 22, 23, 24, 25, 26, 27, 28, 29, 30] (.seq (.ops [⟨(some 31), (.ld true 5 (.t 2)), none⟩, ⟨(some 32), (.call 42 [(.t 31)]), none⟩, ⟨(some 9), (.new 29 [(.v (.slice none 0 0)), (.v (.slice none 0 0)), (.v (.slice none 0 0)), (.v (.slice none 0 0)), (.v (.slice none 0 0))]), none⟩, ⟨none, (.st 5 (.t 9) (.t 32)), none⟩]) (.kill [2, 31, 32] (.seq (.seq (.ops [⟨(some 33), (.mv (.t 1)), none⟩, ⟨(some 34), (.len (.t 33)), none⟩, ⟨(some 35), (.mv (.k (.c (.v (.int .i64 0))))), none⟩]) (.kill [1] (.blk 2 (.loop (.seq (.ops [⟨(some 36), (.bin .lss (.t 35) (.t 34)), none⟩]) (.kill [5, 6, 10, 11, 12, 13, 14, 37, 38, 39, 40, 41, 42, 43, 44, 45, 46, 47, 48, 49, 50, 51, 52] (.seq (.cond (.t 36) .skip (.exit 2)) (.kill [36] (.seq (.blk 3 (.seq (.ops [⟨(some 37), (.mv (.t 35)), none⟩, ⟨(some 38), (.ia 9 (.t 33) (.t 35)), none⟩, ⟨(some 39), (.ld true 9 (.t 38)), none⟩, ⟨(some 11), (.new 55 [(.v (.int .i64 0)), (.v (.int .i64 0)), (.v (.int .i64 0)), (.v (.int .i64 0)), (.v (.int .i64 0)), (.v (.int .i64 0)), (.v (.int .i64 0)), (.v (.int .i64 0)), (.v (.int .i64 0))]), none⟩, ⟨(some 10), (.mv (.t 37)), none⟩, ⟨none, (.st 9 (.t 11) (.t 39)), none⟩]) (.kill [37, 38, 39] (.seq (.ops [⟨(some 41), (.ld true 5 (.t 9)), none⟩, ⟨(some 42), (.ld true 9 (.t 11)), none⟩, ⟨(some 43), (.call 29 [(.t 41), (.t 42)]), none⟩, ⟨(some 40), (.mv (.t 43)), none⟩, ⟨(some 44), (.ext 0 (.t 40)), none⟩, ⟨(some 45), (.ext 1 (.t 40)), none⟩, ⟨(some 46), (.ext 2 (.t 40)), none⟩, ⟨(some 12), (.new 29 [(.v (.slice none 0 0)), (.v (.slice none 0 0)), (.v (.slice none 0 0)), (.v (.slice none 0 0)), (.v (.slice none 0 0))]), none⟩, ⟨none, (.st 5 (.t 12) (.t 44)), none⟩, ⟨(some 13), (.mv (.t 45)), none⟩, ⟨(some 14), (.mv (.t 46)), none⟩]) (.kill [11, 14, 40, 41, 42, 43, 44, 45, 46] (.seq (.seq (.ops [⟨(some 47), (.mv (.t 13)), none⟩, ⟨(some 48), (.un .not (.t 47)), none⟩]) (.kill [13, 47] (.cond (.t 48) (.seq (.ops [⟨(some 49), (.ld true 5 (.t 9)), none⟩, ⟨(some 50), (.mv (.t 10)), none⟩, ⟨none, (.st 5 (.t 4) (.t 49)), none⟩, ⟨(some 5), (.mv (.t 50)), none⟩, ⟨(some 6), (.mv (.k (.c (.v (.int .i64 0))))), none⟩]) (.kill [9, 10, 12, 33, 34, 35, 48, 49, 50] .ret)) .skip))) (.kill [5, 6, 10, 48] (.ops [⟨(some 51), (.ld true 5 (.t 12)), none⟩, ⟨none, (.st 5 (.t 9) (.t 51)), none⟩])))))))) (.kill [5, 6, 10, 11, 12, 13, 14, 37, 38, 39, 40, 41, 42, 43, 44, 45, 46, 47, 48, 49, 50, 51] (.ops [⟨(some 52), (.bin .add (.t 35) (.k (.c (.v (.int .i64 1))))), none⟩, ⟨(some 35), (.mv (.t 52)), none⟩]))))))))))) (.kill [5, 6, 10, 11, 12, 13, 14, 33, 34, 35, 36, 37, 38, 39, 40, 41, 42, 43, 44, 45, 46, 47, 48, 49, 50, 51, 52] (.seq (.ops [⟨(some 53), (.ld true 5 (.t 9)), none⟩, ⟨none, (.st 5 (.t 4) (.t 53)), none⟩, ⟨(some 5), (.mv (.k (.c (.v (.int .i64 (-1)))))), none⟩, ⟨(some 6), (.mv (.k (.c (.v (.int .i64 0))))), none⟩]) (.kill [9, 53] .ret))))))))))))
def rs32 : List RS := [(.cell 4 true 5), (.t 5), (.t 6)]
def nt32 : Nat := 54
def ir49 : IR := (.seq (.ops [⟨(some 2), (.box 29 (.t 0)), none⟩, ⟨(some 4), (.new 29 [(.v (.slice none 0 0)), (.v (.slice none 0 0)), (.v (.slice none 0 0)), (.v (.slice none 0 0)), (.v (.slice none 0 0))]), none⟩, ⟨(some 5), (.mv (.k (.c (.v (.int .i64 0))))), none⟩]) (.kill [0, 3, 5, 6, 7, 8, 9, 10, 11] (.seq (.ops [⟨(some 9), (.ld true 5 (.t 2)), none⟩, ⟨(some 10), (.call 40 [(.t 9)]), none⟩, ⟨none, (.st 5 (.t 2) (.t 10)), none⟩]) (.kill [9, 10] (.seq (.seq (.ops [⟨(some 6), (.mv (.k (.c (.v (.int .i64 0))))), none⟩]) (.blk 0 (.loop (.seq (.seq (.ops [⟨(some 11), (.mv (.t 6)), none⟩, ⟨(some 12), (.mv (.t 1)), none⟩, ⟨(some 13), (.len (.t 12)), none⟩, ⟨(some 14), (.bin .lss (.t 11) (.t 13)), none⟩]) (.kill [5, 7, 8, 11, 12, 13, 15, 16, 17, 18, 19, 20, 21, 22, 23, 24, 25, 26, 27, 28, 29, 30] (.cond (.t 14) .skip (.exit 0)))) (.kill [14] (.seq (.blk 1 (.seq (.draw [(⟨(some 18), (.ld true 5 (.t 2)), none⟩, ([], [19, 20, 21, 22, 7])), (⟨(some 19), (.mv (.t 1)), none⟩, ([0], [18, 20, 7])), (⟨(some 20), (.mv (.t 6)), none⟩, ([0, 1], [18, 19, 7])), (⟨(some 21), (.ia 9 (.t 19) (.t 20)), none⟩, ([0], [18, 7])), (⟨(some 22), (.ld true 9 (.t 21)), none⟩, ([0], [18, 7])), (⟨(some 23), (.call 47 [(.t 18), (.t 22)]), none⟩, ([], [7])), (⟨(some 17), (.mv (.t 23)), none⟩, ([], [7])), (⟨(some 24), (.ext 0 (.t 17)), none⟩, ([], [25, 7])), (⟨(some 25), (.ext 1 (.t 17)), none⟩, ([7], [24, 7])), (⟨(some 7), (.new 29 [(.v (.slice none 0 0)), (.v (.slice none 0 0)), (.v (.slice none 0 0)), (.v (.slice none 0 0)), (.v (.slice none 0 0))]), none⟩, ([0, 1, 2, 3, 4, 5, 6, 7, 8], [18, 19, 20, 21, 22, 23, 17, 24, 25])), (⟨none, (.st 5 (.t 7) (.t 24)), none⟩, ([8], [25])), (⟨(some 8), (.mv (.t 25)), none⟩, ([], []))]) (.kill [17, 18, 19, 20, 21, 22, 23, 24, 25] (.seq (.seq (.ops [⟨(some 26), (.mv (.t 8)), none⟩, ⟨(some 27), (.un .not (.t 26)), none⟩]) (.kill [8, 26] (.cond (.t 27) (.seq (.ops [⟨(some 28), (.ld true 5 (.t 2)), none⟩, ⟨(some 29), (.mv (.t 6)), none⟩, ⟨none, (.st 5 (.t 4) (.t 28)), none⟩, ⟨(some 5), (.mv (.t 29)), none⟩]) (.kill [1, 2, 6, 7, 27, 28, 29] .ret)) .skip))) (.kill [5, 27] (.ops [⟨(some 30), (.ld true 5 (.t 7)), none⟩, ⟨none, (.st 5 (.t 2) (.t 30)), none⟩])))))) (.kill [5, 7, 8, 17, 18, 19, 20, 21, 22, 23, 24, 25, 26, 27, 28, 29, 30] (.ops [⟨(some 15), (.mv (.t 6)), none⟩, ⟨(some 16), (.bin .add (.t 15) (.k (.c (.v (.int .i64 1))))), none⟩, ⟨(some 6), (.mv (.t 16)), none⟩])))))))) (.kill [1, 5, 6, 7, 8, 11, 12, 13, 14, 15, 16, 17, 18, 19, 20, 21, 22, 23, 24, 25, 26, 27, 28, 29, 30] (.seq (.ops [⟨(some 31), (.ld true 5 (.t 2)), none⟩, ⟨none, (.st 5 (.t 4) (.t 31)), none⟩, ⟨(some 5), (.mv (.k (.c (.v (.int .i64 (-1)))))), none⟩]) (.kill [2, 31] .ret))))))))
def rs49 : List RS := [(.cell 4 true 5), (.t 5)]
def nt49 : Nat := 32
set_option maxRecDepth 100000 in
set_option maxHeartbeats 400000 in
theorem play_Z {w : World} {v v' : Value} {m : MC} {xs : List Cl} {N : Nat} (h : Cont w v m) (hu : m.upto N) (hN : N ≤ 100000000) (hm : mayB m = true) (h' : Arr w Cl.enc 9 v' xs) (hx : xs.length ≤ N) (ho : ∀ k, k < xs.length → objOf (xs.getD k cl0).op ≠ 0) :
    Calls Try.prog 32 #[v, v'] w (RetB w (fun _ => True) 5 (plT (playM m 0 xs)) (mcR (playM m 0 xs).1)) := by
  have hok : MC.okR m := hu.okR (by omega)
  refine enterCL (A := []) (c := ir32) (rs := rs32) (nt := nt32) h cl0 cl_ok h' [.agg (mcS 0), .c (.xv (5, 0, 0))] _ Try.func32 rfl (by kernel_rfl) (by kernel_rfl) rfl (fun E' h0 h1 => by rw [List.map_cons, h0]; simp [SV.den, SC.den, h1]) (of_decide_eq_true rfl) ?_
  simp (config := { maxSteps := 2000000 }) only [ir32, nt32, rs32, go_sem, ↓condS, ↓exitS, ↓gateS, ↓runOp, ↓gateD, ↓runD, ↓imp_ft, ↓imp_tf, ↓imp_tt, ↓imp_ff, ↓imp_fn, ↓imp_tn, ↓imp_fy, ↓imp_ty, ↓reduceIte, Nat.reduceLT, Nat.reduceLeDiff, Nat.reduceAdd, Nat.reduceSub, Nat.reduceMul, Nat.reduceEqDiff, reduceCtorEq, Int.reduceToNat, Int.reduceEq, Int.reduceBEq, Int.reduceBNe, Int.reduceLT, Int.reduceLE, Int.reduceNeg, Int.reduceAdd, Int.reduceSub, Int.reduceMul, Int.reduceGE, Int.reduceGT, Cl.enc, iv, endO, mcS, mcA, List.cons_append, List.nil_append]
  refine callV (.c (.v (.bool true))) (.bool true) (fun E => rfl) (fun E a w' hs => ?_) ?_
  · have := may_Z (w := w') (cont_at hs 0 rfl rfl rfl rfl rfl) (m := m)
    rw [hm] at this
    exact this
  simp (config := { maxSteps := 2000000 }) only [go_sem, ↓condS, ↓exitS, ↓gateS, ↓runOp, ↓gateD, ↓runD, ↓imp_ft, ↓imp_tf, ↓imp_tt, ↓imp_ff, ↓imp_fn, ↓imp_tn, ↓imp_fy, ↓imp_ty, ↓reduceIte, Nat.reduceLT, Nat.reduceLeDiff, Nat.reduceAdd, Nat.reduceSub, Nat.reduceMul, Nat.reduceEqDiff, reduceCtorEq, Int.reduceToNat, Int.reduceEq, Int.reduceBEq, Int.reduceBNe, Int.reduceLT, Int.reduceLE, Int.reduceNeg, Int.reduceAdd, Int.reduceSub, Int.reduceMul, Int.reduceGE, Int.reduceGT, Cl.enc, iv, endO]
  refine loopI (ι := { k : Nat // k ≤ xs.length }) (fun k => ⟨54, [(1, .c (.xv (5, 0, 0))), (2, .c (.ptr (6, 0, 0) 0)), (4, .c (.ptr (7, 0, 0) 0)), (19, .c (.xv (5, 0, 0))), (20, .c (.v (.int .i64 xs.length))), (21, .c (.v (.int .i64 (k.1 : Nat))))],
    [(6, .one (.bk (mcS 0) 29)), (7, .one (.bk [.v (.slice none 0 0), .v (.slice none 0 0), .v (.slice none 0 0), .v (.slice none 0 0), .v (.slice none 0 0)] 29))], mcA 0 m ++ [(5, .one (arrOf Cl.enc 9 xs cl0))], [], 8⟩)
    (fun k => xs.length - k.1) ⟨0, by omega⟩ (le_refl _) ?_
  rintro ⟨k, hk⟩
  simp (config := { maxSteps := 2000000 }) only [go_sem, ↓condS, ↓exitS, ↓gateS, ↓runOp, ↓gateD, ↓runD, ↓imp_ft, ↓imp_tf, ↓imp_tt, ↓imp_ff, ↓imp_fn, ↓imp_tn, ↓imp_fy, ↓imp_ty, ↓reduceIte, Nat.reduceLT, Nat.reduceLeDiff, Nat.reduceAdd, Nat.reduceSub, Nat.reduceMul, Nat.reduceEqDiff, reduceCtorEq, Int.reduceToNat, Int.reduceEq, Int.reduceBEq, Int.reduceBNe, Int.reduceLT, Int.reduceLE, Int.reduceNeg, Int.reduceAdd, Int.reduceSub, Int.reduceMul, Int.reduceGE, Int.reduceGT, Cl.enc, iv, endO, mcS, mcA, List.cons_append, List.nil_append]
  refine both (fun hlt => ?_) (fun hge => ?_)
  · rw [decide_eq_true_eq] at hlt
    have hlt : k < xs.length := by omega
    repeat (with_reducible refine And.intro (by first | (simp only [maxLen]; omega) | omega | decide | (simp; done) | (simp [maxLen]; omega)) ?_)
    refine callV (.c (.v (.int .i64 (objOf (xs.getD k cl0).op)))) _ (fun E => rfl) (fun E a w' hs => by
      have := obj_Z (xs.getD k cl0).op w'
      exact this) ?_
    simp (config := { maxSteps := 2000000 }) only [go_sem, ↓condS, ↓exitS, ↓gateS, ↓runOp, ↓gateD, ↓runD, ↓imp_ft, ↓imp_tf, ↓imp_tt, ↓imp_ff, ↓imp_fn, ↓imp_tn, ↓imp_fy, ↓imp_ty, ↓reduceIte, Nat.reduceLT, Nat.reduceLeDiff, Nat.reduceAdd, Nat.reduceSub, Nat.reduceMul, Nat.reduceEqDiff, reduceCtorEq, Int.reduceToNat, Int.reduceEq, Int.reduceBEq, Int.reduceBNe, Int.reduceLT, Int.reduceLE, Int.reduceNeg, Int.reduceAdd, Int.reduceSub, Int.reduceMul, Int.reduceGE, Int.reduceGT, Cl.enc, iv, endO]
    refine both (fun hz => ?_) (fun _ => ?_)
    · simp at hz; exact absurd hz (ho k hlt)
    rw [wr_succ (by omega)]
    exact backI ⟨k + 1, hlt⟩ (by simp only; omega) (le_ren (id) rfl rfl (by simp [TmpsLe, look, SV.ren, SC.ren, SC.renL, ren1L, ren1, idσ, SV.okN, SC.okN, SC.okL, ok1L]) (by simp [OwnLe, BlkLeO, BlkLe, atN, look, Fm.get, idσ, SC.renL, SC.ren, SC.okL, SC.okN, renL_v, okL_v]) (by simp [ArrsLe, ArrLeO, atN, look, Fm.get, idσ, arrLe_of, arrLe_0]) rfl)
  refine callF 5 cT (mcR m) (mcR_id _ _) (fun E a w' hs => mcopy_Z (cont_at hs 0 rfl rfl rfl rfl rfl) (hok.1.le (by decide))) ?_
  simp (config := { maxSteps := 2000000 }) only [go_sem, ↓condS, ↓exitS, ↓gateS, ↓runOp, ↓gateD, ↓runD, ↓imp_ft, ↓imp_tf, ↓imp_tt, ↓imp_ff, ↓imp_fn, ↓imp_tn, ↓imp_fy, ↓imp_ty, ↓reduceIte, Nat.reduceLT, Nat.reduceLeDiff, Nat.reduceAdd, Nat.reduceSub, Nat.reduceMul, Nat.reduceEqDiff, reduceCtorEq, Int.reduceToNat, Int.reduceEq, Int.reduceBEq, Int.reduceBNe, Int.reduceLT, Int.reduceLE, Int.reduceNeg, Int.reduceAdd, Int.reduceSub, Int.reduceMul, Int.reduceGE, Int.reduceGT, Cl.enc, iv, endO, cT, mcS, mcR, mcA]
  refine loopI (ι := Plg m xs N) (fun g => ⟨54, [(4, .c (.ptr (7, 0, 0) 0)), (9, .c (.ptr (6, 0, 0) 0)), (33, .c (.xv (5, 0, 0))), (34, .c (.v (.int .i64 xs.length))), (35, .c (.v (.int .i64 (g.k : Nat))))],
    [(7, .one (.bk [.v (.slice none 0 0), .v (.slice none 0 0), .v (.slice none 0 0), .v (.slice none 0 0), .v (.slice none 0 0)] 29)), (6, .one (.bk (mcS 0) 29))], mcA 0 g.m ++ [(5, .one (arrOf Cl.enc 9 xs cl0))], [NwL w.heap.size (mcA 0 g.m)], 8⟩)
    (fun g => xs.length - g.k) ⟨0, m, by omega, hm, hu, rfl⟩ ?_ ?_
  · simp only [mcS, mcA, List.cons_append, List.nil_append]
    exact (le_renF (fun i => if i < 5 then i + 8 else if i = 6 then 13 else i) rfl (⟨nwL_fact 0 8 List.mem_cons_self rfl rfl rfl rfl rfl (of_decide_eq_true rfl), trivial⟩) (by simp [TmpsLe, look, SV.ren, SC.ren, SC.renL, ren1L, ren1, idσ, SV.okN, SC.okN, SC.okL, ok1L]) (by simp [OwnLe, BlkLeO, BlkLe, atN, look, Fm.get, idσ, SC.renL, SC.ren, SC.okL, SC.okN, renL_v, okL_v]) (by simp [ArrsLe, ArrLeO, atN, look, Fm.get, idσ, arrLe_of, arrLe_0]) rfl)
  rintro ⟨k, m', hk, may, up, eq⟩
  simp (config := { maxSteps := 2000000 }) only [go_sem, ↓condS, ↓exitS, ↓gateS, ↓runOp, ↓gateD, ↓runD, ↓imp_ft, ↓imp_tf, ↓imp_tt, ↓imp_ff, ↓imp_fn, ↓imp_tn, ↓imp_fy, ↓imp_ty, ↓reduceIte, Nat.reduceLT, Nat.reduceLeDiff, Nat.reduceAdd, Nat.reduceSub, Nat.reduceMul, Nat.reduceEqDiff, reduceCtorEq, Int.reduceToNat, Int.reduceEq, Int.reduceBEq, Int.reduceBNe, Int.reduceLT, Int.reduceLE, Int.reduceNeg, Int.reduceAdd, Int.reduceSub, Int.reduceMul, Int.reduceGE, Int.reduceGT, Cl.enc, iv, endO, mcS, mcA, List.cons_append, List.nil_append]
  refine both (fun hlt => ?_) (fun hge => ?_)
  · rw [decide_eq_true_eq] at hlt
    have hlt : k < xs.length := by omega
    repeat (with_reducible refine And.intro (by first | (simp only [maxLen]; omega) | omega | decide | (simp; done) | (simp [maxLen]; omega)) ?_)
    have hok' : MC.okR m' := up.okR (by omega)
    refine callF 5 (alT (allowM m' (xs.getD k cl0))) (mcR (allowM m' (xs.getD k cl0)).1) (mcR_id _ _) (fun E a w' hs => al_Z (xs.getD k cl0) (cont_at hs 0 rfl rfl rfl rfl rfl) hok' may (ho k hlt)) ?_
    simp (config := { maxSteps := 2000000 }) only [go_sem, ↓condS, ↓exitS, ↓gateS, ↓runOp, ↓gateD, ↓runD, ↓imp_ft, ↓imp_tf, ↓imp_tt, ↓imp_ff, ↓imp_fn, ↓imp_tn, ↓imp_fy, ↓imp_ty, ↓reduceIte, Nat.reduceLT, Nat.reduceLeDiff, Nat.reduceAdd, Nat.reduceSub, Nat.reduceMul, Nat.reduceEqDiff, reduceCtorEq, Int.reduceToNat, Int.reduceEq, Int.reduceBEq, Int.reduceBNe, Int.reduceLT, Int.reduceLE, Int.reduceNeg, Int.reduceAdd, Int.reduceSub, Int.reduceMul, Int.reduceGE, Int.reduceGT, Cl.enc, iv, endO, alT, mcS, mcR, mcA]
    have hdr : xs.drop k = xs.getD k cl0 :: xs.drop (k + 1) := by rw [List.drop_eq_getElem_cons hlt]; simp [List.getD_eq_getElem?_getD, List.getElem?_eq_getElem hlt]
    rw [hdr] at eq
    have hup := allowM_upto (c := xs.getD k cl0) up
    have hmy := allowM_may (c := xs.getD k cl0) may
    simp only [playM] at eq
    generalize allowM m' (xs.getD k cl0) = p at eq hup hmy ⊢
    obtain ⟨m2, b⟩ := p
    simp only at eq hup hmy
    refine both (fun hb => ?_) (fun hb => ?_)
    · have hb : b = false := by simpa using hb
      rw [hb, if_neg (by simp)] at eq
      have heq : playM m 0 xs = (m', (k : Int)) := by rw [eq]
      rw [heq]
      exact retB5 _ _ _ _ _ (rdN_nw 0 (L := mcA 0 m') (List.mem_cons_of_mem _ List.mem_cons_self) rfl) (rdN_nw 1 (L := mcA 0 m') (List.mem_cons_of_mem _ List.mem_cons_self) rfl) (rdN_nw 2 (L := mcA 0 m') (List.mem_cons_of_mem _ List.mem_cons_self) rfl) (rdN_nw 3 (L := mcA 0 m') (List.mem_cons_of_mem _ List.mem_cons_self) rfl) (rdN_nw 4 (L := mcA 0 m') (List.mem_cons_of_mem _ List.mem_cons_self) rfl) (plT_ok _ _ _ _ _ (m', (k : Int)))
    · have hb : b = true := by simpa using hb
      rw [hb, if_pos rfl] at eq
      rw [wr_succ (by omega)]
      refine backI ⟨k + 1, m2, hlt, hmy, by rw [show N + (k + 1) = N + k + 1 by omega]; exact hup, by rw [eq]⟩ (by simp only; omega) ?_
      simp only [mcS, mcA, List.cons_append, List.nil_append]
      exact (le_renF (fun i => if i < 5 then i + 9 else i) rfl (⟨nwL_fact 0 9 List.mem_cons_self rfl rfl rfl rfl rfl (of_decide_eq_true rfl), trivial⟩) (by simp [TmpsLe, look, SV.ren, SC.ren, SC.renL, ren1L, ren1, idσ, SV.okN, SC.okN, SC.okL, ok1L]) (by simp [OwnLe, BlkLeO, BlkLe, atN, look, Fm.get, idσ, SC.renL, SC.ren, SC.okL, SC.okN, renL_v, okL_v]) (by simp [ArrsLe, ArrLeO, atN, look, Fm.get, idσ, arrLe_of, arrLe_0]) rfl)
  · rw [decide_eq_false_iff_not] at hge
    have hk' : k = xs.length := by omega
    subst hk'
    rw [List.drop_length] at eq
    have heq : playM m 0 xs = (m', -1) := by rw [eq]; rfl
    rw [heq]
    exact retB5 _ _ _ _ _ (rdN_nw 0 (L := mcA 0 m') List.mem_cons_self rfl) (rdN_nw 1 (L := mcA 0 m') List.mem_cons_self rfl) (rdN_nw 2 (L := mcA 0 m') List.mem_cons_self rfl) (rdN_nw 3 (L := mcA 0 m') List.mem_cons_self rfl) (rdN_nw 4 (L := mcA 0 m') List.mem_cons_self rfl) (plT_ok _ _ _ _ _ (m', -1))

set_option maxRecDepth 100000 in
set_option maxHeartbeats 400000 in
theorem rplay_Z {w : World} {v v' : Value} {m : MC} {xs : List Cl} {N : Nat} (h : Cont w v m) (hu : m.upto N) (hN : N ≤ 100000000) (hm : mayB m = true) (h' : Arr w Cl.enc 9 v' xs) (hx : xs.length ≤ N) (ho : ∀ k, k < xs.length → objOf (xs.getD k cl0).op ≠ 0) :
    Calls Try.prog 49 #[v, v'] w (RetB w (fun _ => True) 5 (rplT (playM m 0 xs)) (mcR (playM m 0 xs).1)) := by
  have hok : MC.okR m := hu.okR (by omega)
  refine enterCL (A := []) (c := ir49) (rs := rs49) (nt := nt49) h cl0 cl_ok h' [.agg (mcS 0), .c (.xv (5, 0, 0))] _ Try.func49 rfl (by kernel_rfl) (by kernel_rfl) rfl (fun E' h0 h1 => by rw [List.map_cons, h0]; simp [SV.den, SC.den, h1]) (of_decide_eq_true rfl) ?_
  simp (config := { maxSteps := 2000000 }) only [ir49, nt49, rs49, go_sem, ↓condS, ↓exitS, ↓gateS, ↓runOp, ↓gateD, ↓runD, ↓imp_ft, ↓imp_tf, ↓imp_tt, ↓imp_ff, ↓imp_fn, ↓imp_tn, ↓imp_fy, ↓imp_ty, ↓reduceIte, Nat.reduceLT, Nat.reduceLeDiff, Nat.reduceAdd, Nat.reduceSub, Nat.reduceMul, Nat.reduceEqDiff, reduceCtorEq, Int.reduceToNat, Int.reduceEq, Int.reduceBEq, Int.reduceBNe, Int.reduceLT, Int.reduceLE, Int.reduceNeg, Int.reduceAdd, Int.reduceSub, Int.reduceMul, Int.reduceGE, Int.reduceGT, Cl.enc, iv, endO, mcS, mcA, List.cons_append, List.nil_append]
  refine callL 5 cT (mcR m) (mcR_sz m) (fun E a w' hs => rmcopy_Z (cont_at hs 0 rfl rfl rfl rfl rfl) (hok.1.le (by decide))) ?_
  simp (config := { maxSteps := 2000000 }) only [go_sem, ↓condS, ↓exitS, ↓gateS, ↓runOp, ↓gateD, ↓runD, ↓imp_ft, ↓imp_tf, ↓imp_tt, ↓imp_ff, ↓imp_fn, ↓imp_tn, ↓imp_fy, ↓imp_ty, ↓reduceIte, Nat.reduceLT, Nat.reduceLeDiff, Nat.reduceAdd, Nat.reduceSub, Nat.reduceMul, Nat.reduceEqDiff, reduceCtorEq, Int.reduceToNat, Int.reduceEq, Int.reduceBEq, Int.reduceBNe, Int.reduceLT, Int.reduceLE, Int.reduceNeg, Int.reduceAdd, Int.reduceSub, Int.reduceMul, Int.reduceGE, Int.reduceGT, Cl.enc, iv, endO, cT, mcS, low_mcR, mcA, mkC_B]
  refine loopI (ι := Plg m xs N) (fun g => ⟨32, [(1, .c (.xv (5, 0, 0))), (2, .c (.ptr (6, 0, 0) 0)), (4, .c (.ptr (7, 0, 0) 0)), (6, .c (.v (.int .i64 (g.k : Nat))))],
    [(6, .one (.bk (mcS 0) 29)), (7, .one (.bk [.v (.slice none 0 0), .v (.slice none 0 0), .v (.slice none 0 0), .v (.slice none 0 0), .v (.slice none 0 0)] 29))], mcA 0 g.m w.heap.size ++ [(5, .one (arrOf Cl.enc 9 xs cl0))], [], 8⟩)
    (fun g => xs.length - g.k) ⟨0, m, by omega, hm, hu, rfl⟩ ?_ ?_
  · simp only [mcS, mcA, List.cons_append, List.nil_append]
    exact (le_ren (fun i => if i < 5 then i + 8 else i) rfl rfl (by simp [TmpsLe, look, SV.ren, SC.ren, SC.renL, ren1L, ren1, idσ, SV.okN, SC.okN, SC.okL, ok1L]) (by simp [OwnLe, BlkLeO, BlkLe, atN, look, Fm.get, idσ, SC.renL, SC.ren, SC.okL, SC.okN, renL_v, okL_v]) (by simp [ArrsLe, ArrLeO, atN, look, Fm.get, idσ, arrLe_of, arrLe_0]) rfl)
  rintro ⟨k, m', hk, may, up, eq⟩
  simp (config := { maxSteps := 2000000 }) only [go_sem, ↓condS, ↓exitS, ↓gateS, ↓runOp, ↓gateD, ↓runD, ↓imp_ft, ↓imp_tf, ↓imp_tt, ↓imp_ff, ↓imp_fn, ↓imp_tn, ↓imp_fy, ↓imp_ty, ↓reduceIte, Nat.reduceLT, Nat.reduceLeDiff, Nat.reduceAdd, Nat.reduceSub, Nat.reduceMul, Nat.reduceEqDiff, reduceCtorEq, Int.reduceToNat, Int.reduceEq, Int.reduceBEq, Int.reduceBNe, Int.reduceLT, Int.reduceLE, Int.reduceNeg, Int.reduceAdd, Int.reduceSub, Int.reduceMul, Int.reduceGE, Int.reduceGT, Cl.enc, iv, endO, mcS, mcA, List.cons_append, List.nil_append]
  have hdr : k < xs.length → xs.drop k = xs.getD k cl0 :: xs.drop (k + 1) := fun hlt => by rw [List.drop_eq_getElem_cons hlt]; simp [List.getD_eq_getElem?_getD, List.getElem?_eq_getElem hlt]
  refine both (fun hlt => ?_) (fun hge => ?_)
  · rw [decide_eq_true_eq] at hlt
    have hlt : k < xs.length := by omega
    have hok' : MC.okR m' := up.okR (by omega)
    refine draw_vc (by kernel_rfl) (mkTab_ok _ _) (of_decide_eq_true rfl) (of_decide_eq_true rfl) ?_
    repeat (first | simp (config := { maxSteps := 2000000 }) only [go_sem, ↓condS, ↓exitS, ↓gateS, ↓runOp, ↓gateD, ↓runD, ↓imp_ft, ↓imp_tf, ↓imp_tt, ↓imp_ff, ↓imp_fn, ↓imp_tn, ↓imp_fy, ↓imp_ty, ↓reduceIte, Nat.reduceLT, Nat.reduceLeDiff, Nat.reduceAdd, Nat.reduceSub, Nat.reduceMul, Nat.reduceEqDiff, reduceCtorEq, Int.reduceToNat, Int.reduceEq, Int.reduceBEq, Int.reduceBNe, Int.reduceLT, Int.reduceLE, Int.reduceNeg, Int.reduceAdd, Int.reduceSub, Int.reduceMul, Int.reduceGE, Int.reduceGT, Cl.enc, iv, endO] | rw [dr_cons])
    repeat (with_reducible refine And.intro (by first | (simp only [maxLen]; omega) | omega | decide | (simp; done) | (simp [maxLen]; omega)) ?_)
    refine dcallL 5 (ralT (allowM m' (xs.getD k cl0))) (mcR (allowM m' (xs.getD k cl0)).1) (mcR_sz _) (fun E a w' hs => ral_Z (xs.getD k cl0) (cont_at hs 0 rfl rfl rfl rfl rfl) hok' may (ho k hlt)) ?_ ?_
    · simp [newOk, keysL, low_mcR, mcA]
    repeat (first | simp (config := { maxSteps := 2000000 }) only [go_sem, ↓condS, ↓exitS, ↓gateS, ↓runOp, ↓gateD, ↓runD, ↓imp_ft, ↓imp_tf, ↓imp_tt, ↓imp_ff, ↓imp_fn, ↓imp_tn, ↓imp_fy, ↓imp_ty, ↓reduceIte, Nat.reduceLT, Nat.reduceLeDiff, Nat.reduceAdd, Nat.reduceSub, Nat.reduceMul, Nat.reduceEqDiff, reduceCtorEq, Int.reduceToNat, Int.reduceEq, Int.reduceBEq, Int.reduceBNe, Int.reduceLT, Int.reduceLE, Int.reduceNeg, Int.reduceAdd, Int.reduceSub, Int.reduceMul, Int.reduceGE, Int.reduceGT, Cl.enc, iv, endO, ralT, mcS, low_mcR, mcA, mkC_B] | rw [dr_cons])
    repeat (with_reducible refine And.intro (by first | (simp only [maxLen]; omega) | omega | decide | with_reducible exact Or.inl trivial | with_reducible exact Or.inr trivial | with_reducible exact ⟨Or.inl trivial, Or.inr trivial⟩) ?_)
    rw [hdr hlt] at eq
    have hup := allowM_upto (c := xs.getD k cl0) up
    have hmy := allowM_may (c := xs.getD k cl0) may
    simp only [playM] at eq
    generalize allowM m' (xs.getD k cl0) = p at eq hup hmy ⊢
    obtain ⟨m2, b⟩ := p
    simp only at eq hup hmy
    refine both (fun hb => ?_) (fun hb => ?_)
    · have hb : b = false := by simpa using hb
      rw [hb, if_neg (by simp)] at eq
      have heq : playM m 0 xs = (m', (k : Int)) := by rw [eq]
      rw [heq]
      exact retB5 _ _ _ _ _ (rdN_lo 0 rfl (Nat.le_refl _)) (rdN_lo 1 rfl (Nat.le_refl _)) (rdN_lo 2 rfl (Nat.le_refl _)) (rdN_lo 3 rfl (Nat.le_refl _)) (rdN_lo 4 rfl (Nat.le_refl _)) (rplT_ok _ _ _ _ _ (m', (k : Int)))
    · have hb : b = true := by simpa using hb
      rw [hb, if_pos rfl] at eq
      rw [wr_succ (by omega)]
      refine backI ⟨k + 1, m2, hlt, hmy, by rw [show N + (k + 1) = N + k + 1 by omega]; exact hup, by rw [eq]⟩ (by simp only; omega) ?_
      simp only [mcS, mcA, List.cons_append, List.nil_append]
      exact (le_ren (fun i => if i < 5 then i + 8 else i) rfl rfl (by simp [TmpsLe, look, SV.ren, SC.ren, SC.renL, ren1L, ren1, idσ, SV.okN, SC.okN, SC.okL, ok1L]) (by simp [OwnLe, BlkLeO, BlkLe, atN, look, Fm.get, idσ, SC.renL, SC.ren, SC.okL, SC.okN, renL_v, okL_v]) (by simp [ArrsLe, ArrLeO, atN, look, Fm.get, idσ, arrLe_of, arrLe_0]) rfl)
  · rw [decide_eq_false_iff_not] at hge
    have hk' : k = xs.length := by omega
    subst hk'
    rw [List.drop_length] at eq
    have heq : playM m 0 xs = (m', -1) := by rw [eq]; rfl
    rw [heq]
    exact retB5 _ _ _ _ _ (rdN_lo 0 rfl (Nat.le_refl _)) (rdN_lo 1 rfl (Nat.le_refl _)) (rdN_lo 2 rfl (Nat.le_refl _)) (rdN_lo 3 rfl (Nat.le_refl _)) (rdN_lo 4 rfl (Nat.le_refl _)) (rplT_ok _ _ _ _ _ (m', -1))
end Go.Proofs.Ytgljbdcamagdbaa.Z
