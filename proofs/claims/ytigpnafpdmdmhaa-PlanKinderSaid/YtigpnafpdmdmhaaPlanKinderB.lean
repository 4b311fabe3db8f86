/- Part of the proof of the statement PlanKinder: functions of the program and what each call of them comes to, for any arguments. -/
import Derived.Test.YtigpnafpdmdmhaaB2
import Derived.Test.YtigpnafpdmdmhaaPlanKinderA
set_option linter.unusedVariables false
set_option linter.unusedSimpArgs false
namespace Go.Proofs.Ytigpnafpdmdmhaa.P
open Go.RowKit Go.Proofs.YtigpnafpdmdmhaaW.PrintWords Go.Proofs.YtigpnafpdmdmhaaW.PrintLast
attribute [local go_sem] greater_of lesser_of greater_two lesser_two
open Bool renaming true → tt, false → ff
open List renaming setIfInBounds_toArray → l1, set_cons_zero → l2, set_cons_succ → l3
open Go.Proofs.YtigpnafpdmdmhaaW.PrintWords renaming blk_drewN → b1, blk_drew → b2, blk_alloc → b3, below_set → b4, blk_cell → b5, blk_below → b6, pw_below_drewN → b7, below_drew1 → b8, below_alloc → b9

/-! ### tensilelaw09_PlanKinder: function 11 -/
mutual
def tensilelaw09_PlanKinder.j0 : Nat → Int → Int → Bool → Int → List (S57) → Int → Int → Int → Int → Option (Bool)
 | 0, _, _, _, _, _, _, _, _, _ => none
 | k + 1, x2, x3, x33, x489000, x489001, x490000, x490001, x490002, x490003 => if x33 = true then ((tensilelaw09_wakes.f).bind fun t492 => (some t492)) else (if (Int.tmod x2 4) = 0 then (tensilelaw09_PlanKinder.j1 k x489000 x489001 x490000 x490001 x490002 x490003 x490000 x490001 (mn 1000 (wrap64 (x490002 + (wrap64 (x3))))) x490003) else (if (Int.tmod x2 4) = 1 then (tensilelaw09_PlanKinder.j1 k x489000 x489001 x490000 x490001 x490002 x490003 x490000 x490001 x490002 (mn 1000 (wrap64 (x490003 + (wrap64 (x3)))))) else (if (Int.tmod x2 4) = 2 then (tensilelaw09_PlanKinder.j1 k x489000 x489001 x490000 x490001 x490002 x490003 (mx 0 (wrap64 (x490000 - (Int.tmod (wrap64 (x3)) 4)))) x490001 x490002 x490003) else (tensilelaw09_PlanKinder.j1 k x489000 x489001 x490000 x490001 x490002 x490003 x490000 (mn x489000 (wrap64 (x490001 + (Int.tmod (wrap64 (x3)) 4)))) x490002 x490003))))
def tensilelaw09_PlanKinder.j1 : Nat → Int → List (S57) → Int → Int → Int → Int → Int → Int → Int → Int → Option (Bool)
 | 0, _, _, _, _, _, _, _, _, _, _ => none
 | k + 1, x489000, x489001, x490000, x490001, x490002, x490003, x494000, x494001, x494002, x494003 => (tensilelaw09_Plan.f k x489000 x489001).bind fun bt494 => ((tensilelaw09_Demand.f x490000 x490001 x490002 x490003).bind fun bt498 => ((plan_Keeps.f bt494.1 bt494.2 bt498.1 bt498.2.1 bt498.2.2.1 bt498.2.2.2).bind fun bt502 => ((tensilelaw09_Plan.f k x489000 x489001).bind fun bt504 => ((tensilelaw09_Demand.f x494000 x494001 x494002 x494003).bind fun bt508 => ((plan_Keeps.f bt504.1 bt504.2 bt508.1 bt508.2.1 bt508.2.2.1 bt508.2.2.2).bind fun bt512 => ((tensilelaw09_Demand.f x490000 x490001 x490002 x490003).bind fun bt514 => ((plan_Single.f x489000 bt514.1 bt514.2.1 bt514.2.2.1 bt514.2.2.2).bind fun bt518 => ((tensilelaw09_Demand.f x494000 x494001 x494002 x494003).bind fun bt524 => ((plan_Single.f x489000 bt524.1 bt524.2.1 bt524.2.2.1 bt524.2.2.2).bind fun bt528 => (if bt502.2 = 0 then (if bt512.2 = 0 then (if bt502.1 = true then (if bt512.1 = true then (if bt518.2.2 = 0 then (if bt528.2.2 = 0 then (if (bt518.2.1.length : Int) = 1 then (if (bt528.2.1.length : Int) = 1 then (if 0 < (bt528.2.1.length : Int) then (if 0 < (bt518.2.1.length : Int) then (if ((rd_T61 bt528.2.1 0).f0) ≤ ((rd_T61 bt518.2.1 0).f0) then ((tensilelaw09_wakes.f).bind fun t536 => (some t536)) else (none)) else (none)) else (none)) else (none)) else (none)) else (none)) else (none)) else (none)) else (if bt518.2.2 = 0 then (if bt528.2.2 = 0 then (if (bt518.2.1.length : Int) = 1 then (if (bt528.2.1.length : Int) = 1 then (if 0 < (bt528.2.1.length : Int) then (if 0 < (bt518.2.1.length : Int) then (if ((rd_T61 bt528.2.1 0).f0) ≤ ((rd_T61 bt518.2.1 0).f0) then ((tensilelaw09_wakes.f).bind fun t539 => (some t539)) else (none)) else (none)) else (none)) else (none)) else (none)) else (none)) else (none))) else (none)) else (none)))))))))))
end
def tensilelaw09_PlanKinder.f (k : Nat) (a0_0 : Int) (l0_1 : List (S57)) (a1_0 : Int) (a1_1 : Int) (a1_2 : Int) (a1_3 : Int) (a2 : Int) (a3 : Int) : Option (Bool) := (tensilelaw09_ready.f k a0_0 l0_1).bind fun t490 => (if t490 = true then ((tensileref09_IsDemand.f a1_0 a1_1 a1_2 a1_3).bind fun t491 => (if t491 = true then (tensilelaw09_PlanKinder.j0 k a2 a3 (decide (a1_1 > a0_0)) a0_0 l0_1 a1_0 a1_1 a1_2 a1_3) else (tensilelaw09_PlanKinder.j0 k a2 a3 true a0_0 l0_1 a1_0 a1_1 a1_2 a1_3))) else (tensilelaw09_PlanKinder.j0 k a2 a3 true a0_0 l0_1 a1_0 a1_1 a1_2 a1_3))
def tensilelaw09_PlanKinder.T12 : Bool × List (List Nat × List Nat) := (true, [([], []), ([0], [0]), ([], []), ([2, 1], [2]), ([1, 3, 3], [1, 3]), ([4], [4]), ([5], [5]), ([5], [5]), ([6, 4, 0, 1, 2, 3, 4, 5, 6], [6]), ([7, 8, 0, 1, 2, 3, 4, 5, 6, 7, 8], [7])])
def tensilelaw09_PlanKinder.B12 : List Nat := [0, 1, 0, 7, 15, 31, 63, 63, 127, 511]
theorem tensilelaw09_PlanKinder.tab12 : rtab .any (opsOf Try.f11 12) = tensilelaw09_PlanKinder.T12 := by kernel_rfl
theorem tensilelaw09_PlanKinder.bits12 : waitsOk tensilelaw09_PlanKinder.T12.2 tensilelaw09_PlanKinder.B12 = true := by kernel_rfl
def tensilelaw09_PlanKinder.T13 : Bool × List (List Nat × List Nat) := (true, [([], []), ([0], [0]), ([], []), ([2, 1], [2]), ([1, 3, 3], [1, 3]), ([4], [4]), ([5], [5]), ([5], [5]), ([6, 4, 0, 1, 2, 3, 4, 5, 6], [6]), ([7, 8, 0, 1, 2, 3, 4, 5, 6, 7, 8], [7])])
def tensilelaw09_PlanKinder.B13 : List Nat := [0, 1, 0, 7, 15, 31, 63, 63, 127, 511]
theorem tensilelaw09_PlanKinder.tab13 : rtab .any (opsOf Try.f11 13) = tensilelaw09_PlanKinder.T13 := by kernel_rfl
theorem tensilelaw09_PlanKinder.bits13 : waitsOk tensilelaw09_PlanKinder.T13.2 tensilelaw09_PlanKinder.B13 = true := by kernel_rfl
def tensilelaw09_PlanKinder.T14 : Bool × List (List Nat × List Nat) := (true, [([], []), ([0], [0]), ([], []), ([2], [2]), ([1, 3, 3], [1, 3]), ([4], [4]), ([5], [5]), ([5], [5]), ([], []), ([8, 6, 4, 0, 1, 2, 3, 4, 5, 6, 8], [6, 8]), ([7, 9, 0, 1, 2, 3, 4, 5, 6, 7, 8, 9], [7])])
def tensilelaw09_PlanKinder.B14 : List Nat := [0, 1, 0, 4, 15, 31, 63, 63, 0, 383, 1023]
theorem tensilelaw09_PlanKinder.tab14 : rtab .any (opsOf Try.f11 14) = tensilelaw09_PlanKinder.T14 := by kernel_rfl
theorem tensilelaw09_PlanKinder.bits14 : waitsOk tensilelaw09_PlanKinder.T14.2 tensilelaw09_PlanKinder.B14 = true := by kernel_rfl
def tensilelaw09_PlanKinder.T15 : Bool × List (List Nat × List Nat) := (true, [([], []), ([0], [0]), ([], []), ([2], [2]), ([1, 3, 3], [1, 3]), ([4], [4]), ([5], [5]), ([5], [5]), ([], []), ([8, 6, 4, 0, 1, 2, 3, 4, 5, 6, 8], [6, 8]), ([7, 9, 0, 1, 2, 3, 4, 5, 6, 7, 8, 9], [7])])
def tensilelaw09_PlanKinder.B15 : List Nat := [0, 1, 0, 4, 15, 31, 63, 63, 0, 383, 1023]
theorem tensilelaw09_PlanKinder.tab15 : rtab .any (opsOf Try.f11 15) = tensilelaw09_PlanKinder.T15 := by kernel_rfl
theorem tensilelaw09_PlanKinder.bits15 : waitsOk tensilelaw09_PlanKinder.T15.2 tensilelaw09_PlanKinder.B15 = true := by kernel_rfl
def tensilelaw09_PlanKinder.T16 : Bool × List (List Nat × List Nat) := (true, [([], []), ([0], [0]), ([1], [1]), ([2], [2]), ([3, 2], [2, 3]), ([2, 4], [2, 4]), ([5, 2], [5]), ([6], [6]), ([7, 6], [6, 7]), ([8, 6, 6], [6, 8]), ([9], [9]), ([9, 10, 6], [6, 9, 10]), ([6, 11], [6, 11]), ([12, 9], [12]), ([13], [13]), ([14, 13], [13, 14]), ([13, 15], [13, 15]), ([16, 13], [16]), ([17], [17]), ([18, 17], [17, 18]), ([17, 19], [17, 19]), ([20, 17], [20]), ([21], [21]), ([22, 21], [21, 22]), ([23, 21], [21, 23]), ([24, 21], [21, 24]), ([21, 25], [21, 25]), ([26, 21], [26]), ([27], [27]), ([28, 27], [27, 28]), ([29, 27], [27, 29]), ([30, 27], [27, 30]), ([27, 31], [27, 31]), ([32, 27], [32]), ([33], [33]), ([34, 33], [33, 34]), ([35, 33], [33, 35]), ([36, 33], [33, 36]), ([37, 33], [33, 37]), ([33], [33]), ([39, 33], [33, 39]), ([40, 33], [33, 40]), ([41, 33], [33, 41]), ([42, 33], [33, 42]), ([38, 43, 33], [33, 38, 43]), ([33, 44], [33, 44]), ([45, 33], [45]), ([46, 46], [46]), ([46, 47], [46, 47]), ([48, 47, 0, 1, 2, 3, 4, 5, 6, 7, 8, 9, 10, 11, 12, 13, 14, 15, 16, 17, 18, 19, 20, 21, 22, 23, 24, 25, 26, 27, 28, 29, 30, 31, 32, 33, 34, 35, 36, 37, 38, 39, 40, 41, 42, 43, 44, 45, 46, 47, 48], [48])])
def tensilelaw09_PlanKinder.B16 : List Nat := [0, 1, 3, 7, 15, 31, 63, 127, 255, 511, 1023, 2047, 4095, 8191, 16383, 32767, 65535, 131071, 262143, 524287, 1048575, 2097151, 4194303, 8388607, 16777215, 33554431, 67108863, 134217727, 268435455, 536870911, 1073741823, 2147483647, 4294967295, 8589934591, 17179869183, 34359738367, 68719476735, 137438953471, 274877906943, 17179869183, 566935683071, 1666447310847, 3865470566399, 8263517077503, 17592186044415, 35184372088831, 70368744177663, 140737488355327, 281474976710655, 562949953421311]
theorem tensilelaw09_PlanKinder.tab16 : rtab .any (opsOf Try.f11 16) = tensilelaw09_PlanKinder.T16 := by kernel_rfl
theorem tensilelaw09_PlanKinder.bits16 : waitsOk tensilelaw09_PlanKinder.T16.2 tensilelaw09_PlanKinder.B16 = true := by kernel_rfl
set_option maxHeartbeats 8000000 in
set_option maxRecDepth 100000 in
theorem tensilelaw09_PlanKinder.calls (k : Nat) (a0_0 : Int) (A0_1 : Option Addr) (c0_1 : Nat) (l0_1 : List (S57)) (a1_0 : Int) (a1_1 : Int) (a1_2 : Int) (a1_3 : Int) (a2 : Int) (a3 : Int) (r : Bool) (w : World) (hr0_1 : Kd.C k57 w A0_1 l0_1.length l0_1) (hc0_1 : l0_1.length ≤ c0_1) (h : tensilelaw09_PlanKinder.f k a0_0 l0_1 a1_0 a1_1 a1_2 a1_3 a2 a3 = some r) :
  Calls Try.prog 11 #[.agg #[.int .i64 a0_0, .slice A0_1 l0_1.length c0_1], .agg #[.int .i64 a1_0, .int .i64 a1_1, .int .i64 a1_2, .int .i64 a1_3], .int .u8 a2, .int .u8 a3] w fun e w' => e = .returned (.bool r) ∧ Below w.heap.size w w' := by
 have hu24 := Try.underlying24
 have hu64 := Try.underlying64
 have hu31 := Try.underlying31
 have HR0_1 := Aside0.mk hr0_1
 have HC0_1 := Aside0.mk hc0_1
 clear hr0_1 hc0_1
 have HB := Aside0.mk (Below.refl w.heap.size w)
 have H : ((tensilelaw09_ready.f k a0_0 l0_1).bind fun t490 => (if t490 = true then ((tensileref09_IsDemand.f a1_0 a1_1 a1_2 a1_3).bind fun t491 => (if t491 = true then (tensilelaw09_PlanKinder.j0 k a2 a3 (decide (a1_1 > a0_0)) a0_0 l0_1 a1_0 a1_1 a1_2 a1_3) else (tensilelaw09_PlanKinder.j0 k a2 a3 true a0_0 l0_1 a1_0 a1_1 a1_2 a1_3))) else (tensilelaw09_PlanKinder.j0 k a2 a3 true a0_0 l0_1 a1_0 a1_1 a1_2 a1_3))) = some r := h
 clear h
 have HC5 := Aside0.mk H
 clear H
 go_enter Try.func11, Try.ntmps11
 go_upto_region 1 with (first | ((with_reducible refine gate_dst (N := 4) rfl ?_); (try (refine gate_guard (by rfl) ?_; dsimp only)); refine box_event ?hg (N := 4) ?hd (cs := #[.int .i64 a0_0, .slice A0_1 l0_1.length c0_1]) (t := 24) ?hr ?_; (case hd => rfl); (case hg => rfl); (case hr => first | (go_simp; done) | (go_simp; rfl)); intro gb488 hg w6 hbox hb; have n0_ := Aside0.mk (below_step (by repeat (first | (with_reducible first | exact HB.out | apply b9 | apply b7 | apply b8) | exact HB.out)) hb); have n1_ := Aside0.mk (hbox); have n2_ := Aside0.mk ((by rw [hg]; exact (below_size (by repeat (first | (with_reducible first | exact HB.out | apply b9 | apply b7 | apply b8) | exact HB.out))) : w.heap.size ≤ gb488)); have n3_ := Aside0.mk ((by rw [hg]; exact (below_size (by repeat (first | (with_reducible first | exact HB.out | apply b9 | apply b7 | apply b8) | exact HB.out))) : w.heap.size ≤ gb488)); clear HB; have HB := n0_; have BK488 := n1_; have GW488 := n2_; have GE488 := n3_; clear n0_ n1_ n2_ n3_; clear hb hbox hg) | ((with_reducible refine gate_dst (N := 5) rfl ?_); (try (refine gate_guard (by rfl) ?_; dsimp only)); refine box_event ?hg (N := 5) ?hd (cs := #[.int .i64 a1_0, .int .i64 a1_1, .int .i64 a1_2, .int .i64 a1_3]) (t := 64) ?hr ?_; (case hd => rfl); (case hg => rfl); (case hr => first | (go_simp; done) | (go_simp; rfl)); intro gb489 hg w7 hbox hb; have n0_ := Aside0.mk (b6 (g := gb488) (o := .cells #[.int .i64 a0_0, .slice A0_1 l0_1.length c0_1] 24 (0, 0)) (by (with_reducible repeat (first | refine b1 ?_ _ | refine b2 ?_ | refine b3 ?_ _)); exact BK488.out) hb); have n1_ := Aside0.mk (below_step (by repeat (first | (with_reducible first | exact HB.out | apply b9 | apply b7 | apply b8 | refine b4 ?_ GE488.out) | exact HB.out)) hb); have n2_ := Aside0.mk (hbox); have n3_ := Aside0.mk ((by rw [hg]; exact (below_size (by repeat (first | (with_reducible first | exact HB.out | apply b9 | apply b7 | apply b8 | refine b4 ?_ GE488.out) | exact HB.out))) : w.heap.size ≤ gb489)); have n4_ := Aside0.mk ((by rw [hg]; exact (below_size (by repeat (first | (with_reducible first | exact HB.out | apply b9 | apply b7 | apply b8 | refine b4 ?_ GE488.out) | exact HB.out))) : w.heap.size ≤ gb489)); have n5_ := Aside0.mk ((by rw [hg]; exact Nat.ne_of_lt (blk_lt (g := gb488) (o := .cells #[.int .i64 a0_0, .slice A0_1 l0_1.length c0_1] 24 (0, 0)) (by (with_reducible repeat (first | refine b1 ?_ _ | refine b2 ?_ | refine b3 ?_ _)); exact BK488.out)) : gb488 ≠ gb489)); have n6_ := Aside0.mk ((by rw [hg]; exact Nat.ne_of_gt (blk_lt (g := gb488) (o := .cells #[.int .i64 a0_0, .slice A0_1 l0_1.length c0_1] 24 (0, 0)) (by (with_reducible repeat (first | refine b1 ?_ _ | refine b2 ?_ | refine b3 ?_ _)); exact BK488.out)) : gb489 ≠ gb488)); clear BK488; clear HB; have BK488 := n0_; have HB := n1_; have BK489 := n2_; have GW489 := n3_; have GE489 := n4_; have NB488_489 := n5_; have NB489_488 := n6_; clear n0_ n1_ n2_ n3_ n4_ n5_ n6_; clear hb hbox hg))
 (try simp only [Act.put, l1, l2, l3])
 go_cut [33] (fun v33 wc => ∃ (kq : Nat) (x33_4 : Bool), v33 = .bool x33_4 ∧ Aside0 (tensilelaw09_PlanKinder.j0 kq a2 a3 x33_4 a0_0 l0_1 a1_0 a1_1 a1_2 a1_3 = some r) ∧ Aside0 (kq ≤ k) ∧ Aside0 (wc.heap[gb488]? = some (.cells #[.int .i64 a0_0, (.slice A0_1 l0_1.length c0_1)] 24 (0, 0))) ∧ Aside0 (wc.heap[gb489]? = some (.cells #[.int .i64 a1_0, .int .i64 a1_1, .int .i64 a1_2, .int .i64 a1_3] 64 (0, 0))) ∧ Aside0 (Below w.heap.size w wc))
 case first =>
  have H := HC5.out
  clear HC5
  replace H := Option.bind_eq_some_iff.mp H
  obtain ⟨t490, A80, H⟩ := H
  replace H : (if t490 = true then ((tensileref09_IsDemand.f a1_0 a1_1 a1_2 a1_3).bind fun t491 => (if t491 = true then (tensilelaw09_PlanKinder.j0 k a2 a3 (decide (a1_1 > a0_0)) a0_0 l0_1 a1_0 a1_1 a1_2 a1_3) else (tensilelaw09_PlanKinder.j0 k a2 a3 true a0_0 l0_1 a1_0 a1_1 a1_2 a1_3))) else (tensilelaw09_PlanKinder.j0 k a2 a3 true a0_0 l0_1 a1_0 a1_1 a1_2 a1_3)) = some r := H
  have A8 := Aside0.mk A80
  clear A80
  by_cases c9 : t490 = true
  ·
   subst c9
   have H1 : ((tensileref09_IsDemand.f a1_0 a1_1 a1_2 a1_3).bind fun t491 => (if t491 = true then (tensilelaw09_PlanKinder.j0 k a2 a3 (decide (a1_1 > a0_0)) a0_0 l0_1 a1_0 a1_1 a1_2 a1_3) else (tensilelaw09_PlanKinder.j0 k a2 a3 true a0_0 l0_1 a1_0 a1_1 a1_2 a1_3))) = some r := by rw [if_pos rfl] at H; exact H
   clear H
   have H := H1
   clear H1
   replace H := Option.bind_eq_some_iff.mp H
   obtain ⟨t491, A100, H⟩ := H
   replace H : (if t491 = true then (tensilelaw09_PlanKinder.j0 k a2 a3 (decide (a1_1 > a0_0)) a0_0 l0_1 a1_0 a1_1 a1_2 a1_3) else (tensilelaw09_PlanKinder.j0 k a2 a3 true a0_0 l0_1 a1_0 a1_1 a1_2 a1_3)) = some r := H
   have A10 := Aside0.mk A100
   clear A100
   by_cases c11 : t491 = true
   ·
    subst c11
    have H1 : (tensilelaw09_PlanKinder.j0 k a2 a3 (decide (a1_1 > a0_0)) a0_0 l0_1 a1_0 a1_1 a1_2 a1_3) = some r := by rw [if_pos rfl] at H; exact H
    clear H
    have H := H1
    clear H1
    have H' := Aside0.mk H
    clear H
    have hnb12 := NB488_489.out
    have hnc12 := NB489_488.out
    have hcz13_0 : w7.cell? ⟨gb488, 0, none⟩ = some (.int .i64 a0_0) := (b5 BK488.out 0).trans rfl
    have hcz13_1 : w7.cell? ⟨gb488, 1, none⟩ = some (.slice A0_1 l0_1.length c0_1) := (b5 BK488.out 1).trans rfl
    have hfz13_0 := blk_frozen BK488.out 0
    have hfz13_1 := blk_frozen BK488.out 1
    go_wp2_with (first | ((with_reducible refine gate_callee (f := 26) rfl ?_); refine goesL_ (some 20) rfl rfl Try.func26 (by kernel_rfl) rfl #[.agg #[.int .i64 a0_0, .slice A0_1 l0_1.length c0_1]] rfl (by (try simp only [List.map_toArray, List.map_cons, List.map_nil]); first | done | rfl | (simp only [List.length_drop, List.length_take]; rfl)) ?_; (with_reducible refine (tensilelaw09_ready.calls k a0_0 _ _ l0_1 true _ ?side1 ?side2 A8.out).mono ?_); (case side1 => repeat (first | exact (Kd.C_below HR0_1.out HB.out) | (with_reducible refine Kd.C_alloc ?_ _) | (with_reducible refine Kd.C_drewN ?_ _) | (with_reducible refine Kd.C_drew ?_))); (case side2 => exact HC0_1.out); rintro e w14 ⟨rfl, hb⟩; refine ⟨_, rfl, ?_⟩; have n0_ := Aside0.mk (b6 (g := gb488) (o := .cells #[.int .i64 a0_0, .slice A0_1 l0_1.length c0_1] 24 (0, 0)) (by (with_reducible repeat (first | refine b1 ?_ _ | refine b2 ?_ | refine b3 ?_ _)); exact BK488.out) hb); have n1_ := Aside0.mk (b6 (g := gb489) (o := .cells #[.int .i64 a1_0, .int .i64 a1_1, .int .i64 a1_2, .int .i64 a1_3] 64 (0, 0)) (by (with_reducible repeat (first | refine b1 ?_ _ | refine b2 ?_ | refine b3 ?_ _)); exact BK489.out) hb); have n2_ := Aside0.mk (below_step (by repeat (first | (with_reducible first | exact HB.out | apply b9 | apply b7 | apply b8 | refine b4 ?_ GE488.out | refine b4 ?_ GE489.out) | exact HB.out)) hb); clear BK488; clear BK489; clear HB; have BK488 := n0_; have BK489 := n1_; have HB := n2_; clear n0_ n1_ n2_; (try clear hb); (try clear hb2); (try clear hk); (try clear hi); have hcz15_0 : w14.cell? ⟨gb489, 0, none⟩ = some (.int .i64 a1_0) := (b5 BK489.out 0).trans rfl; have hcz15_1 : w14.cell? ⟨gb489, 1, none⟩ = some (.int .i64 a1_1) := (b5 BK489.out 1).trans rfl; have hcz15_2 : w14.cell? ⟨gb489, 2, none⟩ = some (.int .i64 a1_2) := (b5 BK489.out 2).trans rfl; have hcz15_3 : w14.cell? ⟨gb489, 3, none⟩ = some (.int .i64 a1_3) := (b5 BK489.out 3).trans rfl; have hfz15_0 := blk_frozen BK489.out 0; have hfz15_1 := blk_frozen BK489.out 1; have hfz15_2 := blk_frozen BK489.out 2; have hfz15_3 := blk_frozen BK489.out 3) | (go_at_call 30; (with_reducible refine (tensileref09_IsDemand.calls a1_0 a1_1 a1_2 a1_3 true _ A10.out).mono ?_); rintro e w16 ⟨rfl, hb⟩; have n0_ := Aside0.mk (b6 (g := gb488) (o := .cells #[.int .i64 a0_0, .slice A0_1 l0_1.length c0_1] 24 (0, 0)) (by (with_reducible repeat (first | refine b1 ?_ _ | refine b2 ?_ | refine b3 ?_ _)); exact BK488.out) hb); have n1_ := Aside0.mk (b6 (g := gb489) (o := .cells #[.int .i64 a1_0, .int .i64 a1_1, .int .i64 a1_2, .int .i64 a1_3] 64 (0, 0)) (by (with_reducible repeat (first | refine b1 ?_ _ | refine b2 ?_ | refine b3 ?_ _)); exact BK489.out) hb); have n2_ := Aside0.mk (below_step (by repeat (first | (with_reducible first | exact HB.out | apply b9 | apply b7 | apply b8 | refine b4 ?_ GE488.out | refine b4 ?_ GE489.out) | exact HB.out)) hb); clear BK488; clear BK489; clear HB; have BK488 := n0_; have BK489 := n1_; have HB := n2_; clear n0_ n1_ n2_; (try clear hb); (try clear hb2); (try clear hk); (try clear hi); have hcz17_0 : w16.cell? ⟨gb489, 0, none⟩ = some (.int .i64 a1_0) := (b5 BK489.out 0).trans rfl; have hcz17_1 : w16.cell? ⟨gb489, 1, none⟩ = some (.int .i64 a1_1) := (b5 BK489.out 1).trans rfl; have hcz17_2 : w16.cell? ⟨gb489, 2, none⟩ = some (.int .i64 a1_2) := (b5 BK489.out 2).trans rfl; have hcz17_3 : w16.cell? ⟨gb489, 3, none⟩ = some (.int .i64 a1_3) := (b5 BK489.out 3).trans rfl; have hfz17_0 := blk_frozen BK489.out 0; have hfz17_1 := blk_frozen BK489.out 1; have hfz17_2 := blk_frozen BK489.out 2; have hfz17_3 := blk_frozen BK489.out 3; have hcz18_0 : w16.cell? ⟨gb488, 0, none⟩ = some (.int .i64 a0_0) := (b5 BK488.out 0).trans rfl; have hcz18_1 : w16.cell? ⟨gb488, 1, none⟩ = some (.slice A0_1 l0_1.length c0_1) := (b5 BK488.out 1).trans rfl; have hfz18_0 := blk_frozen BK488.out 0; have hfz18_1 := blk_frozen BK488.out 1))
    go_meet
    case rel => exact ⟨_, (decide (a1_1 > a0_0)), (by first | rfl | (simp; done) | (simp [*]; done)), H', ⟨by first | omega | exact Nat.le_refl _⟩, ⟨by (with_reducible repeat (first | refine b1 ?_ _ | refine b2 ?_ | refine b3 ?_ _)); exact BK488.out⟩, ⟨by (with_reducible repeat (first | refine b1 ?_ _ | refine b2 ?_ | refine b3 ?_ _)); exact BK489.out⟩, ⟨by repeat (first | (with_reducible first | exact HB.out | apply b9 | apply b7 | apply b8 | refine b4 ?_ GE488.out | refine b4 ?_ GE489.out) | exact HB.out)⟩⟩
   ·
    replace c11 := Bool.eq_false_iff.mpr c11
    subst c11
    have H1 : (tensilelaw09_PlanKinder.j0 k a2 a3 true a0_0 l0_1 a1_0 a1_1 a1_2 a1_3) = some r := by rw [if_neg (show ¬ (false = true) by decide)] at H; exact H
    clear H
    have H := H1
    clear H1
    have H' := Aside0.mk H
    clear H
    have hnb19 := NB488_489.out
    have hnc19 := NB489_488.out
    have hcz20_0 : w7.cell? ⟨gb488, 0, none⟩ = some (.int .i64 a0_0) := (b5 BK488.out 0).trans rfl
    have hcz20_1 : w7.cell? ⟨gb488, 1, none⟩ = some (.slice A0_1 l0_1.length c0_1) := (b5 BK488.out 1).trans rfl
    have hfz20_0 := blk_frozen BK488.out 0
    have hfz20_1 := blk_frozen BK488.out 1
    go_wp2_with (first | ((with_reducible refine gate_callee (f := 26) rfl ?_); refine goesL_ (some 20) rfl rfl Try.func26 (by kernel_rfl) rfl #[.agg #[.int .i64 a0_0, .slice A0_1 l0_1.length c0_1]] rfl (by (try simp only [List.map_toArray, List.map_cons, List.map_nil]); first | done | rfl | (simp only [List.length_drop, List.length_take]; rfl)) ?_; (with_reducible refine (tensilelaw09_ready.calls k a0_0 _ _ l0_1 true _ ?side1 ?side2 A8.out).mono ?_); (case side1 => repeat (first | exact (Kd.C_below HR0_1.out HB.out) | (with_reducible refine Kd.C_alloc ?_ _) | (with_reducible refine Kd.C_drewN ?_ _) | (with_reducible refine Kd.C_drew ?_))); (case side2 => exact HC0_1.out); rintro e w21 ⟨rfl, hb⟩; refine ⟨_, rfl, ?_⟩; have n0_ := Aside0.mk (b6 (g := gb488) (o := .cells #[.int .i64 a0_0, .slice A0_1 l0_1.length c0_1] 24 (0, 0)) (by (with_reducible repeat (first | refine b1 ?_ _ | refine b2 ?_ | refine b3 ?_ _)); exact BK488.out) hb); have n1_ := Aside0.mk (b6 (g := gb489) (o := .cells #[.int .i64 a1_0, .int .i64 a1_1, .int .i64 a1_2, .int .i64 a1_3] 64 (0, 0)) (by (with_reducible repeat (first | refine b1 ?_ _ | refine b2 ?_ | refine b3 ?_ _)); exact BK489.out) hb); have n2_ := Aside0.mk (below_step (by repeat (first | (with_reducible first | exact HB.out | apply b9 | apply b7 | apply b8 | refine b4 ?_ GE488.out | refine b4 ?_ GE489.out) | exact HB.out)) hb); clear BK488; clear BK489; clear HB; have BK488 := n0_; have BK489 := n1_; have HB := n2_; clear n0_ n1_ n2_; (try clear hb); (try clear hb2); (try clear hk); (try clear hi); have hcz22_0 : w21.cell? ⟨gb489, 0, none⟩ = some (.int .i64 a1_0) := (b5 BK489.out 0).trans rfl; have hcz22_1 : w21.cell? ⟨gb489, 1, none⟩ = some (.int .i64 a1_1) := (b5 BK489.out 1).trans rfl; have hcz22_2 : w21.cell? ⟨gb489, 2, none⟩ = some (.int .i64 a1_2) := (b5 BK489.out 2).trans rfl; have hcz22_3 : w21.cell? ⟨gb489, 3, none⟩ = some (.int .i64 a1_3) := (b5 BK489.out 3).trans rfl; have hfz22_0 := blk_frozen BK489.out 0; have hfz22_1 := blk_frozen BK489.out 1; have hfz22_2 := blk_frozen BK489.out 2; have hfz22_3 := blk_frozen BK489.out 3) | (go_at_call 30; (with_reducible refine (tensileref09_IsDemand.calls a1_0 a1_1 a1_2 a1_3 false _ A10.out).mono ?_); rintro e w23 ⟨rfl, hb⟩; have n0_ := Aside0.mk (b6 (g := gb488) (o := .cells #[.int .i64 a0_0, .slice A0_1 l0_1.length c0_1] 24 (0, 0)) (by (with_reducible repeat (first | refine b1 ?_ _ | refine b2 ?_ | refine b3 ?_ _)); exact BK488.out) hb); have n1_ := Aside0.mk (b6 (g := gb489) (o := .cells #[.int .i64 a1_0, .int .i64 a1_1, .int .i64 a1_2, .int .i64 a1_3] 64 (0, 0)) (by (with_reducible repeat (first | refine b1 ?_ _ | refine b2 ?_ | refine b3 ?_ _)); exact BK489.out) hb); have n2_ := Aside0.mk (below_step (by repeat (first | (with_reducible first | exact HB.out | apply b9 | apply b7 | apply b8 | refine b4 ?_ GE488.out | refine b4 ?_ GE489.out) | exact HB.out)) hb); clear BK488; clear BK489; clear HB; have BK488 := n0_; have BK489 := n1_; have HB := n2_; clear n0_ n1_ n2_; (try clear hb); (try clear hb2); (try clear hk); (try clear hi)))
    go_meet
    case rel => exact ⟨_, (true), (by first | rfl | (simp; done) | (simp [*]; done)), H', ⟨by first | omega | exact Nat.le_refl _⟩, ⟨by (with_reducible repeat (first | refine b1 ?_ _ | refine b2 ?_ | refine b3 ?_ _)); exact BK488.out⟩, ⟨by (with_reducible repeat (first | refine b1 ?_ _ | refine b2 ?_ | refine b3 ?_ _)); exact BK489.out⟩, ⟨by repeat (first | (with_reducible first | exact HB.out | apply b9 | apply b7 | apply b8 | refine b4 ?_ GE488.out | refine b4 ?_ GE489.out) | exact HB.out)⟩⟩
  ·
   replace c9 := Bool.eq_false_iff.mpr c9
   subst c9
   have H1 : (tensilelaw09_PlanKinder.j0 k a2 a3 true a0_0 l0_1 a1_0 a1_1 a1_2 a1_3) = some r := by rw [if_neg (show ¬ (false = true) by decide)] at H; exact H
   clear H
   have H := H1
   clear H1
   have H' := Aside0.mk H
   clear H
   have hnb24 := NB488_489.out
   have hnc24 := NB489_488.out
   have hcz25_0 : w7.cell? ⟨gb488, 0, none⟩ = some (.int .i64 a0_0) := (b5 BK488.out 0).trans rfl
   have hcz25_1 : w7.cell? ⟨gb488, 1, none⟩ = some (.slice A0_1 l0_1.length c0_1) := (b5 BK488.out 1).trans rfl
   have hfz25_0 := blk_frozen BK488.out 0
   have hfz25_1 := blk_frozen BK488.out 1
   go_wp2_with (first | ((with_reducible refine gate_callee (f := 26) rfl ?_); refine goesL_ (some 20) rfl rfl Try.func26 (by kernel_rfl) rfl #[.agg #[.int .i64 a0_0, .slice A0_1 l0_1.length c0_1]] rfl (by (try simp only [List.map_toArray, List.map_cons, List.map_nil]); first | done | rfl | (simp only [List.length_drop, List.length_take]; rfl)) ?_; (with_reducible refine (tensilelaw09_ready.calls k a0_0 _ _ l0_1 false _ ?side1 ?side2 A8.out).mono ?_); (case side1 => repeat (first | exact (Kd.C_below HR0_1.out HB.out) | (with_reducible refine Kd.C_alloc ?_ _) | (with_reducible refine Kd.C_drewN ?_ _) | (with_reducible refine Kd.C_drew ?_))); (case side2 => exact HC0_1.out); rintro e w26 ⟨rfl, hb⟩; refine ⟨_, rfl, ?_⟩; have n0_ := Aside0.mk (b6 (g := gb488) (o := .cells #[.int .i64 a0_0, .slice A0_1 l0_1.length c0_1] 24 (0, 0)) (by (with_reducible repeat (first | refine b1 ?_ _ | refine b2 ?_ | refine b3 ?_ _)); exact BK488.out) hb); have n1_ := Aside0.mk (b6 (g := gb489) (o := .cells #[.int .i64 a1_0, .int .i64 a1_1, .int .i64 a1_2, .int .i64 a1_3] 64 (0, 0)) (by (with_reducible repeat (first | refine b1 ?_ _ | refine b2 ?_ | refine b3 ?_ _)); exact BK489.out) hb); have n2_ := Aside0.mk (below_step (by repeat (first | (with_reducible first | exact HB.out | apply b9 | apply b7 | apply b8 | refine b4 ?_ GE488.out | refine b4 ?_ GE489.out) | exact HB.out)) hb); clear BK488; clear BK489; clear HB; have BK488 := n0_; have BK489 := n1_; have HB := n2_; clear n0_ n1_ n2_; (try clear hb); (try clear hb2); (try clear hk); (try clear hi)))
   go_meet
   case rel => exact ⟨_, (true), (by first | rfl | (simp; done) | (simp [*]; done)), H', ⟨by first | omega | exact Nat.le_refl _⟩, ⟨by (with_reducible repeat (first | refine b1 ?_ _ | refine b2 ?_ | refine b3 ?_ _)); exact BK488.out⟩, ⟨by (with_reducible repeat (first | refine b1 ?_ _ | refine b2 ?_ | refine b3 ?_ _)); exact BK489.out⟩, ⟨by repeat (first | (with_reducible first | exact HB.out | apply b9 | apply b7 | apply b8 | refine b4 ?_ GE488.out | refine b4 ?_ GE489.out) | exact HB.out)⟩⟩
 case rest =>
  clear HC5
  try clear c1
  try clear c2
  try clear p2
  try clear c9
  try clear c11
  try clear c12
  try clear c19
  try clear c24
  try clear c26
  try clear hcz13_0
  try clear hcz13_1
  try clear hcz15_0
  try clear hcz15_1
  try clear hcz15_2
  try clear hcz15_3
  try clear hcz17_0
  try clear hcz17_1
  try clear hcz17_2
  try clear hcz17_3
  try clear hcz18_0
  try clear hcz18_1
  try clear hcz20_0
  try clear hcz20_1
  try clear hcz22_0
  try clear hcz22_1
  try clear hcz22_2
  try clear hcz22_3
  try clear hcz25_0
  try clear hcz25_1
  try clear hfz13_0
  try clear hfz13_1
  try clear hfz15_0
  try clear hfz15_1
  try clear hfz15_2
  try clear hfz15_3
  try clear hfz17_0
  try clear hfz17_1
  try clear hfz17_2
  try clear hfz17_3
  try clear hfz18_0
  try clear hfz18_1
  try clear hfz20_0
  try clear hfz20_1
  try clear hfz22_0
  try clear hfz22_1
  try clear hfz22_2
  try clear hfz22_3
  try clear hfz25_0
  try clear hfz25_1
  obtain ⟨kq, x33_4, rfl, HA, HJ4, BK488, BK489, HB⟩ := hcut
  cases kq with
  | zero => exact absurd HA.out (by simp [tensilelaw09_PlanKinder.j0])
  | succ kj4 =>
   have H := HA.out
   clear HA
   simp only [tensilelaw09_PlanKinder.j0] at H
   by_cases c27 : x33_4 = true
   ·
    subst c27
    have H1 : ((tensilelaw09_wakes.f).bind fun t492 => (some t492)) = some r := by rw [if_pos rfl] at H; exact H
    clear H
    have H := H1
    clear H1
    replace H := Option.bind_eq_some_iff.mp H
    obtain ⟨t492, A280, H⟩ := H
    replace H : (some t492) = some r := H
    have A28 := Aside0.mk A280
    clear A280
    obtain rfl := Option.some.inj H
    go_wp2_with (first | ((with_reducible refine gate_callee (f := 15) rfl ?_); refine goesL_ (some 34) rfl rfl Try.func15 (by kernel_rfl) rfl #[] rfl (by (try simp only [List.map_toArray, List.map_cons, List.map_nil]); first | done | rfl | (simp only [List.length_drop, List.length_take]; rfl)) ?_; (with_reducible refine (tensilelaw09_wakes.calls  t492 _ A28.out).mono ?_); rintro e w29 ⟨rfl, hb⟩; refine ⟨_, rfl, ?_⟩; have n0_ := Aside0.mk (b6 (g := gb488) (o := .cells #[.int .i64 a0_0, .slice A0_1 l0_1.length c0_1] 24 (0, 0)) (by (with_reducible repeat (first | refine b1 ?_ _ | refine b2 ?_ | refine b3 ?_ _)); exact BK488.out) hb); have n1_ := Aside0.mk (b6 (g := gb489) (o := .cells #[.int .i64 a1_0, .int .i64 a1_1, .int .i64 a1_2, .int .i64 a1_3] 64 (0, 0)) (by (with_reducible repeat (first | refine b1 ?_ _ | refine b2 ?_ | refine b3 ?_ _)); exact BK489.out) hb); have n2_ := Aside0.mk (below_step (by repeat (first | (with_reducible first | exact HB.out | apply b9 | apply b7 | apply b8 | refine b4 ?_ GE488.out | refine b4 ?_ GE489.out) | exact HB.out)) hb); clear BK488; clear BK489; clear HB; have BK488 := n0_; have BK489 := n1_; have HB := n2_; clear n0_ n1_ n2_; (try clear hb); (try clear hb2); (try clear hk); (try clear hi)))
    go_ret
    exact ⟨by first | rfl | (simp [errW_none, errW_some] <;> rfl) | (simp [*, errW_none, errW_some] <;> rfl), by repeat (first | (with_reducible first | exact HB.out | apply b9 | apply b7 | apply b8 | refine b4 ?_ GE488.out | refine b4 ?_ GE489.out) | exact HB.out)⟩
   ·
    replace c27 := Bool.eq_false_iff.mpr c27
    subst c27
    have H1 : (if (Int.tmod a2 4) = 0 then (tensilelaw09_PlanKinder.j1 kj4 a0_0 l0_1 a1_0 a1_1 a1_2 a1_3 a1_0 a1_1 (mn 1000 (wrap64 (a1_2 + (wrap64 (a3))))) a1_3) else (if (Int.tmod a2 4) = 1 then (tensilelaw09_PlanKinder.j1 kj4 a0_0 l0_1 a1_0 a1_1 a1_2 a1_3 a1_0 a1_1 a1_2 (mn 1000 (wrap64 (a1_3 + (wrap64 (a3)))))) else (if (Int.tmod a2 4) = 2 then (tensilelaw09_PlanKinder.j1 kj4 a0_0 l0_1 a1_0 a1_1 a1_2 a1_3 (mx 0 (wrap64 (a1_0 - (Int.tmod (wrap64 (a3)) 4)))) a1_1 a1_2 a1_3) else (tensilelaw09_PlanKinder.j1 kj4 a0_0 l0_1 a1_0 a1_1 a1_2 a1_3 a1_0 (mn a0_0 (wrap64 (a1_1 + (Int.tmod (wrap64 (a3)) 4)))) a1_2 a1_3)))) = some r := by rw [if_neg (show ¬ (false = true) by decide)] at H; exact H
    clear H
    have H := H1
    clear H1
    have HC30 := Aside0.mk H
    clear H
    have hnb31 := NB489_488.out
    have hnc31 := NB488_489.out
    have hcz32_0 : wc.cell? ⟨gb489, 0, none⟩ = some (.int .i64 a1_0) := (b5 BK489.out 0).trans rfl
    have hcz32_1 : wc.cell? ⟨gb489, 1, none⟩ = some (.int .i64 a1_1) := (b5 BK489.out 1).trans rfl
    have hcz32_2 : wc.cell? ⟨gb489, 2, none⟩ = some (.int .i64 a1_2) := (b5 BK489.out 2).trans rfl
    have hcz32_3 : wc.cell? ⟨gb489, 3, none⟩ = some (.int .i64 a1_3) := (b5 BK489.out 3).trans rfl
    have hfz32_0 := blk_frozen BK489.out 0
    have hfz32_1 := blk_frozen BK489.out 1
    have hfz32_2 := blk_frozen BK489.out 2
    have hfz32_3 := blk_frozen BK489.out 3
    go_upto_block 0 with (first | ((with_reducible refine gate_dst (N := 9) rfl ?_); (try (refine gate_guard (by rfl) ?_; dsimp only)); refine box_event ?hg (N := 9) ?hd (cs := #[.int .i64 0, .int .i64 0, .int .i64 0, .int .i64 0]) (t := 64) ?hr ?_; (case hd => rfl); (case hg => rfl); (case hr => first | (go_simp; done) | (go_simp; rfl)); intro gb493 hg w33 hbox hb; have n0_ := Aside0.mk (b6 (g := gb488) (o := .cells #[.int .i64 a0_0, .slice A0_1 l0_1.length c0_1] 24 (0, 0)) (by (with_reducible repeat (first | refine b1 ?_ _ | refine b2 ?_ | refine b3 ?_ _)); exact BK488.out) hb); have n1_ := Aside0.mk (b6 (g := gb489) (o := .cells #[.int .i64 a1_0, .int .i64 a1_1, .int .i64 a1_2, .int .i64 a1_3] 64 (0, 0)) (by (with_reducible repeat (first | refine b1 ?_ _ | refine b2 ?_ | refine b3 ?_ _)); exact BK489.out) hb); have n2_ := Aside0.mk (below_step (by repeat (first | (with_reducible first | exact HB.out | apply b9 | apply b7 | apply b8 | refine b4 ?_ GE488.out | refine b4 ?_ GE489.out) | exact HB.out)) hb); have n3_ := Aside0.mk (hbox); have n4_ := Aside0.mk ((by rw [hg]; exact (below_size (by repeat (first | (with_reducible first | exact HB.out | apply b9 | apply b7 | apply b8 | refine b4 ?_ GE488.out | refine b4 ?_ GE489.out) | exact HB.out))) : w.heap.size ≤ gb493)); have n5_ := Aside0.mk ((by rw [hg]; exact (below_size (by repeat (first | (with_reducible first | exact HB.out | apply b9 | apply b7 | apply b8 | refine b4 ?_ GE488.out | refine b4 ?_ GE489.out) | exact HB.out))) : w.heap.size ≤ gb493)); have n6_ := Aside0.mk ((by rw [hg]; exact Nat.ne_of_lt (blk_lt (g := gb488) (o := .cells #[.int .i64 a0_0, .slice A0_1 l0_1.length c0_1] 24 (0, 0)) (by (with_reducible repeat (first | refine b1 ?_ _ | refine b2 ?_ | refine b3 ?_ _)); exact BK488.out)) : gb488 ≠ gb493)); have n7_ := Aside0.mk ((by rw [hg]; exact Nat.ne_of_gt (blk_lt (g := gb488) (o := .cells #[.int .i64 a0_0, .slice A0_1 l0_1.length c0_1] 24 (0, 0)) (by (with_reducible repeat (first | refine b1 ?_ _ | refine b2 ?_ | refine b3 ?_ _)); exact BK488.out)) : gb493 ≠ gb488)); have n8_ := Aside0.mk ((by rw [hg]; exact Nat.ne_of_lt (blk_lt (g := gb489) (o := .cells #[.int .i64 a1_0, .int .i64 a1_1, .int .i64 a1_2, .int .i64 a1_3] 64 (0, 0)) (by (with_reducible repeat (first | refine b1 ?_ _ | refine b2 ?_ | refine b3 ?_ _)); exact BK489.out)) : gb489 ≠ gb493)); have n9_ := Aside0.mk ((by rw [hg]; exact Nat.ne_of_gt (blk_lt (g := gb489) (o := .cells #[.int .i64 a1_0, .int .i64 a1_1, .int .i64 a1_2, .int .i64 a1_3] 64 (0, 0)) (by (with_reducible repeat (first | refine b1 ?_ _ | refine b2 ?_ | refine b3 ?_ _)); exact BK489.out)) : gb493 ≠ gb489)); clear BK488; clear BK489; clear HB; have BK488 := n0_; have BK489 := n1_; have HB := n2_; have BK493 := n3_; have GW493 := n4_; have GE493 := n5_; have NB488_493 := n6_; have NB493_488 := n7_; have NB489_493 := n8_; have NB493_489 := n9_; clear n0_ n1_ n2_ n3_ n4_ n5_ n6_ n7_ n8_ n9_; clear hb hbox hg; have hnb34 := NB493_488.out; have hnc34 := NB488_493.out; have hnb35 := NB493_489.out; have hnc35 := NB489_493.out; have hcz36_0 : w33.cell? ⟨gb493, 0, none⟩ = some (.int .i64 0) := (b5 BK493.out 0).trans rfl; have hcz36_1 : w33.cell? ⟨gb493, 1, none⟩ = some (.int .i64 0) := (b5 BK493.out 1).trans rfl; have hcz36_2 : w33.cell? ⟨gb493, 2, none⟩ = some (.int .i64 0) := (b5 BK493.out 2).trans rfl; have hcz36_3 : w33.cell? ⟨gb493, 3, none⟩ = some (.int .i64 0) := (b5 BK493.out 3).trans rfl; have hfz36_0 := blk_frozen BK493.out 0; have hfz36_1 := blk_frozen BK493.out 1; have hfz36_2 := blk_frozen BK493.out 2; have hfz36_3 := blk_frozen BK493.out 3))
    (try simp only [Act.put, l1, l2, l3])
    go_cut [] (fun wc => ∃ (kq : Nat) (x494000_29 : Int) (x494001_29 : Int) (x494002_29 : Int) (x494003_29 : Int), Aside0 (tensilelaw09_PlanKinder.j1 kq a0_0 l0_1 a1_0 a1_1 a1_2 a1_3 x494000_29 x494001_29 x494002_29 x494003_29 = some r) ∧ Aside0 (kq ≤ kj4) ∧ Aside0 (wc.heap[gb488]? = some (.cells #[.int .i64 a0_0, (.slice A0_1 l0_1.length c0_1)] 24 (0, 0))) ∧ Aside0 (wc.heap[gb489]? = some (.cells #[.int .i64 a1_0, .int .i64 a1_1, .int .i64 a1_2, .int .i64 a1_3] 64 (0, 0))) ∧ Aside0 (wc.heap[gb493]? = some (.cells #[.int .i64 x494000_29, .int .i64 x494001_29, .int .i64 x494002_29, .int .i64 x494003_29] 64 (0, 0))) ∧ Aside0 (Below w.heap.size w wc))
    case first =>
     have H := HC30.out
     clear HC30
     by_cases c37 : (Int.tmod a2 4) = 0
     ·
      rw [if_pos c37] at H
      have c37b0 : ((Int.tmod a2 4) == 0) = true := beq_iff_eq.mpr c37
      have c37b1 : ((Int.tmod a2 4) != 0) = false := bne_eq_false_iff_eq.mpr c37
      clear c37
      (first | rw [c37b0] | (simp only [i64_w, i32_w]; rw [c37b0]) | skip)
      obtain ⟨ji38, hji38⟩ : ∃ j_ : Int, (mn 1000 (wrap64 (a1_2 + (wrap64 (a3))))) = j_ := ⟨_, rfl⟩
      replace H : (tensilelaw09_PlanKinder.j1 kj4 a0_0 l0_1 a1_0 a1_1 a1_2 a1_3 a1_0 a1_1 ji38 a1_3) = some r := by first | (rw [hji38] at H; exact H) | (simp only [hji38] at H ⊢; exact H)
      have hji38_ : (if (wrap64 (a1_2 + (wrap64 (a3)))) < 1000 then (wrap64 (a1_2 + (wrap64 (a3)))) else 1000) = ji38 := hji38
      have H' := Aside0.mk H
      clear H
      have hnb39 := NB489_488.out
      have hnc39 := NB488_489.out
      have hnb40 := NB489_493.out
      have hnc40 := NB493_489.out
      have hcz41_0 : w33.cell? ⟨gb489, 0, none⟩ = some (.int .i64 a1_0) := (b5 BK489.out 0).trans rfl
      have hcz41_1 : w33.cell? ⟨gb489, 1, none⟩ = some (.int .i64 a1_1) := (b5 BK489.out 1).trans rfl
      have hcz41_2 : w33.cell? ⟨gb489, 2, none⟩ = some (.int .i64 a1_2) := (b5 BK489.out 2).trans rfl
      have hcz41_3 : w33.cell? ⟨gb489, 3, none⟩ = some (.int .i64 a1_3) := (b5 BK489.out 3).trans rfl
      have hfz41_0 := blk_frozen BK489.out 0
      have hfz41_1 := blk_frozen BK489.out 1
      have hfz41_2 := blk_frozen BK489.out 2
      have hfz41_3 := blk_frozen BK489.out 3
      have hnb42 := NB493_488.out
      have hnc42 := NB488_493.out
      have hcz43_0 : w33.cell? ⟨gb493, 0, none⟩ = some (.int .i64 0) := (b5 BK493.out 0).trans rfl
      have hcz43_1 : w33.cell? ⟨gb493, 1, none⟩ = some (.int .i64 0) := (b5 BK493.out 1).trans rfl
      have hcz43_2 : w33.cell? ⟨gb493, 2, none⟩ = some (.int .i64 0) := (b5 BK493.out 2).trans rfl
      have hcz43_3 : w33.cell? ⟨gb493, 3, none⟩ = some (.int .i64 0) := (b5 BK493.out 3).trans rfl
      have hfz43_0 := blk_frozen BK493.out 0
      have hfz43_1 := blk_frozen BK493.out 1
      have hfz43_2 := blk_frozen BK493.out 2
      have hfz43_3 := blk_frozen BK493.out 3
      go_wp2
      go_meet
      case rel => exact ⟨_, (a1_0), (a1_1), (ji38), (a1_3), H', ⟨by have := HJ4.out; first | omega | exact Nat.le_refl _⟩, ⟨by (with_reducible repeat (first | refine b1 ?_ _ | refine b2 ?_ | refine b3 ?_ _)); refine blk_far ?_ NB488_493.out _; (with_reducible repeat (first | refine b1 ?_ _ | refine b2 ?_ | refine b3 ?_ _)); refine blk_far ?_ NB488_493.out _; (with_reducible repeat (first | refine b1 ?_ _ | refine b2 ?_ | refine b3 ?_ _)); refine blk_far ?_ NB488_493.out _; (with_reducible repeat (first | refine b1 ?_ _ | refine b2 ?_ | refine b3 ?_ _)); refine blk_far ?_ NB488_493.out _; (with_reducible repeat (first | refine b1 ?_ _ | refine b2 ?_ | refine b3 ?_ _)); refine blk_far ?_ NB488_493.out _; (with_reducible repeat (first | refine b1 ?_ _ | refine b2 ?_ | refine b3 ?_ _)); exact BK488.out⟩, ⟨by (with_reducible repeat (first | refine b1 ?_ _ | refine b2 ?_ | refine b3 ?_ _)); refine blk_far ?_ NB489_493.out _; (with_reducible repeat (first | refine b1 ?_ _ | refine b2 ?_ | refine b3 ?_ _)); refine blk_far ?_ NB489_493.out _; (with_reducible repeat (first | refine b1 ?_ _ | refine b2 ?_ | refine b3 ?_ _)); refine blk_far ?_ NB489_493.out _; (with_reducible repeat (first | refine b1 ?_ _ | refine b2 ?_ | refine b3 ?_ _)); refine blk_far ?_ NB489_493.out _; (with_reducible repeat (first | refine b1 ?_ _ | refine b2 ?_ | refine b3 ?_ _)); refine blk_far ?_ NB489_493.out _; (with_reducible repeat (first | refine b1 ?_ _ | refine b2 ?_ | refine b3 ?_ _)); exact BK489.out⟩, ⟨by (with_reducible repeat (first | refine b1 ?_ _ | refine b2 ?_ | refine b3 ?_ _)); refine blk_put (cs := #[.int .i64 a1_0, .int .i64 a1_1, .int .i64 a1_2, .int .i64 a1_3]) ?_ 2 _ rfl; (with_reducible repeat (first | refine b1 ?_ _ | refine b2 ?_ | refine b3 ?_ _)); refine blk_put (cs := #[.int .i64 a1_0, .int .i64 a1_1, .int .i64 a1_2, .int .i64 0]) ?_ 3 _ rfl; (with_reducible repeat (first | refine b1 ?_ _ | refine b2 ?_ | refine b3 ?_ _)); refine blk_put (cs := #[.int .i64 a1_0, .int .i64 a1_1, .int .i64 0, .int .i64 0]) ?_ 2 _ rfl; (with_reducible repeat (first | refine b1 ?_ _ | refine b2 ?_ | refine b3 ?_ _)); refine blk_put (cs := #[.int .i64 a1_0, .int .i64 0, .int .i64 0, .int .i64 0]) ?_ 1 _ rfl; (with_reducible repeat (first | refine b1 ?_ _ | refine b2 ?_ | refine b3 ?_ _)); refine blk_put (cs := #[.int .i64 0, .int .i64 0, .int .i64 0, .int .i64 0]) ?_ 0 _ rfl; (with_reducible repeat (first | refine b1 ?_ _ | refine b2 ?_ | refine b3 ?_ _)); exact BK493.out⟩, ⟨by repeat (first | (with_reducible first | exact HB.out | apply b9 | apply b7 | apply b8 | refine b4 ?_ GE488.out | refine b4 ?_ GE489.out | refine b4 ?_ GE493.out) | exact HB.out)⟩⟩
     ·
      rw [if_neg c37] at H
      have c37b0 : ((Int.tmod a2 4) == 0) = false := beq_eq_false_iff_ne.mpr c37
      have c37b1 : ((Int.tmod a2 4) != 0) = true := bne_iff_ne.mpr c37
      (first | rw [c37b0] | (simp only [i64_w, i32_w]; rw [c37b0]) | skip)
      by_cases c44 : (Int.tmod a2 4) = 1
      ·
       rw [if_pos c44] at H
       have c44b0 : ((Int.tmod a2 4) == 1) = true := beq_iff_eq.mpr c44
       have c44b1 : ((Int.tmod a2 4) != 1) = false := bne_eq_false_iff_eq.mpr c44
       clear c44
       obtain ⟨ji45, hji45⟩ : ∃ j_ : Int, (mn 1000 (wrap64 (a1_3 + (wrap64 (a3))))) = j_ := ⟨_, rfl⟩
       replace H : (tensilelaw09_PlanKinder.j1 kj4 a0_0 l0_1 a1_0 a1_1 a1_2 a1_3 a1_0 a1_1 a1_2 ji45) = some r := by first | (rw [hji45] at H; exact H) | (simp only [hji45] at H ⊢; exact H)
       have hji45_ : (if (wrap64 (a1_3 + (wrap64 (a3)))) < 1000 then (wrap64 (a1_3 + (wrap64 (a3)))) else 1000) = ji45 := hji45
       have H' := Aside0.mk H
       clear H
       have hnb46 := NB489_488.out
       have hnc46 := NB488_489.out
       have hnb47 := NB489_493.out
       have hnc47 := NB493_489.out
       have hcz48_0 : w33.cell? ⟨gb489, 0, none⟩ = some (.int .i64 a1_0) := (b5 BK489.out 0).trans rfl
       have hcz48_1 : w33.cell? ⟨gb489, 1, none⟩ = some (.int .i64 a1_1) := (b5 BK489.out 1).trans rfl
       have hcz48_2 : w33.cell? ⟨gb489, 2, none⟩ = some (.int .i64 a1_2) := (b5 BK489.out 2).trans rfl
       have hcz48_3 : w33.cell? ⟨gb489, 3, none⟩ = some (.int .i64 a1_3) := (b5 BK489.out 3).trans rfl
       have hfz48_0 := blk_frozen BK489.out 0
       have hfz48_1 := blk_frozen BK489.out 1
       have hfz48_2 := blk_frozen BK489.out 2
       have hfz48_3 := blk_frozen BK489.out 3
       have hnb49 := NB493_488.out
       have hnc49 := NB488_493.out
       have hcz50_0 : w33.cell? ⟨gb493, 0, none⟩ = some (.int .i64 0) := (b5 BK493.out 0).trans rfl
       have hcz50_1 : w33.cell? ⟨gb493, 1, none⟩ = some (.int .i64 0) := (b5 BK493.out 1).trans rfl
       have hcz50_2 : w33.cell? ⟨gb493, 2, none⟩ = some (.int .i64 0) := (b5 BK493.out 2).trans rfl
       have hcz50_3 : w33.cell? ⟨gb493, 3, none⟩ = some (.int .i64 0) := (b5 BK493.out 3).trans rfl
       have hfz50_0 := blk_frozen BK493.out 0
       have hfz50_1 := blk_frozen BK493.out 1
       have hfz50_2 := blk_frozen BK493.out 2
       have hfz50_3 := blk_frozen BK493.out 3
       go_wp2
       go_meet
       case rel => exact ⟨_, (a1_0), (a1_1), (a1_2), (ji45), H', ⟨by have := HJ4.out; first | omega | exact Nat.le_refl _⟩, ⟨by (with_reducible repeat (first | refine b1 ?_ _ | refine b2 ?_ | refine b3 ?_ _)); refine blk_far ?_ NB488_493.out _; (with_reducible repeat (first | refine b1 ?_ _ | refine b2 ?_ | refine b3 ?_ _)); refine blk_far ?_ NB488_493.out _; (with_reducible repeat (first | refine b1 ?_ _ | refine b2 ?_ | refine b3 ?_ _)); refine blk_far ?_ NB488_493.out _; (with_reducible repeat (first | refine b1 ?_ _ | refine b2 ?_ | refine b3 ?_ _)); refine blk_far ?_ NB488_493.out _; (with_reducible repeat (first | refine b1 ?_ _ | refine b2 ?_ | refine b3 ?_ _)); refine blk_far ?_ NB488_493.out _; (with_reducible repeat (first | refine b1 ?_ _ | refine b2 ?_ | refine b3 ?_ _)); exact BK488.out⟩, ⟨by (with_reducible repeat (first | refine b1 ?_ _ | refine b2 ?_ | refine b3 ?_ _)); refine blk_far ?_ NB489_493.out _; (with_reducible repeat (first | refine b1 ?_ _ | refine b2 ?_ | refine b3 ?_ _)); refine blk_far ?_ NB489_493.out _; (with_reducible repeat (first | refine b1 ?_ _ | refine b2 ?_ | refine b3 ?_ _)); refine blk_far ?_ NB489_493.out _; (with_reducible repeat (first | refine b1 ?_ _ | refine b2 ?_ | refine b3 ?_ _)); refine blk_far ?_ NB489_493.out _; (with_reducible repeat (first | refine b1 ?_ _ | refine b2 ?_ | refine b3 ?_ _)); refine blk_far ?_ NB489_493.out _; (with_reducible repeat (first | refine b1 ?_ _ | refine b2 ?_ | refine b3 ?_ _)); exact BK489.out⟩, ⟨by (with_reducible repeat (first | refine b1 ?_ _ | refine b2 ?_ | refine b3 ?_ _)); refine blk_put (cs := #[.int .i64 a1_0, .int .i64 a1_1, .int .i64 a1_2, .int .i64 a1_3]) ?_ 3 _ rfl; (with_reducible repeat (first | refine b1 ?_ _ | refine b2 ?_ | refine b3 ?_ _)); refine blk_put (cs := #[.int .i64 a1_0, .int .i64 a1_1, .int .i64 a1_2, .int .i64 0]) ?_ 3 _ rfl; (with_reducible repeat (first | refine b1 ?_ _ | refine b2 ?_ | refine b3 ?_ _)); refine blk_put (cs := #[.int .i64 a1_0, .int .i64 a1_1, .int .i64 0, .int .i64 0]) ?_ 2 _ rfl; (with_reducible repeat (first | refine b1 ?_ _ | refine b2 ?_ | refine b3 ?_ _)); refine blk_put (cs := #[.int .i64 a1_0, .int .i64 0, .int .i64 0, .int .i64 0]) ?_ 1 _ rfl; (with_reducible repeat (first | refine b1 ?_ _ | refine b2 ?_ | refine b3 ?_ _)); refine blk_put (cs := #[.int .i64 0, .int .i64 0, .int .i64 0, .int .i64 0]) ?_ 0 _ rfl; (with_reducible repeat (first | refine b1 ?_ _ | refine b2 ?_ | refine b3 ?_ _)); exact BK493.out⟩, ⟨by repeat (first | (with_reducible first | exact HB.out | apply b9 | apply b7 | apply b8 | refine b4 ?_ GE488.out | refine b4 ?_ GE489.out | refine b4 ?_ GE493.out) | exact HB.out)⟩⟩
      ·
       rw [if_neg c44] at H
       have c44b0 : ((Int.tmod a2 4) == 1) = false := beq_eq_false_iff_ne.mpr c44
       have c44b1 : ((Int.tmod a2 4) != 1) = true := bne_iff_ne.mpr c44
       by_cases c51 : (Int.tmod a2 4) = 2
       ·
        rw [if_pos c51] at H
        have c51b0 : ((Int.tmod a2 4) == 2) = true := beq_iff_eq.mpr c51
        have c51b1 : ((Int.tmod a2 4) != 2) = false := bne_eq_false_iff_eq.mpr c51
        clear c51
        obtain ⟨ji52, hji52⟩ : ∃ j_ : Int, (mx 0 (wrap64 (a1_0 - (Int.tmod (wrap64 (a3)) 4)))) = j_ := ⟨_, rfl⟩
        replace H : (tensilelaw09_PlanKinder.j1 kj4 a0_0 l0_1 a1_0 a1_1 a1_2 a1_3 ji52 a1_1 a1_2 a1_3) = some r := by first | (rw [hji52] at H; exact H) | (simp only [hji52] at H ⊢; exact H)
        have hji52_ : (if 0 < (wrap64 (a1_0 - (Int.tmod (wrap64 (a3)) 4))) then (wrap64 (a1_0 - (Int.tmod (wrap64 (a3)) 4))) else 0) = ji52 := hji52
        have H' := Aside0.mk H
        clear H
        have hnb53 := NB489_488.out
        have hnc53 := NB488_489.out
        have hnb54 := NB489_493.out
        have hnc54 := NB493_489.out
        have hcz55_0 : w33.cell? ⟨gb489, 0, none⟩ = some (.int .i64 a1_0) := (b5 BK489.out 0).trans rfl
        have hcz55_1 : w33.cell? ⟨gb489, 1, none⟩ = some (.int .i64 a1_1) := (b5 BK489.out 1).trans rfl
        have hcz55_2 : w33.cell? ⟨gb489, 2, none⟩ = some (.int .i64 a1_2) := (b5 BK489.out 2).trans rfl
        have hcz55_3 : w33.cell? ⟨gb489, 3, none⟩ = some (.int .i64 a1_3) := (b5 BK489.out 3).trans rfl
        have hfz55_0 := blk_frozen BK489.out 0
        have hfz55_1 := blk_frozen BK489.out 1
        have hfz55_2 := blk_frozen BK489.out 2
        have hfz55_3 := blk_frozen BK489.out 3
        have hnb56 := NB493_488.out
        have hnc56 := NB488_493.out
        have hcz57_0 : w33.cell? ⟨gb493, 0, none⟩ = some (.int .i64 0) := (b5 BK493.out 0).trans rfl
        have hcz57_1 : w33.cell? ⟨gb493, 1, none⟩ = some (.int .i64 0) := (b5 BK493.out 1).trans rfl
        have hcz57_2 : w33.cell? ⟨gb493, 2, none⟩ = some (.int .i64 0) := (b5 BK493.out 2).trans rfl
        have hcz57_3 : w33.cell? ⟨gb493, 3, none⟩ = some (.int .i64 0) := (b5 BK493.out 3).trans rfl
        have hfz57_0 := blk_frozen BK493.out 0
        have hfz57_1 := blk_frozen BK493.out 1
        have hfz57_2 := blk_frozen BK493.out 2
        have hfz57_3 := blk_frozen BK493.out 3
        go_wp2
        go_meet
        case rel => exact ⟨_, (ji52), (a1_1), (a1_2), (a1_3), H', ⟨by have := HJ4.out; first | omega | exact Nat.le_refl _⟩, ⟨by (with_reducible repeat (first | refine b1 ?_ _ | refine b2 ?_ | refine b3 ?_ _)); refine blk_far ?_ NB488_493.out _; (with_reducible repeat (first | refine b1 ?_ _ | refine b2 ?_ | refine b3 ?_ _)); refine blk_far ?_ NB488_493.out _; (with_reducible repeat (first | refine b1 ?_ _ | refine b2 ?_ | refine b3 ?_ _)); refine blk_far ?_ NB488_493.out _; (with_reducible repeat (first | refine b1 ?_ _ | refine b2 ?_ | refine b3 ?_ _)); refine blk_far ?_ NB488_493.out _; (with_reducible repeat (first | refine b1 ?_ _ | refine b2 ?_ | refine b3 ?_ _)); refine blk_far ?_ NB488_493.out _; (with_reducible repeat (first | refine b1 ?_ _ | refine b2 ?_ | refine b3 ?_ _)); exact BK488.out⟩, ⟨by (with_reducible repeat (first | refine b1 ?_ _ | refine b2 ?_ | refine b3 ?_ _)); refine blk_far ?_ NB489_493.out _; (with_reducible repeat (first | refine b1 ?_ _ | refine b2 ?_ | refine b3 ?_ _)); refine blk_far ?_ NB489_493.out _; (with_reducible repeat (first | refine b1 ?_ _ | refine b2 ?_ | refine b3 ?_ _)); refine blk_far ?_ NB489_493.out _; (with_reducible repeat (first | refine b1 ?_ _ | refine b2 ?_ | refine b3 ?_ _)); refine blk_far ?_ NB489_493.out _; (with_reducible repeat (first | refine b1 ?_ _ | refine b2 ?_ | refine b3 ?_ _)); refine blk_far ?_ NB489_493.out _; (with_reducible repeat (first | refine b1 ?_ _ | refine b2 ?_ | refine b3 ?_ _)); exact BK489.out⟩, ⟨by (with_reducible repeat (first | refine b1 ?_ _ | refine b2 ?_ | refine b3 ?_ _)); refine blk_put (cs := #[.int .i64 a1_0, .int .i64 a1_1, .int .i64 a1_2, .int .i64 a1_3]) ?_ 0 _ rfl; (with_reducible repeat (first | refine b1 ?_ _ | refine b2 ?_ | refine b3 ?_ _)); refine blk_put (cs := #[.int .i64 a1_0, .int .i64 a1_1, .int .i64 a1_2, .int .i64 0]) ?_ 3 _ rfl; (with_reducible repeat (first | refine b1 ?_ _ | refine b2 ?_ | refine b3 ?_ _)); refine blk_put (cs := #[.int .i64 a1_0, .int .i64 a1_1, .int .i64 0, .int .i64 0]) ?_ 2 _ rfl; (with_reducible repeat (first | refine b1 ?_ _ | refine b2 ?_ | refine b3 ?_ _)); refine blk_put (cs := #[.int .i64 a1_0, .int .i64 0, .int .i64 0, .int .i64 0]) ?_ 1 _ rfl; (with_reducible repeat (first | refine b1 ?_ _ | refine b2 ?_ | refine b3 ?_ _)); refine blk_put (cs := #[.int .i64 0, .int .i64 0, .int .i64 0, .int .i64 0]) ?_ 0 _ rfl; (with_reducible repeat (first | refine b1 ?_ _ | refine b2 ?_ | refine b3 ?_ _)); exact BK493.out⟩, ⟨by repeat (first | (with_reducible first | exact HB.out | apply b9 | apply b7 | apply b8 | refine b4 ?_ GE488.out | refine b4 ?_ GE489.out | refine b4 ?_ GE493.out) | exact HB.out)⟩⟩
       ·
        rw [if_neg c51] at H
        have c51b0 : ((Int.tmod a2 4) == 2) = false := beq_eq_false_iff_ne.mpr c51
        have c51b1 : ((Int.tmod a2 4) != 2) = true := bne_iff_ne.mpr c51
        obtain ⟨ji58, hji58⟩ : ∃ j_ : Int, (mn a0_0 (wrap64 (a1_1 + (Int.tmod (wrap64 (a3)) 4)))) = j_ := ⟨_, rfl⟩
        replace H : (tensilelaw09_PlanKinder.j1 kj4 a0_0 l0_1 a1_0 a1_1 a1_2 a1_3 a1_0 ji58 a1_2 a1_3) = some r := by first | (rw [hji58] at H; exact H) | (simp only [hji58] at H ⊢; exact H)
        have hji58_ : (if (wrap64 (a1_1 + (Int.tmod (wrap64 (a3)) 4))) < a0_0 then (wrap64 (a1_1 + (Int.tmod (wrap64 (a3)) 4))) else a0_0) = ji58 := hji58
        have H' := Aside0.mk H
        clear H
        have hnb59 := NB488_489.out
        have hnc59 := NB489_488.out
        have hnb60 := NB488_493.out
        have hnc60 := NB493_488.out
        have hcz61_0 : w33.cell? ⟨gb488, 0, none⟩ = some (.int .i64 a0_0) := (b5 BK488.out 0).trans rfl
        have hcz61_1 : w33.cell? ⟨gb488, 1, none⟩ = some (.slice A0_1 l0_1.length c0_1) := (b5 BK488.out 1).trans rfl
        have hfz61_0 := blk_frozen BK488.out 0
        have hfz61_1 := blk_frozen BK488.out 1
        have hnb62 := NB489_493.out
        have hnc62 := NB493_489.out
        have hcz63_0 : w33.cell? ⟨gb489, 0, none⟩ = some (.int .i64 a1_0) := (b5 BK489.out 0).trans rfl
        have hcz63_1 : w33.cell? ⟨gb489, 1, none⟩ = some (.int .i64 a1_1) := (b5 BK489.out 1).trans rfl
        have hcz63_2 : w33.cell? ⟨gb489, 2, none⟩ = some (.int .i64 a1_2) := (b5 BK489.out 2).trans rfl
        have hcz63_3 : w33.cell? ⟨gb489, 3, none⟩ = some (.int .i64 a1_3) := (b5 BK489.out 3).trans rfl
        have hfz63_0 := blk_frozen BK489.out 0
        have hfz63_1 := blk_frozen BK489.out 1
        have hfz63_2 := blk_frozen BK489.out 2
        have hfz63_3 := blk_frozen BK489.out 3
        have hcz64_0 : w33.cell? ⟨gb493, 0, none⟩ = some (.int .i64 0) := (b5 BK493.out 0).trans rfl
        have hcz64_1 : w33.cell? ⟨gb493, 1, none⟩ = some (.int .i64 0) := (b5 BK493.out 1).trans rfl
        have hcz64_2 : w33.cell? ⟨gb493, 2, none⟩ = some (.int .i64 0) := (b5 BK493.out 2).trans rfl
        have hcz64_3 : w33.cell? ⟨gb493, 3, none⟩ = some (.int .i64 0) := (b5 BK493.out 3).trans rfl
        have hfz64_0 := blk_frozen BK493.out 0
        have hfz64_1 := blk_frozen BK493.out 1
        have hfz64_2 := blk_frozen BK493.out 2
        have hfz64_3 := blk_frozen BK493.out 3
        go_wp2
        go_meet
        case rel => exact ⟨_, (a1_0), (ji58), (a1_2), (a1_3), H', ⟨by have := HJ4.out; first | omega | exact Nat.le_refl _⟩, ⟨by (with_reducible repeat (first | refine b1 ?_ _ | refine b2 ?_ | refine b3 ?_ _)); refine blk_far ?_ NB488_493.out _; (with_reducible repeat (first | refine b1 ?_ _ | refine b2 ?_ | refine b3 ?_ _)); refine blk_far ?_ NB488_493.out _; (with_reducible repeat (first | refine b1 ?_ _ | refine b2 ?_ | refine b3 ?_ _)); refine blk_far ?_ NB488_493.out _; (with_reducible repeat (first | refine b1 ?_ _ | refine b2 ?_ | refine b3 ?_ _)); refine blk_far ?_ NB488_493.out _; (with_reducible repeat (first | refine b1 ?_ _ | refine b2 ?_ | refine b3 ?_ _)); refine blk_far ?_ NB488_493.out _; (with_reducible repeat (first | refine b1 ?_ _ | refine b2 ?_ | refine b3 ?_ _)); exact BK488.out⟩, ⟨by (with_reducible repeat (first | refine b1 ?_ _ | refine b2 ?_ | refine b3 ?_ _)); refine blk_far ?_ NB489_493.out _; (with_reducible repeat (first | refine b1 ?_ _ | refine b2 ?_ | refine b3 ?_ _)); refine blk_far ?_ NB489_493.out _; (with_reducible repeat (first | refine b1 ?_ _ | refine b2 ?_ | refine b3 ?_ _)); refine blk_far ?_ NB489_493.out _; (with_reducible repeat (first | refine b1 ?_ _ | refine b2 ?_ | refine b3 ?_ _)); refine blk_far ?_ NB489_493.out _; (with_reducible repeat (first | refine b1 ?_ _ | refine b2 ?_ | refine b3 ?_ _)); refine blk_far ?_ NB489_493.out _; (with_reducible repeat (first | refine b1 ?_ _ | refine b2 ?_ | refine b3 ?_ _)); exact BK489.out⟩, ⟨by (with_reducible repeat (first | refine b1 ?_ _ | refine b2 ?_ | refine b3 ?_ _)); refine blk_put (cs := #[.int .i64 a1_0, .int .i64 a1_1, .int .i64 a1_2, .int .i64 a1_3]) ?_ 1 _ rfl; (with_reducible repeat (first | refine b1 ?_ _ | refine b2 ?_ | refine b3 ?_ _)); refine blk_put (cs := #[.int .i64 a1_0, .int .i64 a1_1, .int .i64 a1_2, .int .i64 0]) ?_ 3 _ rfl; (with_reducible repeat (first | refine b1 ?_ _ | refine b2 ?_ | refine b3 ?_ _)); refine blk_put (cs := #[.int .i64 a1_0, .int .i64 a1_1, .int .i64 0, .int .i64 0]) ?_ 2 _ rfl; (with_reducible repeat (first | refine b1 ?_ _ | refine b2 ?_ | refine b3 ?_ _)); refine blk_put (cs := #[.int .i64 a1_0, .int .i64 0, .int .i64 0, .int .i64 0]) ?_ 1 _ rfl; (with_reducible repeat (first | refine b1 ?_ _ | refine b2 ?_ | refine b3 ?_ _)); refine blk_put (cs := #[.int .i64 0, .int .i64 0, .int .i64 0, .int .i64 0]) ?_ 0 _ rfl; (with_reducible repeat (first | refine b1 ?_ _ | refine b2 ?_ | refine b3 ?_ _)); exact BK493.out⟩, ⟨by repeat (first | (with_reducible first | exact HB.out | apply b9 | apply b7 | apply b8 | refine b4 ?_ GE488.out | refine b4 ?_ GE489.out | refine b4 ?_ GE493.out) | exact HB.out)⟩⟩
    case rest =>
     clear HC30
     try clear c1
     try clear c2
     try clear p2
     try clear c3
     try clear c4
     try clear c5
     try clear c6
     try clear p6
     try clear c9
     try clear c11
     try clear c12
     try clear c15
     try clear c19
     try clear c24
     try clear c26
     try clear c27
     try clear c31
     try clear c34
     try clear c35
     try clear c37
     try clear c37b0
     try clear c37b1
     try clear c39
     try clear c40
     try clear c42
     try clear c44
     try clear c44b0
     try clear c44b1
     try clear c46
     try clear c47
     try clear c49
     try clear c51
     try clear c51b0
     try clear c51b1
     try clear c53
     try clear c54
     try clear c56
     try clear c59
     try clear c60
     try clear c62
     try clear p64
     try clear hcz13_0
     try clear hcz13_1
     try clear hcz15_0
     try clear hcz15_1
     try clear hcz15_2
     try clear hcz15_3
     try clear hcz17_0
     try clear hcz17_1
     try clear hcz17_2
     try clear hcz17_3
     try clear hcz18_0
     try clear hcz18_1
     try clear hcz20_0
     try clear hcz20_1
     try clear hcz22_0
     try clear hcz22_1
     try clear hcz22_2
     try clear hcz22_3
     try clear hcz25_0
     try clear hcz25_1
     try clear hcz32_0
     try clear hcz32_1
     try clear hcz32_2
     try clear hcz32_3
     try clear hcz36_0
     try clear hcz36_1
     try clear hcz36_2
     try clear hcz36_3
     try clear hcz41_0
     try clear hcz41_1
     try clear hcz41_2
     try clear hcz41_3
     try clear hcz43_0
     try clear hcz43_1
     try clear hcz43_2
     try clear hcz43_3
     try clear hcz48_0
     try clear hcz48_1
     try clear hcz48_2
     try clear hcz48_3
     try clear hcz50_0
     try clear hcz50_1
     try clear hcz50_2
     try clear hcz50_3
     try clear hcz55_0
     try clear hcz55_1
     try clear hcz55_2
     try clear hcz55_3
     try clear hcz57_0
     try clear hcz57_1
     try clear hcz57_2
     try clear hcz57_3
     try clear hcz61_0
     try clear hcz61_1
     try clear hcz63_0
     try clear hcz63_1
     try clear hcz63_2
     try clear hcz63_3
     try clear hcz64_0
     try clear hcz64_1
     try clear hcz64_2
     try clear hcz64_3
     try clear hfz13_0
     try clear hfz13_1
     try clear hfz15_0
     try clear hfz15_1
     try clear hfz15_2
     try clear hfz15_3
     try clear hfz17_0
     try clear hfz17_1
     try clear hfz17_2
     try clear hfz17_3
     try clear hfz18_0
     try clear hfz18_1
     try clear hfz20_0
     try clear hfz20_1
     try clear hfz22_0
     try clear hfz22_1
     try clear hfz22_2
     try clear hfz22_3
     try clear hfz25_0
     try clear hfz25_1
     try clear hfz32_0
     try clear hfz32_1
     try clear hfz32_2
     try clear hfz32_3
     try clear hfz36_0
     try clear hfz36_1
     try clear hfz36_2
     try clear hfz36_3
     try clear hfz41_0
     try clear hfz41_1
     try clear hfz41_2
     try clear hfz41_3
     try clear hfz43_0
     try clear hfz43_1
     try clear hfz43_2
     try clear hfz43_3
     try clear hfz48_0
     try clear hfz48_1
     try clear hfz48_2
     try clear hfz48_3
     try clear hfz50_0
     try clear hfz50_1
     try clear hfz50_2
     try clear hfz50_3
     try clear hfz55_0
     try clear hfz55_1
     try clear hfz55_2
     try clear hfz55_3
     try clear hfz57_0
     try clear hfz57_1
     try clear hfz57_2
     try clear hfz57_3
     try clear hfz61_0
     try clear hfz61_1
     try clear hfz63_0
     try clear hfz63_1
     try clear hfz63_2
     try clear hfz63_3
     try clear hfz64_0
     try clear hfz64_1
     try clear hfz64_2
     try clear hfz64_3
     try clear p2
     obtain ⟨kq, x494000_29, x494001_29, x494002_29, x494003_29, HA, HJ29, BK488, BK489, BK493, HB⟩ := hcut
     cases kq with
     | zero => exact absurd HA.out (by simp [tensilelaw09_PlanKinder.j1])
     | succ kj29 =>
      have H := HA.out
      clear HA
      simp only [tensilelaw09_PlanKinder.j1] at H
      replace H := Option.bind_eq_some_iff.mp H
      obtain ⟨⟨t494, t495⟩, A650, H⟩ := H
      replace H : ((tensilelaw09_Demand.f a1_0 a1_1 a1_2 a1_3).bind fun bt498 => ((plan_Keeps.f t494 t495 bt498.1 bt498.2.1 bt498.2.2.1 bt498.2.2.2).bind fun bt502 => ((tensilelaw09_Plan.f kj29 a0_0 l0_1).bind fun bt504 => ((tensilelaw09_Demand.f x494000_29 x494001_29 x494002_29 x494003_29).bind fun bt508 => ((plan_Keeps.f bt504.1 bt504.2 bt508.1 bt508.2.1 bt508.2.2.1 bt508.2.2.2).bind fun bt512 => ((tensilelaw09_Demand.f a1_0 a1_1 a1_2 a1_3).bind fun bt514 => ((plan_Single.f a0_0 bt514.1 bt514.2.1 bt514.2.2.1 bt514.2.2.2).bind fun bt518 => ((tensilelaw09_Demand.f x494000_29 x494001_29 x494002_29 x494003_29).bind fun bt524 => ((plan_Single.f a0_0 bt524.1 bt524.2.1 bt524.2.2.1 bt524.2.2.2).bind fun bt528 => (if bt502.2 = 0 then (if bt512.2 = 0 then (if bt502.1 = true then (if bt512.1 = true then (if bt518.2.2 = 0 then (if bt528.2.2 = 0 then (if (bt518.2.1.length : Int) = 1 then (if (bt528.2.1.length : Int) = 1 then (if 0 < (bt528.2.1.length : Int) then (if 0 < (bt518.2.1.length : Int) then (if ((rd_T61 bt528.2.1 0).f0) ≤ ((rd_T61 bt518.2.1 0).f0) then ((tensilelaw09_wakes.f).bind fun t536 => (some t536)) else (none)) else (none)) else (none)) else (none)) else (none)) else (none)) else (none)) else (none)) else (if bt518.2.2 = 0 then (if bt528.2.2 = 0 then (if (bt518.2.1.length : Int) = 1 then (if (bt528.2.1.length : Int) = 1 then (if 0 < (bt528.2.1.length : Int) then (if 0 < (bt518.2.1.length : Int) then (if ((rd_T61 bt528.2.1 0).f0) ≤ ((rd_T61 bt518.2.1 0).f0) then ((tensilelaw09_wakes.f).bind fun t539 => (some t539)) else (none)) else (none)) else (none)) else (none)) else (none)) else (none)) else (none))) else (none)) else (none))))))))))) = some r := H
      have A65 := Aside0.mk A650
      clear A650
      replace H := Option.bind_eq_some_iff.mp H
      obtain ⟨⟨t498, t499, t500, t501⟩, A660, H⟩ := H
      replace H : ((plan_Keeps.f t494 t495 t498 t499 t500 t501).bind fun bt502 => ((tensilelaw09_Plan.f kj29 a0_0 l0_1).bind fun bt504 => ((tensilelaw09_Demand.f x494000_29 x494001_29 x494002_29 x494003_29).bind fun bt508 => ((plan_Keeps.f bt504.1 bt504.2 bt508.1 bt508.2.1 bt508.2.2.1 bt508.2.2.2).bind fun bt512 => ((tensilelaw09_Demand.f a1_0 a1_1 a1_2 a1_3).bind fun bt514 => ((plan_Single.f a0_0 bt514.1 bt514.2.1 bt514.2.2.1 bt514.2.2.2).bind fun bt518 => ((tensilelaw09_Demand.f x494000_29 x494001_29 x494002_29 x494003_29).bind fun bt524 => ((plan_Single.f a0_0 bt524.1 bt524.2.1 bt524.2.2.1 bt524.2.2.2).bind fun bt528 => (if bt502.2 = 0 then (if bt512.2 = 0 then (if bt502.1 = true then (if bt512.1 = true then (if bt518.2.2 = 0 then (if bt528.2.2 = 0 then (if (bt518.2.1.length : Int) = 1 then (if (bt528.2.1.length : Int) = 1 then (if 0 < (bt528.2.1.length : Int) then (if 0 < (bt518.2.1.length : Int) then (if ((rd_T61 bt528.2.1 0).f0) ≤ ((rd_T61 bt518.2.1 0).f0) then ((tensilelaw09_wakes.f).bind fun t536 => (some t536)) else (none)) else (none)) else (none)) else (none)) else (none)) else (none)) else (none)) else (none)) else (if bt518.2.2 = 0 then (if bt528.2.2 = 0 then (if (bt518.2.1.length : Int) = 1 then (if (bt528.2.1.length : Int) = 1 then (if 0 < (bt528.2.1.length : Int) then (if 0 < (bt518.2.1.length : Int) then (if ((rd_T61 bt528.2.1 0).f0) ≤ ((rd_T61 bt518.2.1 0).f0) then ((tensilelaw09_wakes.f).bind fun t539 => (some t539)) else (none)) else (none)) else (none)) else (none)) else (none)) else (none)) else (none))) else (none)) else (none)))))))))) = some r := H
      have A66 := Aside0.mk A660
      clear A660
      replace H := Option.bind_eq_some_iff.mp H
      obtain ⟨⟨t502, t503⟩, A670, H⟩ := H
      replace H : ((tensilelaw09_Plan.f kj29 a0_0 l0_1).bind fun bt504 => ((tensilelaw09_Demand.f x494000_29 x494001_29 x494002_29 x494003_29).bind fun bt508 => ((plan_Keeps.f bt504.1 bt504.2 bt508.1 bt508.2.1 bt508.2.2.1 bt508.2.2.2).bind fun bt512 => ((tensilelaw09_Demand.f a1_0 a1_1 a1_2 a1_3).bind fun bt514 => ((plan_Single.f a0_0 bt514.1 bt514.2.1 bt514.2.2.1 bt514.2.2.2).bind fun bt518 => ((tensilelaw09_Demand.f x494000_29 x494001_29 x494002_29 x494003_29).bind fun bt524 => ((plan_Single.f a0_0 bt524.1 bt524.2.1 bt524.2.2.1 bt524.2.2.2).bind fun bt528 => (if t503 = 0 then (if bt512.2 = 0 then (if t502 = true then (if bt512.1 = true then (if bt518.2.2 = 0 then (if bt528.2.2 = 0 then (if (bt518.2.1.length : Int) = 1 then (if (bt528.2.1.length : Int) = 1 then (if 0 < (bt528.2.1.length : Int) then (if 0 < (bt518.2.1.length : Int) then (if ((rd_T61 bt528.2.1 0).f0) ≤ ((rd_T61 bt518.2.1 0).f0) then ((tensilelaw09_wakes.f).bind fun t536 => (some t536)) else (none)) else (none)) else (none)) else (none)) else (none)) else (none)) else (none)) else (none)) else (if bt518.2.2 = 0 then (if bt528.2.2 = 0 then (if (bt518.2.1.length : Int) = 1 then (if (bt528.2.1.length : Int) = 1 then (if 0 < (bt528.2.1.length : Int) then (if 0 < (bt518.2.1.length : Int) then (if ((rd_T61 bt528.2.1 0).f0) ≤ ((rd_T61 bt518.2.1 0).f0) then ((tensilelaw09_wakes.f).bind fun t539 => (some t539)) else (none)) else (none)) else (none)) else (none)) else (none)) else (none)) else (none))) else (none)) else (none))))))))) = some r := H
      have A67 := Aside0.mk A670
      clear A670
      replace H := Option.bind_eq_some_iff.mp H
      obtain ⟨⟨t504, t505⟩, A680, H⟩ := H
      replace H : ((tensilelaw09_Demand.f x494000_29 x494001_29 x494002_29 x494003_29).bind fun bt508 => ((plan_Keeps.f t504 t505 bt508.1 bt508.2.1 bt508.2.2.1 bt508.2.2.2).bind fun bt512 => ((tensilelaw09_Demand.f a1_0 a1_1 a1_2 a1_3).bind fun bt514 => ((plan_Single.f a0_0 bt514.1 bt514.2.1 bt514.2.2.1 bt514.2.2.2).bind fun bt518 => ((tensilelaw09_Demand.f x494000_29 x494001_29 x494002_29 x494003_29).bind fun bt524 => ((plan_Single.f a0_0 bt524.1 bt524.2.1 bt524.2.2.1 bt524.2.2.2).bind fun bt528 => (if t503 = 0 then (if bt512.2 = 0 then (if t502 = true then (if bt512.1 = true then (if bt518.2.2 = 0 then (if bt528.2.2 = 0 then (if (bt518.2.1.length : Int) = 1 then (if (bt528.2.1.length : Int) = 1 then (if 0 < (bt528.2.1.length : Int) then (if 0 < (bt518.2.1.length : Int) then (if ((rd_T61 bt528.2.1 0).f0) ≤ ((rd_T61 bt518.2.1 0).f0) then ((tensilelaw09_wakes.f).bind fun t536 => (some t536)) else (none)) else (none)) else (none)) else (none)) else (none)) else (none)) else (none)) else (none)) else (if bt518.2.2 = 0 then (if bt528.2.2 = 0 then (if (bt518.2.1.length : Int) = 1 then (if (bt528.2.1.length : Int) = 1 then (if 0 < (bt528.2.1.length : Int) then (if 0 < (bt518.2.1.length : Int) then (if ((rd_T61 bt528.2.1 0).f0) ≤ ((rd_T61 bt518.2.1 0).f0) then ((tensilelaw09_wakes.f).bind fun t539 => (some t539)) else (none)) else (none)) else (none)) else (none)) else (none)) else (none)) else (none))) else (none)) else (none)))))))) = some r := H
      have A68 := Aside0.mk A680
      clear A680
      replace H := Option.bind_eq_some_iff.mp H
      obtain ⟨⟨t508, t509, t510, t511⟩, A690, H⟩ := H
      replace H : ((plan_Keeps.f t504 t505 t508 t509 t510 t511).bind fun bt512 => ((tensilelaw09_Demand.f a1_0 a1_1 a1_2 a1_3).bind fun bt514 => ((plan_Single.f a0_0 bt514.1 bt514.2.1 bt514.2.2.1 bt514.2.2.2).bind fun bt518 => ((tensilelaw09_Demand.f x494000_29 x494001_29 x494002_29 x494003_29).bind fun bt524 => ((plan_Single.f a0_0 bt524.1 bt524.2.1 bt524.2.2.1 bt524.2.2.2).bind fun bt528 => (if t503 = 0 then (if bt512.2 = 0 then (if t502 = true then (if bt512.1 = true then (if bt518.2.2 = 0 then (if bt528.2.2 = 0 then (if (bt518.2.1.length : Int) = 1 then (if (bt528.2.1.length : Int) = 1 then (if 0 < (bt528.2.1.length : Int) then (if 0 < (bt518.2.1.length : Int) then (if ((rd_T61 bt528.2.1 0).f0) ≤ ((rd_T61 bt518.2.1 0).f0) then ((tensilelaw09_wakes.f).bind fun t536 => (some t536)) else (none)) else (none)) else (none)) else (none)) else (none)) else (none)) else (none)) else (none)) else (if bt518.2.2 = 0 then (if bt528.2.2 = 0 then (if (bt518.2.1.length : Int) = 1 then (if (bt528.2.1.length : Int) = 1 then (if 0 < (bt528.2.1.length : Int) then (if 0 < (bt518.2.1.length : Int) then (if ((rd_T61 bt528.2.1 0).f0) ≤ ((rd_T61 bt518.2.1 0).f0) then ((tensilelaw09_wakes.f).bind fun t539 => (some t539)) else (none)) else (none)) else (none)) else (none)) else (none)) else (none)) else (none))) else (none)) else (none))))))) = some r := H
      have A69 := Aside0.mk A690
      clear A690
      replace H := Option.bind_eq_some_iff.mp H
      obtain ⟨⟨t512, t513⟩, A700, H⟩ := H
      replace H : ((tensilelaw09_Demand.f a1_0 a1_1 a1_2 a1_3).bind fun bt514 => ((plan_Single.f a0_0 bt514.1 bt514.2.1 bt514.2.2.1 bt514.2.2.2).bind fun bt518 => ((tensilelaw09_Demand.f x494000_29 x494001_29 x494002_29 x494003_29).bind fun bt524 => ((plan_Single.f a0_0 bt524.1 bt524.2.1 bt524.2.2.1 bt524.2.2.2).bind fun bt528 => (if t503 = 0 then (if t513 = 0 then (if t502 = true then (if t512 = true then (if bt518.2.2 = 0 then (if bt528.2.2 = 0 then (if (bt518.2.1.length : Int) = 1 then (if (bt528.2.1.length : Int) = 1 then (if 0 < (bt528.2.1.length : Int) then (if 0 < (bt518.2.1.length : Int) then (if ((rd_T61 bt528.2.1 0).f0) ≤ ((rd_T61 bt518.2.1 0).f0) then ((tensilelaw09_wakes.f).bind fun t536 => (some t536)) else (none)) else (none)) else (none)) else (none)) else (none)) else (none)) else (none)) else (none)) else (if bt518.2.2 = 0 then (if bt528.2.2 = 0 then (if (bt518.2.1.length : Int) = 1 then (if (bt528.2.1.length : Int) = 1 then (if 0 < (bt528.2.1.length : Int) then (if 0 < (bt518.2.1.length : Int) then (if ((rd_T61 bt528.2.1 0).f0) ≤ ((rd_T61 bt518.2.1 0).f0) then ((tensilelaw09_wakes.f).bind fun t539 => (some t539)) else (none)) else (none)) else (none)) else (none)) else (none)) else (none)) else (none))) else (none)) else (none)))))) = some r := H
      have A70 := Aside0.mk A700
      clear A700
      replace H := Option.bind_eq_some_iff.mp H
      obtain ⟨⟨t514, t515, t516, t517⟩, A710, H⟩ := H
      replace H : ((plan_Single.f a0_0 t514 t515 t516 t517).bind fun bt518 => ((tensilelaw09_Demand.f x494000_29 x494001_29 x494002_29 x494003_29).bind fun bt524 => ((plan_Single.f a0_0 bt524.1 bt524.2.1 bt524.2.2.1 bt524.2.2.2).bind fun bt528 => (if t503 = 0 then (if t513 = 0 then (if t502 = true then (if t512 = true then (if bt518.2.2 = 0 then (if bt528.2.2 = 0 then (if (bt518.2.1.length : Int) = 1 then (if (bt528.2.1.length : Int) = 1 then (if 0 < (bt528.2.1.length : Int) then (if 0 < (bt518.2.1.length : Int) then (if ((rd_T61 bt528.2.1 0).f0) ≤ ((rd_T61 bt518.2.1 0).f0) then ((tensilelaw09_wakes.f).bind fun t536 => (some t536)) else (none)) else (none)) else (none)) else (none)) else (none)) else (none)) else (none)) else (none)) else (if bt518.2.2 = 0 then (if bt528.2.2 = 0 then (if (bt518.2.1.length : Int) = 1 then (if (bt528.2.1.length : Int) = 1 then (if 0 < (bt528.2.1.length : Int) then (if 0 < (bt518.2.1.length : Int) then (if ((rd_T61 bt528.2.1 0).f0) ≤ ((rd_T61 bt518.2.1 0).f0) then ((tensilelaw09_wakes.f).bind fun t539 => (some t539)) else (none)) else (none)) else (none)) else (none)) else (none)) else (none)) else (none))) else (none)) else (none))))) = some r := H
      have A71 := Aside0.mk A710
      clear A710
      replace H := Option.bind_eq_some_iff.mp H
      obtain ⟨⟨t518, t519, t522⟩, A720, H⟩ := H
      replace H : ((tensilelaw09_Demand.f x494000_29 x494001_29 x494002_29 x494003_29).bind fun bt524 => ((plan_Single.f a0_0 bt524.1 bt524.2.1 bt524.2.2.1 bt524.2.2.2).bind fun bt528 => (if t503 = 0 then (if t513 = 0 then (if t502 = true then (if t512 = true then (if t522 = 0 then (if bt528.2.2 = 0 then (if (t519.length : Int) = 1 then (if (bt528.2.1.length : Int) = 1 then (if 0 < (bt528.2.1.length : Int) then (if 0 < (t519.length : Int) then (if ((rd_T61 bt528.2.1 0).f0) ≤ ((rd_T61 t519 0).f0) then ((tensilelaw09_wakes.f).bind fun t536 => (some t536)) else (none)) else (none)) else (none)) else (none)) else (none)) else (none)) else (none)) else (none)) else (if t522 = 0 then (if bt528.2.2 = 0 then (if (t519.length : Int) = 1 then (if (bt528.2.1.length : Int) = 1 then (if 0 < (bt528.2.1.length : Int) then (if 0 < (t519.length : Int) then (if ((rd_T61 bt528.2.1 0).f0) ≤ ((rd_T61 t519 0).f0) then ((tensilelaw09_wakes.f).bind fun t539 => (some t539)) else (none)) else (none)) else (none)) else (none)) else (none)) else (none)) else (none))) else (none)) else (none)))) = some r := H
      have A72 := Aside0.mk A720
      clear A720
      replace H := Option.bind_eq_some_iff.mp H
      obtain ⟨⟨t524, t525, t526, t527⟩, A730, H⟩ := H
      replace H : ((plan_Single.f a0_0 t524 t525 t526 t527).bind fun bt528 => (if t503 = 0 then (if t513 = 0 then (if t502 = true then (if t512 = true then (if t522 = 0 then (if bt528.2.2 = 0 then (if (t519.length : Int) = 1 then (if (bt528.2.1.length : Int) = 1 then (if 0 < (bt528.2.1.length : Int) then (if 0 < (t519.length : Int) then (if ((rd_T61 bt528.2.1 0).f0) ≤ ((rd_T61 t519 0).f0) then ((tensilelaw09_wakes.f).bind fun t536 => (some t536)) else (none)) else (none)) else (none)) else (none)) else (none)) else (none)) else (none)) else (none)) else (if t522 = 0 then (if bt528.2.2 = 0 then (if (t519.length : Int) = 1 then (if (bt528.2.1.length : Int) = 1 then (if 0 < (bt528.2.1.length : Int) then (if 0 < (t519.length : Int) then (if ((rd_T61 bt528.2.1 0).f0) ≤ ((rd_T61 t519 0).f0) then ((tensilelaw09_wakes.f).bind fun t539 => (some t539)) else (none)) else (none)) else (none)) else (none)) else (none)) else (none)) else (none))) else (none)) else (none))) = some r := H
      have A73 := Aside0.mk A730
      clear A730
      replace H := Option.bind_eq_some_iff.mp H
      obtain ⟨⟨t528, t529, t532⟩, A740, H⟩ := H
      replace H : (if t503 = 0 then (if t513 = 0 then (if t502 = true then (if t512 = true then (if t522 = 0 then (if t532 = 0 then (if (t519.length : Int) = 1 then (if (t529.length : Int) = 1 then (if 0 < (t529.length : Int) then (if 0 < (t519.length : Int) then (if ((rd_T61 t529 0).f0) ≤ ((rd_T61 t519 0).f0) then ((tensilelaw09_wakes.f).bind fun t536 => (some t536)) else (none)) else (none)) else (none)) else (none)) else (none)) else (none)) else (none)) else (none)) else (if t522 = 0 then (if t532 = 0 then (if (t519.length : Int) = 1 then (if (t529.length : Int) = 1 then (if 0 < (t529.length : Int) then (if 0 < (t519.length : Int) then (if ((rd_T61 t529 0).f0) ≤ ((rd_T61 t519 0).f0) then ((tensilelaw09_wakes.f).bind fun t539 => (some t539)) else (none)) else (none)) else (none)) else (none)) else (none)) else (none)) else (none))) else (none)) else (none)) = some r := H
      have A74 := Aside0.mk A740
      clear A740
      by_cases c75 : t503 = 0
      ·
       rw [if_pos c75] at H
       have c75b0 : (t503 == 0) = true := beq_iff_eq.mpr c75
       have c75b1 : (t503 != 0) = false := bne_eq_false_iff_eq.mpr c75
       clear c75
       by_cases c76 : t513 = 0
       ·
        rw [if_pos c76] at H
        have c76b0 : (t513 == 0) = true := beq_iff_eq.mpr c76
        have c76b1 : (t513 != 0) = false := bne_eq_false_iff_eq.mpr c76
        clear c76
        obtain ⟨hab, H⟩ : (t502 = true → t512 = true) ∧ (if t522 = 0 then (if t532 = 0 then (if (t519.length : Int) = 1 then (if (t529.length : Int) = 1 then (if 0 < (t529.length : Int) then (if 0 < (t519.length : Int) then (if ((rd_T61 t529 0).f0) ≤ ((rd_T61 t519 0).f0) then ((tensilelaw09_wakes.f).bind fun t536 => (some t536)) else (none)) else (none)) else (none)) else (none)) else (none)) else (none)) else (none)) = some r := by
         by_cases c77 : t502 = true
         ·
          rw [if_pos c77] at H
          by_cases c78 : t512 = true
          ·
           rw [if_pos c78] at H
           exact ⟨fun _ => c78, H⟩
          ·
           rw [if_neg c78] at H
           exact absurd H (by simp)
         ·
          rw [if_neg c77] at H
          exact ⟨fun h => absurd h c77, H⟩
        by_cases c79 : t522 = 0
        rotate_left
        ·
         rw [if_neg c79] at H
         exact absurd H (by simp)
        rw [if_pos c79] at H
        have c79b0 : (t522 == 0) = true := beq_iff_eq.mpr c79
        have c79b1 : (t522 != 0) = false := bne_eq_false_iff_eq.mpr c79
        clear c79
        by_cases c80 : t532 = 0
        rotate_left
        ·
         rw [if_neg c80] at H
         exact absurd H (by simp)
        rw [if_pos c80] at H
        have c80b0 : (t532 == 0) = true := beq_iff_eq.mpr c80
        have c80b1 : (t532 != 0) = false := bne_eq_false_iff_eq.mpr c80
        clear c80
        by_cases c81 : (t519.length : Int) = 1
        rotate_left
        ·
         rw [if_neg c81] at H
         exact absurd H (by simp)
        rw [if_pos c81] at H
        have c81b0 : ((t519.length : Int) == 1) = true := beq_iff_eq.mpr c81
        have c81b1 : ((t519.length : Int) != 1) = false := bne_eq_false_iff_eq.mpr c81
        clear c81
        by_cases c82 : (t529.length : Int) = 1
        rotate_left
        ·
         rw [if_neg c82] at H
         exact absurd H (by simp)
        rw [if_pos c82] at H
        have c82b0 : ((t529.length : Int) == 1) = true := beq_iff_eq.mpr c82
        have c82b1 : ((t529.length : Int) != 1) = false := bne_eq_false_iff_eq.mpr c82
        clear c82
        by_cases c83 : 0 < (t529.length : Int)
        rotate_left
        ·
         rw [if_neg c83] at H
         exact absurd H (by simp)
        rw [if_pos c83] at H
        have c83b0 : decide (0 < (t529.length : Int)) = true := decide_eq_true c83
        have c83b1 : decide (0 < t529.length) = true := decide_eq_true (by omega)
        clear c83
        by_cases c84 : 0 < (t519.length : Int)
        rotate_left
        ·
         rw [if_neg c84] at H
         exact absurd H (by simp)
        rw [if_pos c84] at H
        have c84b0 : decide (0 < (t519.length : Int)) = true := decide_eq_true c84
        have c84b1 : decide (0 < t519.length) = true := decide_eq_true (by omega)
        clear c84
        by_cases c85 : ((rd_T61 t529 0).f0) ≤ ((rd_T61 t519 0).f0)
        rotate_left
        ·
         rw [if_neg c85] at H
         exact absurd H (by simp)
        rw [if_pos c85] at H
        have c85b0 : decide (((rd_T61 t529 0).f0) ≤ ((rd_T61 t519 0).f0)) = true := decide_eq_true c85
        clear c85
        replace H := Option.bind_eq_some_iff.mp H
        obtain ⟨t536, A860, H⟩ := H
        replace H : (some t536) = some r := H
        have A86 := Aside0.mk A860
        clear A860
        obtain rfl := Option.some.inj H
        try go_wp2
        have n0_ := Aside0.mk (b2 BK488.out)
        have n1_ := Aside0.mk (b2 BK489.out)
        have n2_ := Aside0.mk (b2 BK493.out)
        have n3_ := Aside0.mk (b8 HB.out)
        clear BK488
        clear BK489
        clear BK493
        clear HB
        have BK488 := n0_
        have BK489 := n1_
        have BK493 := n2_
        have HB := n3_
        clear n0_ n1_ n2_ n3_
        refine start_ (n := 10) (S := fun w' => w'.cell? ⟨gb488, 0, none⟩ = some (.int .i64 a0_0) ∧ w'.cell? ⟨gb488, 1, none⟩ = some (.slice A0_1 l0_1.length c0_1) ∧ w'.cell? ⟨gb489, 0, none⟩ = some (.int .i64 a1_0) ∧ w'.cell? ⟨gb489, 1, none⟩ = some (.int .i64 a1_1) ∧ w'.cell? ⟨gb489, 2, none⟩ = some (.int .i64 a1_2) ∧ w'.cell? ⟨gb489, 3, none⟩ = some (.int .i64 a1_3)) (ds := []) #[ff,ff,ff,ff,ff,ff,ff,ff,ff,ff] (by kernel_rfl) rfl rfl ⟨(b5 BK488.out 0).trans rfl, (b5 BK488.out 1).trans rfl, (b5 BK489.out 0).trans rfl, (b5 BK489.out 1).trans rfl, (b5 BK489.out 2).trans rfl, (b5 BK489.out 3).trans rfl⟩ (fun hHeld => ?_); refine with_tabW tensilelaw09_PlanKinder.tab12 tensilelaw09_PlanKinder.bits12 (fun HT_ HW_ => ?_)
        generalize wc.drew = w87 at BK488 BK489 BK493 HB hHeld ⊢
        refine take_ (i := 0) (N := some 75) (v := ?_) (a' := ?_) #[tt,ff,ff,ff,ff,ff,ff,ff,ff,ff] rfl rfl (take_ofW HT_.out HW_.out (by kernel_rfl)) (fun _ _ _ h => h) (Or.inl ⟨by rfl, ?_⟩) hHeld ?_ ?_
        rotate_left
        ·
         rintro w' ⟨s0, s1, s2, s3, s4, s5⟩
         go_simp
         with_reducible rfl
        rotate_left
        ·
         simp only [Act.put, l1, l2, l3, i64_w, i32_w]
         rfl
        refine take_ (i := 2) (N := some 77) (v := ?_) (a' := ?_) #[tt,ff,tt,ff,ff,ff,ff,ff,ff,ff] rfl rfl (take_ofW HT_.out HW_.out (by kernel_rfl)) (fun _ _ _ h => h) (Or.inl ⟨by rfl, ?_⟩) hHeld ?_ ?_
        rotate_left
        ·
         rintro w' ⟨s0, s1, s2, s3, s4, s5⟩
         go_simp
         with_reducible rfl
        rotate_left
        ·
         simp only [Act.put, l1, l2, l3, i64_w, i32_w]
         rfl
        refine one_ (i := 1) (N := some 76) #[tt,tt,tt,ff,ff,ff,ff,ff,ff,ff] rfl rfl (one_of HT_.out (by kernel_rfl)) (by decide) (fun K hK => ?_)
        refine goes_ Try.func17 (by kernel_rfl) rfl #[.agg #[.int .i64 a0_0, .slice A0_1 l0_1.length c0_1]] (by rfl) rfl rfl (by (try simp only [List.map_toArray, List.map_cons, List.map_nil]); first | done | rfl | (simp only [List.length_drop, List.length_take]; rfl)) ?_
        with_reducible refine (tensilelaw09_Plan.calls kj29 a0_0 _ _ l0_1 t494 t495 _ ?side1 ?side2 A65.out).mono ?_
        (case side1 => repeat (first | exact (Kd.C_below HR0_1.out HB.out) | (with_reducible refine Kd.C_alloc ?_ _) | (with_reducible refine Kd.C_drewN ?_ _) | (with_reducible refine Kd.C_drew ?_)))
        (case side2 => exact HC0_1.out)
        rintro e w88 ⟨v496, rfl, ho0, hb⟩
        refine ⟨_, rfl, ?_⟩
        have n0_ := Aside0.mk (Kd.R_lower ho0 (below_size (by repeat (first | (with_reducible first | exact HB.out | apply b9 | apply b7 | apply b8 | refine b4 ?_ GE488.out | refine b4 ?_ GE489.out | refine b4 ?_ GE493.out) | exact HB.out))))
        have n1_ := Aside0.mk (b6 (g := gb488) (o := .cells #[.int .i64 a0_0, .slice A0_1 l0_1.length c0_1] 24 (0, 0)) (by (with_reducible repeat (first | refine b1 ?_ _ | refine b2 ?_ | refine b3 ?_ _)); exact BK488.out) hb)
        have n2_ := Aside0.mk (b6 (g := gb489) (o := .cells #[.int .i64 a1_0, .int .i64 a1_1, .int .i64 a1_2, .int .i64 a1_3] 64 (0, 0)) (by (with_reducible repeat (first | refine b1 ?_ _ | refine b2 ?_ | refine b3 ?_ _)); exact BK489.out) hb)
        have n3_ := Aside0.mk (b6 (g := gb493) (o := .cells #[.int .i64 x494000_29, .int .i64 x494001_29, .int .i64 x494002_29, .int .i64 x494003_29] 64 (0, 0)) (by (with_reducible repeat (first | refine b1 ?_ _ | refine b2 ?_ | refine b3 ?_ _)); exact BK493.out) hb)
        have n4_ := Aside0.mk (below_step (by repeat (first | (with_reducible first | exact HB.out | apply b9 | apply b7 | apply b8 | refine b4 ?_ GE488.out | refine b4 ?_ GE489.out | refine b4 ?_ GE493.out) | exact HB.out)) hb)
        clear BK488
        clear BK489
        clear BK493
        clear HB
        have HO497 := n0_
        have BK488 := n1_
        have BK489 := n2_
        have BK493 := n3_
        have HB := n4_
        clear n0_ n1_ n2_ n3_ n4_
        (try clear hb)
        (try clear hb2)
        (try clear hk)
        (try clear hi)
        (try clear ho0)
        refine hK.out _ _ ⟨(b5 BK488.out 0).trans rfl, (b5 BK488.out 1).trans rfl, (b5 BK489.out 0).trans rfl, (b5 BK489.out 1).trans rfl, (b5 BK489.out 2).trans rfl, (b5 BK489.out 3).trans rfl⟩ (fun hHeld => ?_)
        clear hK K
        refine norm_ (a' := ?_) ?_ ?_
        rotate_left
        ·
         show Act.put _ (some 76) _ = _
         simp only [Act.put, l1, l2, l3, i64_w, i32_w]
         rfl
        refine one_ (i := 3) (N := some 78) #[tt,tt,tt,tt,ff,ff,ff,ff,ff,ff] rfl rfl (one_of HT_.out (by kernel_rfl)) (by decide) (fun K hK => ?_)
        refine goes_ Try.func32 (by kernel_rfl) rfl #[.agg #[.int .i64 a1_0, .int .i64 a1_1, .int .i64 a1_2, .int .i64 a1_3]] (by rfl) rfl rfl (by (try simp only [List.map_toArray, List.map_cons, List.map_nil]); first | done | rfl | (simp only [List.length_drop, List.length_take]; rfl)) ?_
        with_reducible refine (tensilelaw09_Demand.calls a1_0 a1_1 a1_2 a1_3 t498 t499 t500 t501 _ A66.out).mono ?_
        rintro e w89 ⟨rfl, hb⟩
        refine ⟨_, rfl, ?_⟩
        have n0_ := Aside0.mk (Kd.R_below (by (with_reducible repeat (first | apply Kd.R_alloc | apply Kd.R_drewN | apply Kd.R_drew)); exact HO497.out) hb)
        have n1_ := Aside0.mk (b6 (g := gb488) (o := .cells #[.int .i64 a0_0, .slice A0_1 l0_1.length c0_1] 24 (0, 0)) (by (with_reducible repeat (first | refine b1 ?_ _ | refine b2 ?_ | refine b3 ?_ _)); exact BK488.out) hb)
        have n2_ := Aside0.mk (b6 (g := gb489) (o := .cells #[.int .i64 a1_0, .int .i64 a1_1, .int .i64 a1_2, .int .i64 a1_3] 64 (0, 0)) (by (with_reducible repeat (first | refine b1 ?_ _ | refine b2 ?_ | refine b3 ?_ _)); exact BK489.out) hb)
        have n3_ := Aside0.mk (b6 (g := gb493) (o := .cells #[.int .i64 x494000_29, .int .i64 x494001_29, .int .i64 x494002_29, .int .i64 x494003_29] 64 (0, 0)) (by (with_reducible repeat (first | refine b1 ?_ _ | refine b2 ?_ | refine b3 ?_ _)); exact BK493.out) hb)
        have n4_ := Aside0.mk (below_step (by repeat (first | (with_reducible first | exact HB.out | apply b9 | apply b7 | apply b8 | refine b4 ?_ GE488.out | refine b4 ?_ GE489.out | refine b4 ?_ GE493.out) | exact HB.out)) hb)
        clear HO497
        clear BK488
        clear BK489
        clear BK493
        clear HB
        have HO497 := n0_
        have BK488 := n1_
        have BK489 := n2_
        have BK493 := n3_
        have HB := n4_
        clear n0_ n1_ n2_ n3_ n4_
        (try clear hb)
        (try clear hb2)
        (try clear hk)
        (try clear hi)
        obtain ⟨Ao90, co90, eo90⟩ := Kd.R_slice HO497.out
        (first | subst eo90 | (injection eo90 with f1_ f2_ f3_; have f4_ := f1_.symm; have f5_ := f3_.symm; clear f1_ f2_ f3_; subst f4_; subst f5_))
        refine hK.out _ _ ⟨(b5 BK488.out 0).trans rfl, (b5 BK488.out 1).trans rfl, (b5 BK489.out 0).trans rfl, (b5 BK489.out 1).trans rfl, (b5 BK489.out 2).trans rfl, (b5 BK489.out 3).trans rfl⟩ (fun hHeld => ?_)
        clear hK K
        refine norm_ (a' := ?_) ?_ ?_
        rotate_left
        ·
         show Act.put _ (some 78) _ = _
         simp only [Act.put, l1, l2, l3, i64_w, i32_w]
         rfl
        refine one_ (i := 4) (N := some 79) #[tt,tt,tt,tt,tt,ff,ff,ff,ff,ff] rfl rfl (one_of HT_.out (by kernel_rfl)) (by decide) (fun K hK => ?_)
        refine goes_ Try.func31 (by kernel_rfl) rfl #[.agg #[.int .i64 t494, .slice Ao90 t495.length co90], .agg #[.int .i64 t498, .int .i64 t499, .int .i64 t500, .int .i64 t501]] (by rfl) rfl rfl (by (try simp only [List.map_toArray, List.map_cons, List.map_nil]); first | done | rfl | (simp only [List.length_drop, List.length_take]; rfl)) ?_
        with_reducible refine (plan_Keeps.calls t494 _ _ t495 t498 t499 t500 t501 t502 t503 _ ?side1 ?side2 A67.out).mono ?_
        (case side1 => repeat (first | exact (Kd.R_reads' HO497.out).2.2 | (with_reducible refine Kd.C_alloc ?_ _) | (with_reducible refine Kd.C_drewN ?_ _) | (with_reducible refine Kd.C_drew ?_)))
        (case side2 => exact (Kd.R_reads' HO497.out).2.1)
        rintro e w91 ⟨rfl, hb⟩
        refine ⟨_, rfl, ?_⟩
        have n0_ := Aside0.mk (Kd.R_below (by (with_reducible repeat (first | apply Kd.R_alloc | apply Kd.R_drewN | apply Kd.R_drew)); exact HO497.out) hb)
        have n1_ := Aside0.mk (b6 (g := gb488) (o := .cells #[.int .i64 a0_0, .slice A0_1 l0_1.length c0_1] 24 (0, 0)) (by (with_reducible repeat (first | refine b1 ?_ _ | refine b2 ?_ | refine b3 ?_ _)); exact BK488.out) hb)
        have n2_ := Aside0.mk (b6 (g := gb489) (o := .cells #[.int .i64 a1_0, .int .i64 a1_1, .int .i64 a1_2, .int .i64 a1_3] 64 (0, 0)) (by (with_reducible repeat (first | refine b1 ?_ _ | refine b2 ?_ | refine b3 ?_ _)); exact BK489.out) hb)
        have n3_ := Aside0.mk (b6 (g := gb493) (o := .cells #[.int .i64 x494000_29, .int .i64 x494001_29, .int .i64 x494002_29, .int .i64 x494003_29] 64 (0, 0)) (by (with_reducible repeat (first | refine b1 ?_ _ | refine b2 ?_ | refine b3 ?_ _)); exact BK493.out) hb)
        have n4_ := Aside0.mk (below_step (by repeat (first | (with_reducible first | exact HB.out | apply b9 | apply b7 | apply b8 | refine b4 ?_ GE488.out | refine b4 ?_ GE489.out | refine b4 ?_ GE493.out) | exact HB.out)) hb)
        clear HO497
        clear BK488
        clear BK489
        clear BK493
        clear HB
        have HO497 := n0_
        have BK488 := n1_
        have BK489 := n2_
        have BK493 := n3_
        have HB := n4_
        clear n0_ n1_ n2_ n3_ n4_
        (try clear hb)
        (try clear hb2)
        (try clear hk)
        (try clear hi)
        refine hK.out _ _ ⟨(b5 BK488.out 0).trans rfl, (b5 BK488.out 1).trans rfl, (b5 BK489.out 0).trans rfl, (b5 BK489.out 1).trans rfl, (b5 BK489.out 2).trans rfl, (b5 BK489.out 3).trans rfl⟩ (fun hHeld => ?_)
        clear hK K
        refine norm_ (a' := ?_) ?_ ?_
        rotate_left
        ·
         show Act.put _ (some 79) _ = _
         simp only [Act.put, l1, l2, l3, i64_w, i32_w]
         rfl
        refine pure_ (i := 5) (N := some 74) (v := ?_) (a' := ?_) #[tt,tt,tt,tt,tt,tt,ff,ff,ff,ff] rfl rfl (any_of HT_.out (by kernel_rfl)) (fun _ _ _ h => h) (Or.inl ⟨by rfl, ?_⟩) ?_ ?_
        rotate_left
        ·
         intro w'
         go_simp
         with_reducible rfl
        rotate_left
        ·
         simp only [Act.put, l1, l2, l3, i64_w, i32_w]
         rfl
        refine pure_ (i := 6) (N := some 80) (v := ?_) (a' := ?_) #[tt,tt,tt,tt,tt,tt,tt,ff,ff,ff] rfl rfl (any_of HT_.out (by kernel_rfl)) (fun _ _ _ h => h) (Or.inl ⟨by rfl, ?_⟩) ?_ ?_
        rotate_left
        ·
         intro w'
         go_simp
         with_reducible rfl
        rotate_left
        ·
         simp only [Act.put, l1, l2, l3, i64_w, i32_w]
         rfl
        refine pure_ (i := 7) (N := some 81) (v := ?_) (a' := ?_) #[tt,tt,tt,tt,tt,tt,tt,tt,ff,ff] rfl rfl (any_of HT_.out (by kernel_rfl)) (fun _ _ _ h => h) (Or.inl ⟨by rfl, ?_⟩) ?_ ?_
        rotate_left
        ·
         intro w'
         go_simp
         with_reducible rfl
        rotate_left
        ·
         simp only [Act.put, l1, l2, l3, i64_w, i32_w]
         rfl
        refine pure_ (i := 8) (N := some 11) (v := ?_) (a' := ?_) #[tt,tt,tt,tt,tt,tt,tt,tt,tt,ff] rfl rfl (any_of HT_.out (by kernel_rfl)) (fun _ _ _ h => h) (Or.inl ⟨by rfl, ?_⟩) ?_ ?_
        rotate_left
        ·
         intro w'
         go_simp
         with_reducible rfl
        rotate_left
        ·
         simp only [Act.put, l1, l2, l3, i64_w, i32_w]
         rfl
        refine pure_ (i := 9) (N := some 12) (v := ?_) (a' := ?_) #[tt,tt,tt,tt,tt,tt,tt,tt,tt,tt] rfl rfl (any_of HT_.out (by kernel_rfl)) (fun _ _ _ h => h) (Or.inl ⟨by rfl, ?_⟩) ?_ ?_
        rotate_left
        ·
         intro w'
         go_simp
         with_reducible rfl
        rotate_left
        ·
         simp only [Act.put, l1, l2, l3, i64_w, i32_w]
         rfl
        refine done_ (done_of HT_.out (by kernel_rfl)) ?_
        try go_wp2
        have n0_ := Aside0.mk (Kd.R_drew HO497.out)
        have n1_ := Aside0.mk (b2 BK488.out)
        have n2_ := Aside0.mk (b2 BK489.out)
        have n3_ := Aside0.mk (b2 BK493.out)
        have n4_ := Aside0.mk (b8 HB.out)
        clear HO497
        clear BK488
        clear BK489
        clear BK493
        clear HB
        have HO497 := n0_
        have BK488 := n1_
        have BK489 := n2_
        have BK493 := n3_
        have HB := n4_
        clear n0_ n1_ n2_ n3_ n4_
        refine start_ (n := 10) (S := fun w' => w'.cell? ⟨gb488, 0, none⟩ = some (.int .i64 a0_0) ∧ w'.cell? ⟨gb488, 1, none⟩ = some (.slice A0_1 l0_1.length c0_1) ∧ w'.cell? ⟨gb493, 0, none⟩ = some (.int .i64 x494000_29) ∧ w'.cell? ⟨gb493, 1, none⟩ = some (.int .i64 x494001_29) ∧ w'.cell? ⟨gb493, 2, none⟩ = some (.int .i64 x494002_29) ∧ w'.cell? ⟨gb493, 3, none⟩ = some (.int .i64 x494003_29)) (ds := []) #[ff,ff,ff,ff,ff,ff,ff,ff,ff,ff] (by kernel_rfl) rfl rfl ⟨(b5 BK488.out 0).trans rfl, (b5 BK488.out 1).trans rfl, (b5 BK493.out 0).trans rfl, (b5 BK493.out 1).trans rfl, (b5 BK493.out 2).trans rfl, (b5 BK493.out 3).trans rfl⟩ (fun hHeld => ?_); refine with_tabW tensilelaw09_PlanKinder.tab13 tensilelaw09_PlanKinder.bits13 (fun HT_ HW_ => ?_)
        generalize w91.drew = w92 at HO497 BK488 BK489 BK493 HB hHeld ⊢
        refine take_ (i := 0) (N := some 83) (v := ?_) (a' := ?_) #[tt,ff,ff,ff,ff,ff,ff,ff,ff,ff] rfl rfl (take_ofW HT_.out HW_.out (by kernel_rfl)) (fun _ _ _ h => h) (Or.inl ⟨by rfl, ?_⟩) hHeld ?_ ?_
        rotate_left
        ·
         rintro w' ⟨s0, s1, s2, s3, s4, s5⟩
         go_simp
         with_reducible rfl
        rotate_left
        ·
         simp only [Act.put, l1, l2, l3, i64_w, i32_w]
         rfl
        refine take_ (i := 2) (N := some 85) (v := ?_) (a' := ?_) #[tt,ff,tt,ff,ff,ff,ff,ff,ff,ff] rfl rfl (take_ofW HT_.out HW_.out (by kernel_rfl)) (fun _ _ _ h => h) (Or.inl ⟨by rfl, ?_⟩) hHeld ?_ ?_
        rotate_left
        ·
         rintro w' ⟨s0, s1, s2, s3, s4, s5⟩
         go_simp
         with_reducible rfl
        rotate_left
        ·
         simp only [Act.put, l1, l2, l3, i64_w, i32_w]
         rfl
        refine one_ (i := 1) (N := some 84) #[tt,tt,tt,ff,ff,ff,ff,ff,ff,ff] rfl rfl (one_of HT_.out (by kernel_rfl)) (by decide) (fun K hK => ?_)
        refine goes_ Try.func17 (by kernel_rfl) rfl #[.agg #[.int .i64 a0_0, .slice A0_1 l0_1.length c0_1]] (by rfl) rfl rfl (by (try simp only [List.map_toArray, List.map_cons, List.map_nil]); first | done | rfl | (simp only [List.length_drop, List.length_take]; rfl)) ?_
        with_reducible refine (tensilelaw09_Plan.calls kj29 a0_0 _ _ l0_1 t504 t505 _ ?side1 ?side2 A68.out).mono ?_
        (case side1 => repeat (first | exact (Kd.C_below HR0_1.out HB.out) | (with_reducible refine Kd.C_alloc ?_ _) | (with_reducible refine Kd.C_drewN ?_ _) | (with_reducible refine Kd.C_drew ?_)))
        (case side2 => exact HC0_1.out)
        rintro e w93 ⟨v506, rfl, ho0, hb⟩
        refine ⟨_, rfl, ?_⟩
        have n0_ := Aside0.mk (Kd.R_elder' (by (with_reducible repeat (first | apply Kd.R_alloc | apply Kd.R_drewN | apply Kd.R_drew)); exact HO497.out) (Kd.R_base ho0) hb)
        have n1_ := Aside0.mk (Kd.R_lower (Kd.R_new' ho0 (Kd.R_lt (by (with_reducible repeat (first | apply Kd.R_alloc | apply Kd.R_drewN | apply Kd.R_drew)); exact HO497.out))) (below_size (by repeat (first | (with_reducible first | exact HB.out | apply b9 | apply b7 | apply b8 | refine b4 ?_ GE488.out | refine b4 ?_ GE489.out | refine b4 ?_ GE493.out) | exact HB.out))))
        have n2_ := Aside0.mk (b6 (g := gb488) (o := .cells #[.int .i64 a0_0, .slice A0_1 l0_1.length c0_1] 24 (0, 0)) (by (with_reducible repeat (first | refine b1 ?_ _ | refine b2 ?_ | refine b3 ?_ _)); exact BK488.out) hb)
        have n3_ := Aside0.mk (b6 (g := gb489) (o := .cells #[.int .i64 a1_0, .int .i64 a1_1, .int .i64 a1_2, .int .i64 a1_3] 64 (0, 0)) (by (with_reducible repeat (first | refine b1 ?_ _ | refine b2 ?_ | refine b3 ?_ _)); exact BK489.out) hb)
        have n4_ := Aside0.mk (b6 (g := gb493) (o := .cells #[.int .i64 x494000_29, .int .i64 x494001_29, .int .i64 x494002_29, .int .i64 x494003_29] 64 (0, 0)) (by (with_reducible repeat (first | refine b1 ?_ _ | refine b2 ?_ | refine b3 ?_ _)); exact BK493.out) hb)
        have n5_ := Aside0.mk (below_step (by repeat (first | (with_reducible first | exact HB.out | apply b9 | apply b7 | apply b8 | refine b4 ?_ GE488.out | refine b4 ?_ GE489.out | refine b4 ?_ GE493.out) | exact HB.out)) hb)
        clear HO497
        clear BK488
        clear BK489
        clear BK493
        clear HB
        have HO497 := n0_
        have HO507 := n1_
        have BK488 := n2_
        have BK489 := n3_
        have BK493 := n4_
        have HB := n5_
        clear n0_ n1_ n2_ n3_ n4_ n5_
        (try clear hb)
        (try clear hb2)
        (try clear hk)
        (try clear hi)
        (try clear ho0)
        refine hK.out _ _ ⟨(b5 BK488.out 0).trans rfl, (b5 BK488.out 1).trans rfl, (b5 BK493.out 0).trans rfl, (b5 BK493.out 1).trans rfl, (b5 BK493.out 2).trans rfl, (b5 BK493.out 3).trans rfl⟩ (fun hHeld => ?_)
        clear hK K
        refine norm_ (a' := ?_) ?_ ?_
        rotate_left
        ·
         show Act.put _ (some 84) _ = _
         simp only [Act.put, l1, l2, l3, i64_w, i32_w]
         rfl
        refine one_ (i := 3) (N := some 86) #[tt,tt,tt,tt,ff,ff,ff,ff,ff,ff] rfl rfl (one_of HT_.out (by kernel_rfl)) (by decide) (fun K hK => ?_)
        refine goes_ Try.func32 (by kernel_rfl) rfl #[.agg #[.int .i64 x494000_29, .int .i64 x494001_29, .int .i64 x494002_29, .int .i64 x494003_29]] (by rfl) rfl rfl (by (try simp only [List.map_toArray, List.map_cons, List.map_nil]); first | done | rfl | (simp only [List.length_drop, List.length_take]; rfl)) ?_
        with_reducible refine (tensilelaw09_Demand.calls x494000_29 x494001_29 x494002_29 x494003_29 t508 t509 t510 t511 _ A69.out).mono ?_
        rintro e w94 ⟨rfl, hb⟩
        refine ⟨_, rfl, ?_⟩
        have n0_ := Aside0.mk (Kd.R_below (by (with_reducible repeat (first | apply Kd.R_alloc | apply Kd.R_drewN | apply Kd.R_drew)); exact HO497.out) hb)
        have n1_ := Aside0.mk (Kd.R_below (by (with_reducible repeat (first | apply Kd.R_alloc | apply Kd.R_drewN | apply Kd.R_drew)); exact HO507.out) hb)
        have n2_ := Aside0.mk (b6 (g := gb488) (o := .cells #[.int .i64 a0_0, .slice A0_1 l0_1.length c0_1] 24 (0, 0)) (by (with_reducible repeat (first | refine b1 ?_ _ | refine b2 ?_ | refine b3 ?_ _)); exact BK488.out) hb)
        have n3_ := Aside0.mk (b6 (g := gb489) (o := .cells #[.int .i64 a1_0, .int .i64 a1_1, .int .i64 a1_2, .int .i64 a1_3] 64 (0, 0)) (by (with_reducible repeat (first | refine b1 ?_ _ | refine b2 ?_ | refine b3 ?_ _)); exact BK489.out) hb)
        have n4_ := Aside0.mk (b6 (g := gb493) (o := .cells #[.int .i64 x494000_29, .int .i64 x494001_29, .int .i64 x494002_29, .int .i64 x494003_29] 64 (0, 0)) (by (with_reducible repeat (first | refine b1 ?_ _ | refine b2 ?_ | refine b3 ?_ _)); exact BK493.out) hb)
        have n5_ := Aside0.mk (below_step (by repeat (first | (with_reducible first | exact HB.out | apply b9 | apply b7 | apply b8 | refine b4 ?_ GE488.out | refine b4 ?_ GE489.out | refine b4 ?_ GE493.out) | exact HB.out)) hb)
        clear HO497
        clear HO507
        clear BK488
        clear BK489
        clear BK493
        clear HB
        have HO497 := n0_
        have HO507 := n1_
        have BK488 := n2_
        have BK489 := n3_
        have BK493 := n4_
        have HB := n5_
        clear n0_ n1_ n2_ n3_ n4_ n5_
        (try clear hb)
        (try clear hb2)
        (try clear hk)
        (try clear hi)
        obtain ⟨Ao95, co95, eo95⟩ := Kd.R_slice HO507.out
        (first | subst eo95 | (injection eo95 with f1_ f2_ f3_; have f4_ := f1_.symm; have f5_ := f3_.symm; clear f1_ f2_ f3_; subst f4_; subst f5_))
        refine hK.out _ _ ⟨(b5 BK488.out 0).trans rfl, (b5 BK488.out 1).trans rfl, (b5 BK493.out 0).trans rfl, (b5 BK493.out 1).trans rfl, (b5 BK493.out 2).trans rfl, (b5 BK493.out 3).trans rfl⟩ (fun hHeld => ?_)
        clear hK K
        refine norm_ (a' := ?_) ?_ ?_
        rotate_left
        ·
         show Act.put _ (some 86) _ = _
         simp only [Act.put, l1, l2, l3, i64_w, i32_w]
         rfl
        refine one_ (i := 4) (N := some 87) #[tt,tt,tt,tt,tt,ff,ff,ff,ff,ff] rfl rfl (one_of HT_.out (by kernel_rfl)) (by decide) (fun K hK => ?_)
        refine goes_ Try.func31 (by kernel_rfl) rfl #[.agg #[.int .i64 t504, .slice Ao95 t505.length co95], .agg #[.int .i64 t508, .int .i64 t509, .int .i64 t510, .int .i64 t511]] (by rfl) rfl rfl (by (try simp only [List.map_toArray, List.map_cons, List.map_nil]); first | done | rfl | (simp only [List.length_drop, List.length_take]; rfl)) ?_
        with_reducible refine (plan_Keeps.calls t504 _ _ t505 t508 t509 t510 t511 t512 t513 _ ?side1 ?side2 A70.out).mono ?_
        (case side1 => repeat (first | exact (Kd.R_reads' HO507.out).2.2 | (with_reducible refine Kd.C_alloc ?_ _) | (with_reducible refine Kd.C_drewN ?_ _) | (with_reducible refine Kd.C_drew ?_)))
        (case side2 => exact (Kd.R_reads' HO507.out).2.1)
        rintro e w96 ⟨rfl, hb⟩
        refine ⟨_, rfl, ?_⟩
        have n0_ := Aside0.mk (Kd.R_below (by (with_reducible repeat (first | apply Kd.R_alloc | apply Kd.R_drewN | apply Kd.R_drew)); exact HO497.out) hb)
        have n1_ := Aside0.mk (Kd.R_below (by (with_reducible repeat (first | apply Kd.R_alloc | apply Kd.R_drewN | apply Kd.R_drew)); exact HO507.out) hb)
        have n2_ := Aside0.mk (b6 (g := gb488) (o := .cells #[.int .i64 a0_0, .slice A0_1 l0_1.length c0_1] 24 (0, 0)) (by (with_reducible repeat (first | refine b1 ?_ _ | refine b2 ?_ | refine b3 ?_ _)); exact BK488.out) hb)
        have n3_ := Aside0.mk (b6 (g := gb489) (o := .cells #[.int .i64 a1_0, .int .i64 a1_1, .int .i64 a1_2, .int .i64 a1_3] 64 (0, 0)) (by (with_reducible repeat (first | refine b1 ?_ _ | refine b2 ?_ | refine b3 ?_ _)); exact BK489.out) hb)
        have n4_ := Aside0.mk (b6 (g := gb493) (o := .cells #[.int .i64 x494000_29, .int .i64 x494001_29, .int .i64 x494002_29, .int .i64 x494003_29] 64 (0, 0)) (by (with_reducible repeat (first | refine b1 ?_ _ | refine b2 ?_ | refine b3 ?_ _)); exact BK493.out) hb)
        have n5_ := Aside0.mk (below_step (by repeat (first | (with_reducible first | exact HB.out | apply b9 | apply b7 | apply b8 | refine b4 ?_ GE488.out | refine b4 ?_ GE489.out | refine b4 ?_ GE493.out) | exact HB.out)) hb)
        clear HO497
        clear HO507
        clear BK488
        clear BK489
        clear BK493
        clear HB
        have HO497 := n0_
        have HO507 := n1_
        have BK488 := n2_
        have BK489 := n3_
        have BK493 := n4_
        have HB := n5_
        clear n0_ n1_ n2_ n3_ n4_ n5_
        (try clear hb)
        (try clear hb2)
        (try clear hk)
        (try clear hi)
        refine hK.out _ _ ⟨(b5 BK488.out 0).trans rfl, (b5 BK488.out 1).trans rfl, (b5 BK493.out 0).trans rfl, (b5 BK493.out 1).trans rfl, (b5 BK493.out 2).trans rfl, (b5 BK493.out 3).trans rfl⟩ (fun hHeld => ?_)
        clear hK K
        refine norm_ (a' := ?_) ?_ ?_
        rotate_left
        ·
         show Act.put _ (some 87) _ = _
         simp only [Act.put, l1, l2, l3, i64_w, i32_w]
         rfl
        refine pure_ (i := 5) (N := some 82) (v := ?_) (a' := ?_) #[tt,tt,tt,tt,tt,tt,ff,ff,ff,ff] rfl rfl (any_of HT_.out (by kernel_rfl)) (fun _ _ _ h => h) (Or.inl ⟨by rfl, ?_⟩) ?_ ?_
        rotate_left
        ·
         intro w'
         go_simp
         with_reducible rfl
        rotate_left
        ·
         simp only [Act.put, l1, l2, l3, i64_w, i32_w]
         rfl
        refine pure_ (i := 6) (N := some 88) (v := ?_) (a' := ?_) #[tt,tt,tt,tt,tt,tt,tt,ff,ff,ff] rfl rfl (any_of HT_.out (by kernel_rfl)) (fun _ _ _ h => h) (Or.inl ⟨by rfl, ?_⟩) ?_ ?_
        rotate_left
        ·
         intro w'
         go_simp
         with_reducible rfl
        rotate_left
        ·
         simp only [Act.put, l1, l2, l3, i64_w, i32_w]
         rfl
        refine pure_ (i := 7) (N := some 89) (v := ?_) (a' := ?_) #[tt,tt,tt,tt,tt,tt,tt,tt,ff,ff] rfl rfl (any_of HT_.out (by kernel_rfl)) (fun _ _ _ h => h) (Or.inl ⟨by rfl, ?_⟩) ?_ ?_
        rotate_left
        ·
         intro w'
         go_simp
         with_reducible rfl
        rotate_left
        ·
         simp only [Act.put, l1, l2, l3, i64_w, i32_w]
         rfl
        refine pure_ (i := 8) (N := some 13) (v := ?_) (a' := ?_) #[tt,tt,tt,tt,tt,tt,tt,tt,tt,ff] rfl rfl (any_of HT_.out (by kernel_rfl)) (fun _ _ _ h => h) (Or.inl ⟨by rfl, ?_⟩) ?_ ?_
        rotate_left
        ·
         intro w'
         go_simp
         with_reducible rfl
        rotate_left
        ·
         simp only [Act.put, l1, l2, l3, i64_w, i32_w]
         rfl
        refine pure_ (i := 9) (N := some 14) (v := ?_) (a' := ?_) #[tt,tt,tt,tt,tt,tt,tt,tt,tt,tt] rfl rfl (any_of HT_.out (by kernel_rfl)) (fun _ _ _ h => h) (Or.inl ⟨by rfl, ?_⟩) ?_ ?_
        rotate_left
        ·
         intro w'
         go_simp
         with_reducible rfl
        rotate_left
        ·
         simp only [Act.put, l1, l2, l3, i64_w, i32_w]
         rfl
        refine done_ (done_of HT_.out (by kernel_rfl)) ?_
        try go_wp2
        have n0_ := Aside0.mk (Kd.R_drew HO497.out)
        have n1_ := Aside0.mk (Kd.R_drew HO507.out)
        have n2_ := Aside0.mk (b2 BK488.out)
        have n3_ := Aside0.mk (b2 BK489.out)
        have n4_ := Aside0.mk (b2 BK493.out)
        have n5_ := Aside0.mk (b8 HB.out)
        clear HO497
        clear HO507
        clear BK488
        clear BK489
        clear BK493
        clear HB
        have HO497 := n0_
        have HO507 := n1_
        have BK488 := n2_
        have BK489 := n3_
        have BK493 := n4_
        have HB := n5_
        clear n0_ n1_ n2_ n3_ n4_ n5_
        refine start_ (n := 11) (S := fun w' => w'.cell? ⟨gb488, 0, none⟩ = some (.int .i64 a0_0) ∧ w'.cell? ⟨gb488, 1, none⟩ = some (.slice A0_1 l0_1.length c0_1) ∧ w'.cell? ⟨gb489, 0, none⟩ = some (.int .i64 a1_0) ∧ w'.cell? ⟨gb489, 1, none⟩ = some (.int .i64 a1_1) ∧ w'.cell? ⟨gb489, 2, none⟩ = some (.int .i64 a1_2) ∧ w'.cell? ⟨gb489, 3, none⟩ = some (.int .i64 a1_3)) (ds := []) #[ff,ff,ff,ff,ff,ff,ff,ff,ff,ff,ff] (by kernel_rfl) rfl rfl ⟨(b5 BK488.out 0).trans rfl, (b5 BK488.out 1).trans rfl, (b5 BK489.out 0).trans rfl, (b5 BK489.out 1).trans rfl, (b5 BK489.out 2).trans rfl, (b5 BK489.out 3).trans rfl⟩ (fun hHeld => ?_); refine with_tabW tensilelaw09_PlanKinder.tab14 tensilelaw09_PlanKinder.bits14 (fun HT_ HW_ => ?_)
        generalize w96.drew = w97 at HO497 HO507 BK488 BK489 BK493 HB hHeld ⊢
        refine pure_ (i := 0) (N := some 91) (v := ?_) (a' := ?_) #[tt,ff,ff,ff,ff,ff,ff,ff,ff,ff,ff] rfl rfl (any_of HT_.out (by kernel_rfl)) (fun _ _ _ h => h) (Or.inl ⟨by rfl, ?_⟩) ?_ ?_
        rotate_left
        ·
         intro w'
         go_simp
         with_reducible rfl
        rotate_left
        ·
         simp only [Act.put, l1, l2, l3, i64_w, i32_w]
         rfl
        refine take_ (i := 1) (N := some 92) (v := ?_) (a' := ?_) #[tt,tt,ff,ff,ff,ff,ff,ff,ff,ff,ff] rfl rfl (take_ofW HT_.out HW_.out (by kernel_rfl)) (fun _ _ _ h => h) (Or.inl ⟨by rfl, ?_⟩) hHeld ?_ ?_
        rotate_left
        ·
         rintro w' ⟨s0, s1, s2, s3, s4, s5⟩
         go_simp
         with_reducible rfl
        rotate_left
        ·
         simp only [Act.put, l1, l2, l3, i64_w, i32_w]
         rfl
        refine take_ (i := 2) (N := some 93) (v := ?_) (a' := ?_) #[tt,tt,tt,ff,ff,ff,ff,ff,ff,ff,ff] rfl rfl (take_ofW HT_.out HW_.out (by kernel_rfl)) (fun _ _ _ h => h) (Or.inl ⟨by rfl, ?_⟩) hHeld ?_ ?_
        rotate_left
        ·
         rintro w' ⟨s0, s1, s2, s3, s4, s5⟩
         go_simp
         with_reducible rfl
        rotate_left
        ·
         simp only [Act.put, l1, l2, l3, i64_w, i32_w]
         rfl
        refine join_ (σ := Value × Nat) 2 #[tt,tt,tt,tt,tt,tt,tt,tt,tt,ff,ff] (fun s_ => [(94, .agg #[.int .i64 t514, .int .i64 t515, .int .i64 t516, .int .i64 t517]), (95, .tuple #[.agg #[.int .i64 t518, s_.1], .int .i64 t522]), (15, .pointer (some ⟨s_.2, 0, none⟩)), (90, .tuple #[.agg #[.int .i64 t518, s_.1], .int .i64 t522]), (96, .agg #[.int .i64 t518, s_.1]), (97, .int .i64 t522)]) (fun s_ w' => (w'.cell? ⟨gb488, 0, none⟩ = some (.int .i64 a0_0) ∧ w'.cell? ⟨gb488, 1, none⟩ = some (.slice A0_1 l0_1.length c0_1) ∧ w'.cell? ⟨gb489, 0, none⟩ = some (.int .i64 a1_0) ∧ w'.cell? ⟨gb489, 1, none⟩ = some (.int .i64 a1_1) ∧ w'.cell? ⟨gb489, 2, none⟩ = some (.int .i64 a1_2) ∧ w'.cell? ⟨gb489, 3, none⟩ = some (.int .i64 a1_3)) ∧ (Kd.R k61 61 w' w.heap.size (fun k_ => some k_ ≠ (.slice Ao95 t505.length co95 : Value).ownBlock ∧ some k_ ≠ (s_.1 : Value).ownBlock) (.slice Ao90 t495.length co90) t495) ∧ (Kd.R k61 61 w' w.heap.size (fun k_ => some k_ ≠ (.slice Ao90 t495.length co90 : Value).ownBlock ∧ some k_ ≠ (s_.1 : Value).ownBlock) (.slice Ao95 t505.length co95) t505) ∧ (Kd.R k61 61 w' w.heap.size (fun k_ => some k_ ≠ (.slice Ao90 t495.length co90 : Value).ownBlock ∧ some k_ ≠ (.slice Ao95 t505.length co95 : Value).ownBlock) s_.1 t519) ∧ (w'.heap[gb488]? = some (.cells #[.int .i64 a0_0, .slice A0_1 l0_1.length c0_1] 24 (0, 0))) ∧ (w'.heap[gb489]? = some (.cells #[.int .i64 a1_0, .int .i64 a1_1, .int .i64 a1_2, .int .i64 a1_3] 64 (0, 0))) ∧ (w'.heap[gb493]? = some (.cells #[.int .i64 x494000_29, .int .i64 x494001_29, .int .i64 x494002_29, .int .i64 x494003_29] 64 (0, 0))) ∧ (w'.heap[s_.2]? = some (.cells #[.int .i64 0, .slice none 0 0] 31 (0, 0))) ∧ (w.heap.size ≤ s_.2) ∧ (w.heap.size ≤ s_.2) ∧ (gb488 ≠ s_.2) ∧ (s_.2 ≠ gb488) ∧ (gb489 ≠ s_.2) ∧ (s_.2 ≠ gb489) ∧ (gb493 ≠ s_.2) ∧ (s_.2 ≠ gb493) ∧ (Below w.heap.size w w')) ?_ ?_
        rotate_left
        ·
         intro hCont
         refine two_ (i := 3) (j := 8) (Ni := some 94) (Nj := some 15) #[tt,tt,tt,tt,ff,ff,ff,ff,ff,ff,ff] #[tt,tt,tt,ff,ff,ff,ff,ff,tt,ff,ff] rfl rfl rfl rfl (two_of HT_.out (by kernel_rfl)) (by decide) (by decide) (fun K hK => ?_) (fun K hK => ?_)
         ·
          skip
          refine goes_ Try.func32 (by kernel_rfl) rfl #[.agg #[.int .i64 a1_0, .int .i64 a1_1, .int .i64 a1_2, .int .i64 a1_3]] (by rfl) rfl rfl (by (try simp only [List.map_toArray, List.map_cons, List.map_nil]); first | done | rfl | (simp only [List.length_drop, List.length_take]; rfl)) ?_
          with_reducible refine (tensilelaw09_Demand.calls a1_0 a1_1 a1_2 a1_3 t514 t515 t516 t517 _ A71.out).mono ?_
          rintro e w98 ⟨rfl, hb⟩
          refine ⟨_, rfl, ?_⟩
          have n0_ := Aside0.mk (Kd.R_below (by (with_reducible repeat (first | apply Kd.R_alloc | apply Kd.R_drewN | apply Kd.R_drew)); exact HO497.out) hb)
          have n1_ := Aside0.mk (Kd.R_below (by (with_reducible repeat (first | apply Kd.R_alloc | apply Kd.R_drewN | apply Kd.R_drew)); exact HO507.out) hb)
          have n2_ := Aside0.mk (b6 (g := gb488) (o := .cells #[.int .i64 a0_0, .slice A0_1 l0_1.length c0_1] 24 (0, 0)) (by (with_reducible repeat (first | refine b1 ?_ _ | refine b2 ?_ | refine b3 ?_ _)); exact BK488.out) hb)
          have n3_ := Aside0.mk (b6 (g := gb489) (o := .cells #[.int .i64 a1_0, .int .i64 a1_1, .int .i64 a1_2, .int .i64 a1_3] 64 (0, 0)) (by (with_reducible repeat (first | refine b1 ?_ _ | refine b2 ?_ | refine b3 ?_ _)); exact BK489.out) hb)
          have n4_ := Aside0.mk (b6 (g := gb493) (o := .cells #[.int .i64 x494000_29, .int .i64 x494001_29, .int .i64 x494002_29, .int .i64 x494003_29] 64 (0, 0)) (by (with_reducible repeat (first | refine b1 ?_ _ | refine b2 ?_ | refine b3 ?_ _)); exact BK493.out) hb)
          have n5_ := Aside0.mk (below_step (by repeat (first | (with_reducible first | exact HB.out | apply b9 | apply b7 | apply b8 | refine b4 ?_ GE488.out | refine b4 ?_ GE489.out | refine b4 ?_ GE493.out) | exact HB.out)) hb)
          clear HO497
          clear HO507
          clear BK488
          clear BK489
          clear BK493
          clear HB
          have HO497 := n0_
          have HO507 := n1_
          have BK488 := n2_
          have BK489 := n3_
          have BK493 := n4_
          have HB := n5_
          clear n0_ n1_ n2_ n3_ n4_ n5_
          (try clear hb)
          (try clear hb2)
          (try clear hk)
          (try clear hi)
          refine hK.out _ _ ⟨(b5 BK488.out 0).trans rfl, (b5 BK488.out 1).trans rfl, (b5 BK489.out 0).trans rfl, (b5 BK489.out 1).trans rfl, (b5 BK489.out 2).trans rfl, (b5 BK489.out 3).trans rfl⟩ (fun hHeld => ?_)
          clear hK K
          refine norm_ (a' := ?_) ?_ ?_
          rotate_left
          ·
           show Act.put _ (some 94) _ = _
           simp only [Act.put, l1, l2, l3, i64_w, i32_w]
           rfl
          refine two_ (i := 4) (j := 8) (Ni := some 95) (Nj := some 15) #[tt,tt,tt,tt,tt,ff,ff,ff,ff,ff,ff] #[tt,tt,tt,tt,ff,ff,ff,ff,tt,ff,ff] rfl rfl rfl rfl (two_of HT_.out (by kernel_rfl)) (by decide) (by decide) (fun K hK => ?_) (fun K hK => ?_)
          ·
           skip
           refine goes_ Try.func33 (by kernel_rfl) rfl #[.int .i64 a0_0, .agg #[.int .i64 t514, .int .i64 t515, .int .i64 t516, .int .i64 t517]] (by rfl) rfl rfl (by (try simp only [List.map_toArray, List.map_cons, List.map_nil]); first | done | rfl | (simp only [List.length_drop, List.length_take]; rfl)) ?_
           with_reducible refine (plan_Single.calls a0_0 t514 t515 t516 t517 t518 t519 t522 _ A72.out).mono ?_
           rintro e w99 ⟨v520, rfl, ho0, hb⟩
           refine ⟨_, rfl, ?_⟩
           have n0_ := Aside0.mk (Kd.R_elder' (by (with_reducible repeat (first | apply Kd.R_alloc | apply Kd.R_drewN | apply Kd.R_drew)); exact HO497.out) (Kd.R_base ho0) hb)
           have n1_ := Aside0.mk (Kd.R_elder' (by (with_reducible repeat (first | apply Kd.R_alloc | apply Kd.R_drewN | apply Kd.R_drew)); exact HO507.out) (Kd.R_base ho0) hb)
           have n2_ := Aside0.mk (Kd.R_lower (Kd.R_new' (Kd.R_new' ho0 (Kd.R_lt (by (with_reducible repeat (first | apply Kd.R_alloc | apply Kd.R_drewN | apply Kd.R_drew)); exact HO497.out))) (Kd.R_lt (by (with_reducible repeat (first | apply Kd.R_alloc | apply Kd.R_drewN | apply Kd.R_drew)); exact HO507.out))) (below_size (by repeat (first | (with_reducible first | exact HB.out | apply b9 | apply b7 | apply b8 | refine b4 ?_ GE488.out | refine b4 ?_ GE489.out | refine b4 ?_ GE493.out) | exact HB.out))))
           have n3_ := Aside0.mk (b6 (g := gb488) (o := .cells #[.int .i64 a0_0, .slice A0_1 l0_1.length c0_1] 24 (0, 0)) (by (with_reducible repeat (first | refine b1 ?_ _ | refine b2 ?_ | refine b3 ?_ _)); exact BK488.out) hb)
           have n4_ := Aside0.mk (b6 (g := gb489) (o := .cells #[.int .i64 a1_0, .int .i64 a1_1, .int .i64 a1_2, .int .i64 a1_3] 64 (0, 0)) (by (with_reducible repeat (first | refine b1 ?_ _ | refine b2 ?_ | refine b3 ?_ _)); exact BK489.out) hb)
           have n5_ := Aside0.mk (b6 (g := gb493) (o := .cells #[.int .i64 x494000_29, .int .i64 x494001_29, .int .i64 x494002_29, .int .i64 x494003_29] 64 (0, 0)) (by (with_reducible repeat (first | refine b1 ?_ _ | refine b2 ?_ | refine b3 ?_ _)); exact BK493.out) hb)
           have n6_ := Aside0.mk (below_step (by repeat (first | (with_reducible first | exact HB.out | apply b9 | apply b7 | apply b8 | refine b4 ?_ GE488.out | refine b4 ?_ GE489.out | refine b4 ?_ GE493.out) | exact HB.out)) hb)
           clear HO497
           clear HO507
           clear BK488
           clear BK489
           clear BK493
           clear HB
           have HO497 := n0_
           have HO507 := n1_
           have HO521 := n2_
           have BK488 := n3_
           have BK489 := n4_
           have BK493 := n5_
           have HB := n6_
           clear n0_ n1_ n2_ n3_ n4_ n5_ n6_
           (try clear hb)
           (try clear hb2)
           (try clear hk)
           (try clear hi)
           (try clear ho0)
           refine hK.out _ _ ⟨(b5 BK488.out 0).trans rfl, (b5 BK488.out 1).trans rfl, (b5 BK489.out 0).trans rfl, (b5 BK489.out 1).trans rfl, (b5 BK489.out 2).trans rfl, (b5 BK489.out 3).trans rfl⟩ (fun hHeld => ?_)
           clear hK K
           refine norm_ (a' := ?_) ?_ ?_
           rotate_left
           ·
            show Act.put _ (some 95) _ = _
            simp only [Act.put, l1, l2, l3, i64_w, i32_w]
            rfl
           refine pure_ (i := 5) (N := some 90) (v := ?_) (a' := ?_) #[tt,tt,tt,tt,tt,tt,ff,ff,ff,ff,ff] rfl rfl (any_of HT_.out (by kernel_rfl)) (fun _ _ _ h => h) (Or.inl ⟨by rfl, ?_⟩) ?_ ?_
           rotate_left
           ·
            intro w'
            go_simp
            with_reducible rfl
           rotate_left
           ·
            simp only [Act.put, l1, l2, l3, i64_w, i32_w]
            rfl
           refine pure_ (i := 6) (N := some 96) (v := ?_) (a' := ?_) #[tt,tt,tt,tt,tt,tt,tt,ff,ff,ff,ff] rfl rfl (any_of HT_.out (by kernel_rfl)) (fun _ _ _ h => h) (Or.inl ⟨by rfl, ?_⟩) ?_ ?_
           rotate_left
           ·
            intro w'
            go_simp
            with_reducible rfl
           rotate_left
           ·
            simp only [Act.put, l1, l2, l3, i64_w, i32_w]
            rfl
           refine pure_ (i := 7) (N := some 97) (v := ?_) (a' := ?_) #[tt,tt,tt,tt,tt,tt,tt,tt,ff,ff,ff] rfl rfl (any_of HT_.out (by kernel_rfl)) (fun _ _ _ h => h) (Or.inl ⟨by rfl, ?_⟩) ?_ ?_
           rotate_left
           ·
            intro w'
            go_simp
            with_reducible rfl
           rotate_left
           ·
            simp only [Act.put, l1, l2, l3, i64_w, i32_w]
            rfl
           refine one_ (i := 8) (N := some 15) #[tt,tt,tt,tt,tt,tt,tt,tt,tt,ff,ff] rfl rfl (one_of HT_.out (by kernel_rfl)) (by decide) (fun K hK => ?_)
           refine box_step ?hg (N := 15) ?hd (cs := #[.int .i64 0, .slice none 0 0]) (t := 31) ?hr ?_; (case hd => rfl); (case hg => rfl); (case hr => first | (go_simp; done) | (go_simp; rfl))
           intro gb523 hg w100 hbox hb
           have n0_ := Aside0.mk (Kd.R_below (by (with_reducible repeat (first | apply Kd.R_alloc | apply Kd.R_drewN | apply Kd.R_drew)); exact HO497.out) hb)
           have n1_ := Aside0.mk (Kd.R_below (by (with_reducible repeat (first | apply Kd.R_alloc | apply Kd.R_drewN | apply Kd.R_drew)); exact HO507.out) hb)
           have n2_ := Aside0.mk (Kd.R_below (by (with_reducible repeat (first | apply Kd.R_alloc | apply Kd.R_drewN | apply Kd.R_drew)); exact HO521.out) hb)
           have n3_ := Aside0.mk (b6 (g := gb488) (o := .cells #[.int .i64 a0_0, .slice A0_1 l0_1.length c0_1] 24 (0, 0)) (by (with_reducible repeat (first | refine b1 ?_ _ | refine b2 ?_ | refine b3 ?_ _)); exact BK488.out) hb)
           have n4_ := Aside0.mk (b6 (g := gb489) (o := .cells #[.int .i64 a1_0, .int .i64 a1_1, .int .i64 a1_2, .int .i64 a1_3] 64 (0, 0)) (by (with_reducible repeat (first | refine b1 ?_ _ | refine b2 ?_ | refine b3 ?_ _)); exact BK489.out) hb)
           have n5_ := Aside0.mk (b6 (g := gb493) (o := .cells #[.int .i64 x494000_29, .int .i64 x494001_29, .int .i64 x494002_29, .int .i64 x494003_29] 64 (0, 0)) (by (with_reducible repeat (first | refine b1 ?_ _ | refine b2 ?_ | refine b3 ?_ _)); exact BK493.out) hb)
           have n6_ := Aside0.mk (below_step (by repeat (first | (with_reducible first | exact HB.out | apply b9 | apply b7 | apply b8 | refine b4 ?_ GE488.out | refine b4 ?_ GE489.out | refine b4 ?_ GE493.out) | exact HB.out)) hb)
           have n7_ := Aside0.mk (hbox)
           have n8_ := Aside0.mk ((by rw [hg]; exact (below_size (by repeat (first | (with_reducible first | exact HB.out | apply b9 | apply b7 | apply b8 | refine b4 ?_ GE488.out | refine b4 ?_ GE489.out | refine b4 ?_ GE493.out) | exact HB.out))) : w.heap.size ≤ gb523))
           have n9_ := Aside0.mk ((by rw [hg]; exact (below_size (by repeat (first | (with_reducible first | exact HB.out | apply b9 | apply b7 | apply b8 | refine b4 ?_ GE488.out | refine b4 ?_ GE489.out | refine b4 ?_ GE493.out) | exact HB.out))) : w.heap.size ≤ gb523))
           have n10_ := Aside0.mk ((by rw [hg]; exact Nat.ne_of_lt (blk_lt (g := gb488) (o := .cells #[.int .i64 a0_0, .slice A0_1 l0_1.length c0_1] 24 (0, 0)) (by (with_reducible repeat (first | refine b1 ?_ _ | refine b2 ?_ | refine b3 ?_ _)); exact BK488.out)) : gb488 ≠ gb523))
           have n11_ := Aside0.mk ((by rw [hg]; exact Nat.ne_of_gt (blk_lt (g := gb488) (o := .cells #[.int .i64 a0_0, .slice A0_1 l0_1.length c0_1] 24 (0, 0)) (by (with_reducible repeat (first | refine b1 ?_ _ | refine b2 ?_ | refine b3 ?_ _)); exact BK488.out)) : gb523 ≠ gb488))
           have n12_ := Aside0.mk ((by rw [hg]; exact Nat.ne_of_lt (blk_lt (g := gb489) (o := .cells #[.int .i64 a1_0, .int .i64 a1_1, .int .i64 a1_2, .int .i64 a1_3] 64 (0, 0)) (by (with_reducible repeat (first | refine b1 ?_ _ | refine b2 ?_ | refine b3 ?_ _)); exact BK489.out)) : gb489 ≠ gb523))
           have n13_ := Aside0.mk ((by rw [hg]; exact Nat.ne_of_gt (blk_lt (g := gb489) (o := .cells #[.int .i64 a1_0, .int .i64 a1_1, .int .i64 a1_2, .int .i64 a1_3] 64 (0, 0)) (by (with_reducible repeat (first | refine b1 ?_ _ | refine b2 ?_ | refine b3 ?_ _)); exact BK489.out)) : gb523 ≠ gb489))
           have n14_ := Aside0.mk ((by rw [hg]; exact Nat.ne_of_lt (blk_lt (g := gb493) (o := .cells #[.int .i64 x494000_29, .int .i64 x494001_29, .int .i64 x494002_29, .int .i64 x494003_29] 64 (0, 0)) (by (with_reducible repeat (first | refine b1 ?_ _ | refine b2 ?_ | refine b3 ?_ _)); exact BK493.out)) : gb493 ≠ gb523))
           have n15_ := Aside0.mk ((by rw [hg]; exact Nat.ne_of_gt (blk_lt (g := gb493) (o := .cells #[.int .i64 x494000_29, .int .i64 x494001_29, .int .i64 x494002_29, .int .i64 x494003_29] 64 (0, 0)) (by (with_reducible repeat (first | refine b1 ?_ _ | refine b2 ?_ | refine b3 ?_ _)); exact BK493.out)) : gb523 ≠ gb493))
           clear HO497
           clear HO507
           clear HO521
           clear BK488
           clear BK489
           clear BK493
           clear HB
           have HO497 := n0_
           have HO507 := n1_
           have HO521 := n2_
           have BK488 := n3_
           have BK489 := n4_
           have BK493 := n5_
           have HB := n6_
           have BK523 := n7_
           have GW523 := n8_
           have GE523 := n9_
           have NB488_523 := n10_
           have NB523_488 := n11_
           have NB489_523 := n12_
           have NB523_489 := n13_
           have NB493_523 := n14_
           have NB523_493 := n15_
           clear n0_ n1_ n2_ n3_ n4_ n5_ n6_ n7_ n8_ n9_ n10_ n11_ n12_ n13_ n14_ n15_
           clear hb hbox hg
           refine hK.out _ _ ⟨(b5 BK488.out 0).trans rfl, (b5 BK488.out 1).trans rfl, (b5 BK489.out 0).trans rfl, (b5 BK489.out 1).trans rfl, (b5 BK489.out 2).trans rfl, (b5 BK489.out 3).trans rfl⟩ (fun hHeld => ?_)
           clear hK K
           refine norm_ (a' := ?_) ?_ ?_
           rotate_left
           ·
            show Act.put _ (some 15) _ = _
            simp only [Act.put, l1, l2, l3, i64_w, i32_w]
            rfl
           exact norm_ (by simp only [putAll, Act.put, l1, l2, l3]) (hCont (v520, gb523) _ ⟨hHeld, (by (with_reducible repeat (first | apply Kd.R_alloc | apply Kd.R_drewN | apply Kd.R_drew)); exact Kd.R_mono HO497.out (fun _ hk => ⟨hk.1.2, hk.2⟩)), (by (with_reducible repeat (first | apply Kd.R_alloc | apply Kd.R_drewN | apply Kd.R_drew)); exact Kd.R_mono HO507.out (fun _ hk => ⟨hk.1.2, hk.2⟩)), (by (with_reducible repeat (first | apply Kd.R_alloc | apply Kd.R_drewN | apply Kd.R_drew)); exact Kd.R_mono HO521.out (fun _ hk => ⟨hk.1.2, hk.2⟩)), (by (with_reducible repeat (first | refine b1 ?_ _ | refine b2 ?_ | refine b3 ?_ _)); exact BK488.out), (by (with_reducible repeat (first | refine b1 ?_ _ | refine b2 ?_ | refine b3 ?_ _)); exact BK489.out), (by (with_reducible repeat (first | refine b1 ?_ _ | refine b2 ?_ | refine b3 ?_ _)); exact BK493.out), (by (with_reducible repeat (first | refine b1 ?_ _ | refine b2 ?_ | refine b3 ?_ _)); exact BK523.out), GW523.out, GE523.out, NB488_523.out, NB523_488.out, NB489_523.out, NB523_489.out, NB493_523.out, NB523_493.out, (by repeat (first | (with_reducible first | exact HB.out | apply b9 | apply b7 | apply b8 | refine b4 ?_ GE488.out | refine b4 ?_ GE489.out | refine b4 ?_ GE493.out | refine b4 ?_ GE523.out) | exact HB.out))⟩)
          ·
           skip
           refine box_step ?hg (N := 15) ?hd (cs := #[.int .i64 0, .slice none 0 0]) (t := 31) ?hr ?_; (case hd => rfl); (case hg => rfl); (case hr => first | (go_simp; done) | (go_simp; rfl))
           intro gb523 hg w99 hbox hb
           have n0_ := Aside0.mk (Kd.R_below (by (with_reducible repeat (first | apply Kd.R_alloc | apply Kd.R_drewN | apply Kd.R_drew)); exact HO497.out) hb)
           have n1_ := Aside0.mk (Kd.R_below (by (with_reducible repeat (first | apply Kd.R_alloc | apply Kd.R_drewN | apply Kd.R_drew)); exact HO507.out) hb)
           have n2_ := Aside0.mk (b6 (g := gb488) (o := .cells #[.int .i64 a0_0, .slice A0_1 l0_1.length c0_1] 24 (0, 0)) (by (with_reducible repeat (first | refine b1 ?_ _ | refine b2 ?_ | refine b3 ?_ _)); exact BK488.out) hb)
           have n3_ := Aside0.mk (b6 (g := gb489) (o := .cells #[.int .i64 a1_0, .int .i64 a1_1, .int .i64 a1_2, .int .i64 a1_3] 64 (0, 0)) (by (with_reducible repeat (first | refine b1 ?_ _ | refine b2 ?_ | refine b3 ?_ _)); exact BK489.out) hb)
           have n4_ := Aside0.mk (b6 (g := gb493) (o := .cells #[.int .i64 x494000_29, .int .i64 x494001_29, .int .i64 x494002_29, .int .i64 x494003_29] 64 (0, 0)) (by (with_reducible repeat (first | refine b1 ?_ _ | refine b2 ?_ | refine b3 ?_ _)); exact BK493.out) hb)
           have n5_ := Aside0.mk (below_step (by repeat (first | (with_reducible first | exact HB.out | apply b9 | apply b7 | apply b8 | refine b4 ?_ GE488.out | refine b4 ?_ GE489.out | refine b4 ?_ GE493.out) | exact HB.out)) hb)
           have n6_ := Aside0.mk (hbox)
           have n7_ := Aside0.mk ((by rw [hg]; exact (below_size (by repeat (first | (with_reducible first | exact HB.out | apply b9 | apply b7 | apply b8 | refine b4 ?_ GE488.out | refine b4 ?_ GE489.out | refine b4 ?_ GE493.out) | exact HB.out))) : w.heap.size ≤ gb523))
           have n8_ := Aside0.mk ((by rw [hg]; exact (below_size (by repeat (first | (with_reducible first | exact HB.out | apply b9 | apply b7 | apply b8 | refine b4 ?_ GE488.out | refine b4 ?_ GE489.out | refine b4 ?_ GE493.out) | exact HB.out))) : w.heap.size ≤ gb523))
           have n9_ := Aside0.mk ((by rw [hg]; exact Nat.ne_of_lt (blk_lt (g := gb488) (o := .cells #[.int .i64 a0_0, .slice A0_1 l0_1.length c0_1] 24 (0, 0)) (by (with_reducible repeat (first | refine b1 ?_ _ | refine b2 ?_ | refine b3 ?_ _)); exact BK488.out)) : gb488 ≠ gb523))
           have n10_ := Aside0.mk ((by rw [hg]; exact Nat.ne_of_gt (blk_lt (g := gb488) (o := .cells #[.int .i64 a0_0, .slice A0_1 l0_1.length c0_1] 24 (0, 0)) (by (with_reducible repeat (first | refine b1 ?_ _ | refine b2 ?_ | refine b3 ?_ _)); exact BK488.out)) : gb523 ≠ gb488))
           have n11_ := Aside0.mk ((by rw [hg]; exact Nat.ne_of_lt (blk_lt (g := gb489) (o := .cells #[.int .i64 a1_0, .int .i64 a1_1, .int .i64 a1_2, .int .i64 a1_3] 64 (0, 0)) (by (with_reducible repeat (first | refine b1 ?_ _ | refine b2 ?_ | refine b3 ?_ _)); exact BK489.out)) : gb489 ≠ gb523))
           have n12_ := Aside0.mk ((by rw [hg]; exact Nat.ne_of_gt (blk_lt (g := gb489) (o := .cells #[.int .i64 a1_0, .int .i64 a1_1, .int .i64 a1_2, .int .i64 a1_3] 64 (0, 0)) (by (with_reducible repeat (first | refine b1 ?_ _ | refine b2 ?_ | refine b3 ?_ _)); exact BK489.out)) : gb523 ≠ gb489))
           have n13_ := Aside0.mk ((by rw [hg]; exact Nat.ne_of_lt (blk_lt (g := gb493) (o := .cells #[.int .i64 x494000_29, .int .i64 x494001_29, .int .i64 x494002_29, .int .i64 x494003_29] 64 (0, 0)) (by (with_reducible repeat (first | refine b1 ?_ _ | refine b2 ?_ | refine b3 ?_ _)); exact BK493.out)) : gb493 ≠ gb523))
           have n14_ := Aside0.mk ((by rw [hg]; exact Nat.ne_of_gt (blk_lt (g := gb493) (o := .cells #[.int .i64 x494000_29, .int .i64 x494001_29, .int .i64 x494002_29, .int .i64 x494003_29] 64 (0, 0)) (by (with_reducible repeat (first | refine b1 ?_ _ | refine b2 ?_ | refine b3 ?_ _)); exact BK493.out)) : gb523 ≠ gb493))
           clear HO497
           clear HO507
           clear BK488
           clear BK489
           clear BK493
           clear HB
           have HO497 := n0_
           have HO507 := n1_
           have BK488 := n2_
           have BK489 := n3_
           have BK493 := n4_
           have HB := n5_
           have BK523 := n6_
           have GW523 := n7_
           have GE523 := n8_
           have NB488_523 := n9_
           have NB523_488 := n10_
           have NB489_523 := n11_
           have NB523_489 := n12_
           have NB493_523 := n13_
           have NB523_493 := n14_
           clear n0_ n1_ n2_ n3_ n4_ n5_ n6_ n7_ n8_ n9_ n10_ n11_ n12_ n13_ n14_
           clear hb hbox hg
           refine hK.out _ _ ⟨(b5 BK488.out 0).trans rfl, (b5 BK488.out 1).trans rfl, (b5 BK489.out 0).trans rfl, (b5 BK489.out 1).trans rfl, (b5 BK489.out 2).trans rfl, (b5 BK489.out 3).trans rfl⟩ (fun hHeld => ?_)
           clear hK K
           refine norm_ (a' := ?_) ?_ ?_
           rotate_left
           ·
            show Act.put _ (some 15) _ = _
            simp only [Act.put, l1, l2, l3, i64_w, i32_w]
            rfl
           refine one_ (i := 4) (N := some 95) #[tt,tt,tt,tt,tt,ff,ff,ff,tt,ff,ff] rfl rfl (one_of HT_.out (by kernel_rfl)) (by decide) (fun K hK => ?_)
           refine goes_ Try.func33 (by kernel_rfl) rfl #[.int .i64 a0_0, .agg #[.int .i64 t514, .int .i64 t515, .int .i64 t516, .int .i64 t517]] (by rfl) rfl rfl (by (try simp only [List.map_toArray, List.map_cons, List.map_nil]); first | done | rfl | (simp only [List.length_drop, List.length_take]; rfl)) ?_
           with_reducible refine (plan_Single.calls a0_0 t514 t515 t516 t517 t518 t519 t522 _ A72.out).mono ?_
           rintro e w100 ⟨v520, rfl, ho0, hb⟩
           refine ⟨_, rfl, ?_⟩
           have n0_ := Aside0.mk (Kd.R_elder' (by (with_reducible repeat (first | apply Kd.R_alloc | apply Kd.R_drewN | apply Kd.R_drew)); exact HO497.out) (Kd.R_base ho0) hb)
           have n1_ := Aside0.mk (Kd.R_elder' (by (with_reducible repeat (first | apply Kd.R_alloc | apply Kd.R_drewN | apply Kd.R_drew)); exact HO507.out) (Kd.R_base ho0) hb)
           have n2_ := Aside0.mk (Kd.R_lower (Kd.R_new' (Kd.R_new' ho0 (Kd.R_lt (by (with_reducible repeat (first | apply Kd.R_alloc | apply Kd.R_drewN | apply Kd.R_drew)); exact HO497.out))) (Kd.R_lt (by (with_reducible repeat (first | apply Kd.R_alloc | apply Kd.R_drewN | apply Kd.R_drew)); exact HO507.out))) (below_size (by repeat (first | (with_reducible first | exact HB.out | apply b9 | apply b7 | apply b8 | refine b4 ?_ GE488.out | refine b4 ?_ GE489.out | refine b4 ?_ GE493.out | refine b4 ?_ GE523.out) | exact HB.out))))
           have n3_ := Aside0.mk (b6 (g := gb488) (o := .cells #[.int .i64 a0_0, .slice A0_1 l0_1.length c0_1] 24 (0, 0)) (by (with_reducible repeat (first | refine b1 ?_ _ | refine b2 ?_ | refine b3 ?_ _)); exact BK488.out) hb)
           have n4_ := Aside0.mk (b6 (g := gb489) (o := .cells #[.int .i64 a1_0, .int .i64 a1_1, .int .i64 a1_2, .int .i64 a1_3] 64 (0, 0)) (by (with_reducible repeat (first | refine b1 ?_ _ | refine b2 ?_ | refine b3 ?_ _)); exact BK489.out) hb)
           have n5_ := Aside0.mk (b6 (g := gb493) (o := .cells #[.int .i64 x494000_29, .int .i64 x494001_29, .int .i64 x494002_29, .int .i64 x494003_29] 64 (0, 0)) (by (with_reducible repeat (first | refine b1 ?_ _ | refine b2 ?_ | refine b3 ?_ _)); exact BK493.out) hb)
           have n6_ := Aside0.mk (b6 (g := gb523) (o := .cells #[.int .i64 0, .slice none 0 0] 31 (0, 0)) (by (with_reducible repeat (first | refine b1 ?_ _ | refine b2 ?_ | refine b3 ?_ _)); exact BK523.out) hb)
           have n7_ := Aside0.mk (below_step (by repeat (first | (with_reducible first | exact HB.out | apply b9 | apply b7 | apply b8 | refine b4 ?_ GE488.out | refine b4 ?_ GE489.out | refine b4 ?_ GE493.out | refine b4 ?_ GE523.out) | exact HB.out)) hb)
           clear HO497
           clear HO507
           clear BK488
           clear BK489
           clear BK493
           clear BK523
           clear HB
           have HO497 := n0_
           have HO507 := n1_
           have HO521 := n2_
           have BK488 := n3_
           have BK489 := n4_
           have BK493 := n5_
           have BK523 := n6_
           have HB := n7_
           clear n0_ n1_ n2_ n3_ n4_ n5_ n6_ n7_
           (try clear hb)
           (try clear hb2)
           (try clear hk)
           (try clear hi)
           (try clear ho0)
           refine hK.out _ _ ⟨(b5 BK488.out 0).trans rfl, (b5 BK488.out 1).trans rfl, (b5 BK489.out 0).trans rfl, (b5 BK489.out 1).trans rfl, (b5 BK489.out 2).trans rfl, (b5 BK489.out 3).trans rfl⟩ (fun hHeld => ?_)
           clear hK K
           refine norm_ (a' := ?_) ?_ ?_
           rotate_left
           ·
            show Act.put _ (some 95) _ = _
            simp only [Act.put, l1, l2, l3, i64_w, i32_w]
            rfl
           refine pure_ (i := 5) (N := some 90) (v := ?_) (a' := ?_) #[tt,tt,tt,tt,tt,tt,ff,ff,tt,ff,ff] rfl rfl (any_of HT_.out (by kernel_rfl)) (fun _ _ _ h => h) (Or.inl ⟨by rfl, ?_⟩) ?_ ?_
           rotate_left
           ·
            intro w'
            go_simp
            with_reducible rfl
           rotate_left
           ·
            simp only [Act.put, l1, l2, l3, i64_w, i32_w]
            rfl
           refine pure_ (i := 6) (N := some 96) (v := ?_) (a' := ?_) #[tt,tt,tt,tt,tt,tt,tt,ff,tt,ff,ff] rfl rfl (any_of HT_.out (by kernel_rfl)) (fun _ _ _ h => h) (Or.inl ⟨by rfl, ?_⟩) ?_ ?_
           rotate_left
           ·
            intro w'
            go_simp
            with_reducible rfl
           rotate_left
           ·
            simp only [Act.put, l1, l2, l3, i64_w, i32_w]
            rfl
           refine pure_ (i := 7) (N := some 97) (v := ?_) (a' := ?_) #[tt,tt,tt,tt,tt,tt,tt,tt,tt,ff,ff] rfl rfl (any_of HT_.out (by kernel_rfl)) (fun _ _ _ h => h) (Or.inl ⟨by rfl, ?_⟩) ?_ ?_
           rotate_left
           ·
            intro w'
            go_simp
            with_reducible rfl
           rotate_left
           ·
            simp only [Act.put, l1, l2, l3, i64_w, i32_w]
            rfl
           exact norm_ (by simp only [putAll, Act.put, l1, l2, l3]) (hCont (v520, gb523) _ ⟨hHeld, (by (with_reducible repeat (first | apply Kd.R_alloc | apply Kd.R_drewN | apply Kd.R_drew)); exact Kd.R_mono HO497.out (fun _ hk => ⟨hk.1.2, hk.2⟩)), (by (with_reducible repeat (first | apply Kd.R_alloc | apply Kd.R_drewN | apply Kd.R_drew)); exact Kd.R_mono HO507.out (fun _ hk => ⟨hk.1.2, hk.2⟩)), (by (with_reducible repeat (first | apply Kd.R_alloc | apply Kd.R_drewN | apply Kd.R_drew)); exact Kd.R_mono HO521.out (fun _ hk => ⟨hk.1.2, hk.2⟩)), (by (with_reducible repeat (first | refine b1 ?_ _ | refine b2 ?_ | refine b3 ?_ _)); exact BK488.out), (by (with_reducible repeat (first | refine b1 ?_ _ | refine b2 ?_ | refine b3 ?_ _)); exact BK489.out), (by (with_reducible repeat (first | refine b1 ?_ _ | refine b2 ?_ | refine b3 ?_ _)); exact BK493.out), (by (with_reducible repeat (first | refine b1 ?_ _ | refine b2 ?_ | refine b3 ?_ _)); exact BK523.out), GW523.out, GE523.out, NB488_523.out, NB523_488.out, NB489_523.out, NB523_489.out, NB493_523.out, NB523_493.out, (by repeat (first | (with_reducible first | exact HB.out | apply b9 | apply b7 | apply b8 | refine b4 ?_ GE488.out | refine b4 ?_ GE489.out | refine b4 ?_ GE493.out | refine b4 ?_ GE523.out) | exact HB.out))⟩)
         ·
          skip
          refine box_step ?hg (N := 15) ?hd (cs := #[.int .i64 0, .slice none 0 0]) (t := 31) ?hr ?_; (case hd => rfl); (case hg => rfl); (case hr => first | (go_simp; done) | (go_simp; rfl))
          intro gb523 hg w98 hbox hb
          have n0_ := Aside0.mk (Kd.R_below (by (with_reducible repeat (first | apply Kd.R_alloc | apply Kd.R_drewN | apply Kd.R_drew)); exact HO497.out) hb)
          have n1_ := Aside0.mk (Kd.R_below (by (with_reducible repeat (first | apply Kd.R_alloc | apply Kd.R_drewN | apply Kd.R_drew)); exact HO507.out) hb)
          have n2_ := Aside0.mk (b6 (g := gb488) (o := .cells #[.int .i64 a0_0, .slice A0_1 l0_1.length c0_1] 24 (0, 0)) (by (with_reducible repeat (first | refine b1 ?_ _ | refine b2 ?_ | refine b3 ?_ _)); exact BK488.out) hb)
          have n3_ := Aside0.mk (b6 (g := gb489) (o := .cells #[.int .i64 a1_0, .int .i64 a1_1, .int .i64 a1_2, .int .i64 a1_3] 64 (0, 0)) (by (with_reducible repeat (first | refine b1 ?_ _ | refine b2 ?_ | refine b3 ?_ _)); exact BK489.out) hb)
          have n4_ := Aside0.mk (b6 (g := gb493) (o := .cells #[.int .i64 x494000_29, .int .i64 x494001_29, .int .i64 x494002_29, .int .i64 x494003_29] 64 (0, 0)) (by (with_reducible repeat (first | refine b1 ?_ _ | refine b2 ?_ | refine b3 ?_ _)); exact BK493.out) hb)
          have n5_ := Aside0.mk (below_step (by repeat (first | (with_reducible first | exact HB.out | apply b9 | apply b7 | apply b8 | refine b4 ?_ GE488.out | refine b4 ?_ GE489.out | refine b4 ?_ GE493.out) | exact HB.out)) hb)
          have n6_ := Aside0.mk (hbox)
          have n7_ := Aside0.mk ((by rw [hg]; exact (below_size (by repeat (first | (with_reducible first | exact HB.out | apply b9 | apply b7 | apply b8 | refine b4 ?_ GE488.out | refine b4 ?_ GE489.out | refine b4 ?_ GE493.out) | exact HB.out))) : w.heap.size ≤ gb523))
          have n8_ := Aside0.mk ((by rw [hg]; exact (below_size (by repeat (first | (with_reducible first | exact HB.out | apply b9 | apply b7 | apply b8 | refine b4 ?_ GE488.out | refine b4 ?_ GE489.out | refine b4 ?_ GE493.out) | exact HB.out))) : w.heap.size ≤ gb523))
          have n9_ := Aside0.mk ((by rw [hg]; exact Nat.ne_of_lt (blk_lt (g := gb488) (o := .cells #[.int .i64 a0_0, .slice A0_1 l0_1.length c0_1] 24 (0, 0)) (by (with_reducible repeat (first | refine b1 ?_ _ | refine b2 ?_ | refine b3 ?_ _)); exact BK488.out)) : gb488 ≠ gb523))
          have n10_ := Aside0.mk ((by rw [hg]; exact Nat.ne_of_gt (blk_lt (g := gb488) (o := .cells #[.int .i64 a0_0, .slice A0_1 l0_1.length c0_1] 24 (0, 0)) (by (with_reducible repeat (first | refine b1 ?_ _ | refine b2 ?_ | refine b3 ?_ _)); exact BK488.out)) : gb523 ≠ gb488))
          have n11_ := Aside0.mk ((by rw [hg]; exact Nat.ne_of_lt (blk_lt (g := gb489) (o := .cells #[.int .i64 a1_0, .int .i64 a1_1, .int .i64 a1_2, .int .i64 a1_3] 64 (0, 0)) (by (with_reducible repeat (first | refine b1 ?_ _ | refine b2 ?_ | refine b3 ?_ _)); exact BK489.out)) : gb489 ≠ gb523))
          have n12_ := Aside0.mk ((by rw [hg]; exact Nat.ne_of_gt (blk_lt (g := gb489) (o := .cells #[.int .i64 a1_0, .int .i64 a1_1, .int .i64 a1_2, .int .i64 a1_3] 64 (0, 0)) (by (with_reducible repeat (first | refine b1 ?_ _ | refine b2 ?_ | refine b3 ?_ _)); exact BK489.out)) : gb523 ≠ gb489))
          have n13_ := Aside0.mk ((by rw [hg]; exact Nat.ne_of_lt (blk_lt (g := gb493) (o := .cells #[.int .i64 x494000_29, .int .i64 x494001_29, .int .i64 x494002_29, .int .i64 x494003_29] 64 (0, 0)) (by (with_reducible repeat (first | refine b1 ?_ _ | refine b2 ?_ | refine b3 ?_ _)); exact BK493.out)) : gb493 ≠ gb523))
          have n14_ := Aside0.mk ((by rw [hg]; exact Nat.ne_of_gt (blk_lt (g := gb493) (o := .cells #[.int .i64 x494000_29, .int .i64 x494001_29, .int .i64 x494002_29, .int .i64 x494003_29] 64 (0, 0)) (by (with_reducible repeat (first | refine b1 ?_ _ | refine b2 ?_ | refine b3 ?_ _)); exact BK493.out)) : gb523 ≠ gb493))
          clear HO497
          clear HO507
          clear BK488
          clear BK489
          clear BK493
          clear HB
          have HO497 := n0_
          have HO507 := n1_
          have BK488 := n2_
          have BK489 := n3_
          have BK493 := n4_
          have HB := n5_
          have BK523 := n6_
          have GW523 := n7_
          have GE523 := n8_
          have NB488_523 := n9_
          have NB523_488 := n10_
          have NB489_523 := n11_
          have NB523_489 := n12_
          have NB493_523 := n13_
          have NB523_493 := n14_
          clear n0_ n1_ n2_ n3_ n4_ n5_ n6_ n7_ n8_ n9_ n10_ n11_ n12_ n13_ n14_
          clear hb hbox hg
          refine hK.out _ _ ⟨(b5 BK488.out 0).trans rfl, (b5 BK488.out 1).trans rfl, (b5 BK489.out 0).trans rfl, (b5 BK489.out 1).trans rfl, (b5 BK489.out 2).trans rfl, (b5 BK489.out 3).trans rfl⟩ (fun hHeld => ?_)
          clear hK K
          refine norm_ (a' := ?_) ?_ ?_
          rotate_left
          ·
           show Act.put _ (some 15) _ = _
           simp only [Act.put, l1, l2, l3, i64_w, i32_w]
           rfl
          refine one_ (i := 3) (N := some 94) #[tt,tt,tt,tt,ff,ff,ff,ff,tt,ff,ff] rfl rfl (one_of HT_.out (by kernel_rfl)) (by decide) (fun K hK => ?_)
          refine goes_ Try.func32 (by kernel_rfl) rfl #[.agg #[.int .i64 a1_0, .int .i64 a1_1, .int .i64 a1_2, .int .i64 a1_3]] (by rfl) rfl rfl (by (try simp only [List.map_toArray, List.map_cons, List.map_nil]); first | done | rfl | (simp only [List.length_drop, List.length_take]; rfl)) ?_
          with_reducible refine (tensilelaw09_Demand.calls a1_0 a1_1 a1_2 a1_3 t514 t515 t516 t517 _ A71.out).mono ?_
          rintro e w99 ⟨rfl, hb⟩
          refine ⟨_, rfl, ?_⟩
          have n0_ := Aside0.mk (Kd.R_below (by (with_reducible repeat (first | apply Kd.R_alloc | apply Kd.R_drewN | apply Kd.R_drew)); exact HO497.out) hb)
          have n1_ := Aside0.mk (Kd.R_below (by (with_reducible repeat (first | apply Kd.R_alloc | apply Kd.R_drewN | apply Kd.R_drew)); exact HO507.out) hb)
          have n2_ := Aside0.mk (b6 (g := gb488) (o := .cells #[.int .i64 a0_0, .slice A0_1 l0_1.length c0_1] 24 (0, 0)) (by (with_reducible repeat (first | refine b1 ?_ _ | refine b2 ?_ | refine b3 ?_ _)); exact BK488.out) hb)
          have n3_ := Aside0.mk (b6 (g := gb489) (o := .cells #[.int .i64 a1_0, .int .i64 a1_1, .int .i64 a1_2, .int .i64 a1_3] 64 (0, 0)) (by (with_reducible repeat (first | refine b1 ?_ _ | refine b2 ?_ | refine b3 ?_ _)); exact BK489.out) hb)
          have n4_ := Aside0.mk (b6 (g := gb493) (o := .cells #[.int .i64 x494000_29, .int .i64 x494001_29, .int .i64 x494002_29, .int .i64 x494003_29] 64 (0, 0)) (by (with_reducible repeat (first | refine b1 ?_ _ | refine b2 ?_ | refine b3 ?_ _)); exact BK493.out) hb)
          have n5_ := Aside0.mk (b6 (g := gb523) (o := .cells #[.int .i64 0, .slice none 0 0] 31 (0, 0)) (by (with_reducible repeat (first | refine b1 ?_ _ | refine b2 ?_ | refine b3 ?_ _)); exact BK523.out) hb)
          have n6_ := Aside0.mk (below_step (by repeat (first | (with_reducible first | exact HB.out | apply b9 | apply b7 | apply b8 | refine b4 ?_ GE488.out | refine b4 ?_ GE489.out | refine b4 ?_ GE493.out | refine b4 ?_ GE523.out) | exact HB.out)) hb)
          clear HO497
          clear HO507
          clear BK488
          clear BK489
          clear BK493
          clear BK523
          clear HB
          have HO497 := n0_
          have HO507 := n1_
          have BK488 := n2_
          have BK489 := n3_
          have BK493 := n4_
          have BK523 := n5_
          have HB := n6_
          clear n0_ n1_ n2_ n3_ n4_ n5_ n6_
          (try clear hb)
          (try clear hb2)
          (try clear hk)
          (try clear hi)
          refine hK.out _ _ ⟨(b5 BK488.out 0).trans rfl, (b5 BK488.out 1).trans rfl, (b5 BK489.out 0).trans rfl, (b5 BK489.out 1).trans rfl, (b5 BK489.out 2).trans rfl, (b5 BK489.out 3).trans rfl⟩ (fun hHeld => ?_)
          clear hK K
          refine norm_ (a' := ?_) ?_ ?_
          rotate_left
          ·
           show Act.put _ (some 94) _ = _
           simp only [Act.put, l1, l2, l3, i64_w, i32_w]
           rfl
          refine one_ (i := 4) (N := some 95) #[tt,tt,tt,tt,tt,ff,ff,ff,tt,ff,ff] rfl rfl (one_of HT_.out (by kernel_rfl)) (by decide) (fun K hK => ?_)
          refine goes_ Try.func33 (by kernel_rfl) rfl #[.int .i64 a0_0, .agg #[.int .i64 t514, .int .i64 t515, .int .i64 t516, .int .i64 t517]] (by rfl) rfl rfl (by (try simp only [List.map_toArray, List.map_cons, List.map_nil]); first | done | rfl | (simp only [List.length_drop, List.length_take]; rfl)) ?_
          with_reducible refine (plan_Single.calls a0_0 t514 t515 t516 t517 t518 t519 t522 _ A72.out).mono ?_
          rintro e w100 ⟨v520, rfl, ho0, hb⟩
          refine ⟨_, rfl, ?_⟩
          have n0_ := Aside0.mk (Kd.R_elder' (by (with_reducible repeat (first | apply Kd.R_alloc | apply Kd.R_drewN | apply Kd.R_drew)); exact HO497.out) (Kd.R_base ho0) hb)
          have n1_ := Aside0.mk (Kd.R_elder' (by (with_reducible repeat (first | apply Kd.R_alloc | apply Kd.R_drewN | apply Kd.R_drew)); exact HO507.out) (Kd.R_base ho0) hb)
          have n2_ := Aside0.mk (Kd.R_lower (Kd.R_new' (Kd.R_new' ho0 (Kd.R_lt (by (with_reducible repeat (first | apply Kd.R_alloc | apply Kd.R_drewN | apply Kd.R_drew)); exact HO497.out))) (Kd.R_lt (by (with_reducible repeat (first | apply Kd.R_alloc | apply Kd.R_drewN | apply Kd.R_drew)); exact HO507.out))) (below_size (by repeat (first | (with_reducible first | exact HB.out | apply b9 | apply b7 | apply b8 | refine b4 ?_ GE488.out | refine b4 ?_ GE489.out | refine b4 ?_ GE493.out | refine b4 ?_ GE523.out) | exact HB.out))))
          have n3_ := Aside0.mk (b6 (g := gb488) (o := .cells #[.int .i64 a0_0, .slice A0_1 l0_1.length c0_1] 24 (0, 0)) (by (with_reducible repeat (first | refine b1 ?_ _ | refine b2 ?_ | refine b3 ?_ _)); exact BK488.out) hb)
          have n4_ := Aside0.mk (b6 (g := gb489) (o := .cells #[.int .i64 a1_0, .int .i64 a1_1, .int .i64 a1_2, .int .i64 a1_3] 64 (0, 0)) (by (with_reducible repeat (first | refine b1 ?_ _ | refine b2 ?_ | refine b3 ?_ _)); exact BK489.out) hb)
          have n5_ := Aside0.mk (b6 (g := gb493) (o := .cells #[.int .i64 x494000_29, .int .i64 x494001_29, .int .i64 x494002_29, .int .i64 x494003_29] 64 (0, 0)) (by (with_reducible repeat (first | refine b1 ?_ _ | refine b2 ?_ | refine b3 ?_ _)); exact BK493.out) hb)
          have n6_ := Aside0.mk (b6 (g := gb523) (o := .cells #[.int .i64 0, .slice none 0 0] 31 (0, 0)) (by (with_reducible repeat (first | refine b1 ?_ _ | refine b2 ?_ | refine b3 ?_ _)); exact BK523.out) hb)
          have n7_ := Aside0.mk (below_step (by repeat (first | (with_reducible first | exact HB.out | apply b9 | apply b7 | apply b8 | refine b4 ?_ GE488.out | refine b4 ?_ GE489.out | refine b4 ?_ GE493.out | refine b4 ?_ GE523.out) | exact HB.out)) hb)
          clear HO497
          clear HO507
          clear BK488
          clear BK489
          clear BK493
          clear BK523
          clear HB
          have HO497 := n0_
          have HO507 := n1_
          have HO521 := n2_
          have BK488 := n3_
          have BK489 := n4_
          have BK493 := n5_
          have BK523 := n6_
          have HB := n7_
          clear n0_ n1_ n2_ n3_ n4_ n5_ n6_ n7_
          (try clear hb)
          (try clear hb2)
          (try clear hk)
          (try clear hi)
          (try clear ho0)
          refine hK.out _ _ ⟨(b5 BK488.out 0).trans rfl, (b5 BK488.out 1).trans rfl, (b5 BK489.out 0).trans rfl, (b5 BK489.out 1).trans rfl, (b5 BK489.out 2).trans rfl, (b5 BK489.out 3).trans rfl⟩ (fun hHeld => ?_)
          clear hK K
          refine norm_ (a' := ?_) ?_ ?_
          rotate_left
          ·
           show Act.put _ (some 95) _ = _
           simp only [Act.put, l1, l2, l3, i64_w, i32_w]
           rfl
          refine pure_ (i := 5) (N := some 90) (v := ?_) (a' := ?_) #[tt,tt,tt,tt,tt,tt,ff,ff,tt,ff,ff] rfl rfl (any_of HT_.out (by kernel_rfl)) (fun _ _ _ h => h) (Or.inl ⟨by rfl, ?_⟩) ?_ ?_
          rotate_left
          ·
           intro w'
           go_simp
           with_reducible rfl
          rotate_left
          ·
           simp only [Act.put, l1, l2, l3, i64_w, i32_w]
           rfl
          refine pure_ (i := 6) (N := some 96) (v := ?_) (a' := ?_) #[tt,tt,tt,tt,tt,tt,tt,ff,tt,ff,ff] rfl rfl (any_of HT_.out (by kernel_rfl)) (fun _ _ _ h => h) (Or.inl ⟨by rfl, ?_⟩) ?_ ?_
          rotate_left
          ·
           intro w'
           go_simp
           with_reducible rfl
          rotate_left
          ·
           simp only [Act.put, l1, l2, l3, i64_w, i32_w]
           rfl
          refine pure_ (i := 7) (N := some 97) (v := ?_) (a' := ?_) #[tt,tt,tt,tt,tt,tt,tt,tt,tt,ff,ff] rfl rfl (any_of HT_.out (by kernel_rfl)) (fun _ _ _ h => h) (Or.inl ⟨by rfl, ?_⟩) ?_ ?_
          rotate_left
          ·
           intro w'
           go_simp
           with_reducible rfl
          rotate_left
          ·
           simp only [Act.put, l1, l2, l3, i64_w, i32_w]
           rfl
          exact norm_ (by simp only [putAll, Act.put, l1, l2, l3]) (hCont (v520, gb523) _ ⟨hHeld, (by (with_reducible repeat (first | apply Kd.R_alloc | apply Kd.R_drewN | apply Kd.R_drew)); exact Kd.R_mono HO497.out (fun _ hk => ⟨hk.1.2, hk.2⟩)), (by (with_reducible repeat (first | apply Kd.R_alloc | apply Kd.R_drewN | apply Kd.R_drew)); exact Kd.R_mono HO507.out (fun _ hk => ⟨hk.1.2, hk.2⟩)), (by (with_reducible repeat (first | apply Kd.R_alloc | apply Kd.R_drewN | apply Kd.R_drew)); exact Kd.R_mono HO521.out (fun _ hk => ⟨hk.1.2, hk.2⟩)), (by (with_reducible repeat (first | refine b1 ?_ _ | refine b2 ?_ | refine b3 ?_ _)); exact BK488.out), (by (with_reducible repeat (first | refine b1 ?_ _ | refine b2 ?_ | refine b3 ?_ _)); exact BK489.out), (by (with_reducible repeat (first | refine b1 ?_ _ | refine b2 ?_ | refine b3 ?_ _)); exact BK493.out), (by (with_reducible repeat (first | refine b1 ?_ _ | refine b2 ?_ | refine b3 ?_ _)); exact BK523.out), GW523.out, GE523.out, NB488_523.out, NB523_488.out, NB489_523.out, NB523_489.out, NB493_523.out, NB523_493.out, (by repeat (first | (with_reducible first | exact HB.out | apply b9 | apply b7 | apply b8 | refine b4 ?_ GE488.out | refine b4 ?_ GE489.out | refine b4 ?_ GE493.out | refine b4 ?_ GE523.out) | exact HB.out))⟩)
        rintro ⟨v520, gb523⟩ w101 ⟨hS_, h0_, h1_, h2_, h3_, h4_, h5_, h6_, h7_, h8_, h9_, h10_, h11_, h12_, h13_, h14_, h15_⟩
        have n0_ : Aside0 (Kd.R k61 61 w101 w.heap.size (fun k_ => some k_ ≠ (.slice Ao95 t505.length co95 : Value).ownBlock ∧ some k_ ≠ (v520 : Value).ownBlock) (.slice Ao90 t495.length co90) t495) := ⟨h0_⟩
        have n1_ : Aside0 (Kd.R k61 61 w101 w.heap.size (fun k_ => some k_ ≠ (.slice Ao90 t495.length co90 : Value).ownBlock ∧ some k_ ≠ (v520 : Value).ownBlock) (.slice Ao95 t505.length co95) t505) := ⟨h1_⟩
        have n2_ : Aside0 (Kd.R k61 61 w101 w.heap.size (fun k_ => some k_ ≠ (.slice Ao90 t495.length co90 : Value).ownBlock ∧ some k_ ≠ (.slice Ao95 t505.length co95 : Value).ownBlock) v520 t519) := ⟨h2_⟩
        have n3_ : Aside0 (w101.heap[gb488]? = some (.cells #[.int .i64 a0_0, .slice A0_1 l0_1.length c0_1] 24 (0, 0))) := ⟨h3_⟩
        have n4_ : Aside0 (w101.heap[gb489]? = some (.cells #[.int .i64 a1_0, .int .i64 a1_1, .int .i64 a1_2, .int .i64 a1_3] 64 (0, 0))) := ⟨h4_⟩
        have n5_ : Aside0 (w101.heap[gb493]? = some (.cells #[.int .i64 x494000_29, .int .i64 x494001_29, .int .i64 x494002_29, .int .i64 x494003_29] 64 (0, 0))) := ⟨h5_⟩
        have n6_ : Aside0 (w101.heap[gb523]? = some (.cells #[.int .i64 0, .slice none 0 0] 31 (0, 0))) := ⟨h6_⟩
        have n7_ : Aside0 (w.heap.size ≤ gb523) := ⟨h7_⟩
        have n8_ : Aside0 (w.heap.size ≤ gb523) := ⟨h8_⟩
        have n9_ : Aside0 (gb488 ≠ gb523) := ⟨h9_⟩
        have n10_ : Aside0 (gb523 ≠ gb488) := ⟨h10_⟩
        have n11_ : Aside0 (gb489 ≠ gb523) := ⟨h11_⟩
        have n12_ : Aside0 (gb523 ≠ gb489) := ⟨h12_⟩
        have n13_ : Aside0 (gb493 ≠ gb523) := ⟨h13_⟩
        have n14_ : Aside0 (gb523 ≠ gb493) := ⟨h14_⟩
        have n15_ : Aside0 (Below w.heap.size w w101) := ⟨h15_⟩
        clear HO497
        clear HO507
        clear BK488
        clear BK489
        clear BK493
        clear HB
        clear h0_ h1_ h2_ h3_ h4_ h5_ h6_ h7_ h8_ h9_ h10_ h11_ h12_ h13_ h14_ h15_
        have HO497 := n0_
        have HO507 := n1_
        have HO521 := n2_
        have BK488 := n3_
        have BK489 := n4_
        have BK493 := n5_
        have BK523 := n6_
        have GW523 := n7_
        have GE523 := n8_
        have NB488_523 := n9_
        have NB523_488 := n10_
        have NB489_523 := n11_
        have NB523_489 := n12_
        have NB493_523 := n13_
        have NB523_493 := n14_
        have HB := n15_
        clear n0_ n1_ n2_ n3_ n4_ n5_ n6_ n7_ n8_ n9_ n10_ n11_ n12_ n13_ n14_ n15_
        have hHeld : w101.cell? ⟨gb488, 0, none⟩ = some (.int .i64 a0_0) ∧ w101.cell? ⟨gb488, 1, none⟩ = some (.slice A0_1 l0_1.length c0_1) ∧ w101.cell? ⟨gb489, 0, none⟩ = some (.int .i64 a1_0) ∧ w101.cell? ⟨gb489, 1, none⟩ = some (.int .i64 a1_1) ∧ w101.cell? ⟨gb489, 2, none⟩ = some (.int .i64 a1_2) ∧ w101.cell? ⟨gb489, 3, none⟩ = some (.int .i64 a1_3) := hS_
        obtain ⟨Ao103, co103, eo103⟩ := Kd.R_slice HO521.out
        (first | subst eo103 | (injection eo103 with f1_ f2_ f3_; have f4_ := f1_.symm; have f5_ := f3_.symm; clear f1_ f2_ f3_; subst f4_; subst f5_))
        refine norm_ (a' := ?_) ?_ ?_
        rotate_left
        ·
         simp only [putAll, Act.put, l1, l2, l3]
         rfl
        refine one_ (i := 9) (N := none) #[tt,tt,tt,tt,tt,tt,tt,tt,tt,tt,ff] rfl rfl (one_of HT_.out (by kernel_rfl)) (by decide) (fun K hK => ?_)
        have hs102 : w101.cell? ⟨gb523, 0, none⟩ = some (.int .i64 0) := (b5 BK523.out 0).trans rfl
        have hfs102 := blk_frozen BK523.out 0
        have hns102_0 := NB488_523.out
        have hns102_1 := NB489_523.out
        have hns102_2 := NB493_523.out
        have hms102_0 := NB523_488.out
        have hms102_1 := NB523_489.out
        have hms102_2 := NB523_493.out
        have hs104 : w101.cell? ⟨gb523, 1, none⟩ = some (.slice none 0 0) := (b5 BK523.out 1).trans rfl
        have hfs104 := blk_frozen BK523.out 1
        have hns104_0 := NB488_523.out
        have hns104_1 := NB489_523.out
        have hns104_2 := NB493_523.out
        have hms104_0 := NB523_488.out
        have hms104_1 := NB523_489.out
        have hms104_2 := NB523_493.out
        refine skip_ (w1 := ?_) (by rfl) rfl ?_ ?_
        rotate_left
        ·
         go_simp
         rfl
        refine hK.out _ _ ⟨((cell_far (p := ⟨gb523, _, none⟩) NB488_523.out _).trans (((cell_far (p := ⟨gb523, _, none⟩) NB488_523.out _).trans (hHeld.1)))), ((cell_far (p := ⟨gb523, _, none⟩) NB488_523.out _).trans (((cell_far (p := ⟨gb523, _, none⟩) NB488_523.out _).trans (hHeld.2.1)))), ((cell_far (p := ⟨gb523, _, none⟩) NB489_523.out _).trans (((cell_far (p := ⟨gb523, _, none⟩) NB489_523.out _).trans (hHeld.2.2.1)))), ((cell_far (p := ⟨gb523, _, none⟩) NB489_523.out _).trans (((cell_far (p := ⟨gb523, _, none⟩) NB489_523.out _).trans (hHeld.2.2.2.1)))), ((cell_far (p := ⟨gb523, _, none⟩) NB489_523.out _).trans (((cell_far (p := ⟨gb523, _, none⟩) NB489_523.out _).trans (hHeld.2.2.2.2.1)))), ((cell_far (p := ⟨gb523, _, none⟩) NB489_523.out _).trans (((cell_far (p := ⟨gb523, _, none⟩) NB489_523.out _).trans (hHeld.2.2.2.2.2))))⟩ (fun hHeld => ?_)
        clear hK K
        refine pure_ (i := 10) (N := some 16) (v := ?_) (a' := ?_) #[tt,tt,tt,tt,tt,tt,tt,tt,tt,tt,tt] rfl rfl (any_of HT_.out (by kernel_rfl)) (fun _ _ _ h => h) (Or.inl ⟨by rfl, ?_⟩) ?_ ?_
        rotate_left
        ·
         intro w'
         go_simp
         with_reducible rfl
        rotate_left
        ·
         simp only [Act.put, l1, l2, l3, i64_w, i32_w]
         rfl
        refine done_ (done_of HT_.out (by kernel_rfl)) ?_
        try go_wp2
        have n0_ : Aside0 (Kd.R k61 61 ((w101.setCell ⟨gb523, 0, none⟩ (.int .i64 t518)).setCell ⟨gb523, 1, none⟩ (.slice Ao103 t519.length co103)) w.heap.size (fun k_ => some k_ ≠ (.slice Ao95 t505.length co95 : Value).ownBlock ∧ some k_ ≠ (.slice Ao103 t519.length co103 : Value).ownBlock) (.slice Ao90 t495.length co90) t495) := ⟨by (with_reducible repeat (first | apply Kd.R_alloc | apply Kd.R_drewN | apply Kd.R_drew)); exact Kd.R_mono (Kd.R_far (p := ⟨gb523, 1, none⟩) (Kd.R_far (p := ⟨gb523, 0, none⟩) (Kd.R_types HO497.out BK523.out (by decide)) (fun _ hk => hk.2) (.int .i64 t518)) (fun _ hk => hk.2) (.slice Ao103 t519.length co103)) (fun _ hk => ⟨hk.1.1, hk.1.2⟩)⟩
        have n1_ : Aside0 (Kd.R k61 61 ((w101.setCell ⟨gb523, 0, none⟩ (.int .i64 t518)).setCell ⟨gb523, 1, none⟩ (.slice Ao103 t519.length co103)) w.heap.size (fun k_ => some k_ ≠ (.slice Ao90 t495.length co90 : Value).ownBlock ∧ some k_ ≠ (.slice Ao103 t519.length co103 : Value).ownBlock) (.slice Ao95 t505.length co95) t505) := ⟨by (with_reducible repeat (first | apply Kd.R_alloc | apply Kd.R_drewN | apply Kd.R_drew)); exact Kd.R_mono (Kd.R_far (p := ⟨gb523, 1, none⟩) (Kd.R_far (p := ⟨gb523, 0, none⟩) (Kd.R_types HO507.out BK523.out (by decide)) (fun _ hk => hk.2) (.int .i64 t518)) (fun _ hk => hk.2) (.slice Ao103 t519.length co103)) (fun _ hk => ⟨hk.1.1, hk.1.2⟩)⟩
        have n2_ : Aside0 (Kd.R k61 61 ((w101.setCell ⟨gb523, 0, none⟩ (.int .i64 t518)).setCell ⟨gb523, 1, none⟩ (.slice Ao103 t519.length co103)) w.heap.size (fun k_ => some k_ ≠ (.slice Ao90 t495.length co90 : Value).ownBlock ∧ some k_ ≠ (.slice Ao95 t505.length co95 : Value).ownBlock) (.slice Ao103 t519.length co103) t519) := ⟨by (with_reducible repeat (first | apply Kd.R_alloc | apply Kd.R_drewN | apply Kd.R_drew)); exact Kd.R_mono (Kd.R_far (p := ⟨gb523, 1, none⟩) (Kd.R_far (p := ⟨gb523, 0, none⟩) (Kd.R_types HO521.out BK523.out (by decide)) (fun _ hk => hk.2) (.int .i64 t518)) (fun _ hk => hk.2) (.slice Ao103 t519.length co103)) (fun _ hk => ⟨hk.1.1, hk.1.2⟩)⟩
        have n3_ : Aside0 (((w101.setCell ⟨gb523, 0, none⟩ (.int .i64 t518)).setCell ⟨gb523, 1, none⟩ (.slice Ao103 t519.length co103)).heap[gb488]? = some (.cells #[.int .i64 a0_0, .slice A0_1 l0_1.length c0_1] 24 (0, 0))) := ⟨by (with_reducible repeat (first | refine b1 ?_ _ | refine b2 ?_ | refine b3 ?_ _)); refine blk_far ?_ NB488_523.out _; (with_reducible repeat (first | refine b1 ?_ _ | refine b2 ?_ | refine b3 ?_ _)); refine blk_far ?_ NB488_523.out _; (with_reducible repeat (first | refine b1 ?_ _ | refine b2 ?_ | refine b3 ?_ _)); exact BK488.out⟩
        have n4_ : Aside0 (((w101.setCell ⟨gb523, 0, none⟩ (.int .i64 t518)).setCell ⟨gb523, 1, none⟩ (.slice Ao103 t519.length co103)).heap[gb489]? = some (.cells #[.int .i64 a1_0, .int .i64 a1_1, .int .i64 a1_2, .int .i64 a1_3] 64 (0, 0))) := ⟨by (with_reducible repeat (first | refine b1 ?_ _ | refine b2 ?_ | refine b3 ?_ _)); refine blk_far ?_ NB489_523.out _; (with_reducible repeat (first | refine b1 ?_ _ | refine b2 ?_ | refine b3 ?_ _)); refine blk_far ?_ NB489_523.out _; (with_reducible repeat (first | refine b1 ?_ _ | refine b2 ?_ | refine b3 ?_ _)); exact BK489.out⟩
        have n5_ : Aside0 (((w101.setCell ⟨gb523, 0, none⟩ (.int .i64 t518)).setCell ⟨gb523, 1, none⟩ (.slice Ao103 t519.length co103)).heap[gb493]? = some (.cells #[.int .i64 x494000_29, .int .i64 x494001_29, .int .i64 x494002_29, .int .i64 x494003_29] 64 (0, 0))) := ⟨by (with_reducible repeat (first | refine b1 ?_ _ | refine b2 ?_ | refine b3 ?_ _)); refine blk_far ?_ NB493_523.out _; (with_reducible repeat (first | refine b1 ?_ _ | refine b2 ?_ | refine b3 ?_ _)); refine blk_far ?_ NB493_523.out _; (with_reducible repeat (first | refine b1 ?_ _ | refine b2 ?_ | refine b3 ?_ _)); exact BK493.out⟩
        have n6_ : Aside0 (((w101.setCell ⟨gb523, 0, none⟩ (.int .i64 t518)).setCell ⟨gb523, 1, none⟩ (.slice Ao103 t519.length co103)).heap[gb523]? = some (.cells #[.int .i64 t518, .slice Ao103 t519.length co103] 31 (0, 0))) := ⟨by (with_reducible repeat (first | refine b1 ?_ _ | refine b2 ?_ | refine b3 ?_ _)); refine blk_put (cs := #[.int .i64 t518, .slice none 0 0]) ?_ 1 _ rfl; (with_reducible repeat (first | refine b1 ?_ _ | refine b2 ?_ | refine b3 ?_ _)); refine blk_put (cs := #[.int .i64 0, .slice none 0 0]) ?_ 0 _ rfl; (with_reducible repeat (first | refine b1 ?_ _ | refine b2 ?_ | refine b3 ?_ _)); exact BK523.out⟩
        have n7_ : Aside0 (Below w.heap.size w ((w101.setCell ⟨gb523, 0, none⟩ (.int .i64 t518)).setCell ⟨gb523, 1, none⟩ (.slice Ao103 t519.length co103))) := ⟨by repeat (first | (with_reducible first | exact HB.out | apply b9 | apply b7 | apply b8 | refine b4 ?_ GE488.out | refine b4 ?_ GE489.out | refine b4 ?_ GE493.out | refine b4 ?_ GE523.out) | exact HB.out)⟩
        (try clear HO497)
        (try clear HO507)
        (try clear HO521)
        (try clear BK488)
        (try clear BK489)
        (try clear BK493)
        (try clear BK523)
        (try clear HB)
        generalize ((w101.setCell ⟨gb523, 0, none⟩ (.int .i64 t518)).setCell ⟨gb523, 1, none⟩ (.slice Ao103 t519.length co103)) = w105 at n0_ n1_ n2_ n3_ n4_ n5_ n6_ n7_ ⊢
        have HO497 := n0_
        have HO507 := n1_
        have HO521 := n2_
        have BK488 := n3_
        have BK489 := n4_
        have BK493 := n5_
        have BK523 := n6_
        have HB := n7_
        clear n0_ n1_ n2_ n3_ n4_ n5_ n6_ n7_
        have n0_ := Aside0.mk (Kd.R_drew HO497.out)
        have n1_ := Aside0.mk (Kd.R_drew HO507.out)
        have n2_ := Aside0.mk (Kd.R_drew HO521.out)
        have n3_ := Aside0.mk (b2 BK488.out)
        have n4_ := Aside0.mk (b2 BK489.out)
        have n5_ := Aside0.mk (b2 BK493.out)
        have n6_ := Aside0.mk (b2 BK523.out)
        have n7_ := Aside0.mk (b8 HB.out)
        clear HO497
        clear HO507
        clear HO521
        clear BK488
        clear BK489
        clear BK493
        clear BK523
        clear HB
        have HO497 := n0_
        have HO507 := n1_
        have HO521 := n2_
        have BK488 := n3_
        have BK489 := n4_
        have BK493 := n5_
        have BK523 := n6_
        have HB := n7_
        clear n0_ n1_ n2_ n3_ n4_ n5_ n6_ n7_
        refine start_ (n := 11) (S := fun w' => w'.cell? ⟨gb488, 0, none⟩ = some (.int .i64 a0_0) ∧ w'.cell? ⟨gb488, 1, none⟩ = some (.slice A0_1 l0_1.length c0_1) ∧ w'.cell? ⟨gb493, 0, none⟩ = some (.int .i64 x494000_29) ∧ w'.cell? ⟨gb493, 1, none⟩ = some (.int .i64 x494001_29) ∧ w'.cell? ⟨gb493, 2, none⟩ = some (.int .i64 x494002_29) ∧ w'.cell? ⟨gb493, 3, none⟩ = some (.int .i64 x494003_29)) (ds := []) #[ff,ff,ff,ff,ff,ff,ff,ff,ff,ff,ff] (by kernel_rfl) rfl rfl ⟨(b5 BK488.out 0).trans rfl, (b5 BK488.out 1).trans rfl, (b5 BK493.out 0).trans rfl, (b5 BK493.out 1).trans rfl, (b5 BK493.out 2).trans rfl, (b5 BK493.out 3).trans rfl⟩ (fun hHeld => ?_); refine with_tabW tensilelaw09_PlanKinder.tab15 tensilelaw09_PlanKinder.bits15 (fun HT_ HW_ => ?_)
        generalize w105.drew = w106 at HO497 HO507 HO521 BK488 BK489 BK493 BK523 HB hHeld ⊢
        refine pure_ (i := 0) (N := some 99) (v := ?_) (a' := ?_) #[tt,ff,ff,ff,ff,ff,ff,ff,ff,ff,ff] rfl rfl (any_of HT_.out (by kernel_rfl)) (fun _ _ _ h => h) (Or.inl ⟨by rfl, ?_⟩) ?_ ?_
        rotate_left
        ·
         intro w'
         go_simp
         with_reducible rfl
        rotate_left
        ·
         simp only [Act.put, l1, l2, l3, i64_w, i32_w]
         rfl
        refine take_ (i := 1) (N := some 100) (v := ?_) (a' := ?_) #[tt,tt,ff,ff,ff,ff,ff,ff,ff,ff,ff] rfl rfl (take_ofW HT_.out HW_.out (by kernel_rfl)) (fun _ _ _ h => h) (Or.inl ⟨by rfl, ?_⟩) hHeld ?_ ?_
        rotate_left
        ·
         rintro w' ⟨s0, s1, s2, s3, s4, s5⟩
         go_simp
         with_reducible rfl
        rotate_left
        ·
         simp only [Act.put, l1, l2, l3, i64_w, i32_w]
         rfl
        refine take_ (i := 2) (N := some 101) (v := ?_) (a' := ?_) #[tt,tt,tt,ff,ff,ff,ff,ff,ff,ff,ff] rfl rfl (take_ofW HT_.out HW_.out (by kernel_rfl)) (fun _ _ _ h => h) (Or.inl ⟨by rfl, ?_⟩) hHeld ?_ ?_
        rotate_left
        ·
         rintro w' ⟨s0, s1, s2, s3, s4, s5⟩
         go_simp
         with_reducible rfl
        rotate_left
        ·
         simp only [Act.put, l1, l2, l3, i64_w, i32_w]
         rfl
        refine join_ (σ := Value × Nat) 2 #[tt,tt,tt,tt,tt,tt,tt,tt,tt,ff,ff] (fun s_ => [(102, .agg #[.int .i64 t524, .int .i64 t525, .int .i64 t526, .int .i64 t527]), (103, .tuple #[.agg #[.int .i64 t528, s_.1], .int .i64 t532]), (17, .pointer (some ⟨s_.2, 0, none⟩)), (98, .tuple #[.agg #[.int .i64 t528, s_.1], .int .i64 t532]), (104, .agg #[.int .i64 t528, s_.1]), (105, .int .i64 t532)]) (fun s_ w' => (w'.cell? ⟨gb488, 0, none⟩ = some (.int .i64 a0_0) ∧ w'.cell? ⟨gb488, 1, none⟩ = some (.slice A0_1 l0_1.length c0_1) ∧ w'.cell? ⟨gb493, 0, none⟩ = some (.int .i64 x494000_29) ∧ w'.cell? ⟨gb493, 1, none⟩ = some (.int .i64 x494001_29) ∧ w'.cell? ⟨gb493, 2, none⟩ = some (.int .i64 x494002_29) ∧ w'.cell? ⟨gb493, 3, none⟩ = some (.int .i64 x494003_29)) ∧ (Kd.R k61 61 w' w.heap.size (fun k_ => some k_ ≠ (.slice Ao95 t505.length co95 : Value).ownBlock ∧ some k_ ≠ (.slice Ao103 t519.length co103 : Value).ownBlock ∧ some k_ ≠ (s_.1 : Value).ownBlock) (.slice Ao90 t495.length co90) t495) ∧ (Kd.R k61 61 w' w.heap.size (fun k_ => some k_ ≠ (.slice Ao90 t495.length co90 : Value).ownBlock ∧ some k_ ≠ (.slice Ao103 t519.length co103 : Value).ownBlock ∧ some k_ ≠ (s_.1 : Value).ownBlock) (.slice Ao95 t505.length co95) t505) ∧ (Kd.R k61 61 w' w.heap.size (fun k_ => some k_ ≠ (.slice Ao90 t495.length co90 : Value).ownBlock ∧ some k_ ≠ (.slice Ao95 t505.length co95 : Value).ownBlock ∧ some k_ ≠ (s_.1 : Value).ownBlock) (.slice Ao103 t519.length co103) t519) ∧ (Kd.R k61 61 w' w.heap.size (fun k_ => some k_ ≠ (.slice Ao90 t495.length co90 : Value).ownBlock ∧ some k_ ≠ (.slice Ao95 t505.length co95 : Value).ownBlock ∧ some k_ ≠ (.slice Ao103 t519.length co103 : Value).ownBlock) s_.1 t529) ∧ (w'.heap[gb488]? = some (.cells #[.int .i64 a0_0, .slice A0_1 l0_1.length c0_1] 24 (0, 0))) ∧ (w'.heap[gb489]? = some (.cells #[.int .i64 a1_0, .int .i64 a1_1, .int .i64 a1_2, .int .i64 a1_3] 64 (0, 0))) ∧ (w'.heap[gb493]? = some (.cells #[.int .i64 x494000_29, .int .i64 x494001_29, .int .i64 x494002_29, .int .i64 x494003_29] 64 (0, 0))) ∧ (w'.heap[gb523]? = some (.cells #[.int .i64 t518, .slice Ao103 t519.length co103] 31 (0, 0))) ∧ (w'.heap[s_.2]? = some (.cells #[.int .i64 0, .slice none 0 0] 31 (0, 0))) ∧ (w.heap.size ≤ s_.2) ∧ (w.heap.size ≤ s_.2) ∧ (gb488 ≠ s_.2) ∧ (s_.2 ≠ gb488) ∧ (gb489 ≠ s_.2) ∧ (s_.2 ≠ gb489) ∧ (gb493 ≠ s_.2) ∧ (s_.2 ≠ gb493) ∧ (gb523 ≠ s_.2) ∧ (s_.2 ≠ gb523) ∧ (Below w.heap.size w w')) ?_ ?_
        rotate_left
        ·
         intro hCont
         refine two_ (i := 3) (j := 8) (Ni := some 102) (Nj := some 17) #[tt,tt,tt,tt,ff,ff,ff,ff,ff,ff,ff] #[tt,tt,tt,ff,ff,ff,ff,ff,tt,ff,ff] rfl rfl rfl rfl (two_of HT_.out (by kernel_rfl)) (by decide) (by decide) (fun K hK => ?_) (fun K hK => ?_)
         ·
          skip
          refine goes_ Try.func32 (by kernel_rfl) rfl #[.agg #[.int .i64 x494000_29, .int .i64 x494001_29, .int .i64 x494002_29, .int .i64 x494003_29]] (by rfl) rfl rfl (by (try simp only [List.map_toArray, List.map_cons, List.map_nil]); first | done | rfl | (simp only [List.length_drop, List.length_take]; rfl)) ?_
          with_reducible refine (tensilelaw09_Demand.calls x494000_29 x494001_29 x494002_29 x494003_29 t524 t525 t526 t527 _ A73.out).mono ?_
          rintro e w107 ⟨rfl, hb⟩
          refine ⟨_, rfl, ?_⟩
          have n0_ := Aside0.mk (Kd.R_below (by (with_reducible repeat (first | apply Kd.R_alloc | apply Kd.R_drewN | apply Kd.R_drew)); exact HO497.out) hb)
          have n1_ := Aside0.mk (Kd.R_below (by (with_reducible repeat (first | apply Kd.R_alloc | apply Kd.R_drewN | apply Kd.R_drew)); exact HO507.out) hb)
          have n2_ := Aside0.mk (Kd.R_below (by (with_reducible repeat (first | apply Kd.R_alloc | apply Kd.R_drewN | apply Kd.R_drew)); exact HO521.out) hb)
          have n3_ := Aside0.mk (b6 (g := gb488) (o := .cells #[.int .i64 a0_0, .slice A0_1 l0_1.length c0_1] 24 (0, 0)) (by (with_reducible repeat (first | refine b1 ?_ _ | refine b2 ?_ | refine b3 ?_ _)); exact BK488.out) hb)
          have n4_ := Aside0.mk (b6 (g := gb489) (o := .cells #[.int .i64 a1_0, .int .i64 a1_1, .int .i64 a1_2, .int .i64 a1_3] 64 (0, 0)) (by (with_reducible repeat (first | refine b1 ?_ _ | refine b2 ?_ | refine b3 ?_ _)); exact BK489.out) hb)
          have n5_ := Aside0.mk (b6 (g := gb493) (o := .cells #[.int .i64 x494000_29, .int .i64 x494001_29, .int .i64 x494002_29, .int .i64 x494003_29] 64 (0, 0)) (by (with_reducible repeat (first | refine b1 ?_ _ | refine b2 ?_ | refine b3 ?_ _)); exact BK493.out) hb)
          have n6_ := Aside0.mk (b6 (g := gb523) (o := .cells #[.int .i64 t518, .slice Ao103 t519.length co103] 31 (0, 0)) (by (with_reducible repeat (first | refine b1 ?_ _ | refine b2 ?_ | refine b3 ?_ _)); exact BK523.out) hb)
          have n7_ := Aside0.mk (below_step (by repeat (first | (with_reducible first | exact HB.out | apply b9 | apply b7 | apply b8 | refine b4 ?_ GE488.out | refine b4 ?_ GE489.out | refine b4 ?_ GE493.out | refine b4 ?_ GE523.out) | exact HB.out)) hb)
          clear HO497
          clear HO507
          clear HO521
          clear BK488
          clear BK489
          clear BK493
          clear BK523
          clear HB
          have HO497 := n0_
          have HO507 := n1_
          have HO521 := n2_
          have BK488 := n3_
          have BK489 := n4_
          have BK493 := n5_
          have BK523 := n6_
          have HB := n7_
          clear n0_ n1_ n2_ n3_ n4_ n5_ n6_ n7_
          (try clear hb)
          (try clear hb2)
          (try clear hk)
          (try clear hi)
          refine hK.out _ _ ⟨(b5 BK488.out 0).trans rfl, (b5 BK488.out 1).trans rfl, (b5 BK493.out 0).trans rfl, (b5 BK493.out 1).trans rfl, (b5 BK493.out 2).trans rfl, (b5 BK493.out 3).trans rfl⟩ (fun hHeld => ?_)
          clear hK K
          refine norm_ (a' := ?_) ?_ ?_
          rotate_left
          ·
           show Act.put _ (some 102) _ = _
           simp only [Act.put, l1, l2, l3, i64_w, i32_w]
           rfl
          refine two_ (i := 4) (j := 8) (Ni := some 103) (Nj := some 17) #[tt,tt,tt,tt,tt,ff,ff,ff,ff,ff,ff] #[tt,tt,tt,tt,ff,ff,ff,ff,tt,ff,ff] rfl rfl rfl rfl (two_of HT_.out (by kernel_rfl)) (by decide) (by decide) (fun K hK => ?_) (fun K hK => ?_)
          ·
           skip
           refine goes_ Try.func33 (by kernel_rfl) rfl #[.int .i64 a0_0, .agg #[.int .i64 t524, .int .i64 t525, .int .i64 t526, .int .i64 t527]] (by rfl) rfl rfl (by (try simp only [List.map_toArray, List.map_cons, List.map_nil]); first | done | rfl | (simp only [List.length_drop, List.length_take]; rfl)) ?_
           with_reducible refine (plan_Single.calls a0_0 t524 t525 t526 t527 t528 t529 t532 _ A74.out).mono ?_
           rintro e w108 ⟨v530, rfl, ho0, hb⟩
           refine ⟨_, rfl, ?_⟩
           have n0_ := Aside0.mk (Kd.R_elder' (by (with_reducible repeat (first | apply Kd.R_alloc | apply Kd.R_drewN | apply Kd.R_drew)); exact HO497.out) (Kd.R_base ho0) hb)
           have n1_ := Aside0.mk (Kd.R_elder' (by (with_reducible repeat (first | apply Kd.R_alloc | apply Kd.R_drewN | apply Kd.R_drew)); exact HO507.out) (Kd.R_base ho0) hb)
           have n2_ := Aside0.mk (Kd.R_elder' (by (with_reducible repeat (first | apply Kd.R_alloc | apply Kd.R_drewN | apply Kd.R_drew)); exact HO521.out) (Kd.R_base ho0) hb)
           have n3_ := Aside0.mk (Kd.R_lower (Kd.R_new' (Kd.R_new' (Kd.R_new' ho0 (Kd.R_lt (by (with_reducible repeat (first | apply Kd.R_alloc | apply Kd.R_drewN | apply Kd.R_drew)); exact HO497.out))) (Kd.R_lt (by (with_reducible repeat (first | apply Kd.R_alloc | apply Kd.R_drewN | apply Kd.R_drew)); exact HO507.out))) (Kd.R_lt (by (with_reducible repeat (first | apply Kd.R_alloc | apply Kd.R_drewN | apply Kd.R_drew)); exact HO521.out))) (below_size (by repeat (first | (with_reducible first | exact HB.out | apply b9 | apply b7 | apply b8 | refine b4 ?_ GE488.out | refine b4 ?_ GE489.out | refine b4 ?_ GE493.out | refine b4 ?_ GE523.out) | exact HB.out))))
           have n4_ := Aside0.mk (b6 (g := gb488) (o := .cells #[.int .i64 a0_0, .slice A0_1 l0_1.length c0_1] 24 (0, 0)) (by (with_reducible repeat (first | refine b1 ?_ _ | refine b2 ?_ | refine b3 ?_ _)); exact BK488.out) hb)
           have n5_ := Aside0.mk (b6 (g := gb489) (o := .cells #[.int .i64 a1_0, .int .i64 a1_1, .int .i64 a1_2, .int .i64 a1_3] 64 (0, 0)) (by (with_reducible repeat (first | refine b1 ?_ _ | refine b2 ?_ | refine b3 ?_ _)); exact BK489.out) hb)
           have n6_ := Aside0.mk (b6 (g := gb493) (o := .cells #[.int .i64 x494000_29, .int .i64 x494001_29, .int .i64 x494002_29, .int .i64 x494003_29] 64 (0, 0)) (by (with_reducible repeat (first | refine b1 ?_ _ | refine b2 ?_ | refine b3 ?_ _)); exact BK493.out) hb)
           have n7_ := Aside0.mk (b6 (g := gb523) (o := .cells #[.int .i64 t518, .slice Ao103 t519.length co103] 31 (0, 0)) (by (with_reducible repeat (first | refine b1 ?_ _ | refine b2 ?_ | refine b3 ?_ _)); exact BK523.out) hb)
           have n8_ := Aside0.mk (below_step (by repeat (first | (with_reducible first | exact HB.out | apply b9 | apply b7 | apply b8 | refine b4 ?_ GE488.out | refine b4 ?_ GE489.out | refine b4 ?_ GE493.out | refine b4 ?_ GE523.out) | exact HB.out)) hb)
           clear HO497
           clear HO507
           clear HO521
           clear BK488
           clear BK489
           clear BK493
           clear BK523
           clear HB
           have HO497 := n0_
           have HO507 := n1_
           have HO521 := n2_
           have HO531 := n3_
           have BK488 := n4_
           have BK489 := n5_
           have BK493 := n6_
           have BK523 := n7_
           have HB := n8_
           clear n0_ n1_ n2_ n3_ n4_ n5_ n6_ n7_ n8_
           (try clear hb)
           (try clear hb2)
           (try clear hk)
           (try clear hi)
           (try clear ho0)
           refine hK.out _ _ ⟨(b5 BK488.out 0).trans rfl, (b5 BK488.out 1).trans rfl, (b5 BK493.out 0).trans rfl, (b5 BK493.out 1).trans rfl, (b5 BK493.out 2).trans rfl, (b5 BK493.out 3).trans rfl⟩ (fun hHeld => ?_)
           clear hK K
           refine norm_ (a' := ?_) ?_ ?_
           rotate_left
           ·
            show Act.put _ (some 103) _ = _
            simp only [Act.put, l1, l2, l3, i64_w, i32_w]
            rfl
           refine pure_ (i := 5) (N := some 98) (v := ?_) (a' := ?_) #[tt,tt,tt,tt,tt,tt,ff,ff,ff,ff,ff] rfl rfl (any_of HT_.out (by kernel_rfl)) (fun _ _ _ h => h) (Or.inl ⟨by rfl, ?_⟩) ?_ ?_
           rotate_left
           ·
            intro w'
            go_simp
            with_reducible rfl
           rotate_left
           ·
            simp only [Act.put, l1, l2, l3, i64_w, i32_w]
            rfl
           refine pure_ (i := 6) (N := some 104) (v := ?_) (a' := ?_) #[tt,tt,tt,tt,tt,tt,tt,ff,ff,ff,ff] rfl rfl (any_of HT_.out (by kernel_rfl)) (fun _ _ _ h => h) (Or.inl ⟨by rfl, ?_⟩) ?_ ?_
           rotate_left
           ·
            intro w'
            go_simp
            with_reducible rfl
           rotate_left
           ·
            simp only [Act.put, l1, l2, l3, i64_w, i32_w]
            rfl
           refine pure_ (i := 7) (N := some 105) (v := ?_) (a' := ?_) #[tt,tt,tt,tt,tt,tt,tt,tt,ff,ff,ff] rfl rfl (any_of HT_.out (by kernel_rfl)) (fun _ _ _ h => h) (Or.inl ⟨by rfl, ?_⟩) ?_ ?_
           rotate_left
           ·
            intro w'
            go_simp
            with_reducible rfl
           rotate_left
           ·
            simp only [Act.put, l1, l2, l3, i64_w, i32_w]
            rfl
           refine one_ (i := 8) (N := some 17) #[tt,tt,tt,tt,tt,tt,tt,tt,tt,ff,ff] rfl rfl (one_of HT_.out (by kernel_rfl)) (by decide) (fun K hK => ?_)
           refine box_step ?hg (N := 17) ?hd (cs := #[.int .i64 0, .slice none 0 0]) (t := 31) ?hr ?_; (case hd => rfl); (case hg => rfl); (case hr => first | (go_simp; done) | (go_simp; rfl))
           intro gb533 hg w109 hbox hb
           have n0_ := Aside0.mk (Kd.R_below (by (with_reducible repeat (first | apply Kd.R_alloc | apply Kd.R_drewN | apply Kd.R_drew)); exact HO497.out) hb)
           have n1_ := Aside0.mk (Kd.R_below (by (with_reducible repeat (first | apply Kd.R_alloc | apply Kd.R_drewN | apply Kd.R_drew)); exact HO507.out) hb)
           have n2_ := Aside0.mk (Kd.R_below (by (with_reducible repeat (first | apply Kd.R_alloc | apply Kd.R_drewN | apply Kd.R_drew)); exact HO521.out) hb)
           have n3_ := Aside0.mk (Kd.R_below (by (with_reducible repeat (first | apply Kd.R_alloc | apply Kd.R_drewN | apply Kd.R_drew)); exact HO531.out) hb)
           have n4_ := Aside0.mk (b6 (g := gb488) (o := .cells #[.int .i64 a0_0, .slice A0_1 l0_1.length c0_1] 24 (0, 0)) (by (with_reducible repeat (first | refine b1 ?_ _ | refine b2 ?_ | refine b3 ?_ _)); exact BK488.out) hb)
           have n5_ := Aside0.mk (b6 (g := gb489) (o := .cells #[.int .i64 a1_0, .int .i64 a1_1, .int .i64 a1_2, .int .i64 a1_3] 64 (0, 0)) (by (with_reducible repeat (first | refine b1 ?_ _ | refine b2 ?_ | refine b3 ?_ _)); exact BK489.out) hb)
           have n6_ := Aside0.mk (b6 (g := gb493) (o := .cells #[.int .i64 x494000_29, .int .i64 x494001_29, .int .i64 x494002_29, .int .i64 x494003_29] 64 (0, 0)) (by (with_reducible repeat (first | refine b1 ?_ _ | refine b2 ?_ | refine b3 ?_ _)); exact BK493.out) hb)
           have n7_ := Aside0.mk (b6 (g := gb523) (o := .cells #[.int .i64 t518, .slice Ao103 t519.length co103] 31 (0, 0)) (by (with_reducible repeat (first | refine b1 ?_ _ | refine b2 ?_ | refine b3 ?_ _)); exact BK523.out) hb)
           have n8_ := Aside0.mk (below_step (by repeat (first | (with_reducible first | exact HB.out | apply b9 | apply b7 | apply b8 | refine b4 ?_ GE488.out | refine b4 ?_ GE489.out | refine b4 ?_ GE493.out | refine b4 ?_ GE523.out) | exact HB.out)) hb)
           have n9_ := Aside0.mk (hbox)
           have n10_ := Aside0.mk ((by rw [hg]; exact (below_size (by repeat (first | (with_reducible first | exact HB.out | apply b9 | apply b7 | apply b8 | refine b4 ?_ GE488.out | refine b4 ?_ GE489.out | refine b4 ?_ GE493.out | refine b4 ?_ GE523.out) | exact HB.out))) : w.heap.size ≤ gb533))
           have n11_ := Aside0.mk ((by rw [hg]; exact (below_size (by repeat (first | (with_reducible first | exact HB.out | apply b9 | apply b7 | apply b8 | refine b4 ?_ GE488.out | refine b4 ?_ GE489.out | refine b4 ?_ GE493.out | refine b4 ?_ GE523.out) | exact HB.out))) : w.heap.size ≤ gb533))
           have n12_ := Aside0.mk ((by rw [hg]; exact Nat.ne_of_lt (blk_lt (g := gb488) (o := .cells #[.int .i64 a0_0, .slice A0_1 l0_1.length c0_1] 24 (0, 0)) (by (with_reducible repeat (first | refine b1 ?_ _ | refine b2 ?_ | refine b3 ?_ _)); exact BK488.out)) : gb488 ≠ gb533))
           have n13_ := Aside0.mk ((by rw [hg]; exact Nat.ne_of_gt (blk_lt (g := gb488) (o := .cells #[.int .i64 a0_0, .slice A0_1 l0_1.length c0_1] 24 (0, 0)) (by (with_reducible repeat (first | refine b1 ?_ _ | refine b2 ?_ | refine b3 ?_ _)); exact BK488.out)) : gb533 ≠ gb488))
           have n14_ := Aside0.mk ((by rw [hg]; exact Nat.ne_of_lt (blk_lt (g := gb489) (o := .cells #[.int .i64 a1_0, .int .i64 a1_1, .int .i64 a1_2, .int .i64 a1_3] 64 (0, 0)) (by (with_reducible repeat (first | refine b1 ?_ _ | refine b2 ?_ | refine b3 ?_ _)); exact BK489.out)) : gb489 ≠ gb533))
           have n15_ := Aside0.mk ((by rw [hg]; exact Nat.ne_of_gt (blk_lt (g := gb489) (o := .cells #[.int .i64 a1_0, .int .i64 a1_1, .int .i64 a1_2, .int .i64 a1_3] 64 (0, 0)) (by (with_reducible repeat (first | refine b1 ?_ _ | refine b2 ?_ | refine b3 ?_ _)); exact BK489.out)) : gb533 ≠ gb489))
           have n16_ := Aside0.mk ((by rw [hg]; exact Nat.ne_of_lt (blk_lt (g := gb493) (o := .cells #[.int .i64 x494000_29, .int .i64 x494001_29, .int .i64 x494002_29, .int .i64 x494003_29] 64 (0, 0)) (by (with_reducible repeat (first | refine b1 ?_ _ | refine b2 ?_ | refine b3 ?_ _)); exact BK493.out)) : gb493 ≠ gb533))
           have n17_ := Aside0.mk ((by rw [hg]; exact Nat.ne_of_gt (blk_lt (g := gb493) (o := .cells #[.int .i64 x494000_29, .int .i64 x494001_29, .int .i64 x494002_29, .int .i64 x494003_29] 64 (0, 0)) (by (with_reducible repeat (first | refine b1 ?_ _ | refine b2 ?_ | refine b3 ?_ _)); exact BK493.out)) : gb533 ≠ gb493))
           have n18_ := Aside0.mk ((by rw [hg]; exact Nat.ne_of_lt (blk_lt (g := gb523) (o := .cells #[.int .i64 t518, .slice Ao103 t519.length co103] 31 (0, 0)) (by (with_reducible repeat (first | refine b1 ?_ _ | refine b2 ?_ | refine b3 ?_ _)); exact BK523.out)) : gb523 ≠ gb533))
           have n19_ := Aside0.mk ((by rw [hg]; exact Nat.ne_of_gt (blk_lt (g := gb523) (o := .cells #[.int .i64 t518, .slice Ao103 t519.length co103] 31 (0, 0)) (by (with_reducible repeat (first | refine b1 ?_ _ | refine b2 ?_ | refine b3 ?_ _)); exact BK523.out)) : gb533 ≠ gb523))
           clear HO497
           clear HO507
           clear HO521
           clear HO531
           clear BK488
           clear BK489
           clear BK493
           clear BK523
           clear HB
           have HO497 := n0_
           have HO507 := n1_
           have HO521 := n2_
           have HO531 := n3_
           have BK488 := n4_
           have BK489 := n5_
           have BK493 := n6_
           have BK523 := n7_
           have HB := n8_
           have BK533 := n9_
           have GW533 := n10_
           have GE533 := n11_
           have NB488_533 := n12_
           have NB533_488 := n13_
           have NB489_533 := n14_
           have NB533_489 := n15_
           have NB493_533 := n16_
           have NB533_493 := n17_
           have NB523_533 := n18_
           have NB533_523 := n19_
           clear n0_ n1_ n2_ n3_ n4_ n5_ n6_ n7_ n8_ n9_ n10_ n11_ n12_ n13_ n14_ n15_ n16_ n17_ n18_ n19_
           clear hb hbox hg
           refine hK.out _ _ ⟨(b5 BK488.out 0).trans rfl, (b5 BK488.out 1).trans rfl, (b5 BK493.out 0).trans rfl, (b5 BK493.out 1).trans rfl, (b5 BK493.out 2).trans rfl, (b5 BK493.out 3).trans rfl⟩ (fun hHeld => ?_)
           clear hK K
           refine norm_ (a' := ?_) ?_ ?_
           rotate_left
           ·
            show Act.put _ (some 17) _ = _
            simp only [Act.put, l1, l2, l3, i64_w, i32_w]
            rfl
           exact norm_ (by simp only [putAll, Act.put, l1, l2, l3]) (hCont (v530, gb533) _ ⟨hHeld, (by (with_reducible repeat (first | apply Kd.R_alloc | apply Kd.R_drewN | apply Kd.R_drew)); exact Kd.R_mono HO497.out (fun _ hk => ⟨hk.1.1, ⟨hk.1.2, hk.2⟩⟩)), (by (with_reducible repeat (first | apply Kd.R_alloc | apply Kd.R_drewN | apply Kd.R_drew)); exact Kd.R_mono HO507.out (fun _ hk => ⟨hk.1.1, ⟨hk.1.2, hk.2⟩⟩)), (by (with_reducible repeat (first | apply Kd.R_alloc | apply Kd.R_drewN | apply Kd.R_drew)); exact Kd.R_mono HO521.out (fun _ hk => ⟨hk.1.1, ⟨hk.1.2, hk.2⟩⟩)), (by (with_reducible repeat (first | apply Kd.R_alloc | apply Kd.R_drewN | apply Kd.R_drew)); exact Kd.R_mono HO531.out (fun _ hk => ⟨hk.1.1.2, ⟨hk.1.2, hk.2⟩⟩)), (by (with_reducible repeat (first | refine b1 ?_ _ | refine b2 ?_ | refine b3 ?_ _)); exact BK488.out), (by (with_reducible repeat (first | refine b1 ?_ _ | refine b2 ?_ | refine b3 ?_ _)); exact BK489.out), (by (with_reducible repeat (first | refine b1 ?_ _ | refine b2 ?_ | refine b3 ?_ _)); exact BK493.out), (by (with_reducible repeat (first | refine b1 ?_ _ | refine b2 ?_ | refine b3 ?_ _)); exact BK523.out), (by (with_reducible repeat (first | refine b1 ?_ _ | refine b2 ?_ | refine b3 ?_ _)); exact BK533.out), GW533.out, GE533.out, NB488_533.out, NB533_488.out, NB489_533.out, NB533_489.out, NB493_533.out, NB533_493.out, NB523_533.out, NB533_523.out, (by repeat (first | (with_reducible first | exact HB.out | apply b9 | apply b7 | apply b8 | refine b4 ?_ GE488.out | refine b4 ?_ GE489.out | refine b4 ?_ GE493.out | refine b4 ?_ GE523.out | refine b4 ?_ GE533.out) | exact HB.out))⟩)
          ·
           skip
           refine box_step ?hg (N := 17) ?hd (cs := #[.int .i64 0, .slice none 0 0]) (t := 31) ?hr ?_; (case hd => rfl); (case hg => rfl); (case hr => first | (go_simp; done) | (go_simp; rfl))
           intro gb533 hg w108 hbox hb
           have n0_ := Aside0.mk (Kd.R_below (by (with_reducible repeat (first | apply Kd.R_alloc | apply Kd.R_drewN | apply Kd.R_drew)); exact HO497.out) hb)
           have n1_ := Aside0.mk (Kd.R_below (by (with_reducible repeat (first | apply Kd.R_alloc | apply Kd.R_drewN | apply Kd.R_drew)); exact HO507.out) hb)
           have n2_ := Aside0.mk (Kd.R_below (by (with_reducible repeat (first | apply Kd.R_alloc | apply Kd.R_drewN | apply Kd.R_drew)); exact HO521.out) hb)
           have n3_ := Aside0.mk (b6 (g := gb488) (o := .cells #[.int .i64 a0_0, .slice A0_1 l0_1.length c0_1] 24 (0, 0)) (by (with_reducible repeat (first | refine b1 ?_ _ | refine b2 ?_ | refine b3 ?_ _)); exact BK488.out) hb)
           have n4_ := Aside0.mk (b6 (g := gb489) (o := .cells #[.int .i64 a1_0, .int .i64 a1_1, .int .i64 a1_2, .int .i64 a1_3] 64 (0, 0)) (by (with_reducible repeat (first | refine b1 ?_ _ | refine b2 ?_ | refine b3 ?_ _)); exact BK489.out) hb)
           have n5_ := Aside0.mk (b6 (g := gb493) (o := .cells #[.int .i64 x494000_29, .int .i64 x494001_29, .int .i64 x494002_29, .int .i64 x494003_29] 64 (0, 0)) (by (with_reducible repeat (first | refine b1 ?_ _ | refine b2 ?_ | refine b3 ?_ _)); exact BK493.out) hb)
           have n6_ := Aside0.mk (b6 (g := gb523) (o := .cells #[.int .i64 t518, .slice Ao103 t519.length co103] 31 (0, 0)) (by (with_reducible repeat (first | refine b1 ?_ _ | refine b2 ?_ | refine b3 ?_ _)); exact BK523.out) hb)
           have n7_ := Aside0.mk (below_step (by repeat (first | (with_reducible first | exact HB.out | apply b9 | apply b7 | apply b8 | refine b4 ?_ GE488.out | refine b4 ?_ GE489.out | refine b4 ?_ GE493.out | refine b4 ?_ GE523.out) | exact HB.out)) hb)
           have n8_ := Aside0.mk (hbox)
           have n9_ := Aside0.mk ((by rw [hg]; exact (below_size (by repeat (first | (with_reducible first | exact HB.out | apply b9 | apply b7 | apply b8 | refine b4 ?_ GE488.out | refine b4 ?_ GE489.out | refine b4 ?_ GE493.out | refine b4 ?_ GE523.out) | exact HB.out))) : w.heap.size ≤ gb533))
           have n10_ := Aside0.mk ((by rw [hg]; exact (below_size (by repeat (first | (with_reducible first | exact HB.out | apply b9 | apply b7 | apply b8 | refine b4 ?_ GE488.out | refine b4 ?_ GE489.out | refine b4 ?_ GE493.out | refine b4 ?_ GE523.out) | exact HB.out))) : w.heap.size ≤ gb533))
           have n11_ := Aside0.mk ((by rw [hg]; exact Nat.ne_of_lt (blk_lt (g := gb488) (o := .cells #[.int .i64 a0_0, .slice A0_1 l0_1.length c0_1] 24 (0, 0)) (by (with_reducible repeat (first | refine b1 ?_ _ | refine b2 ?_ | refine b3 ?_ _)); exact BK488.out)) : gb488 ≠ gb533))
           have n12_ := Aside0.mk ((by rw [hg]; exact Nat.ne_of_gt (blk_lt (g := gb488) (o := .cells #[.int .i64 a0_0, .slice A0_1 l0_1.length c0_1] 24 (0, 0)) (by (with_reducible repeat (first | refine b1 ?_ _ | refine b2 ?_ | refine b3 ?_ _)); exact BK488.out)) : gb533 ≠ gb488))
           have n13_ := Aside0.mk ((by rw [hg]; exact Nat.ne_of_lt (blk_lt (g := gb489) (o := .cells #[.int .i64 a1_0, .int .i64 a1_1, .int .i64 a1_2, .int .i64 a1_3] 64 (0, 0)) (by (with_reducible repeat (first | refine b1 ?_ _ | refine b2 ?_ | refine b3 ?_ _)); exact BK489.out)) : gb489 ≠ gb533))
           have n14_ := Aside0.mk ((by rw [hg]; exact Nat.ne_of_gt (blk_lt (g := gb489) (o := .cells #[.int .i64 a1_0, .int .i64 a1_1, .int .i64 a1_2, .int .i64 a1_3] 64 (0, 0)) (by (with_reducible repeat (first | refine b1 ?_ _ | refine b2 ?_ | refine b3 ?_ _)); exact BK489.out)) : gb533 ≠ gb489))
           have n15_ := Aside0.mk ((by rw [hg]; exact Nat.ne_of_lt (blk_lt (g := gb493) (o := .cells #[.int .i64 x494000_29, .int .i64 x494001_29, .int .i64 x494002_29, .int .i64 x494003_29] 64 (0, 0)) (by (with_reducible repeat (first | refine b1 ?_ _ | refine b2 ?_ | refine b3 ?_ _)); exact BK493.out)) : gb493 ≠ gb533))
           have n16_ := Aside0.mk ((by rw [hg]; exact Nat.ne_of_gt (blk_lt (g := gb493) (o := .cells #[.int .i64 x494000_29, .int .i64 x494001_29, .int .i64 x494002_29, .int .i64 x494003_29] 64 (0, 0)) (by (with_reducible repeat (first | refine b1 ?_ _ | refine b2 ?_ | refine b3 ?_ _)); exact BK493.out)) : gb533 ≠ gb493))
           have n17_ := Aside0.mk ((by rw [hg]; exact Nat.ne_of_lt (blk_lt (g := gb523) (o := .cells #[.int .i64 t518, .slice Ao103 t519.length co103] 31 (0, 0)) (by (with_reducible repeat (first | refine b1 ?_ _ | refine b2 ?_ | refine b3 ?_ _)); exact BK523.out)) : gb523 ≠ gb533))
           have n18_ := Aside0.mk ((by rw [hg]; exact Nat.ne_of_gt (blk_lt (g := gb523) (o := .cells #[.int .i64 t518, .slice Ao103 t519.length co103] 31 (0, 0)) (by (with_reducible repeat (first | refine b1 ?_ _ | refine b2 ?_ | refine b3 ?_ _)); exact BK523.out)) : gb533 ≠ gb523))
           clear HO497
           clear HO507
           clear HO521
           clear BK488
           clear BK489
           clear BK493
           clear BK523
           clear HB
           have HO497 := n0_
           have HO507 := n1_
           have HO521 := n2_
           have BK488 := n3_
           have BK489 := n4_
           have BK493 := n5_
           have BK523 := n6_
           have HB := n7_
           have BK533 := n8_
           have GW533 := n9_
           have GE533 := n10_
           have NB488_533 := n11_
           have NB533_488 := n12_
           have NB489_533 := n13_
           have NB533_489 := n14_
           have NB493_533 := n15_
           have NB533_493 := n16_
           have NB523_533 := n17_
           have NB533_523 := n18_
           clear n0_ n1_ n2_ n3_ n4_ n5_ n6_ n7_ n8_ n9_ n10_ n11_ n12_ n13_ n14_ n15_ n16_ n17_ n18_
           clear hb hbox hg
           refine hK.out _ _ ⟨(b5 BK488.out 0).trans rfl, (b5 BK488.out 1).trans rfl, (b5 BK493.out 0).trans rfl, (b5 BK493.out 1).trans rfl, (b5 BK493.out 2).trans rfl, (b5 BK493.out 3).trans rfl⟩ (fun hHeld => ?_)
           clear hK K
           refine norm_ (a' := ?_) ?_ ?_
           rotate_left
           ·
            show Act.put _ (some 17) _ = _
            simp only [Act.put, l1, l2, l3, i64_w, i32_w]
            rfl
           refine one_ (i := 4) (N := some 103) #[tt,tt,tt,tt,tt,ff,ff,ff,tt,ff,ff] rfl rfl (one_of HT_.out (by kernel_rfl)) (by decide) (fun K hK => ?_)
           refine goes_ Try.func33 (by kernel_rfl) rfl #[.int .i64 a0_0, .agg #[.int .i64 t524, .int .i64 t525, .int .i64 t526, .int .i64 t527]] (by rfl) rfl rfl (by (try simp only [List.map_toArray, List.map_cons, List.map_nil]); first | done | rfl | (simp only [List.length_drop, List.length_take]; rfl)) ?_
           with_reducible refine (plan_Single.calls a0_0 t524 t525 t526 t527 t528 t529 t532 _ A74.out).mono ?_
           rintro e w109 ⟨v530, rfl, ho0, hb⟩
           refine ⟨_, rfl, ?_⟩
           have n0_ := Aside0.mk (Kd.R_elder' (by (with_reducible repeat (first | apply Kd.R_alloc | apply Kd.R_drewN | apply Kd.R_drew)); exact HO497.out) (Kd.R_base ho0) hb)
           have n1_ := Aside0.mk (Kd.R_elder' (by (with_reducible repeat (first | apply Kd.R_alloc | apply Kd.R_drewN | apply Kd.R_drew)); exact HO507.out) (Kd.R_base ho0) hb)
           have n2_ := Aside0.mk (Kd.R_elder' (by (with_reducible repeat (first | apply Kd.R_alloc | apply Kd.R_drewN | apply Kd.R_drew)); exact HO521.out) (Kd.R_base ho0) hb)
           have n3_ := Aside0.mk (Kd.R_lower (Kd.R_new' (Kd.R_new' (Kd.R_new' ho0 (Kd.R_lt (by (with_reducible repeat (first | apply Kd.R_alloc | apply Kd.R_drewN | apply Kd.R_drew)); exact HO497.out))) (Kd.R_lt (by (with_reducible repeat (first | apply Kd.R_alloc | apply Kd.R_drewN | apply Kd.R_drew)); exact HO507.out))) (Kd.R_lt (by (with_reducible repeat (first | apply Kd.R_alloc | apply Kd.R_drewN | apply Kd.R_drew)); exact HO521.out))) (below_size (by repeat (first | (with_reducible first | exact HB.out | apply b9 | apply b7 | apply b8 | refine b4 ?_ GE488.out | refine b4 ?_ GE489.out | refine b4 ?_ GE493.out | refine b4 ?_ GE523.out | refine b4 ?_ GE533.out) | exact HB.out))))
           have n4_ := Aside0.mk (b6 (g := gb488) (o := .cells #[.int .i64 a0_0, .slice A0_1 l0_1.length c0_1] 24 (0, 0)) (by (with_reducible repeat (first | refine b1 ?_ _ | refine b2 ?_ | refine b3 ?_ _)); exact BK488.out) hb)
           have n5_ := Aside0.mk (b6 (g := gb489) (o := .cells #[.int .i64 a1_0, .int .i64 a1_1, .int .i64 a1_2, .int .i64 a1_3] 64 (0, 0)) (by (with_reducible repeat (first | refine b1 ?_ _ | refine b2 ?_ | refine b3 ?_ _)); exact BK489.out) hb)
           have n6_ := Aside0.mk (b6 (g := gb493) (o := .cells #[.int .i64 x494000_29, .int .i64 x494001_29, .int .i64 x494002_29, .int .i64 x494003_29] 64 (0, 0)) (by (with_reducible repeat (first | refine b1 ?_ _ | refine b2 ?_ | refine b3 ?_ _)); exact BK493.out) hb)
           have n7_ := Aside0.mk (b6 (g := gb523) (o := .cells #[.int .i64 t518, .slice Ao103 t519.length co103] 31 (0, 0)) (by (with_reducible repeat (first | refine b1 ?_ _ | refine b2 ?_ | refine b3 ?_ _)); exact BK523.out) hb)
           have n8_ := Aside0.mk (b6 (g := gb533) (o := .cells #[.int .i64 0, .slice none 0 0] 31 (0, 0)) (by (with_reducible repeat (first | refine b1 ?_ _ | refine b2 ?_ | refine b3 ?_ _)); exact BK533.out) hb)
           have n9_ := Aside0.mk (below_step (by repeat (first | (with_reducible first | exact HB.out | apply b9 | apply b7 | apply b8 | refine b4 ?_ GE488.out | refine b4 ?_ GE489.out | refine b4 ?_ GE493.out | refine b4 ?_ GE523.out | refine b4 ?_ GE533.out) | exact HB.out)) hb)
           clear HO497
           clear HO507
           clear HO521
           clear BK488
           clear BK489
           clear BK493
           clear BK523
           clear BK533
           clear HB
           have HO497 := n0_
           have HO507 := n1_
           have HO521 := n2_
           have HO531 := n3_
           have BK488 := n4_
           have BK489 := n5_
           have BK493 := n6_
           have BK523 := n7_
           have BK533 := n8_
           have HB := n9_
           clear n0_ n1_ n2_ n3_ n4_ n5_ n6_ n7_ n8_ n9_
           (try clear hb)
           (try clear hb2)
           (try clear hk)
           (try clear hi)
           (try clear ho0)
           refine hK.out _ _ ⟨(b5 BK488.out 0).trans rfl, (b5 BK488.out 1).trans rfl, (b5 BK493.out 0).trans rfl, (b5 BK493.out 1).trans rfl, (b5 BK493.out 2).trans rfl, (b5 BK493.out 3).trans rfl⟩ (fun hHeld => ?_)
           clear hK K
           refine norm_ (a' := ?_) ?_ ?_
           rotate_left
           ·
            show Act.put _ (some 103) _ = _
            simp only [Act.put, l1, l2, l3, i64_w, i32_w]
            rfl
           refine pure_ (i := 5) (N := some 98) (v := ?_) (a' := ?_) #[tt,tt,tt,tt,tt,tt,ff,ff,tt,ff,ff] rfl rfl (any_of HT_.out (by kernel_rfl)) (fun _ _ _ h => h) (Or.inl ⟨by rfl, ?_⟩) ?_ ?_
           rotate_left
           ·
            intro w'
            go_simp
            with_reducible rfl
           rotate_left
           ·
            simp only [Act.put, l1, l2, l3, i64_w, i32_w]
            rfl
           refine pure_ (i := 6) (N := some 104) (v := ?_) (a' := ?_) #[tt,tt,tt,tt,tt,tt,tt,ff,tt,ff,ff] rfl rfl (any_of HT_.out (by kernel_rfl)) (fun _ _ _ h => h) (Or.inl ⟨by rfl, ?_⟩) ?_ ?_
           rotate_left
           ·
            intro w'
            go_simp
            with_reducible rfl
           rotate_left
           ·
            simp only [Act.put, l1, l2, l3, i64_w, i32_w]
            rfl
           refine pure_ (i := 7) (N := some 105) (v := ?_) (a' := ?_) #[tt,tt,tt,tt,tt,tt,tt,tt,tt,ff,ff] rfl rfl (any_of HT_.out (by kernel_rfl)) (fun _ _ _ h => h) (Or.inl ⟨by rfl, ?_⟩) ?_ ?_
           rotate_left
           ·
            intro w'
            go_simp
            with_reducible rfl
           rotate_left
           ·
            simp only [Act.put, l1, l2, l3, i64_w, i32_w]
            rfl
           exact norm_ (by simp only [putAll, Act.put, l1, l2, l3]) (hCont (v530, gb533) _ ⟨hHeld, (by (with_reducible repeat (first | apply Kd.R_alloc | apply Kd.R_drewN | apply Kd.R_drew)); exact Kd.R_mono HO497.out (fun _ hk => ⟨hk.1.1, ⟨hk.1.2, hk.2⟩⟩)), (by (with_reducible repeat (first | apply Kd.R_alloc | apply Kd.R_drewN | apply Kd.R_drew)); exact Kd.R_mono HO507.out (fun _ hk => ⟨hk.1.1, ⟨hk.1.2, hk.2⟩⟩)), (by (with_reducible repeat (first | apply Kd.R_alloc | apply Kd.R_drewN | apply Kd.R_drew)); exact Kd.R_mono HO521.out (fun _ hk => ⟨hk.1.1, ⟨hk.1.2, hk.2⟩⟩)), (by (with_reducible repeat (first | apply Kd.R_alloc | apply Kd.R_drewN | apply Kd.R_drew)); exact Kd.R_mono HO531.out (fun _ hk => ⟨hk.1.1.2, ⟨hk.1.2, hk.2⟩⟩)), (by (with_reducible repeat (first | refine b1 ?_ _ | refine b2 ?_ | refine b3 ?_ _)); exact BK488.out), (by (with_reducible repeat (first | refine b1 ?_ _ | refine b2 ?_ | refine b3 ?_ _)); exact BK489.out), (by (with_reducible repeat (first | refine b1 ?_ _ | refine b2 ?_ | refine b3 ?_ _)); exact BK493.out), (by (with_reducible repeat (first | refine b1 ?_ _ | refine b2 ?_ | refine b3 ?_ _)); exact BK523.out), (by (with_reducible repeat (first | refine b1 ?_ _ | refine b2 ?_ | refine b3 ?_ _)); exact BK533.out), GW533.out, GE533.out, NB488_533.out, NB533_488.out, NB489_533.out, NB533_489.out, NB493_533.out, NB533_493.out, NB523_533.out, NB533_523.out, (by repeat (first | (with_reducible first | exact HB.out | apply b9 | apply b7 | apply b8 | refine b4 ?_ GE488.out | refine b4 ?_ GE489.out | refine b4 ?_ GE493.out | refine b4 ?_ GE523.out | refine b4 ?_ GE533.out) | exact HB.out))⟩)
         ·
          skip
          refine box_step ?hg (N := 17) ?hd (cs := #[.int .i64 0, .slice none 0 0]) (t := 31) ?hr ?_; (case hd => rfl); (case hg => rfl); (case hr => first | (go_simp; done) | (go_simp; rfl))
          intro gb533 hg w107 hbox hb
          have n0_ := Aside0.mk (Kd.R_below (by (with_reducible repeat (first | apply Kd.R_alloc | apply Kd.R_drewN | apply Kd.R_drew)); exact HO497.out) hb)
          have n1_ := Aside0.mk (Kd.R_below (by (with_reducible repeat (first | apply Kd.R_alloc | apply Kd.R_drewN | apply Kd.R_drew)); exact HO507.out) hb)
          have n2_ := Aside0.mk (Kd.R_below (by (with_reducible repeat (first | apply Kd.R_alloc | apply Kd.R_drewN | apply Kd.R_drew)); exact HO521.out) hb)
          have n3_ := Aside0.mk (b6 (g := gb488) (o := .cells #[.int .i64 a0_0, .slice A0_1 l0_1.length c0_1] 24 (0, 0)) (by (with_reducible repeat (first | refine b1 ?_ _ | refine b2 ?_ | refine b3 ?_ _)); exact BK488.out) hb)
          have n4_ := Aside0.mk (b6 (g := gb489) (o := .cells #[.int .i64 a1_0, .int .i64 a1_1, .int .i64 a1_2, .int .i64 a1_3] 64 (0, 0)) (by (with_reducible repeat (first | refine b1 ?_ _ | refine b2 ?_ | refine b3 ?_ _)); exact BK489.out) hb)
          have n5_ := Aside0.mk (b6 (g := gb493) (o := .cells #[.int .i64 x494000_29, .int .i64 x494001_29, .int .i64 x494002_29, .int .i64 x494003_29] 64 (0, 0)) (by (with_reducible repeat (first | refine b1 ?_ _ | refine b2 ?_ | refine b3 ?_ _)); exact BK493.out) hb)
          have n6_ := Aside0.mk (b6 (g := gb523) (o := .cells #[.int .i64 t518, .slice Ao103 t519.length co103] 31 (0, 0)) (by (with_reducible repeat (first | refine b1 ?_ _ | refine b2 ?_ | refine b3 ?_ _)); exact BK523.out) hb)
          have n7_ := Aside0.mk (below_step (by repeat (first | (with_reducible first | exact HB.out | apply b9 | apply b7 | apply b8 | refine b4 ?_ GE488.out | refine b4 ?_ GE489.out | refine b4 ?_ GE493.out | refine b4 ?_ GE523.out) | exact HB.out)) hb)
          have n8_ := Aside0.mk (hbox)
          have n9_ := Aside0.mk ((by rw [hg]; exact (below_size (by repeat (first | (with_reducible first | exact HB.out | apply b9 | apply b7 | apply b8 | refine b4 ?_ GE488.out | refine b4 ?_ GE489.out | refine b4 ?_ GE493.out | refine b4 ?_ GE523.out) | exact HB.out))) : w.heap.size ≤ gb533))
          have n10_ := Aside0.mk ((by rw [hg]; exact (below_size (by repeat (first | (with_reducible first | exact HB.out | apply b9 | apply b7 | apply b8 | refine b4 ?_ GE488.out | refine b4 ?_ GE489.out | refine b4 ?_ GE493.out | refine b4 ?_ GE523.out) | exact HB.out))) : w.heap.size ≤ gb533))
          have n11_ := Aside0.mk ((by rw [hg]; exact Nat.ne_of_lt (blk_lt (g := gb488) (o := .cells #[.int .i64 a0_0, .slice A0_1 l0_1.length c0_1] 24 (0, 0)) (by (with_reducible repeat (first | refine b1 ?_ _ | refine b2 ?_ | refine b3 ?_ _)); exact BK488.out)) : gb488 ≠ gb533))
          have n12_ := Aside0.mk ((by rw [hg]; exact Nat.ne_of_gt (blk_lt (g := gb488) (o := .cells #[.int .i64 a0_0, .slice A0_1 l0_1.length c0_1] 24 (0, 0)) (by (with_reducible repeat (first | refine b1 ?_ _ | refine b2 ?_ | refine b3 ?_ _)); exact BK488.out)) : gb533 ≠ gb488))
          have n13_ := Aside0.mk ((by rw [hg]; exact Nat.ne_of_lt (blk_lt (g := gb489) (o := .cells #[.int .i64 a1_0, .int .i64 a1_1, .int .i64 a1_2, .int .i64 a1_3] 64 (0, 0)) (by (with_reducible repeat (first | refine b1 ?_ _ | refine b2 ?_ | refine b3 ?_ _)); exact BK489.out)) : gb489 ≠ gb533))
          have n14_ := Aside0.mk ((by rw [hg]; exact Nat.ne_of_gt (blk_lt (g := gb489) (o := .cells #[.int .i64 a1_0, .int .i64 a1_1, .int .i64 a1_2, .int .i64 a1_3] 64 (0, 0)) (by (with_reducible repeat (first | refine b1 ?_ _ | refine b2 ?_ | refine b3 ?_ _)); exact BK489.out)) : gb533 ≠ gb489))
          have n15_ := Aside0.mk ((by rw [hg]; exact Nat.ne_of_lt (blk_lt (g := gb493) (o := .cells #[.int .i64 x494000_29, .int .i64 x494001_29, .int .i64 x494002_29, .int .i64 x494003_29] 64 (0, 0)) (by (with_reducible repeat (first | refine b1 ?_ _ | refine b2 ?_ | refine b3 ?_ _)); exact BK493.out)) : gb493 ≠ gb533))
          have n16_ := Aside0.mk ((by rw [hg]; exact Nat.ne_of_gt (blk_lt (g := gb493) (o := .cells #[.int .i64 x494000_29, .int .i64 x494001_29, .int .i64 x494002_29, .int .i64 x494003_29] 64 (0, 0)) (by (with_reducible repeat (first | refine b1 ?_ _ | refine b2 ?_ | refine b3 ?_ _)); exact BK493.out)) : gb533 ≠ gb493))
          have n17_ := Aside0.mk ((by rw [hg]; exact Nat.ne_of_lt (blk_lt (g := gb523) (o := .cells #[.int .i64 t518, .slice Ao103 t519.length co103] 31 (0, 0)) (by (with_reducible repeat (first | refine b1 ?_ _ | refine b2 ?_ | refine b3 ?_ _)); exact BK523.out)) : gb523 ≠ gb533))
          have n18_ := Aside0.mk ((by rw [hg]; exact Nat.ne_of_gt (blk_lt (g := gb523) (o := .cells #[.int .i64 t518, .slice Ao103 t519.length co103] 31 (0, 0)) (by (with_reducible repeat (first | refine b1 ?_ _ | refine b2 ?_ | refine b3 ?_ _)); exact BK523.out)) : gb533 ≠ gb523))
          clear HO497
          clear HO507
          clear HO521
          clear BK488
          clear BK489
          clear BK493
          clear BK523
          clear HB
          have HO497 := n0_
          have HO507 := n1_
          have HO521 := n2_
          have BK488 := n3_
          have BK489 := n4_
          have BK493 := n5_
          have BK523 := n6_
          have HB := n7_
          have BK533 := n8_
          have GW533 := n9_
          have GE533 := n10_
          have NB488_533 := n11_
          have NB533_488 := n12_
          have NB489_533 := n13_
          have NB533_489 := n14_
          have NB493_533 := n15_
          have NB533_493 := n16_
          have NB523_533 := n17_
          have NB533_523 := n18_
          clear n0_ n1_ n2_ n3_ n4_ n5_ n6_ n7_ n8_ n9_ n10_ n11_ n12_ n13_ n14_ n15_ n16_ n17_ n18_
          clear hb hbox hg
          refine hK.out _ _ ⟨(b5 BK488.out 0).trans rfl, (b5 BK488.out 1).trans rfl, (b5 BK493.out 0).trans rfl, (b5 BK493.out 1).trans rfl, (b5 BK493.out 2).trans rfl, (b5 BK493.out 3).trans rfl⟩ (fun hHeld => ?_)
          clear hK K
          refine norm_ (a' := ?_) ?_ ?_
          rotate_left
          ·
           show Act.put _ (some 17) _ = _
           simp only [Act.put, l1, l2, l3, i64_w, i32_w]
           rfl
          refine one_ (i := 3) (N := some 102) #[tt,tt,tt,tt,ff,ff,ff,ff,tt,ff,ff] rfl rfl (one_of HT_.out (by kernel_rfl)) (by decide) (fun K hK => ?_)
          refine goes_ Try.func32 (by kernel_rfl) rfl #[.agg #[.int .i64 x494000_29, .int .i64 x494001_29, .int .i64 x494002_29, .int .i64 x494003_29]] (by rfl) rfl rfl (by (try simp only [List.map_toArray, List.map_cons, List.map_nil]); first | done | rfl | (simp only [List.length_drop, List.length_take]; rfl)) ?_
          with_reducible refine (tensilelaw09_Demand.calls x494000_29 x494001_29 x494002_29 x494003_29 t524 t525 t526 t527 _ A73.out).mono ?_
          rintro e w108 ⟨rfl, hb⟩
          refine ⟨_, rfl, ?_⟩
          have n0_ := Aside0.mk (Kd.R_below (by (with_reducible repeat (first | apply Kd.R_alloc | apply Kd.R_drewN | apply Kd.R_drew)); exact HO497.out) hb)
          have n1_ := Aside0.mk (Kd.R_below (by (with_reducible repeat (first | apply Kd.R_alloc | apply Kd.R_drewN | apply Kd.R_drew)); exact HO507.out) hb)
          have n2_ := Aside0.mk (Kd.R_below (by (with_reducible repeat (first | apply Kd.R_alloc | apply Kd.R_drewN | apply Kd.R_drew)); exact HO521.out) hb)
          have n3_ := Aside0.mk (b6 (g := gb488) (o := .cells #[.int .i64 a0_0, .slice A0_1 l0_1.length c0_1] 24 (0, 0)) (by (with_reducible repeat (first | refine b1 ?_ _ | refine b2 ?_ | refine b3 ?_ _)); exact BK488.out) hb)
          have n4_ := Aside0.mk (b6 (g := gb489) (o := .cells #[.int .i64 a1_0, .int .i64 a1_1, .int .i64 a1_2, .int .i64 a1_3] 64 (0, 0)) (by (with_reducible repeat (first | refine b1 ?_ _ | refine b2 ?_ | refine b3 ?_ _)); exact BK489.out) hb)
          have n5_ := Aside0.mk (b6 (g := gb493) (o := .cells #[.int .i64 x494000_29, .int .i64 x494001_29, .int .i64 x494002_29, .int .i64 x494003_29] 64 (0, 0)) (by (with_reducible repeat (first | refine b1 ?_ _ | refine b2 ?_ | refine b3 ?_ _)); exact BK493.out) hb)
          have n6_ := Aside0.mk (b6 (g := gb523) (o := .cells #[.int .i64 t518, .slice Ao103 t519.length co103] 31 (0, 0)) (by (with_reducible repeat (first | refine b1 ?_ _ | refine b2 ?_ | refine b3 ?_ _)); exact BK523.out) hb)
          have n7_ := Aside0.mk (b6 (g := gb533) (o := .cells #[.int .i64 0, .slice none 0 0] 31 (0, 0)) (by (with_reducible repeat (first | refine b1 ?_ _ | refine b2 ?_ | refine b3 ?_ _)); exact BK533.out) hb)
          have n8_ := Aside0.mk (below_step (by repeat (first | (with_reducible first | exact HB.out | apply b9 | apply b7 | apply b8 | refine b4 ?_ GE488.out | refine b4 ?_ GE489.out | refine b4 ?_ GE493.out | refine b4 ?_ GE523.out | refine b4 ?_ GE533.out) | exact HB.out)) hb)
          clear HO497
          clear HO507
          clear HO521
          clear BK488
          clear BK489
          clear BK493
          clear BK523
          clear BK533
          clear HB
          have HO497 := n0_
          have HO507 := n1_
          have HO521 := n2_
          have BK488 := n3_
          have BK489 := n4_
          have BK493 := n5_
          have BK523 := n6_
          have BK533 := n7_
          have HB := n8_
          clear n0_ n1_ n2_ n3_ n4_ n5_ n6_ n7_ n8_
          (try clear hb)
          (try clear hb2)
          (try clear hk)
          (try clear hi)
          refine hK.out _ _ ⟨(b5 BK488.out 0).trans rfl, (b5 BK488.out 1).trans rfl, (b5 BK493.out 0).trans rfl, (b5 BK493.out 1).trans rfl, (b5 BK493.out 2).trans rfl, (b5 BK493.out 3).trans rfl⟩ (fun hHeld => ?_)
          clear hK K
          refine norm_ (a' := ?_) ?_ ?_
          rotate_left
          ·
           show Act.put _ (some 102) _ = _
           simp only [Act.put, l1, l2, l3, i64_w, i32_w]
           rfl
          refine one_ (i := 4) (N := some 103) #[tt,tt,tt,tt,tt,ff,ff,ff,tt,ff,ff] rfl rfl (one_of HT_.out (by kernel_rfl)) (by decide) (fun K hK => ?_)
          refine goes_ Try.func33 (by kernel_rfl) rfl #[.int .i64 a0_0, .agg #[.int .i64 t524, .int .i64 t525, .int .i64 t526, .int .i64 t527]] (by rfl) rfl rfl (by (try simp only [List.map_toArray, List.map_cons, List.map_nil]); first | done | rfl | (simp only [List.length_drop, List.length_take]; rfl)) ?_
          with_reducible refine (plan_Single.calls a0_0 t524 t525 t526 t527 t528 t529 t532 _ A74.out).mono ?_
          rintro e w109 ⟨v530, rfl, ho0, hb⟩
          refine ⟨_, rfl, ?_⟩
          have n0_ := Aside0.mk (Kd.R_elder' (by (with_reducible repeat (first | apply Kd.R_alloc | apply Kd.R_drewN | apply Kd.R_drew)); exact HO497.out) (Kd.R_base ho0) hb)
          have n1_ := Aside0.mk (Kd.R_elder' (by (with_reducible repeat (first | apply Kd.R_alloc | apply Kd.R_drewN | apply Kd.R_drew)); exact HO507.out) (Kd.R_base ho0) hb)
          have n2_ := Aside0.mk (Kd.R_elder' (by (with_reducible repeat (first | apply Kd.R_alloc | apply Kd.R_drewN | apply Kd.R_drew)); exact HO521.out) (Kd.R_base ho0) hb)
          have n3_ := Aside0.mk (Kd.R_lower (Kd.R_new' (Kd.R_new' (Kd.R_new' ho0 (Kd.R_lt (by (with_reducible repeat (first | apply Kd.R_alloc | apply Kd.R_drewN | apply Kd.R_drew)); exact HO497.out))) (Kd.R_lt (by (with_reducible repeat (first | apply Kd.R_alloc | apply Kd.R_drewN | apply Kd.R_drew)); exact HO507.out))) (Kd.R_lt (by (with_reducible repeat (first | apply Kd.R_alloc | apply Kd.R_drewN | apply Kd.R_drew)); exact HO521.out))) (below_size (by repeat (first | (with_reducible first | exact HB.out | apply b9 | apply b7 | apply b8 | refine b4 ?_ GE488.out | refine b4 ?_ GE489.out | refine b4 ?_ GE493.out | refine b4 ?_ GE523.out | refine b4 ?_ GE533.out) | exact HB.out))))
          have n4_ := Aside0.mk (b6 (g := gb488) (o := .cells #[.int .i64 a0_0, .slice A0_1 l0_1.length c0_1] 24 (0, 0)) (by (with_reducible repeat (first | refine b1 ?_ _ | refine b2 ?_ | refine b3 ?_ _)); exact BK488.out) hb)
          have n5_ := Aside0.mk (b6 (g := gb489) (o := .cells #[.int .i64 a1_0, .int .i64 a1_1, .int .i64 a1_2, .int .i64 a1_3] 64 (0, 0)) (by (with_reducible repeat (first | refine b1 ?_ _ | refine b2 ?_ | refine b3 ?_ _)); exact BK489.out) hb)
          have n6_ := Aside0.mk (b6 (g := gb493) (o := .cells #[.int .i64 x494000_29, .int .i64 x494001_29, .int .i64 x494002_29, .int .i64 x494003_29] 64 (0, 0)) (by (with_reducible repeat (first | refine b1 ?_ _ | refine b2 ?_ | refine b3 ?_ _)); exact BK493.out) hb)
          have n7_ := Aside0.mk (b6 (g := gb523) (o := .cells #[.int .i64 t518, .slice Ao103 t519.length co103] 31 (0, 0)) (by (with_reducible repeat (first | refine b1 ?_ _ | refine b2 ?_ | refine b3 ?_ _)); exact BK523.out) hb)
          have n8_ := Aside0.mk (b6 (g := gb533) (o := .cells #[.int .i64 0, .slice none 0 0] 31 (0, 0)) (by (with_reducible repeat (first | refine b1 ?_ _ | refine b2 ?_ | refine b3 ?_ _)); exact BK533.out) hb)
          have n9_ := Aside0.mk (below_step (by repeat (first | (with_reducible first | exact HB.out | apply b9 | apply b7 | apply b8 | refine b4 ?_ GE488.out | refine b4 ?_ GE489.out | refine b4 ?_ GE493.out | refine b4 ?_ GE523.out | refine b4 ?_ GE533.out) | exact HB.out)) hb)
          clear HO497
          clear HO507
          clear HO521
          clear BK488
          clear BK489
          clear BK493
          clear BK523
          clear BK533
          clear HB
          have HO497 := n0_
          have HO507 := n1_
          have HO521 := n2_
          have HO531 := n3_
          have BK488 := n4_
          have BK489 := n5_
          have BK493 := n6_
          have BK523 := n7_
          have BK533 := n8_
          have HB := n9_
          clear n0_ n1_ n2_ n3_ n4_ n5_ n6_ n7_ n8_ n9_
          (try clear hb)
          (try clear hb2)
          (try clear hk)
          (try clear hi)
          (try clear ho0)
          refine hK.out _ _ ⟨(b5 BK488.out 0).trans rfl, (b5 BK488.out 1).trans rfl, (b5 BK493.out 0).trans rfl, (b5 BK493.out 1).trans rfl, (b5 BK493.out 2).trans rfl, (b5 BK493.out 3).trans rfl⟩ (fun hHeld => ?_)
          clear hK K
          refine norm_ (a' := ?_) ?_ ?_
          rotate_left
          ·
           show Act.put _ (some 103) _ = _
           simp only [Act.put, l1, l2, l3, i64_w, i32_w]
           rfl
          refine pure_ (i := 5) (N := some 98) (v := ?_) (a' := ?_) #[tt,tt,tt,tt,tt,tt,ff,ff,tt,ff,ff] rfl rfl (any_of HT_.out (by kernel_rfl)) (fun _ _ _ h => h) (Or.inl ⟨by rfl, ?_⟩) ?_ ?_
          rotate_left
          ·
           intro w'
           go_simp
           with_reducible rfl
          rotate_left
          ·
           simp only [Act.put, l1, l2, l3, i64_w, i32_w]
           rfl
          refine pure_ (i := 6) (N := some 104) (v := ?_) (a' := ?_) #[tt,tt,tt,tt,tt,tt,tt,ff,tt,ff,ff] rfl rfl (any_of HT_.out (by kernel_rfl)) (fun _ _ _ h => h) (Or.inl ⟨by rfl, ?_⟩) ?_ ?_
          rotate_left
          ·
           intro w'
           go_simp
           with_reducible rfl
          rotate_left
          ·
           simp only [Act.put, l1, l2, l3, i64_w, i32_w]
           rfl
          refine pure_ (i := 7) (N := some 105) (v := ?_) (a' := ?_) #[tt,tt,tt,tt,tt,tt,tt,tt,tt,ff,ff] rfl rfl (any_of HT_.out (by kernel_rfl)) (fun _ _ _ h => h) (Or.inl ⟨by rfl, ?_⟩) ?_ ?_
          rotate_left
          ·
           intro w'
           go_simp
           with_reducible rfl
          rotate_left
          ·
           simp only [Act.put, l1, l2, l3, i64_w, i32_w]
           rfl
          exact norm_ (by simp only [putAll, Act.put, l1, l2, l3]) (hCont (v530, gb533) _ ⟨hHeld, (by (with_reducible repeat (first | apply Kd.R_alloc | apply Kd.R_drewN | apply Kd.R_drew)); exact Kd.R_mono HO497.out (fun _ hk => ⟨hk.1.1, ⟨hk.1.2, hk.2⟩⟩)), (by (with_reducible repeat (first | apply Kd.R_alloc | apply Kd.R_drewN | apply Kd.R_drew)); exact Kd.R_mono HO507.out (fun _ hk => ⟨hk.1.1, ⟨hk.1.2, hk.2⟩⟩)), (by (with_reducible repeat (first | apply Kd.R_alloc | apply Kd.R_drewN | apply Kd.R_drew)); exact Kd.R_mono HO521.out (fun _ hk => ⟨hk.1.1, ⟨hk.1.2, hk.2⟩⟩)), (by (with_reducible repeat (first | apply Kd.R_alloc | apply Kd.R_drewN | apply Kd.R_drew)); exact Kd.R_mono HO531.out (fun _ hk => ⟨hk.1.1.2, ⟨hk.1.2, hk.2⟩⟩)), (by (with_reducible repeat (first | refine b1 ?_ _ | refine b2 ?_ | refine b3 ?_ _)); exact BK488.out), (by (with_reducible repeat (first | refine b1 ?_ _ | refine b2 ?_ | refine b3 ?_ _)); exact BK489.out), (by (with_reducible repeat (first | refine b1 ?_ _ | refine b2 ?_ | refine b3 ?_ _)); exact BK493.out), (by (with_reducible repeat (first | refine b1 ?_ _ | refine b2 ?_ | refine b3 ?_ _)); exact BK523.out), (by (with_reducible repeat (first | refine b1 ?_ _ | refine b2 ?_ | refine b3 ?_ _)); exact BK533.out), GW533.out, GE533.out, NB488_533.out, NB533_488.out, NB489_533.out, NB533_489.out, NB493_533.out, NB533_493.out, NB523_533.out, NB533_523.out, (by repeat (first | (with_reducible first | exact HB.out | apply b9 | apply b7 | apply b8 | refine b4 ?_ GE488.out | refine b4 ?_ GE489.out | refine b4 ?_ GE493.out | refine b4 ?_ GE523.out | refine b4 ?_ GE533.out) | exact HB.out))⟩)
        rintro ⟨v530, gb533⟩ w110 ⟨hS_, h0_, h1_, h2_, h3_, h4_, h5_, h6_, h7_, h8_, h9_, h10_, h11_, h12_, h13_, h14_, h15_, h16_, h17_, h18_, h19_⟩
        have n0_ : Aside0 (Kd.R k61 61 w110 w.heap.size (fun k_ => some k_ ≠ (.slice Ao95 t505.length co95 : Value).ownBlock ∧ some k_ ≠ (.slice Ao103 t519.length co103 : Value).ownBlock ∧ some k_ ≠ (v530 : Value).ownBlock) (.slice Ao90 t495.length co90) t495) := ⟨h0_⟩
        have n1_ : Aside0 (Kd.R k61 61 w110 w.heap.size (fun k_ => some k_ ≠ (.slice Ao90 t495.length co90 : Value).ownBlock ∧ some k_ ≠ (.slice Ao103 t519.length co103 : Value).ownBlock ∧ some k_ ≠ (v530 : Value).ownBlock) (.slice Ao95 t505.length co95) t505) := ⟨h1_⟩
        have n2_ : Aside0 (Kd.R k61 61 w110 w.heap.size (fun k_ => some k_ ≠ (.slice Ao90 t495.length co90 : Value).ownBlock ∧ some k_ ≠ (.slice Ao95 t505.length co95 : Value).ownBlock ∧ some k_ ≠ (v530 : Value).ownBlock) (.slice Ao103 t519.length co103) t519) := ⟨h2_⟩
        have n3_ : Aside0 (Kd.R k61 61 w110 w.heap.size (fun k_ => some k_ ≠ (.slice Ao90 t495.length co90 : Value).ownBlock ∧ some k_ ≠ (.slice Ao95 t505.length co95 : Value).ownBlock ∧ some k_ ≠ (.slice Ao103 t519.length co103 : Value).ownBlock) v530 t529) := ⟨h3_⟩
        have n4_ : Aside0 (w110.heap[gb488]? = some (.cells #[.int .i64 a0_0, .slice A0_1 l0_1.length c0_1] 24 (0, 0))) := ⟨h4_⟩
        have n5_ : Aside0 (w110.heap[gb489]? = some (.cells #[.int .i64 a1_0, .int .i64 a1_1, .int .i64 a1_2, .int .i64 a1_3] 64 (0, 0))) := ⟨h5_⟩
        have n6_ : Aside0 (w110.heap[gb493]? = some (.cells #[.int .i64 x494000_29, .int .i64 x494001_29, .int .i64 x494002_29, .int .i64 x494003_29] 64 (0, 0))) := ⟨h6_⟩
        have n7_ : Aside0 (w110.heap[gb523]? = some (.cells #[.int .i64 t518, .slice Ao103 t519.length co103] 31 (0, 0))) := ⟨h7_⟩
        have n8_ : Aside0 (w110.heap[gb533]? = some (.cells #[.int .i64 0, .slice none 0 0] 31 (0, 0))) := ⟨h8_⟩
        have n9_ : Aside0 (w.heap.size ≤ gb533) := ⟨h9_⟩
        have n10_ : Aside0 (w.heap.size ≤ gb533) := ⟨h10_⟩
        have n11_ : Aside0 (gb488 ≠ gb533) := ⟨h11_⟩
        have n12_ : Aside0 (gb533 ≠ gb488) := ⟨h12_⟩
        have n13_ : Aside0 (gb489 ≠ gb533) := ⟨h13_⟩
        have n14_ : Aside0 (gb533 ≠ gb489) := ⟨h14_⟩
        have n15_ : Aside0 (gb493 ≠ gb533) := ⟨h15_⟩
        have n16_ : Aside0 (gb533 ≠ gb493) := ⟨h16_⟩
        have n17_ : Aside0 (gb523 ≠ gb533) := ⟨h17_⟩
        have n18_ : Aside0 (gb533 ≠ gb523) := ⟨h18_⟩
        have n19_ : Aside0 (Below w.heap.size w w110) := ⟨h19_⟩
        clear HO497
        clear HO507
        clear HO521
        clear BK488
        clear BK489
        clear BK493
        clear BK523
        clear HB
        clear h0_ h1_ h2_ h3_ h4_ h5_ h6_ h7_ h8_ h9_ h10_ h11_ h12_ h13_ h14_ h15_ h16_ h17_ h18_ h19_
        have HO497 := n0_
        have HO507 := n1_
        have HO521 := n2_
        have HO531 := n3_
        have BK488 := n4_
        have BK489 := n5_
        have BK493 := n6_
        have BK523 := n7_
        have BK533 := n8_
        have GW533 := n9_
        have GE533 := n10_
        have NB488_533 := n11_
        have NB533_488 := n12_
        have NB489_533 := n13_
        have NB533_489 := n14_
        have NB493_533 := n15_
        have NB533_493 := n16_
        have NB523_533 := n17_
        have NB533_523 := n18_
        have HB := n19_
        clear n0_ n1_ n2_ n3_ n4_ n5_ n6_ n7_ n8_ n9_ n10_ n11_ n12_ n13_ n14_ n15_ n16_ n17_ n18_ n19_
        have hHeld : w110.cell? ⟨gb488, 0, none⟩ = some (.int .i64 a0_0) ∧ w110.cell? ⟨gb488, 1, none⟩ = some (.slice A0_1 l0_1.length c0_1) ∧ w110.cell? ⟨gb493, 0, none⟩ = some (.int .i64 x494000_29) ∧ w110.cell? ⟨gb493, 1, none⟩ = some (.int .i64 x494001_29) ∧ w110.cell? ⟨gb493, 2, none⟩ = some (.int .i64 x494002_29) ∧ w110.cell? ⟨gb493, 3, none⟩ = some (.int .i64 x494003_29) := hS_
        obtain ⟨Ao112, co112, eo112⟩ := Kd.R_slice HO531.out
        (first | subst eo112 | (injection eo112 with f1_ f2_ f3_; have f4_ := f1_.symm; have f5_ := f3_.symm; clear f1_ f2_ f3_; subst f4_; subst f5_))
        refine norm_ (a' := ?_) ?_ ?_
        rotate_left
        ·
         simp only [putAll, Act.put, l1, l2, l3]
         rfl
        refine one_ (i := 9) (N := none) #[tt,tt,tt,tt,tt,tt,tt,tt,tt,tt,ff] rfl rfl (one_of HT_.out (by kernel_rfl)) (by decide) (fun K hK => ?_)
        have hs111 : w110.cell? ⟨gb533, 0, none⟩ = some (.int .i64 0) := (b5 BK533.out 0).trans rfl
        have hfs111 := blk_frozen BK533.out 0
        have hns111_0 := NB488_533.out
        have hns111_1 := NB489_533.out
        have hns111_2 := NB493_533.out
        have hns111_3 := NB523_533.out
        have hms111_0 := NB533_488.out
        have hms111_1 := NB533_489.out
        have hms111_2 := NB533_493.out
        have hms111_3 := NB533_523.out
        have hs113 : w110.cell? ⟨gb533, 1, none⟩ = some (.slice none 0 0) := (b5 BK533.out 1).trans rfl
        have hfs113 := blk_frozen BK533.out 1
        have hns113_0 := NB488_533.out
        have hns113_1 := NB489_533.out
        have hns113_2 := NB493_533.out
        have hns113_3 := NB523_533.out
        have hms113_0 := NB533_488.out
        have hms113_1 := NB533_489.out
        have hms113_2 := NB533_493.out
        have hms113_3 := NB533_523.out
        refine skip_ (w1 := ?_) (by rfl) rfl ?_ ?_
        rotate_left
        ·
         go_simp
         rfl
        refine hK.out _ _ ⟨((cell_far (p := ⟨gb533, _, none⟩) NB488_533.out _).trans (((cell_far (p := ⟨gb533, _, none⟩) NB488_533.out _).trans (hHeld.1)))), ((cell_far (p := ⟨gb533, _, none⟩) NB488_533.out _).trans (((cell_far (p := ⟨gb533, _, none⟩) NB488_533.out _).trans (hHeld.2.1)))), ((cell_far (p := ⟨gb533, _, none⟩) NB493_533.out _).trans (((cell_far (p := ⟨gb533, _, none⟩) NB493_533.out _).trans (hHeld.2.2.1)))), ((cell_far (p := ⟨gb533, _, none⟩) NB493_533.out _).trans (((cell_far (p := ⟨gb533, _, none⟩) NB493_533.out _).trans (hHeld.2.2.2.1)))), ((cell_far (p := ⟨gb533, _, none⟩) NB493_533.out _).trans (((cell_far (p := ⟨gb533, _, none⟩) NB493_533.out _).trans (hHeld.2.2.2.2.1)))), ((cell_far (p := ⟨gb533, _, none⟩) NB493_533.out _).trans (((cell_far (p := ⟨gb533, _, none⟩) NB493_533.out _).trans (hHeld.2.2.2.2.2))))⟩ (fun hHeld => ?_)
        clear hK K
        refine pure_ (i := 10) (N := some 18) (v := ?_) (a' := ?_) #[tt,tt,tt,tt,tt,tt,tt,tt,tt,tt,tt] rfl rfl (any_of HT_.out (by kernel_rfl)) (fun _ _ _ h => h) (Or.inl ⟨by rfl, ?_⟩) ?_ ?_
        rotate_left
        ·
         intro w'
         go_simp
         with_reducible rfl
        rotate_left
        ·
         simp only [Act.put, l1, l2, l3, i64_w, i32_w]
         rfl
        refine done_ (done_of HT_.out (by kernel_rfl)) ?_
        try go_wp2
        have n0_ : Aside0 (Kd.R k61 61 ((w110.setCell ⟨gb533, 0, none⟩ (.int .i64 t528)).setCell ⟨gb533, 1, none⟩ (.slice Ao112 t529.length co112)) w.heap.size (fun k_ => some k_ ≠ (.slice Ao95 t505.length co95 : Value).ownBlock ∧ some k_ ≠ (.slice Ao103 t519.length co103 : Value).ownBlock ∧ some k_ ≠ (.slice Ao112 t529.length co112 : Value).ownBlock) (.slice Ao90 t495.length co90) t495) := ⟨by (with_reducible repeat (first | apply Kd.R_alloc | apply Kd.R_drewN | apply Kd.R_drew)); exact Kd.R_mono (Kd.R_far (p := ⟨gb533, 1, none⟩) (Kd.R_far (p := ⟨gb533, 0, none⟩) (Kd.R_types HO497.out BK533.out (by decide)) (fun _ hk => hk.2) (.int .i64 t528)) (fun _ hk => hk.2) (.slice Ao112 t529.length co112)) (fun _ hk => ⟨hk.1.1, ⟨hk.1.2.1, hk.1.2.2⟩⟩)⟩
        have n1_ : Aside0 (Kd.R k61 61 ((w110.setCell ⟨gb533, 0, none⟩ (.int .i64 t528)).setCell ⟨gb533, 1, none⟩ (.slice Ao112 t529.length co112)) w.heap.size (fun k_ => some k_ ≠ (.slice Ao90 t495.length co90 : Value).ownBlock ∧ some k_ ≠ (.slice Ao103 t519.length co103 : Value).ownBlock ∧ some k_ ≠ (.slice Ao112 t529.length co112 : Value).ownBlock) (.slice Ao95 t505.length co95) t505) := ⟨by (with_reducible repeat (first | apply Kd.R_alloc | apply Kd.R_drewN | apply Kd.R_drew)); exact Kd.R_mono (Kd.R_far (p := ⟨gb533, 1, none⟩) (Kd.R_far (p := ⟨gb533, 0, none⟩) (Kd.R_types HO507.out BK533.out (by decide)) (fun _ hk => hk.2) (.int .i64 t528)) (fun _ hk => hk.2) (.slice Ao112 t529.length co112)) (fun _ hk => ⟨hk.1.1, ⟨hk.1.2.1, hk.1.2.2⟩⟩)⟩
        have n2_ : Aside0 (Kd.R k61 61 ((w110.setCell ⟨gb533, 0, none⟩ (.int .i64 t528)).setCell ⟨gb533, 1, none⟩ (.slice Ao112 t529.length co112)) w.heap.size (fun k_ => some k_ ≠ (.slice Ao90 t495.length co90 : Value).ownBlock ∧ some k_ ≠ (.slice Ao95 t505.length co95 : Value).ownBlock ∧ some k_ ≠ (.slice Ao112 t529.length co112 : Value).ownBlock) (.slice Ao103 t519.length co103) t519) := ⟨by (with_reducible repeat (first | apply Kd.R_alloc | apply Kd.R_drewN | apply Kd.R_drew)); exact Kd.R_mono (Kd.R_far (p := ⟨gb533, 1, none⟩) (Kd.R_far (p := ⟨gb533, 0, none⟩) (Kd.R_types HO521.out BK533.out (by decide)) (fun _ hk => hk.2) (.int .i64 t528)) (fun _ hk => hk.2) (.slice Ao112 t529.length co112)) (fun _ hk => ⟨hk.1.1, ⟨hk.1.2.1, hk.1.2.2⟩⟩)⟩
        have n3_ : Aside0 (Kd.R k61 61 ((w110.setCell ⟨gb533, 0, none⟩ (.int .i64 t528)).setCell ⟨gb533, 1, none⟩ (.slice Ao112 t529.length co112)) w.heap.size (fun k_ => some k_ ≠ (.slice Ao90 t495.length co90 : Value).ownBlock ∧ some k_ ≠ (.slice Ao95 t505.length co95 : Value).ownBlock ∧ some k_ ≠ (.slice Ao103 t519.length co103 : Value).ownBlock) (.slice Ao112 t529.length co112) t529) := ⟨by (with_reducible repeat (first | apply Kd.R_alloc | apply Kd.R_drewN | apply Kd.R_drew)); exact Kd.R_mono (Kd.R_far (p := ⟨gb533, 1, none⟩) (Kd.R_far (p := ⟨gb533, 0, none⟩) (Kd.R_types HO531.out BK533.out (by decide)) (fun _ hk => hk.2) (.int .i64 t528)) (fun _ hk => hk.2) (.slice Ao112 t529.length co112)) (fun _ hk => ⟨hk.1.1, ⟨hk.1.2.1, hk.1.2.2⟩⟩)⟩
        have n4_ : Aside0 (((w110.setCell ⟨gb533, 0, none⟩ (.int .i64 t528)).setCell ⟨gb533, 1, none⟩ (.slice Ao112 t529.length co112)).heap[gb488]? = some (.cells #[.int .i64 a0_0, .slice A0_1 l0_1.length c0_1] 24 (0, 0))) := ⟨by (with_reducible repeat (first | refine b1 ?_ _ | refine b2 ?_ | refine b3 ?_ _)); refine blk_far ?_ NB488_533.out _; (with_reducible repeat (first | refine b1 ?_ _ | refine b2 ?_ | refine b3 ?_ _)); refine blk_far ?_ NB488_533.out _; (with_reducible repeat (first | refine b1 ?_ _ | refine b2 ?_ | refine b3 ?_ _)); exact BK488.out⟩
        have n5_ : Aside0 (((w110.setCell ⟨gb533, 0, none⟩ (.int .i64 t528)).setCell ⟨gb533, 1, none⟩ (.slice Ao112 t529.length co112)).heap[gb489]? = some (.cells #[.int .i64 a1_0, .int .i64 a1_1, .int .i64 a1_2, .int .i64 a1_3] 64 (0, 0))) := ⟨by (with_reducible repeat (first | refine b1 ?_ _ | refine b2 ?_ | refine b3 ?_ _)); refine blk_far ?_ NB489_533.out _; (with_reducible repeat (first | refine b1 ?_ _ | refine b2 ?_ | refine b3 ?_ _)); refine blk_far ?_ NB489_533.out _; (with_reducible repeat (first | refine b1 ?_ _ | refine b2 ?_ | refine b3 ?_ _)); exact BK489.out⟩
        have n6_ : Aside0 (((w110.setCell ⟨gb533, 0, none⟩ (.int .i64 t528)).setCell ⟨gb533, 1, none⟩ (.slice Ao112 t529.length co112)).heap[gb493]? = some (.cells #[.int .i64 x494000_29, .int .i64 x494001_29, .int .i64 x494002_29, .int .i64 x494003_29] 64 (0, 0))) := ⟨by (with_reducible repeat (first | refine b1 ?_ _ | refine b2 ?_ | refine b3 ?_ _)); refine blk_far ?_ NB493_533.out _; (with_reducible repeat (first | refine b1 ?_ _ | refine b2 ?_ | refine b3 ?_ _)); refine blk_far ?_ NB493_533.out _; (with_reducible repeat (first | refine b1 ?_ _ | refine b2 ?_ | refine b3 ?_ _)); exact BK493.out⟩
        have n7_ : Aside0 (((w110.setCell ⟨gb533, 0, none⟩ (.int .i64 t528)).setCell ⟨gb533, 1, none⟩ (.slice Ao112 t529.length co112)).heap[gb523]? = some (.cells #[.int .i64 t518, .slice Ao103 t519.length co103] 31 (0, 0))) := ⟨by (with_reducible repeat (first | refine b1 ?_ _ | refine b2 ?_ | refine b3 ?_ _)); refine blk_far ?_ NB523_533.out _; (with_reducible repeat (first | refine b1 ?_ _ | refine b2 ?_ | refine b3 ?_ _)); refine blk_far ?_ NB523_533.out _; (with_reducible repeat (first | refine b1 ?_ _ | refine b2 ?_ | refine b3 ?_ _)); exact BK523.out⟩
        have n8_ : Aside0 (((w110.setCell ⟨gb533, 0, none⟩ (.int .i64 t528)).setCell ⟨gb533, 1, none⟩ (.slice Ao112 t529.length co112)).heap[gb533]? = some (.cells #[.int .i64 t528, .slice Ao112 t529.length co112] 31 (0, 0))) := ⟨by (with_reducible repeat (first | refine b1 ?_ _ | refine b2 ?_ | refine b3 ?_ _)); refine blk_put (cs := #[.int .i64 t528, .slice none 0 0]) ?_ 1 _ rfl; (with_reducible repeat (first | refine b1 ?_ _ | refine b2 ?_ | refine b3 ?_ _)); refine blk_put (cs := #[.int .i64 0, .slice none 0 0]) ?_ 0 _ rfl; (with_reducible repeat (first | refine b1 ?_ _ | refine b2 ?_ | refine b3 ?_ _)); exact BK533.out⟩
        have n9_ : Aside0 (Below w.heap.size w ((w110.setCell ⟨gb533, 0, none⟩ (.int .i64 t528)).setCell ⟨gb533, 1, none⟩ (.slice Ao112 t529.length co112))) := ⟨by repeat (first | (with_reducible first | exact HB.out | apply b9 | apply b7 | apply b8 | refine b4 ?_ GE488.out | refine b4 ?_ GE489.out | refine b4 ?_ GE493.out | refine b4 ?_ GE523.out | refine b4 ?_ GE533.out) | exact HB.out)⟩
        (try clear HO497)
        (try clear HO507)
        (try clear HO521)
        (try clear HO531)
        (try clear BK488)
        (try clear BK489)
        (try clear BK493)
        (try clear BK523)
        (try clear BK533)
        (try clear HB)
        generalize ((w110.setCell ⟨gb533, 0, none⟩ (.int .i64 t528)).setCell ⟨gb533, 1, none⟩ (.slice Ao112 t529.length co112)) = w114 at n0_ n1_ n2_ n3_ n4_ n5_ n6_ n7_ n8_ n9_ ⊢
        have HO497 := n0_
        have HO507 := n1_
        have HO521 := n2_
        have HO531 := n3_
        have BK488 := n4_
        have BK489 := n5_
        have BK493 := n6_
        have BK523 := n7_
        have BK533 := n8_
        have HB := n9_
        clear n0_ n1_ n2_ n3_ n4_ n5_ n6_ n7_ n8_ n9_
        have n0_ := Aside0.mk (Kd.R_drew HO497.out)
        have n1_ := Aside0.mk (Kd.R_drew HO507.out)
        have n2_ := Aside0.mk (Kd.R_drew HO521.out)
        have n3_ := Aside0.mk (Kd.R_drew HO531.out)
        have n4_ := Aside0.mk (b2 BK488.out)
        have n5_ := Aside0.mk (b2 BK489.out)
        have n6_ := Aside0.mk (b2 BK493.out)
        have n7_ := Aside0.mk (b2 BK523.out)
        have n8_ := Aside0.mk (b2 BK533.out)
        have n9_ := Aside0.mk (b8 HB.out)
        clear HO497
        clear HO507
        clear HO521
        clear HO531
        clear BK488
        clear BK489
        clear BK493
        clear BK523
        clear BK533
        clear HB
        have HO497 := n0_
        have HO507 := n1_
        have HO521 := n2_
        have HO531 := n3_
        have BK488 := n4_
        have BK489 := n5_
        have BK493 := n6_
        have BK523 := n7_
        have BK533 := n8_
        have HB := n9_
        clear n0_ n1_ n2_ n3_ n4_ n5_ n6_ n7_ n8_ n9_
        have p534 : 0 ≤ (0 : Int) := (by omega)
        have q534 : 0 < (t529.length : Int) := of_decide_eq_true (by first | (with_reducible assumption) | assumption)
        obtain ⟨ad534, e534, hx534_0, hx534_1, hx534_2⟩ := at_T61 (Kd.R_reads' HO531.out).2.2 0 p534 q534
        cases e534
        have qi534 : (0 < t529.length) = True := eq_true (by omega)
        (try rw [show ((0 : Int)).toNat = 0 from rfl] at hx534_0)
        (try rw [show 0 * 3 = 0 from rfl] at hx534_0)
        (try rw [Addr.add_zero'] at hx534_0)
        (try rw [show ((0 : Int)).toNat = 0 from rfl] at hx534_1)
        (try rw [show 0 * 3 = 0 from rfl] at hx534_1)
        (try rw [Addr.add_zero'] at hx534_1)
        (try rw [show ((0 : Int)).toNat = 0 from rfl] at hx534_2)
        (try rw [show 0 * 3 = 0 from rfl] at hx534_2)
        (try rw [Addr.add_zero'] at hx534_2)
        replace p534 := eq_true p534
        replace q534 := eq_true q534
        have p535 : 0 ≤ (0 : Int) := (by omega)
        have q535 : 0 < (t519.length : Int) := of_decide_eq_true (by first | (with_reducible assumption) | assumption)
        obtain ⟨ad535, e535, hx535_0, hx535_1, hx535_2⟩ := at_T61 (Kd.R_reads' HO521.out).2.2 0 p535 q535
        cases e535
        have qi535 : (0 < t519.length) = True := eq_true (by omega)
        (try rw [show ((0 : Int)).toNat = 0 from rfl] at hx535_0)
        (try rw [show 0 * 3 = 0 from rfl] at hx535_0)
        (try rw [Addr.add_zero'] at hx535_0)
        (try rw [show ((0 : Int)).toNat = 0 from rfl] at hx535_1)
        (try rw [show 0 * 3 = 0 from rfl] at hx535_1)
        (try rw [Addr.add_zero'] at hx535_1)
        (try rw [show ((0 : Int)).toNat = 0 from rfl] at hx535_2)
        (try rw [show 0 * 3 = 0 from rfl] at hx535_2)
        (try rw [Addr.add_zero'] at hx535_2)
        replace p535 := eq_true p535
        replace q535 := eq_true q535
        cases t502 with
        | true =>
         obtain rfl : true = t512 := (hab rfl).symm
         refine start_ (n := 50) (S := fun w' => w'.cell? ⟨gb523, 0, none⟩ = some (.int .i64 t518) ∧ w'.cell? ⟨gb523, 1, none⟩ = some (.slice (some ad535) t519.length co103) ∧ w'.cell? ⟨gb533, 0, none⟩ = some (.int .i64 t528) ∧ w'.cell? ⟨gb533, 1, none⟩ = some (.slice (some ad534) t529.length co112) ∧ w'.cell? ad534 = some (.int .i64 ((rd_T61 t529 0).f0)) ∧ w'.cell? ⟨ad534.block, ad534.off + 1, none⟩ = some (.int .i64 ((rd_T61 t529 0).f1)) ∧ w'.cell? ⟨ad534.block, ad534.off + 2, none⟩ = some (.int .i64 ((rd_T61 t529 0).f2)) ∧ w'.cell? ad535 = some (.int .i64 ((rd_T61 t519 0).f0)) ∧ w'.cell? ⟨ad535.block, ad535.off + 1, none⟩ = some (.int .i64 ((rd_T61 t519 0).f1)) ∧ w'.cell? ⟨ad535.block, ad535.off + 2, none⟩ = some (.int .i64 ((rd_T61 t519 0).f2))) (ds := []) #[ff,ff,ff,ff,ff,ff,ff,ff,ff,ff,ff,ff,ff,ff,ff,ff,ff,ff,ff,ff,ff,ff,ff,ff,ff,ff,ff,ff,ff,ff,ff,ff,ff,ff,ff,ff,ff,ff,ff,ff,ff,ff,ff,ff,ff,ff,ff,ff,ff,ff] (by kernel_rfl) rfl rfl ⟨(b5 BK523.out 0).trans rfl, (b5 BK523.out 1).trans rfl, (b5 BK533.out 0).trans rfl, (b5 BK533.out 1).trans rfl, hx534_0, hx534_1, hx534_2, hx535_0, hx535_1, hx535_2⟩ (fun hHeld => ?_); refine with_tabW tensilelaw09_PlanKinder.tab16 tensilelaw09_PlanKinder.bits16 (fun HT_ HW_ => ?_)
         generalize w114.drew = w115 at HO497 HO507 HO521 HO531 BK488 BK489 BK493 BK523 BK533 HB hx534_0 hx534_1 hx534_2 hx535_0 hx535_1 hx535_2 hHeld ⊢
         refine pure_ (i := 0) (N := some 106) (v := ?_) (a' := ?_) #[tt,ff,ff,ff,ff,ff,ff,ff,ff,ff,ff,ff,ff,ff,ff,ff,ff,ff,ff,ff,ff,ff,ff,ff,ff,ff,ff,ff,ff,ff,ff,ff,ff,ff,ff,ff,ff,ff,ff,ff,ff,ff,ff,ff,ff,ff,ff,ff,ff,ff] rfl rfl (any_of HT_.out (by kernel_rfl)) (fun _ _ _ h => h) (Or.inl ⟨by rfl, ?_⟩) ?_ ?_
         rotate_left
         ·
          intro w'
          go_simp
          with_reducible rfl
         rotate_left
         ·
          simp only [Act.put, l1, l2, l3, i64_w, i32_w]
          rfl
         refine pure_ (i := 1) (N := some 107) (v := ?_) (a' := ?_) #[tt,tt,ff,ff,ff,ff,ff,ff,ff,ff,ff,ff,ff,ff,ff,ff,ff,ff,ff,ff,ff,ff,ff,ff,ff,ff,ff,ff,ff,ff,ff,ff,ff,ff,ff,ff,ff,ff,ff,ff,ff,ff,ff,ff,ff,ff,ff,ff,ff,ff] rfl rfl (any_of HT_.out (by kernel_rfl)) (fun _ _ _ h => h) (Or.inl ⟨by rfl, ?_⟩) ?_ ?_
         rotate_left
         ·
          intro w'
          go_simp
          with_reducible rfl
         rotate_left
         ·
          simp only [Act.put, l1, l2, l3, i64_w, i32_w]
          rfl
         refine pure_ (i := 2) (N := some 108) (v := ?_) (a' := ?_) #[tt,tt,tt,ff,ff,ff,ff,ff,ff,ff,ff,ff,ff,ff,ff,ff,ff,ff,ff,ff,ff,ff,ff,ff,ff,ff,ff,ff,ff,ff,ff,ff,ff,ff,ff,ff,ff,ff,ff,ff,ff,ff,ff,ff,ff,ff,ff,ff,ff,ff] rfl rfl (any_of HT_.out (by kernel_rfl)) (fun _ _ _ h => h) (Or.inl ⟨by rfl, ?_⟩) ?_ ?_
         rotate_left
         ·
          intro w'
          go_simp
          with_reducible rfl
         rotate_left
         ·
          simp only [Act.put, l1, l2, l3, i64_w, i32_w]
          rfl
         refine pure_ (i := 3) (N := some 109) (v := ?_) (a' := ?_) #[tt,tt,tt,tt,ff,ff,ff,ff,ff,ff,ff,ff,ff,ff,ff,ff,ff,ff,ff,ff,ff,ff,ff,ff,ff,ff,ff,ff,ff,ff,ff,ff,ff,ff,ff,ff,ff,ff,ff,ff,ff,ff,ff,ff,ff,ff,ff,ff,ff,ff] rfl rfl (any_of HT_.out (by kernel_rfl)) (fun _ _ _ h => h) (Or.inl ⟨by rfl, ?_⟩) ?_ ?_
         rotate_left
         ·
          intro w'
          go_simp
          with_reducible rfl
         rotate_left
         ·
          simp only [Act.put, l1, l2, l3, i64_w, i32_w]
          rfl
         refine pure_ (i := 4) (N := some 110) (v := ?_) (a' := ?_) #[tt,tt,tt,tt,tt,ff,ff,ff,ff,ff,ff,ff,ff,ff,ff,ff,ff,ff,ff,ff,ff,ff,ff,ff,ff,ff,ff,ff,ff,ff,ff,ff,ff,ff,ff,ff,ff,ff,ff,ff,ff,ff,ff,ff,ff,ff,ff,ff,ff,ff] rfl rfl (any_of HT_.out (by kernel_rfl)) (fun _ _ _ h => h) (Or.inl ⟨by rfl, ?_⟩) ?_ ?_
         rotate_left
         ·
          intro w'
          go_simp
          with_reducible rfl
         rotate_left
         ·
          simp only [Act.put, l1, l2, l3, i64_w, i32_w]
          rfl
         refine pure_ (i := 5) (N := some 111) (v := ?_) (a' := ?_) #[tt,tt,tt,tt,tt,tt,ff,ff,ff,ff,ff,ff,ff,ff,ff,ff,ff,ff,ff,ff,ff,ff,ff,ff,ff,ff,ff,ff,ff,ff,ff,ff,ff,ff,ff,ff,ff,ff,ff,ff,ff,ff,ff,ff,ff,ff,ff,ff,ff,ff] rfl rfl (any_of HT_.out (by kernel_rfl)) (fun _ _ _ h => h) (Or.inl ⟨by rfl, ?_⟩) ?_ ?_
         rotate_left
         ·
          intro w'
          go_simp
          with_reducible rfl
         rotate_left
         ·
          simp only [Act.put, l1, l2, l3, i64_w, i32_w]
          rfl
         refine pure_ (i := 6) (N := some 112) (v := ?_) (a' := ?_) #[tt,tt,tt,tt,tt,tt,tt,ff,ff,ff,ff,ff,ff,ff,ff,ff,ff,ff,ff,ff,ff,ff,ff,ff,ff,ff,ff,ff,ff,ff,ff,ff,ff,ff,ff,ff,ff,ff,ff,ff,ff,ff,ff,ff,ff,ff,ff,ff,ff,ff] rfl rfl (any_of HT_.out (by kernel_rfl)) (fun _ _ _ h => h) (Or.inl ⟨by rfl, ?_⟩) ?_ ?_
         rotate_left
         ·
          intro w'
          go_simp
          with_reducible rfl
         rotate_left
         ·
          simp only [Act.put, l1, l2, l3, i64_w, i32_w]
          rfl
         refine pure_ (i := 7) (N := some 113) (v := ?_) (a' := ?_) #[tt,tt,tt,tt,tt,tt,tt,tt,ff,ff,ff,ff,ff,ff,ff,ff,ff,ff,ff,ff,ff,ff,ff,ff,ff,ff,ff,ff,ff,ff,ff,ff,ff,ff,ff,ff,ff,ff,ff,ff,ff,ff,ff,ff,ff,ff,ff,ff,ff,ff] rfl rfl (any_of HT_.out (by kernel_rfl)) (fun _ _ _ h => h) (Or.inl ⟨by rfl, ?_⟩) ?_ ?_
         rotate_left
         ·
          intro w'
          go_simp
          with_reducible rfl
         rotate_left
         ·
          simp only [Act.put, l1, l2, l3, i64_w, i32_w]
          rfl
         refine pure_ (i := 8) (N := some 114) (v := ?_) (a' := ?_) #[tt,tt,tt,tt,tt,tt,tt,tt,tt,ff,ff,ff,ff,ff,ff,ff,ff,ff,ff,ff,ff,ff,ff,ff,ff,ff,ff,ff,ff,ff,ff,ff,ff,ff,ff,ff,ff,ff,ff,ff,ff,ff,ff,ff,ff,ff,ff,ff,ff,ff] rfl rfl (any_of HT_.out (by kernel_rfl)) (fun _ _ _ h => h) (Or.inl ⟨by rfl, ?_⟩) ?_ ?_
         rotate_left
         ·
          intro w'
          go_simp
          with_reducible rfl
         rotate_left
         ·
          simp only [Act.put, l1, l2, l3, i64_w, i32_w]
          rfl
         refine pure_ (i := 9) (N := some 115) (v := ?_) (a' := ?_) #[tt,tt,tt,tt,tt,tt,tt,tt,tt,tt,ff,ff,ff,ff,ff,ff,ff,ff,ff,ff,ff,ff,ff,ff,ff,ff,ff,ff,ff,ff,ff,ff,ff,ff,ff,ff,ff,ff,ff,ff,ff,ff,ff,ff,ff,ff,ff,ff,ff,ff] rfl rfl (any_of HT_.out (by kernel_rfl)) (fun _ _ _ h => h) (Or.inl ⟨by rfl, ?_⟩) ?_ ?_
         rotate_left
         ·
          intro w'
          go_simp
          with_reducible rfl
         rotate_left
         ·
          simp only [Act.put, l1, l2, l3, i64_w, i32_w]
          rfl
         refine pure_ (i := 10) (N := some 116) (v := ?_) (a' := ?_) #[tt,tt,tt,tt,tt,tt,tt,tt,tt,tt,tt,ff,ff,ff,ff,ff,ff,ff,ff,ff,ff,ff,ff,ff,ff,ff,ff,ff,ff,ff,ff,ff,ff,ff,ff,ff,ff,ff,ff,ff,ff,ff,ff,ff,ff,ff,ff,ff,ff,ff] rfl rfl (any_of HT_.out (by kernel_rfl)) (fun _ _ _ h => h) (Or.inl ⟨by rfl, ?_⟩) ?_ ?_
         rotate_left
         ·
          intro w'
          go_simp
          with_reducible rfl
         rotate_left
         ·
          simp only [Act.put, l1, l2, l3, i64_w, i32_w]
          rfl
         refine pure_ (i := 11) (N := some 117) (v := ?_) (a' := ?_) #[tt,tt,tt,tt,tt,tt,tt,tt,tt,tt,tt,tt,ff,ff,ff,ff,ff,ff,ff,ff,ff,ff,ff,ff,ff,ff,ff,ff,ff,ff,ff,ff,ff,ff,ff,ff,ff,ff,ff,ff,ff,ff,ff,ff,ff,ff,ff,ff,ff,ff] rfl rfl (any_of HT_.out (by kernel_rfl)) (fun _ _ _ h => h) (Or.inl ⟨by rfl, ?_⟩) ?_ ?_
         rotate_left
         ·
          intro w'
          go_simp
          with_reducible rfl
         rotate_left
         ·
          simp only [Act.put, l1, l2, l3, i64_w, i32_w]
          rfl
         refine pure_ (i := 12) (N := some 118) (v := ?_) (a' := ?_) #[tt,tt,tt,tt,tt,tt,tt,tt,tt,tt,tt,tt,tt,ff,ff,ff,ff,ff,ff,ff,ff,ff,ff,ff,ff,ff,ff,ff,ff,ff,ff,ff,ff,ff,ff,ff,ff,ff,ff,ff,ff,ff,ff,ff,ff,ff,ff,ff,ff,ff] rfl rfl (any_of HT_.out (by kernel_rfl)) (fun _ _ _ h => h) (Or.inl ⟨by rfl, ?_⟩) ?_ ?_
         rotate_left
         ·
          intro w'
          go_simp
          with_reducible rfl
         rotate_left
         ·
          simp only [Act.put, l1, l2, l3, i64_w, i32_w]
          rfl
         refine pure_ (i := 13) (N := some 119) (v := ?_) (a' := ?_) #[tt,tt,tt,tt,tt,tt,tt,tt,tt,tt,tt,tt,tt,tt,ff,ff,ff,ff,ff,ff,ff,ff,ff,ff,ff,ff,ff,ff,ff,ff,ff,ff,ff,ff,ff,ff,ff,ff,ff,ff,ff,ff,ff,ff,ff,ff,ff,ff,ff,ff] rfl rfl (any_of HT_.out (by kernel_rfl)) (fun _ _ _ h => h) (Or.inl ⟨by rfl, ?_⟩) ?_ ?_
         rotate_left
         ·
          intro w'
          go_simp
          with_reducible rfl
         rotate_left
         ·
          simp only [Act.put, l1, l2, l3, i64_w, i32_w]
          rfl
         refine pure_ (i := 14) (N := some 120) (v := ?_) (a' := ?_) #[tt,tt,tt,tt,tt,tt,tt,tt,tt,tt,tt,tt,tt,tt,tt,ff,ff,ff,ff,ff,ff,ff,ff,ff,ff,ff,ff,ff,ff,ff,ff,ff,ff,ff,ff,ff,ff,ff,ff,ff,ff,ff,ff,ff,ff,ff,ff,ff,ff,ff] rfl rfl (any_of HT_.out (by kernel_rfl)) (fun _ _ _ h => h) (Or.inl ⟨by rfl, ?_⟩) ?_ ?_
         rotate_left
         ·
          intro w'
          go_simp
          with_reducible rfl
         rotate_left
         ·
          simp only [Act.put, l1, l2, l3, i64_w, i32_w]
          rfl
         refine pure_ (i := 15) (N := some 121) (v := ?_) (a' := ?_) #[tt,tt,tt,tt,tt,tt,tt,tt,tt,tt,tt,tt,tt,tt,tt,tt,ff,ff,ff,ff,ff,ff,ff,ff,ff,ff,ff,ff,ff,ff,ff,ff,ff,ff,ff,ff,ff,ff,ff,ff,ff,ff,ff,ff,ff,ff,ff,ff,ff,ff] rfl rfl (any_of HT_.out (by kernel_rfl)) (fun _ _ _ h => h) (Or.inl ⟨by rfl, ?_⟩) ?_ ?_
         rotate_left
         ·
          intro w'
          go_simp
          with_reducible rfl
         rotate_left
         ·
          simp only [Act.put, l1, l2, l3, i64_w, i32_w]
          rfl
         refine pure_ (i := 16) (N := some 122) (v := ?_) (a' := ?_) #[tt,tt,tt,tt,tt,tt,tt,tt,tt,tt,tt,tt,tt,tt,tt,tt,tt,ff,ff,ff,ff,ff,ff,ff,ff,ff,ff,ff,ff,ff,ff,ff,ff,ff,ff,ff,ff,ff,ff,ff,ff,ff,ff,ff,ff,ff,ff,ff,ff,ff] rfl rfl (any_of HT_.out (by kernel_rfl)) (fun _ _ _ h => h) (Or.inl ⟨by rfl, ?_⟩) ?_ ?_
         rotate_left
         ·
          intro w'
          go_simp
          with_reducible rfl
         rotate_left
         ·
          simp only [Act.put, l1, l2, l3, i64_w, i32_w]
          rfl
         refine pure_ (i := 17) (N := some 123) (v := ?_) (a' := ?_) #[tt,tt,tt,tt,tt,tt,tt,tt,tt,tt,tt,tt,tt,tt,tt,tt,tt,tt,ff,ff,ff,ff,ff,ff,ff,ff,ff,ff,ff,ff,ff,ff,ff,ff,ff,ff,ff,ff,ff,ff,ff,ff,ff,ff,ff,ff,ff,ff,ff,ff] rfl rfl (any_of HT_.out (by kernel_rfl)) (fun _ _ _ h => h) (Or.inl ⟨by rfl, ?_⟩) ?_ ?_
         rotate_left
         ·
          intro w'
          go_simp
          with_reducible rfl
         rotate_left
         ·
          simp only [Act.put, l1, l2, l3, i64_w, i32_w]
          rfl
         refine pure_ (i := 18) (N := some 124) (v := ?_) (a' := ?_) #[tt,tt,tt,tt,tt,tt,tt,tt,tt,tt,tt,tt,tt,tt,tt,tt,tt,tt,tt,ff,ff,ff,ff,ff,ff,ff,ff,ff,ff,ff,ff,ff,ff,ff,ff,ff,ff,ff,ff,ff,ff,ff,ff,ff,ff,ff,ff,ff,ff,ff] rfl rfl (any_of HT_.out (by kernel_rfl)) (fun _ _ _ h => h) (Or.inl ⟨by rfl, ?_⟩) ?_ ?_
         rotate_left
         ·
          intro w'
          go_simp
          with_reducible rfl
         rotate_left
         ·
          simp only [Act.put, l1, l2, l3, i64_w, i32_w]
          rfl
         refine pure_ (i := 19) (N := some 125) (v := ?_) (a' := ?_) #[tt,tt,tt,tt,tt,tt,tt,tt,tt,tt,tt,tt,tt,tt,tt,tt,tt,tt,tt,tt,ff,ff,ff,ff,ff,ff,ff,ff,ff,ff,ff,ff,ff,ff,ff,ff,ff,ff,ff,ff,ff,ff,ff,ff,ff,ff,ff,ff,ff,ff] rfl rfl (any_of HT_.out (by kernel_rfl)) (fun _ _ _ h => h) (Or.inl ⟨by rfl, ?_⟩) ?_ ?_
         rotate_left
         ·
          intro w'
          go_simp
          with_reducible rfl
         rotate_left
         ·
          simp only [Act.put, l1, l2, l3, i64_w, i32_w]
          rfl
         refine pure_ (i := 20) (N := some 126) (v := ?_) (a' := ?_) #[tt,tt,tt,tt,tt,tt,tt,tt,tt,tt,tt,tt,tt,tt,tt,tt,tt,tt,tt,tt,tt,ff,ff,ff,ff,ff,ff,ff,ff,ff,ff,ff,ff,ff,ff,ff,ff,ff,ff,ff,ff,ff,ff,ff,ff,ff,ff,ff,ff,ff] rfl rfl (any_of HT_.out (by kernel_rfl)) (fun _ _ _ h => h) (Or.inl ⟨by rfl, ?_⟩) ?_ ?_
         rotate_left
         ·
          intro w'
          go_simp
          with_reducible rfl
         rotate_left
         ·
          simp only [Act.put, l1, l2, l3, i64_w, i32_w]
          rfl
         refine pure_ (i := 21) (N := some 127) (v := ?_) (a' := ?_) #[tt,tt,tt,tt,tt,tt,tt,tt,tt,tt,tt,tt,tt,tt,tt,tt,tt,tt,tt,tt,tt,tt,ff,ff,ff,ff,ff,ff,ff,ff,ff,ff,ff,ff,ff,ff,ff,ff,ff,ff,ff,ff,ff,ff,ff,ff,ff,ff,ff,ff] rfl rfl (any_of HT_.out (by kernel_rfl)) (fun _ _ _ h => h) (Or.inl ⟨by rfl, ?_⟩) ?_ ?_
         rotate_left
         ·
          intro w'
          go_simp
          with_reducible rfl
         rotate_left
         ·
          simp only [Act.put, l1, l2, l3, i64_w, i32_w]
          rfl
         refine pure_ (i := 22) (N := some 128) (v := ?_) (a' := ?_) #[tt,tt,tt,tt,tt,tt,tt,tt,tt,tt,tt,tt,tt,tt,tt,tt,tt,tt,tt,tt,tt,tt,tt,ff,ff,ff,ff,ff,ff,ff,ff,ff,ff,ff,ff,ff,ff,ff,ff,ff,ff,ff,ff,ff,ff,ff,ff,ff,ff,ff] rfl rfl (any_of HT_.out (by kernel_rfl)) (fun _ _ _ h => h) (Or.inl ⟨by rfl, ?_⟩) ?_ ?_
         rotate_left
         ·
          intro w'
          go_simp
          with_reducible rfl
         rotate_left
         ·
          simp only [Act.put, l1, l2, l3, i64_w, i32_w]
          rfl
         refine take_ (i := 23) (N := some 129) (v := ?_) (a' := ?_) #[tt,tt,tt,tt,tt,tt,tt,tt,tt,tt,tt,tt,tt,tt,tt,tt,tt,tt,tt,tt,tt,tt,tt,tt,ff,ff,ff,ff,ff,ff,ff,ff,ff,ff,ff,ff,ff,ff,ff,ff,ff,ff,ff,ff,ff,ff,ff,ff,ff,ff] rfl rfl (take_ofW HT_.out HW_.out (by kernel_rfl)) (fun _ _ _ h => h) (Or.inl ⟨by rfl, ?_⟩) hHeld ?_ ?_
         rotate_left
         ·
          rintro w' ⟨s0, s1, s2, s3, s4, s5, s6, s7, s8, s9⟩
          go_simp
          with_reducible rfl
         rotate_left
         ·
          simp only [Act.put, l1, l2, l3, i64_w, i32_w]
          rfl
         refine pure_ (i := 24) (N := some 130) (v := ?_) (a' := ?_) #[tt,tt,tt,tt,tt,tt,tt,tt,tt,tt,tt,tt,tt,tt,tt,tt,tt,tt,tt,tt,tt,tt,tt,tt,tt,ff,ff,ff,ff,ff,ff,ff,ff,ff,ff,ff,ff,ff,ff,ff,ff,ff,ff,ff,ff,ff,ff,ff,ff,ff] rfl rfl (any_of HT_.out (by kernel_rfl)) (fun _ _ _ h => h) (Or.inl ⟨by rfl, ?_⟩) ?_ ?_
         rotate_left
         ·
          intro w'
          go_simp
          with_reducible rfl
         rotate_left
         ·
          simp only [Act.put, l1, l2, l3, i64_w, i32_w]
          rfl
         refine pure_ (i := 25) (N := some 131) (v := ?_) (a' := ?_) #[tt,tt,tt,tt,tt,tt,tt,tt,tt,tt,tt,tt,tt,tt,tt,tt,tt,tt,tt,tt,tt,tt,tt,tt,tt,tt,ff,ff,ff,ff,ff,ff,ff,ff,ff,ff,ff,ff,ff,ff,ff,ff,ff,ff,ff,ff,ff,ff,ff,ff] rfl rfl (any_of HT_.out (by kernel_rfl)) (fun _ _ _ h => h) (Or.inl ⟨by rfl, ?_⟩) ?_ ?_
         rotate_left
         ·
          intro w'
          go_simp
          with_reducible rfl
         rotate_left
         ·
          simp only [Act.put, l1, l2, l3, i64_w, i32_w]
          rfl
         refine pure_ (i := 26) (N := some 132) (v := ?_) (a' := ?_) #[tt,tt,tt,tt,tt,tt,tt,tt,tt,tt,tt,tt,tt,tt,tt,tt,tt,tt,tt,tt,tt,tt,tt,tt,tt,tt,tt,ff,ff,ff,ff,ff,ff,ff,ff,ff,ff,ff,ff,ff,ff,ff,ff,ff,ff,ff,ff,ff,ff,ff] rfl rfl (any_of HT_.out (by kernel_rfl)) (fun _ _ _ h => h) (Or.inl ⟨by rfl, ?_⟩) ?_ ?_
         rotate_left
         ·
          intro w'
          go_simp
          with_reducible rfl
         rotate_left
         ·
          simp only [Act.put, l1, l2, l3, i64_w, i32_w]
          rfl
         refine pure_ (i := 27) (N := some 133) (v := ?_) (a' := ?_) #[tt,tt,tt,tt,tt,tt,tt,tt,tt,tt,tt,tt,tt,tt,tt,tt,tt,tt,tt,tt,tt,tt,tt,tt,tt,tt,tt,tt,ff,ff,ff,ff,ff,ff,ff,ff,ff,ff,ff,ff,ff,ff,ff,ff,ff,ff,ff,ff,ff,ff] rfl rfl (any_of HT_.out (by kernel_rfl)) (fun _ _ _ h => h) (Or.inl ⟨by rfl, ?_⟩) ?_ ?_
         rotate_left
         ·
          intro w'
          go_simp
          with_reducible rfl
         rotate_left
         ·
          simp only [Act.put, l1, l2, l3, i64_w, i32_w]
          rfl
         refine pure_ (i := 28) (N := some 134) (v := ?_) (a' := ?_) #[tt,tt,tt,tt,tt,tt,tt,tt,tt,tt,tt,tt,tt,tt,tt,tt,tt,tt,tt,tt,tt,tt,tt,tt,tt,tt,tt,tt,tt,ff,ff,ff,ff,ff,ff,ff,ff,ff,ff,ff,ff,ff,ff,ff,ff,ff,ff,ff,ff,ff] rfl rfl (any_of HT_.out (by kernel_rfl)) (fun _ _ _ h => h) (Or.inl ⟨by rfl, ?_⟩) ?_ ?_
         rotate_left
         ·
          intro w'
          go_simp
          with_reducible rfl
         rotate_left
         ·
          simp only [Act.put, l1, l2, l3, i64_w, i32_w]
          rfl
         refine take_ (i := 29) (N := some 135) (v := ?_) (a' := ?_) #[tt,tt,tt,tt,tt,tt,tt,tt,tt,tt,tt,tt,tt,tt,tt,tt,tt,tt,tt,tt,tt,tt,tt,tt,tt,tt,tt,tt,tt,tt,ff,ff,ff,ff,ff,ff,ff,ff,ff,ff,ff,ff,ff,ff,ff,ff,ff,ff,ff,ff] rfl rfl (take_ofW HT_.out HW_.out (by kernel_rfl)) (fun _ _ _ h => h) (Or.inl ⟨by rfl, ?_⟩) hHeld ?_ ?_
         rotate_left
         ·
          rintro w' ⟨s0, s1, s2, s3, s4, s5, s6, s7, s8, s9⟩
          go_simp
          with_reducible rfl
         rotate_left
         ·
          simp only [Act.put, l1, l2, l3, i64_w, i32_w]
          rfl
         refine pure_ (i := 30) (N := some 136) (v := ?_) (a' := ?_) #[tt,tt,tt,tt,tt,tt,tt,tt,tt,tt,tt,tt,tt,tt,tt,tt,tt,tt,tt,tt,tt,tt,tt,tt,tt,tt,tt,tt,tt,tt,tt,ff,ff,ff,ff,ff,ff,ff,ff,ff,ff,ff,ff,ff,ff,ff,ff,ff,ff,ff] rfl rfl (any_of HT_.out (by kernel_rfl)) (fun _ _ _ h => h) (Or.inl ⟨by rfl, ?_⟩) ?_ ?_
         rotate_left
         ·
          intro w'
          go_simp
          with_reducible rfl
         rotate_left
         ·
          simp only [Act.put, l1, l2, l3, i64_w, i32_w]
          rfl
         refine pure_ (i := 31) (N := some 137) (v := ?_) (a' := ?_) #[tt,tt,tt,tt,tt,tt,tt,tt,tt,tt,tt,tt,tt,tt,tt,tt,tt,tt,tt,tt,tt,tt,tt,tt,tt,tt,tt,tt,tt,tt,tt,tt,ff,ff,ff,ff,ff,ff,ff,ff,ff,ff,ff,ff,ff,ff,ff,ff,ff,ff] rfl rfl (any_of HT_.out (by kernel_rfl)) (fun _ _ _ h => h) (Or.inl ⟨by rfl, ?_⟩) ?_ ?_
         rotate_left
         ·
          intro w'
          go_simp
          with_reducible rfl
         rotate_left
         ·
          simp only [Act.put, l1, l2, l3, i64_w, i32_w]
          rfl
         refine pure_ (i := 32) (N := some 138) (v := ?_) (a' := ?_) #[tt,tt,tt,tt,tt,tt,tt,tt,tt,tt,tt,tt,tt,tt,tt,tt,tt,tt,tt,tt,tt,tt,tt,tt,tt,tt,tt,tt,tt,tt,tt,tt,tt,ff,ff,ff,ff,ff,ff,ff,ff,ff,ff,ff,ff,ff,ff,ff,ff,ff] rfl rfl (any_of HT_.out (by kernel_rfl)) (fun _ _ _ h => h) (Or.inl ⟨by rfl, ?_⟩) ?_ ?_
         rotate_left
         ·
          intro w'
          go_simp
          with_reducible rfl
         rotate_left
         ·
          simp only [Act.put, l1, l2, l3, i64_w, i32_w]
          rfl
         refine pure_ (i := 33) (N := some 139) (v := ?_) (a' := ?_) #[tt,tt,tt,tt,tt,tt,tt,tt,tt,tt,tt,tt,tt,tt,tt,tt,tt,tt,tt,tt,tt,tt,tt,tt,tt,tt,tt,tt,tt,tt,tt,tt,tt,tt,ff,ff,ff,ff,ff,ff,ff,ff,ff,ff,ff,ff,ff,ff,ff,ff] rfl rfl (any_of HT_.out (by kernel_rfl)) (fun _ _ _ h => h) (Or.inl ⟨by rfl, ?_⟩) ?_ ?_
         rotate_left
         ·
          intro w'
          go_simp
          with_reducible rfl
         rotate_left
         ·
          simp only [Act.put, l1, l2, l3, i64_w, i32_w]
          rfl
         refine pure_ (i := 34) (N := some 140) (v := ?_) (a' := ?_) #[tt,tt,tt,tt,tt,tt,tt,tt,tt,tt,tt,tt,tt,tt,tt,tt,tt,tt,tt,tt,tt,tt,tt,tt,tt,tt,tt,tt,tt,tt,tt,tt,tt,tt,tt,ff,ff,ff,ff,ff,ff,ff,ff,ff,ff,ff,ff,ff,ff,ff] rfl rfl (any_of HT_.out (by kernel_rfl)) (fun _ _ _ h => h) (Or.inl ⟨by rfl, ?_⟩) ?_ ?_
         rotate_left
         ·
          intro w'
          go_simp
          with_reducible rfl
         rotate_left
         ·
          simp only [Act.put, l1, l2, l3, i64_w, i32_w]
          rfl
         refine pure_ (i := 39) (N := some 145) (v := ?_) (a' := ?_) #[tt,tt,tt,tt,tt,tt,tt,tt,tt,tt,tt,tt,tt,tt,tt,tt,tt,tt,tt,tt,tt,tt,tt,tt,tt,tt,tt,tt,tt,tt,tt,tt,tt,tt,tt,ff,ff,ff,ff,tt,ff,ff,ff,ff,ff,ff,ff,ff,ff,ff] rfl rfl (any_of HT_.out (by kernel_rfl)) (fun _ _ _ h => h) (Or.inl ⟨by rfl, ?_⟩) ?_ ?_
         rotate_left
         ·
          intro w'
          go_simp
          with_reducible rfl
         rotate_left
         ·
          simp only [Act.put, l1, l2, l3, i64_w, i32_w]
          rfl
         refine take_ (i := 35) (N := some 141) (v := ?_) (a' := ?_) #[tt,tt,tt,tt,tt,tt,tt,tt,tt,tt,tt,tt,tt,tt,tt,tt,tt,tt,tt,tt,tt,tt,tt,tt,tt,tt,tt,tt,tt,tt,tt,tt,tt,tt,tt,tt,ff,ff,ff,tt,ff,ff,ff,ff,ff,ff,ff,ff,ff,ff] rfl rfl (take_ofW HT_.out HW_.out (by kernel_rfl)) (fun _ _ _ h => h) (Or.inl ⟨by rfl, ?_⟩) hHeld ?_ ?_
         rotate_left
         ·
          rintro w' ⟨s0, s1, s2, s3, s4, s5, s6, s7, s8, s9⟩
          go_simp
          with_reducible rfl
         rotate_left
         ·
          simp only [Act.put, l1, l2, l3, i64_w, i32_w]
          rfl
         refine pure_ (i := 36) (N := some 142) (v := ?_) (a' := ?_) #[tt,tt,tt,tt,tt,tt,tt,tt,tt,tt,tt,tt,tt,tt,tt,tt,tt,tt,tt,tt,tt,tt,tt,tt,tt,tt,tt,tt,tt,tt,tt,tt,tt,tt,tt,tt,tt,ff,ff,tt,ff,ff,ff,ff,ff,ff,ff,ff,ff,ff] rfl rfl (any_of HT_.out (by kernel_rfl)) (fun _ _ _ h => h) (Or.inl ⟨by rfl, ?_⟩) ?_ ?_
         rotate_left
         ·
          intro w'
          go_simp
          with_reducible rfl
         rotate_left
         ·
          simp only [Act.put, l1, l2, l3, i64_w, i32_w]
          rfl
         refine pure_ (i := 37) (N := some 143) (v := ?_) (a' := ?_) #[tt,tt,tt,tt,tt,tt,tt,tt,tt,tt,tt,tt,tt,tt,tt,tt,tt,tt,tt,tt,tt,tt,tt,tt,tt,tt,tt,tt,tt,tt,tt,tt,tt,tt,tt,tt,tt,tt,ff,tt,ff,ff,ff,ff,ff,ff,ff,ff,ff,ff] rfl rfl (any_of HT_.out (by kernel_rfl)) (fun _ _ _ h => h) (Or.inl ⟨by rfl, ?_⟩) ?_ ?_
         rotate_left
         ·
          intro w'
          go_simp
          with_reducible rfl
         rotate_left
         ·
          simp only [Act.put, l1, l2, l3, i64_w, i32_w]
          rfl
         refine take_ (i := 38) (N := some 144) (v := ?_) (a' := ?_) #[tt,tt,tt,tt,tt,tt,tt,tt,tt,tt,tt,tt,tt,tt,tt,tt,tt,tt,tt,tt,tt,tt,tt,tt,tt,tt,tt,tt,tt,tt,tt,tt,tt,tt,tt,tt,tt,tt,tt,tt,ff,ff,ff,ff,ff,ff,ff,ff,ff,ff] rfl rfl (take_ofW HT_.out HW_.out (by kernel_rfl)) (fun _ _ _ h => h) (Or.inl ⟨by rfl, ?_⟩) hHeld ?_ ?_
         rotate_left
         ·
          rintro w' ⟨s0, s1, s2, s3, s4, s5, s6, s7, s8, s9⟩
          go_simp
          with_reducible rfl
         rotate_left
         ·
          simp only [Act.put, l1, l2, l3, i64_w, i32_w]
          rfl
         refine take_ (i := 40) (N := some 146) (v := ?_) (a' := ?_) #[tt,tt,tt,tt,tt,tt,tt,tt,tt,tt,tt,tt,tt,tt,tt,tt,tt,tt,tt,tt,tt,tt,tt,tt,tt,tt,tt,tt,tt,tt,tt,tt,tt,tt,tt,tt,tt,tt,tt,tt,tt,ff,ff,ff,ff,ff,ff,ff,ff,ff] rfl rfl (take_ofW HT_.out HW_.out (by kernel_rfl)) (fun _ _ _ h => h) (Or.inl ⟨by rfl, ?_⟩) hHeld ?_ ?_
         rotate_left
         ·
          rintro w' ⟨s0, s1, s2, s3, s4, s5, s6, s7, s8, s9⟩
          go_simp
          with_reducible rfl
         rotate_left
         ·
          simp only [Act.put, l1, l2, l3, i64_w, i32_w]
          rfl
         refine pure_ (i := 41) (N := some 147) (v := ?_) (a' := ?_) #[tt,tt,tt,tt,tt,tt,tt,tt,tt,tt,tt,tt,tt,tt,tt,tt,tt,tt,tt,tt,tt,tt,tt,tt,tt,tt,tt,tt,tt,tt,tt,tt,tt,tt,tt,tt,tt,tt,tt,tt,tt,tt,ff,ff,ff,ff,ff,ff,ff,ff] rfl rfl (any_of HT_.out (by kernel_rfl)) (fun _ _ _ h => h) (Or.inl ⟨by rfl, ?_⟩) ?_ ?_
         rotate_left
         ·
          intro w'
          go_simp
          with_reducible rfl
         rotate_left
         ·
          simp only [Act.put, l1, l2, l3, i64_w, i32_w]
          rfl
         refine pure_ (i := 42) (N := some 148) (v := ?_) (a' := ?_) #[tt,tt,tt,tt,tt,tt,tt,tt,tt,tt,tt,tt,tt,tt,tt,tt,tt,tt,tt,tt,tt,tt,tt,tt,tt,tt,tt,tt,tt,tt,tt,tt,tt,tt,tt,tt,tt,tt,tt,tt,tt,tt,tt,ff,ff,ff,ff,ff,ff,ff] rfl rfl (any_of HT_.out (by kernel_rfl)) (fun _ _ _ h => h) (Or.inl ⟨by rfl, ?_⟩) ?_ ?_
         rotate_left
         ·
          intro w'
          go_simp
          with_reducible rfl
         rotate_left
         ·
          simp only [Act.put, l1, l2, l3, i64_w, i32_w]
          rfl
         refine take_ (i := 43) (N := some 149) (v := ?_) (a' := ?_) #[tt,tt,tt,tt,tt,tt,tt,tt,tt,tt,tt,tt,tt,tt,tt,tt,tt,tt,tt,tt,tt,tt,tt,tt,tt,tt,tt,tt,tt,tt,tt,tt,tt,tt,tt,tt,tt,tt,tt,tt,tt,tt,tt,tt,ff,ff,ff,ff,ff,ff] rfl rfl (take_ofW HT_.out HW_.out (by kernel_rfl)) (fun _ _ _ h => h) (Or.inl ⟨by rfl, ?_⟩) hHeld ?_ ?_
         rotate_left
         ·
          rintro w' ⟨s0, s1, s2, s3, s4, s5, s6, s7, s8, s9⟩
          go_simp
          with_reducible rfl
         rotate_left
         ·
          simp only [Act.put, l1, l2, l3, i64_w, i32_w]
          rfl
         refine pure_ (i := 44) (N := some 150) (v := ?_) (a' := ?_) #[tt,tt,tt,tt,tt,tt,tt,tt,tt,tt,tt,tt,tt,tt,tt,tt,tt,tt,tt,tt,tt,tt,tt,tt,tt,tt,tt,tt,tt,tt,tt,tt,tt,tt,tt,tt,tt,tt,tt,tt,tt,tt,tt,tt,tt,ff,ff,ff,ff,ff] rfl rfl (any_of HT_.out (by kernel_rfl)) (fun _ _ _ h => h) (Or.inl ⟨by rfl, ?_⟩) ?_ ?_
         rotate_left
         ·
          intro w'
          go_simp
          with_reducible rfl
         rotate_left
         ·
          simp only [Act.put, l1, l2, l3, i64_w, i32_w]
          rfl
         refine pure_ (i := 45) (N := some 151) (v := ?_) (a' := ?_) #[tt,tt,tt,tt,tt,tt,tt,tt,tt,tt,tt,tt,tt,tt,tt,tt,tt,tt,tt,tt,tt,tt,tt,tt,tt,tt,tt,tt,tt,tt,tt,tt,tt,tt,tt,tt,tt,tt,tt,tt,tt,tt,tt,tt,tt,tt,ff,ff,ff,ff] rfl rfl (any_of HT_.out (by kernel_rfl)) (fun _ _ _ h => h) (Or.inl ⟨by rfl, ?_⟩) ?_ ?_
         rotate_left
         ·
          intro w'
          go_simp
          with_reducible rfl
         rotate_left
         ·
          simp only [Act.put, l1, l2, l3, i64_w, i32_w]
          rfl
         refine pure_ (i := 46) (N := some 152) (v := ?_) (a' := ?_) #[tt,tt,tt,tt,tt,tt,tt,tt,tt,tt,tt,tt,tt,tt,tt,tt,tt,tt,tt,tt,tt,tt,tt,tt,tt,tt,tt,tt,tt,tt,tt,tt,tt,tt,tt,tt,tt,tt,tt,tt,tt,tt,tt,tt,tt,tt,tt,ff,ff,ff] rfl rfl (any_of HT_.out (by kernel_rfl)) (fun _ _ _ h => h) (Or.inl ⟨by rfl, ?_⟩) ?_ ?_
         rotate_left
         ·
          intro w'
          go_simp
          with_reducible rfl
         rotate_left
         ·
          simp only [Act.put, l1, l2, l3, i64_w, i32_w]
          rfl
         refine one_ (i := 47) (N := some 153) #[tt,tt,tt,tt,tt,tt,tt,tt,tt,tt,tt,tt,tt,tt,tt,tt,tt,tt,tt,tt,tt,tt,tt,tt,tt,tt,tt,tt,tt,tt,tt,tt,tt,tt,tt,tt,tt,tt,tt,tt,tt,tt,tt,tt,tt,tt,tt,tt,ff,ff] rfl rfl (one_of HT_.out (by kernel_rfl)) (by decide) (fun K hK => ?_)
         refine goes_ Try.func15 (by kernel_rfl) rfl #[] (by rfl) rfl rfl (by (try simp only [List.map_toArray, List.map_cons, List.map_nil]); first | done | rfl | (simp only [List.length_drop, List.length_take]; rfl)) ?_
         with_reducible refine (tensilelaw09_wakes.calls  t536 _ A86.out).mono ?_
         rintro e w116 ⟨rfl, hb⟩
         have HS4_ := (hb.cell (World.block_lt_of_cell? _ _ (hHeld.2.2.2.2.1))).trans (hHeld.2.2.2.2.1)
         have HS5_ := (hb.cell (World.block_lt_of_cell? _ _ (hHeld.2.2.2.2.2.1))).trans (hHeld.2.2.2.2.2.1)
         have HS6_ := (hb.cell (World.block_lt_of_cell? _ _ (hHeld.2.2.2.2.2.2.1))).trans (hHeld.2.2.2.2.2.2.1)
         have HS7_ := (hb.cell (World.block_lt_of_cell? _ _ (hHeld.2.2.2.2.2.2.2.1))).trans (hHeld.2.2.2.2.2.2.2.1)
         have HS8_ := (hb.cell (World.block_lt_of_cell? _ _ (hHeld.2.2.2.2.2.2.2.2.1))).trans (hHeld.2.2.2.2.2.2.2.2.1)
         have HS9_ := (hb.cell (World.block_lt_of_cell? _ _ (hHeld.2.2.2.2.2.2.2.2.2))).trans (hHeld.2.2.2.2.2.2.2.2.2)
         refine ⟨_, rfl, ?_⟩
         have n0_ := Aside0.mk (Kd.R_below (by (with_reducible repeat (first | apply Kd.R_alloc | apply Kd.R_drewN | apply Kd.R_drew)); exact HO497.out) hb)
         have n1_ := Aside0.mk (Kd.R_below (by (with_reducible repeat (first | apply Kd.R_alloc | apply Kd.R_drewN | apply Kd.R_drew)); exact HO507.out) hb)
         have n2_ := Aside0.mk (Kd.R_below (by (with_reducible repeat (first | apply Kd.R_alloc | apply Kd.R_drewN | apply Kd.R_drew)); exact HO521.out) hb)
         have n3_ := Aside0.mk (Kd.R_below (by (with_reducible repeat (first | apply Kd.R_alloc | apply Kd.R_drewN | apply Kd.R_drew)); exact HO531.out) hb)
         have n4_ := Aside0.mk (b6 (g := gb488) (o := .cells #[.int .i64 a0_0, .slice A0_1 l0_1.length c0_1] 24 (0, 0)) (by (with_reducible repeat (first | refine b1 ?_ _ | refine b2 ?_ | refine b3 ?_ _)); exact BK488.out) hb)
         have n5_ := Aside0.mk (b6 (g := gb489) (o := .cells #[.int .i64 a1_0, .int .i64 a1_1, .int .i64 a1_2, .int .i64 a1_3] 64 (0, 0)) (by (with_reducible repeat (first | refine b1 ?_ _ | refine b2 ?_ | refine b3 ?_ _)); exact BK489.out) hb)
         have n6_ := Aside0.mk (b6 (g := gb493) (o := .cells #[.int .i64 x494000_29, .int .i64 x494001_29, .int .i64 x494002_29, .int .i64 x494003_29] 64 (0, 0)) (by (with_reducible repeat (first | refine b1 ?_ _ | refine b2 ?_ | refine b3 ?_ _)); exact BK493.out) hb)
         have n7_ := Aside0.mk (b6 (g := gb523) (o := .cells #[.int .i64 t518, .slice (some ad535) t519.length co103] 31 (0, 0)) (by (with_reducible repeat (first | refine b1 ?_ _ | refine b2 ?_ | refine b3 ?_ _)); exact BK523.out) hb)
         have n8_ := Aside0.mk (b6 (g := gb533) (o := .cells #[.int .i64 t528, .slice (some ad534) t529.length co112] 31 (0, 0)) (by (with_reducible repeat (first | refine b1 ?_ _ | refine b2 ?_ | refine b3 ?_ _)); exact BK533.out) hb)
         have n9_ := Aside0.mk (below_step (by repeat (first | (with_reducible first | exact HB.out | apply b9 | apply b7 | apply b8 | refine b4 ?_ GE488.out | refine b4 ?_ GE489.out | refine b4 ?_ GE493.out | refine b4 ?_ GE523.out | refine b4 ?_ GE533.out) | exact HB.out)) hb)
         clear HO497
         clear HO507
         clear HO521
         clear HO531
         clear BK488
         clear BK489
         clear BK493
         clear BK523
         clear BK533
         clear HB
         have HO497 := n0_
         have HO507 := n1_
         have HO521 := n2_
         have HO531 := n3_
         have BK488 := n4_
         have BK489 := n5_
         have BK493 := n6_
         have BK523 := n7_
         have BK533 := n8_
         have HB := n9_
         clear n0_ n1_ n2_ n3_ n4_ n5_ n6_ n7_ n8_ n9_
         (try clear hb)
         (try clear hb2)
         (try clear hk)
         (try clear hi)
         refine hK.out _ _ ⟨(b5 BK523.out 0).trans rfl, (b5 BK523.out 1).trans rfl, (b5 BK533.out 0).trans rfl, (b5 BK533.out 1).trans rfl, HS4_, HS5_, HS6_, HS7_, HS8_, HS9_⟩ (fun hHeld => ?_)
         clear hK K
         refine norm_ (a' := ?_) ?_ ?_
         rotate_left
         ·
          show Act.put _ (some 153) _ = _
          simp only [Act.put, l1, l2, l3, i64_w, i32_w]
          rfl
         refine pure_ (i := 48) (N := some 154) (v := ?_) (a' := ?_) #[tt,tt,tt,tt,tt,tt,tt,tt,tt,tt,tt,tt,tt,tt,tt,tt,tt,tt,tt,tt,tt,tt,tt,tt,tt,tt,tt,tt,tt,tt,tt,tt,tt,tt,tt,tt,tt,tt,tt,tt,tt,tt,tt,tt,tt,tt,tt,tt,tt,ff] rfl rfl (any_of HT_.out (by kernel_rfl)) (fun _ _ _ h => h) (Or.inl ⟨by rfl, ?_⟩) ?_ ?_
         rotate_left
         ·
          intro w'
          go_simp
          with_reducible rfl
         rotate_left
         ·
          simp only [Act.put, l1, l2, l3, i64_w, i32_w]
          rfl
         refine pure_ (i := 49) (N := some 8) (v := ?_) (a' := ?_) #[tt,tt,tt,tt,tt,tt,tt,tt,tt,tt,tt,tt,tt,tt,tt,tt,tt,tt,tt,tt,tt,tt,tt,tt,tt,tt,tt,tt,tt,tt,tt,tt,tt,tt,tt,tt,tt,tt,tt,tt,tt,tt,tt,tt,tt,tt,tt,tt,tt,tt] rfl rfl (any_of HT_.out (by kernel_rfl)) (fun _ _ _ h => h) (Or.inl ⟨by rfl, ?_⟩) ?_ ?_
         rotate_left
         ·
          intro w'
          go_simp
          with_reducible rfl
         rotate_left
         ·
          simp only [Act.put, l1, l2, l3, i64_w, i32_w]
          rfl
         refine done_ (done_of HT_.out (by kernel_rfl)) ?_
         try go_wp2
         go_ret
         exact ⟨by first | rfl | (simp [errW_none, errW_some] <;> rfl) | (simp [*, errW_none, errW_some] <;> rfl), by repeat (first | (with_reducible first | exact HB.out | apply b9 | apply b7 | apply b8 | refine b4 ?_ GE488.out | refine b4 ?_ GE489.out | refine b4 ?_ GE493.out | refine b4 ?_ GE523.out | refine b4 ?_ GE533.out) | exact HB.out)⟩
        | false =>
         refine start_ (n := 50) (S := fun w' => w'.cell? ⟨gb523, 0, none⟩ = some (.int .i64 t518) ∧ w'.cell? ⟨gb523, 1, none⟩ = some (.slice (some ad535) t519.length co103) ∧ w'.cell? ⟨gb533, 0, none⟩ = some (.int .i64 t528) ∧ w'.cell? ⟨gb533, 1, none⟩ = some (.slice (some ad534) t529.length co112) ∧ w'.cell? ad534 = some (.int .i64 ((rd_T61 t529 0).f0)) ∧ w'.cell? ⟨ad534.block, ad534.off + 1, none⟩ = some (.int .i64 ((rd_T61 t529 0).f1)) ∧ w'.cell? ⟨ad534.block, ad534.off + 2, none⟩ = some (.int .i64 ((rd_T61 t529 0).f2)) ∧ w'.cell? ad535 = some (.int .i64 ((rd_T61 t519 0).f0)) ∧ w'.cell? ⟨ad535.block, ad535.off + 1, none⟩ = some (.int .i64 ((rd_T61 t519 0).f1)) ∧ w'.cell? ⟨ad535.block, ad535.off + 2, none⟩ = some (.int .i64 ((rd_T61 t519 0).f2))) (ds := []) #[ff,ff,ff,ff,ff,ff,ff,ff,ff,ff,ff,ff,ff,ff,ff,ff,ff,ff,ff,ff,ff,ff,ff,ff,ff,ff,ff,ff,ff,ff,ff,ff,ff,ff,ff,ff,ff,ff,ff,ff,ff,ff,ff,ff,ff,ff,ff,ff,ff,ff] (by kernel_rfl) rfl rfl ⟨(b5 BK523.out 0).trans rfl, (b5 BK523.out 1).trans rfl, (b5 BK533.out 0).trans rfl, (b5 BK533.out 1).trans rfl, hx534_0, hx534_1, hx534_2, hx535_0, hx535_1, hx535_2⟩ (fun hHeld => ?_); refine with_tabW tensilelaw09_PlanKinder.tab16 tensilelaw09_PlanKinder.bits16 (fun HT_ HW_ => ?_)
         generalize w114.drew = w153 at HO497 HO507 HO521 HO531 BK488 BK489 BK493 BK523 BK533 HB hx534_0 hx534_1 hx534_2 hx535_0 hx535_1 hx535_2 hHeld ⊢
         refine pure_ (i := 0) (N := some 106) (v := ?_) (a' := ?_) #[tt,ff,ff,ff,ff,ff,ff,ff,ff,ff,ff,ff,ff,ff,ff,ff,ff,ff,ff,ff,ff,ff,ff,ff,ff,ff,ff,ff,ff,ff,ff,ff,ff,ff,ff,ff,ff,ff,ff,ff,ff,ff,ff,ff,ff,ff,ff,ff,ff,ff] rfl rfl (any_of HT_.out (by kernel_rfl)) (fun _ _ _ h => h) (Or.inl ⟨by rfl, ?_⟩) ?_ ?_
         rotate_left
         ·
          intro w'
          go_simp
          with_reducible rfl
         rotate_left
         ·
          simp only [Act.put, l1, l2, l3, i64_w, i32_w]
          rfl
         refine pure_ (i := 1) (N := some 107) (v := ?_) (a' := ?_) #[tt,tt,ff,ff,ff,ff,ff,ff,ff,ff,ff,ff,ff,ff,ff,ff,ff,ff,ff,ff,ff,ff,ff,ff,ff,ff,ff,ff,ff,ff,ff,ff,ff,ff,ff,ff,ff,ff,ff,ff,ff,ff,ff,ff,ff,ff,ff,ff,ff,ff] rfl rfl (any_of HT_.out (by kernel_rfl)) (fun _ _ _ h => h) (Or.inl ⟨by rfl, ?_⟩) ?_ ?_
         rotate_left
         ·
          intro w'
          go_simp
          with_reducible rfl
         rotate_left
         ·
          simp only [Act.put, l1, l2, l3, i64_w, i32_w]
          rfl
         refine pure_ (i := 2) (N := some 108) (v := ?_) (a' := ?_) #[tt,tt,tt,ff,ff,ff,ff,ff,ff,ff,ff,ff,ff,ff,ff,ff,ff,ff,ff,ff,ff,ff,ff,ff,ff,ff,ff,ff,ff,ff,ff,ff,ff,ff,ff,ff,ff,ff,ff,ff,ff,ff,ff,ff,ff,ff,ff,ff,ff,ff] rfl rfl (any_of HT_.out (by kernel_rfl)) (fun _ _ _ h => h) (Or.inl ⟨by rfl, ?_⟩) ?_ ?_
         rotate_left
         ·
          intro w'
          go_simp
          with_reducible rfl
         rotate_left
         ·
          simp only [Act.put, l1, l2, l3, i64_w, i32_w]
          rfl
         refine pure_ (i := 3) (N := some 109) (v := ?_) (a' := ?_) #[tt,tt,tt,tt,ff,ff,ff,ff,ff,ff,ff,ff,ff,ff,ff,ff,ff,ff,ff,ff,ff,ff,ff,ff,ff,ff,ff,ff,ff,ff,ff,ff,ff,ff,ff,ff,ff,ff,ff,ff,ff,ff,ff,ff,ff,ff,ff,ff,ff,ff] rfl rfl (any_of HT_.out (by kernel_rfl)) (fun _ _ _ h => h) (Or.inl ⟨by rfl, ?_⟩) ?_ ?_
         rotate_left
         ·
          intro w'
          go_simp
          with_reducible rfl
         rotate_left
         ·
          simp only [Act.put, l1, l2, l3, i64_w, i32_w]
          rfl
         refine pure_ (i := 4) (N := some 110) (v := ?_) (a' := ?_) #[tt,tt,tt,tt,tt,ff,ff,ff,ff,ff,ff,ff,ff,ff,ff,ff,ff,ff,ff,ff,ff,ff,ff,ff,ff,ff,ff,ff,ff,ff,ff,ff,ff,ff,ff,ff,ff,ff,ff,ff,ff,ff,ff,ff,ff,ff,ff,ff,ff,ff] rfl rfl (any_of HT_.out (by kernel_rfl)) (fun _ _ _ h => h) (Or.inl ⟨by rfl, ?_⟩) ?_ ?_
         rotate_left
         ·
          intro w'
          go_simp
          with_reducible rfl
         rotate_left
         ·
          simp only [Act.put, l1, l2, l3, i64_w, i32_w]
          rfl
         refine pure_ (i := 5) (N := some 111) (v := ?_) (a' := ?_) #[tt,tt,tt,tt,tt,tt,ff,ff,ff,ff,ff,ff,ff,ff,ff,ff,ff,ff,ff,ff,ff,ff,ff,ff,ff,ff,ff,ff,ff,ff,ff,ff,ff,ff,ff,ff,ff,ff,ff,ff,ff,ff,ff,ff,ff,ff,ff,ff,ff,ff] rfl rfl (any_of HT_.out (by kernel_rfl)) (fun _ _ _ h => h) (Or.inl ⟨by rfl, ?_⟩) ?_ ?_
         rotate_left
         ·
          intro w'
          go_simp
          with_reducible rfl
         rotate_left
         ·
          simp only [Act.put, l1, l2, l3, i64_w, i32_w]
          rfl
         refine pure_ (i := 6) (N := some 112) (v := ?_) (a' := ?_) #[tt,tt,tt,tt,tt,tt,tt,ff,ff,ff,ff,ff,ff,ff,ff,ff,ff,ff,ff,ff,ff,ff,ff,ff,ff,ff,ff,ff,ff,ff,ff,ff,ff,ff,ff,ff,ff,ff,ff,ff,ff,ff,ff,ff,ff,ff,ff,ff,ff,ff] rfl rfl (any_of HT_.out (by kernel_rfl)) (fun _ _ _ h => h) (Or.inl ⟨by rfl, ?_⟩) ?_ ?_
         rotate_left
         ·
          intro w'
          go_simp
          with_reducible rfl
         rotate_left
         ·
          simp only [Act.put, l1, l2, l3, i64_w, i32_w]
          rfl
         refine pure_ (i := 7) (N := some 113) (v := ?_) (a' := ?_) #[tt,tt,tt,tt,tt,tt,tt,tt,ff,ff,ff,ff,ff,ff,ff,ff,ff,ff,ff,ff,ff,ff,ff,ff,ff,ff,ff,ff,ff,ff,ff,ff,ff,ff,ff,ff,ff,ff,ff,ff,ff,ff,ff,ff,ff,ff,ff,ff,ff,ff] rfl rfl (any_of HT_.out (by kernel_rfl)) (fun _ _ _ h => h) (Or.inl ⟨by rfl, ?_⟩) ?_ ?_
         rotate_left
         ·
          intro w'
          go_simp
          with_reducible rfl
         rotate_left
         ·
          simp only [Act.put, l1, l2, l3, i64_w, i32_w]
          rfl
         refine pure_ (i := 8) (N := some 114) (v := ?_) (a' := ?_) #[tt,tt,tt,tt,tt,tt,tt,tt,tt,ff,ff,ff,ff,ff,ff,ff,ff,ff,ff,ff,ff,ff,ff,ff,ff,ff,ff,ff,ff,ff,ff,ff,ff,ff,ff,ff,ff,ff,ff,ff,ff,ff,ff,ff,ff,ff,ff,ff,ff,ff] rfl rfl (any_of HT_.out (by kernel_rfl)) (fun _ _ _ h => h) (Or.inl ⟨by rfl, ?_⟩) ?_ ?_
         rotate_left
         ·
          intro w'
          go_simp
          with_reducible rfl
         rotate_left
         ·
          simp only [Act.put, l1, l2, l3, i64_w, i32_w]
          rfl
         refine pure_ (i := 9) (N := some 115) (v := ?_) (a' := ?_) #[tt,tt,tt,tt,tt,tt,tt,tt,tt,tt,ff,ff,ff,ff,ff,ff,ff,ff,ff,ff,ff,ff,ff,ff,ff,ff,ff,ff,ff,ff,ff,ff,ff,ff,ff,ff,ff,ff,ff,ff,ff,ff,ff,ff,ff,ff,ff,ff,ff,ff] rfl rfl (any_of HT_.out (by kernel_rfl)) (fun _ _ _ h => h) (Or.inl ⟨by rfl, ?_⟩) ?_ ?_
         rotate_left
         ·
          intro w'
          go_simp
          with_reducible rfl
         rotate_left
         ·
          simp only [Act.put, l1, l2, l3, i64_w, i32_w]
          rfl
         refine pure_ (i := 10) (N := some 116) (v := undef) (a' := ?_) #[tt,tt,tt,tt,tt,tt,tt,tt,tt,tt,tt,ff,ff,ff,ff,ff,ff,ff,ff,ff,ff,ff,ff,ff,ff,ff,ff,ff,ff,ff,ff,ff,ff,ff,ff,ff,ff,ff,ff,ff,ff,ff,ff,ff,ff,ff,ff,ff,ff,ff] rfl rfl (any_of HT_.out (by kernel_rfl)) (fun _ _ _ h => h) (Or.inr ⟨by rfl, rfl⟩) ?_ ?_
         rotate_left
         ·
          simp only [Act.put, l1, l2, l3, i64_w, i32_w]
          rfl
         refine pure_ (i := 11) (N := some 117) (v := ?_) (a' := ?_) #[tt,tt,tt,tt,tt,tt,tt,tt,tt,tt,tt,tt,ff,ff,ff,ff,ff,ff,ff,ff,ff,ff,ff,ff,ff,ff,ff,ff,ff,ff,ff,ff,ff,ff,ff,ff,ff,ff,ff,ff,ff,ff,ff,ff,ff,ff,ff,ff,ff,ff] rfl rfl (any_of HT_.out (by kernel_rfl)) (fun _ _ _ h => h) (Or.inl ⟨by rfl, ?_⟩) ?_ ?_
         rotate_left
         ·
          intro w'
          go_simp
          with_reducible rfl
         rotate_left
         ·
          simp only [Act.put, l1, l2, l3, i64_w, i32_w]
          rfl
         refine pure_ (i := 12) (N := some 118) (v := ?_) (a' := ?_) #[tt,tt,tt,tt,tt,tt,tt,tt,tt,tt,tt,tt,tt,ff,ff,ff,ff,ff,ff,ff,ff,ff,ff,ff,ff,ff,ff,ff,ff,ff,ff,ff,ff,ff,ff,ff,ff,ff,ff,ff,ff,ff,ff,ff,ff,ff,ff,ff,ff,ff] rfl rfl (any_of HT_.out (by kernel_rfl)) (fun _ _ _ h => h) (Or.inl ⟨by rfl, ?_⟩) ?_ ?_
         rotate_left
         ·
          intro w'
          go_simp
          with_reducible rfl
         rotate_left
         ·
          simp only [Act.put, l1, l2, l3, i64_w, i32_w]
          rfl
         refine pure_ (i := 13) (N := some 119) (v := ?_) (a' := ?_) #[tt,tt,tt,tt,tt,tt,tt,tt,tt,tt,tt,tt,tt,tt,ff,ff,ff,ff,ff,ff,ff,ff,ff,ff,ff,ff,ff,ff,ff,ff,ff,ff,ff,ff,ff,ff,ff,ff,ff,ff,ff,ff,ff,ff,ff,ff,ff,ff,ff,ff] rfl rfl (any_of HT_.out (by kernel_rfl)) (fun _ _ _ h => h) (Or.inl ⟨by rfl, ?_⟩) ?_ ?_
         rotate_left
         ·
          intro w'
          go_simp
          with_reducible rfl
         rotate_left
         ·
          simp only [Act.put, l1, l2, l3, i64_w, i32_w]
          rfl
         refine pure_ (i := 14) (N := some 120) (v := ?_) (a' := ?_) #[tt,tt,tt,tt,tt,tt,tt,tt,tt,tt,tt,tt,tt,tt,tt,ff,ff,ff,ff,ff,ff,ff,ff,ff,ff,ff,ff,ff,ff,ff,ff,ff,ff,ff,ff,ff,ff,ff,ff,ff,ff,ff,ff,ff,ff,ff,ff,ff,ff,ff] rfl rfl (any_of HT_.out (by kernel_rfl)) (fun _ _ _ h => h) (Or.inl ⟨by rfl, ?_⟩) ?_ ?_
         rotate_left
         ·
          intro w'
          go_simp
          with_reducible rfl
         rotate_left
         ·
          simp only [Act.put, l1, l2, l3, i64_w, i32_w]
          rfl
         refine pure_ (i := 15) (N := some 121) (v := ?_) (a' := ?_) #[tt,tt,tt,tt,tt,tt,tt,tt,tt,tt,tt,tt,tt,tt,tt,tt,ff,ff,ff,ff,ff,ff,ff,ff,ff,ff,ff,ff,ff,ff,ff,ff,ff,ff,ff,ff,ff,ff,ff,ff,ff,ff,ff,ff,ff,ff,ff,ff,ff,ff] rfl rfl (any_of HT_.out (by kernel_rfl)) (fun _ _ _ h => h) (Or.inl ⟨by rfl, ?_⟩) ?_ ?_
         rotate_left
         ·
          intro w'
          go_simp
          with_reducible rfl
         rotate_left
         ·
          simp only [Act.put, l1, l2, l3, i64_w, i32_w]
          rfl
         refine pure_ (i := 16) (N := some 122) (v := ?_) (a' := ?_) #[tt,tt,tt,tt,tt,tt,tt,tt,tt,tt,tt,tt,tt,tt,tt,tt,tt,ff,ff,ff,ff,ff,ff,ff,ff,ff,ff,ff,ff,ff,ff,ff,ff,ff,ff,ff,ff,ff,ff,ff,ff,ff,ff,ff,ff,ff,ff,ff,ff,ff] rfl rfl (any_of HT_.out (by kernel_rfl)) (fun _ _ _ h => h) (Or.inl ⟨by rfl, ?_⟩) ?_ ?_
         rotate_left
         ·
          intro w'
          go_simp
          with_reducible rfl
         rotate_left
         ·
          simp only [Act.put, l1, l2, l3, i64_w, i32_w]
          rfl
         refine pure_ (i := 17) (N := some 123) (v := ?_) (a' := ?_) #[tt,tt,tt,tt,tt,tt,tt,tt,tt,tt,tt,tt,tt,tt,tt,tt,tt,tt,ff,ff,ff,ff,ff,ff,ff,ff,ff,ff,ff,ff,ff,ff,ff,ff,ff,ff,ff,ff,ff,ff,ff,ff,ff,ff,ff,ff,ff,ff,ff,ff] rfl rfl (any_of HT_.out (by kernel_rfl)) (fun _ _ _ h => h) (Or.inl ⟨by rfl, ?_⟩) ?_ ?_
         rotate_left
         ·
          intro w'
          go_simp
          with_reducible rfl
         rotate_left
         ·
          simp only [Act.put, l1, l2, l3, i64_w, i32_w]
          rfl
         refine pure_ (i := 18) (N := some 124) (v := ?_) (a' := ?_) #[tt,tt,tt,tt,tt,tt,tt,tt,tt,tt,tt,tt,tt,tt,tt,tt,tt,tt,tt,ff,ff,ff,ff,ff,ff,ff,ff,ff,ff,ff,ff,ff,ff,ff,ff,ff,ff,ff,ff,ff,ff,ff,ff,ff,ff,ff,ff,ff,ff,ff] rfl rfl (any_of HT_.out (by kernel_rfl)) (fun _ _ _ h => h) (Or.inl ⟨by rfl, ?_⟩) ?_ ?_
         rotate_left
         ·
          intro w'
          go_simp
          with_reducible rfl
         rotate_left
         ·
          simp only [Act.put, l1, l2, l3, i64_w, i32_w]
          rfl
         refine pure_ (i := 19) (N := some 125) (v := ?_) (a' := ?_) #[tt,tt,tt,tt,tt,tt,tt,tt,tt,tt,tt,tt,tt,tt,tt,tt,tt,tt,tt,tt,ff,ff,ff,ff,ff,ff,ff,ff,ff,ff,ff,ff,ff,ff,ff,ff,ff,ff,ff,ff,ff,ff,ff,ff,ff,ff,ff,ff,ff,ff] rfl rfl (any_of HT_.out (by kernel_rfl)) (fun _ _ _ h => h) (Or.inl ⟨by rfl, ?_⟩) ?_ ?_
         rotate_left
         ·
          intro w'
          go_simp
          with_reducible rfl
         rotate_left
         ·
          simp only [Act.put, l1, l2, l3, i64_w, i32_w]
          rfl
         refine pure_ (i := 20) (N := some 126) (v := ?_) (a' := ?_) #[tt,tt,tt,tt,tt,tt,tt,tt,tt,tt,tt,tt,tt,tt,tt,tt,tt,tt,tt,tt,tt,ff,ff,ff,ff,ff,ff,ff,ff,ff,ff,ff,ff,ff,ff,ff,ff,ff,ff,ff,ff,ff,ff,ff,ff,ff,ff,ff,ff,ff] rfl rfl (any_of HT_.out (by kernel_rfl)) (fun _ _ _ h => h) (Or.inl ⟨by rfl, ?_⟩) ?_ ?_
         rotate_left
         ·
          intro w'
          go_simp
          with_reducible rfl
         rotate_left
         ·
          simp only [Act.put, l1, l2, l3, i64_w, i32_w]
          rfl
         refine pure_ (i := 21) (N := some 127) (v := ?_) (a' := ?_) #[tt,tt,tt,tt,tt,tt,tt,tt,tt,tt,tt,tt,tt,tt,tt,tt,tt,tt,tt,tt,tt,tt,ff,ff,ff,ff,ff,ff,ff,ff,ff,ff,ff,ff,ff,ff,ff,ff,ff,ff,ff,ff,ff,ff,ff,ff,ff,ff,ff,ff] rfl rfl (any_of HT_.out (by kernel_rfl)) (fun _ _ _ h => h) (Or.inl ⟨by rfl, ?_⟩) ?_ ?_
         rotate_left
         ·
          intro w'
          go_simp
          with_reducible rfl
         rotate_left
         ·
          simp only [Act.put, l1, l2, l3, i64_w, i32_w]
          rfl
         refine pure_ (i := 22) (N := some 128) (v := ?_) (a' := ?_) #[tt,tt,tt,tt,tt,tt,tt,tt,tt,tt,tt,tt,tt,tt,tt,tt,tt,tt,tt,tt,tt,tt,tt,ff,ff,ff,ff,ff,ff,ff,ff,ff,ff,ff,ff,ff,ff,ff,ff,ff,ff,ff,ff,ff,ff,ff,ff,ff,ff,ff] rfl rfl (any_of HT_.out (by kernel_rfl)) (fun _ _ _ h => h) (Or.inl ⟨by rfl, ?_⟩) ?_ ?_
         rotate_left
         ·
          intro w'
          go_simp
          with_reducible rfl
         rotate_left
         ·
          simp only [Act.put, l1, l2, l3, i64_w, i32_w]
          rfl
         refine take_ (i := 23) (N := some 129) (v := ?_) (a' := ?_) #[tt,tt,tt,tt,tt,tt,tt,tt,tt,tt,tt,tt,tt,tt,tt,tt,tt,tt,tt,tt,tt,tt,tt,tt,ff,ff,ff,ff,ff,ff,ff,ff,ff,ff,ff,ff,ff,ff,ff,ff,ff,ff,ff,ff,ff,ff,ff,ff,ff,ff] rfl rfl (take_ofW HT_.out HW_.out (by kernel_rfl)) (fun _ _ _ h => h) (Or.inl ⟨by rfl, ?_⟩) hHeld ?_ ?_
         rotate_left
         ·
          rintro w' ⟨s0, s1, s2, s3, s4, s5, s6, s7, s8, s9⟩
          go_simp
          with_reducible rfl
         rotate_left
         ·
          simp only [Act.put, l1, l2, l3, i64_w, i32_w]
          rfl
         refine pure_ (i := 24) (N := some 130) (v := ?_) (a' := ?_) #[tt,tt,tt,tt,tt,tt,tt,tt,tt,tt,tt,tt,tt,tt,tt,tt,tt,tt,tt,tt,tt,tt,tt,tt,tt,ff,ff,ff,ff,ff,ff,ff,ff,ff,ff,ff,ff,ff,ff,ff,ff,ff,ff,ff,ff,ff,ff,ff,ff,ff] rfl rfl (any_of HT_.out (by kernel_rfl)) (fun _ _ _ h => h) (Or.inl ⟨by rfl, ?_⟩) ?_ ?_
         rotate_left
         ·
          intro w'
          go_simp
          with_reducible rfl
         rotate_left
         ·
          simp only [Act.put, l1, l2, l3, i64_w, i32_w]
          rfl
         refine pure_ (i := 25) (N := some 131) (v := ?_) (a' := ?_) #[tt,tt,tt,tt,tt,tt,tt,tt,tt,tt,tt,tt,tt,tt,tt,tt,tt,tt,tt,tt,tt,tt,tt,tt,tt,tt,ff,ff,ff,ff,ff,ff,ff,ff,ff,ff,ff,ff,ff,ff,ff,ff,ff,ff,ff,ff,ff,ff,ff,ff] rfl rfl (any_of HT_.out (by kernel_rfl)) (fun _ _ _ h => h) (Or.inl ⟨by rfl, ?_⟩) ?_ ?_
         rotate_left
         ·
          intro w'
          go_simp
          with_reducible rfl
         rotate_left
         ·
          simp only [Act.put, l1, l2, l3, i64_w, i32_w]
          rfl
         refine pure_ (i := 26) (N := some 132) (v := ?_) (a' := ?_) #[tt,tt,tt,tt,tt,tt,tt,tt,tt,tt,tt,tt,tt,tt,tt,tt,tt,tt,tt,tt,tt,tt,tt,tt,tt,tt,tt,ff,ff,ff,ff,ff,ff,ff,ff,ff,ff,ff,ff,ff,ff,ff,ff,ff,ff,ff,ff,ff,ff,ff] rfl rfl (any_of HT_.out (by kernel_rfl)) (fun _ _ _ h => h) (Or.inl ⟨by rfl, ?_⟩) ?_ ?_
         rotate_left
         ·
          intro w'
          go_simp
          with_reducible rfl
         rotate_left
         ·
          simp only [Act.put, l1, l2, l3, i64_w, i32_w]
          rfl
         refine pure_ (i := 27) (N := some 133) (v := ?_) (a' := ?_) #[tt,tt,tt,tt,tt,tt,tt,tt,tt,tt,tt,tt,tt,tt,tt,tt,tt,tt,tt,tt,tt,tt,tt,tt,tt,tt,tt,tt,ff,ff,ff,ff,ff,ff,ff,ff,ff,ff,ff,ff,ff,ff,ff,ff,ff,ff,ff,ff,ff,ff] rfl rfl (any_of HT_.out (by kernel_rfl)) (fun _ _ _ h => h) (Or.inl ⟨by rfl, ?_⟩) ?_ ?_
         rotate_left
         ·
          intro w'
          go_simp
          with_reducible rfl
         rotate_left
         ·
          simp only [Act.put, l1, l2, l3, i64_w, i32_w]
          rfl
         refine pure_ (i := 28) (N := some 134) (v := ?_) (a' := ?_) #[tt,tt,tt,tt,tt,tt,tt,tt,tt,tt,tt,tt,tt,tt,tt,tt,tt,tt,tt,tt,tt,tt,tt,tt,tt,tt,tt,tt,tt,ff,ff,ff,ff,ff,ff,ff,ff,ff,ff,ff,ff,ff,ff,ff,ff,ff,ff,ff,ff,ff] rfl rfl (any_of HT_.out (by kernel_rfl)) (fun _ _ _ h => h) (Or.inl ⟨by rfl, ?_⟩) ?_ ?_
         rotate_left
         ·
          intro w'
          go_simp
          with_reducible rfl
         rotate_left
         ·
          simp only [Act.put, l1, l2, l3, i64_w, i32_w]
          rfl
         refine take_ (i := 29) (N := some 135) (v := ?_) (a' := ?_) #[tt,tt,tt,tt,tt,tt,tt,tt,tt,tt,tt,tt,tt,tt,tt,tt,tt,tt,tt,tt,tt,tt,tt,tt,tt,tt,tt,tt,tt,tt,ff,ff,ff,ff,ff,ff,ff,ff,ff,ff,ff,ff,ff,ff,ff,ff,ff,ff,ff,ff] rfl rfl (take_ofW HT_.out HW_.out (by kernel_rfl)) (fun _ _ _ h => h) (Or.inl ⟨by rfl, ?_⟩) hHeld ?_ ?_
         rotate_left
         ·
          rintro w' ⟨s0, s1, s2, s3, s4, s5, s6, s7, s8, s9⟩
          go_simp
          with_reducible rfl
         rotate_left
         ·
          simp only [Act.put, l1, l2, l3, i64_w, i32_w]
          rfl
         refine pure_ (i := 30) (N := some 136) (v := ?_) (a' := ?_) #[tt,tt,tt,tt,tt,tt,tt,tt,tt,tt,tt,tt,tt,tt,tt,tt,tt,tt,tt,tt,tt,tt,tt,tt,tt,tt,tt,tt,tt,tt,tt,ff,ff,ff,ff,ff,ff,ff,ff,ff,ff,ff,ff,ff,ff,ff,ff,ff,ff,ff] rfl rfl (any_of HT_.out (by kernel_rfl)) (fun _ _ _ h => h) (Or.inl ⟨by rfl, ?_⟩) ?_ ?_
         rotate_left
         ·
          intro w'
          go_simp
          with_reducible rfl
         rotate_left
         ·
          simp only [Act.put, l1, l2, l3, i64_w, i32_w]
          rfl
         refine pure_ (i := 31) (N := some 137) (v := ?_) (a' := ?_) #[tt,tt,tt,tt,tt,tt,tt,tt,tt,tt,tt,tt,tt,tt,tt,tt,tt,tt,tt,tt,tt,tt,tt,tt,tt,tt,tt,tt,tt,tt,tt,tt,ff,ff,ff,ff,ff,ff,ff,ff,ff,ff,ff,ff,ff,ff,ff,ff,ff,ff] rfl rfl (any_of HT_.out (by kernel_rfl)) (fun _ _ _ h => h) (Or.inl ⟨by rfl, ?_⟩) ?_ ?_
         rotate_left
         ·
          intro w'
          go_simp
          with_reducible rfl
         rotate_left
         ·
          simp only [Act.put, l1, l2, l3, i64_w, i32_w]
          rfl
         refine pure_ (i := 32) (N := some 138) (v := ?_) (a' := ?_) #[tt,tt,tt,tt,tt,tt,tt,tt,tt,tt,tt,tt,tt,tt,tt,tt,tt,tt,tt,tt,tt,tt,tt,tt,tt,tt,tt,tt,tt,tt,tt,tt,tt,ff,ff,ff,ff,ff,ff,ff,ff,ff,ff,ff,ff,ff,ff,ff,ff,ff] rfl rfl (any_of HT_.out (by kernel_rfl)) (fun _ _ _ h => h) (Or.inl ⟨by rfl, ?_⟩) ?_ ?_
         rotate_left
         ·
          intro w'
          go_simp
          with_reducible rfl
         rotate_left
         ·
          simp only [Act.put, l1, l2, l3, i64_w, i32_w]
          rfl
         refine pure_ (i := 33) (N := some 139) (v := ?_) (a' := ?_) #[tt,tt,tt,tt,tt,tt,tt,tt,tt,tt,tt,tt,tt,tt,tt,tt,tt,tt,tt,tt,tt,tt,tt,tt,tt,tt,tt,tt,tt,tt,tt,tt,tt,tt,ff,ff,ff,ff,ff,ff,ff,ff,ff,ff,ff,ff,ff,ff,ff,ff] rfl rfl (any_of HT_.out (by kernel_rfl)) (fun _ _ _ h => h) (Or.inl ⟨by rfl, ?_⟩) ?_ ?_
         rotate_left
         ·
          intro w'
          go_simp
          with_reducible rfl
         rotate_left
         ·
          simp only [Act.put, l1, l2, l3, i64_w, i32_w]
          rfl
         refine pure_ (i := 34) (N := some 140) (v := ?_) (a' := ?_) #[tt,tt,tt,tt,tt,tt,tt,tt,tt,tt,tt,tt,tt,tt,tt,tt,tt,tt,tt,tt,tt,tt,tt,tt,tt,tt,tt,tt,tt,tt,tt,tt,tt,tt,tt,ff,ff,ff,ff,ff,ff,ff,ff,ff,ff,ff,ff,ff,ff,ff] rfl rfl (any_of HT_.out (by kernel_rfl)) (fun _ _ _ h => h) (Or.inl ⟨by rfl, ?_⟩) ?_ ?_
         rotate_left
         ·
          intro w'
          go_simp
          with_reducible rfl
         rotate_left
         ·
          simp only [Act.put, l1, l2, l3, i64_w, i32_w]
          rfl
         refine pure_ (i := 39) (N := some 145) (v := ?_) (a' := ?_) #[tt,tt,tt,tt,tt,tt,tt,tt,tt,tt,tt,tt,tt,tt,tt,tt,tt,tt,tt,tt,tt,tt,tt,tt,tt,tt,tt,tt,tt,tt,tt,tt,tt,tt,tt,ff,ff,ff,ff,tt,ff,ff,ff,ff,ff,ff,ff,ff,ff,ff] rfl rfl (any_of HT_.out (by kernel_rfl)) (fun _ _ _ h => h) (Or.inl ⟨by rfl, ?_⟩) ?_ ?_
         rotate_left
         ·
          intro w'
          go_simp
          with_reducible rfl
         rotate_left
         ·
          simp only [Act.put, l1, l2, l3, i64_w, i32_w]
          rfl
         refine take_ (i := 35) (N := some 141) (v := ?_) (a' := ?_) #[tt,tt,tt,tt,tt,tt,tt,tt,tt,tt,tt,tt,tt,tt,tt,tt,tt,tt,tt,tt,tt,tt,tt,tt,tt,tt,tt,tt,tt,tt,tt,tt,tt,tt,tt,tt,ff,ff,ff,tt,ff,ff,ff,ff,ff,ff,ff,ff,ff,ff] rfl rfl (take_ofW HT_.out HW_.out (by kernel_rfl)) (fun _ _ _ h => h) (Or.inl ⟨by rfl, ?_⟩) hHeld ?_ ?_
         rotate_left
         ·
          rintro w' ⟨s0, s1, s2, s3, s4, s5, s6, s7, s8, s9⟩
          go_simp
          with_reducible rfl
         rotate_left
         ·
          simp only [Act.put, l1, l2, l3, i64_w, i32_w]
          rfl
         refine pure_ (i := 36) (N := some 142) (v := ?_) (a' := ?_) #[tt,tt,tt,tt,tt,tt,tt,tt,tt,tt,tt,tt,tt,tt,tt,tt,tt,tt,tt,tt,tt,tt,tt,tt,tt,tt,tt,tt,tt,tt,tt,tt,tt,tt,tt,tt,tt,ff,ff,tt,ff,ff,ff,ff,ff,ff,ff,ff,ff,ff] rfl rfl (any_of HT_.out (by kernel_rfl)) (fun _ _ _ h => h) (Or.inl ⟨by rfl, ?_⟩) ?_ ?_
         rotate_left
         ·
          intro w'
          go_simp
          with_reducible rfl
         rotate_left
         ·
          simp only [Act.put, l1, l2, l3, i64_w, i32_w]
          rfl
         refine pure_ (i := 37) (N := some 143) (v := ?_) (a' := ?_) #[tt,tt,tt,tt,tt,tt,tt,tt,tt,tt,tt,tt,tt,tt,tt,tt,tt,tt,tt,tt,tt,tt,tt,tt,tt,tt,tt,tt,tt,tt,tt,tt,tt,tt,tt,tt,tt,tt,ff,tt,ff,ff,ff,ff,ff,ff,ff,ff,ff,ff] rfl rfl (any_of HT_.out (by kernel_rfl)) (fun _ _ _ h => h) (Or.inl ⟨by rfl, ?_⟩) ?_ ?_
         rotate_left
         ·
          intro w'
          go_simp
          with_reducible rfl
         rotate_left
         ·
          simp only [Act.put, l1, l2, l3, i64_w, i32_w]
          rfl
         refine take_ (i := 38) (N := some 144) (v := ?_) (a' := ?_) #[tt,tt,tt,tt,tt,tt,tt,tt,tt,tt,tt,tt,tt,tt,tt,tt,tt,tt,tt,tt,tt,tt,tt,tt,tt,tt,tt,tt,tt,tt,tt,tt,tt,tt,tt,tt,tt,tt,tt,tt,ff,ff,ff,ff,ff,ff,ff,ff,ff,ff] rfl rfl (take_ofW HT_.out HW_.out (by kernel_rfl)) (fun _ _ _ h => h) (Or.inl ⟨by rfl, ?_⟩) hHeld ?_ ?_
         rotate_left
         ·
          rintro w' ⟨s0, s1, s2, s3, s4, s5, s6, s7, s8, s9⟩
          go_simp
          with_reducible rfl
         rotate_left
         ·
          simp only [Act.put, l1, l2, l3, i64_w, i32_w]
          rfl
         refine take_ (i := 40) (N := some 146) (v := ?_) (a' := ?_) #[tt,tt,tt,tt,tt,tt,tt,tt,tt,tt,tt,tt,tt,tt,tt,tt,tt,tt,tt,tt,tt,tt,tt,tt,tt,tt,tt,tt,tt,tt,tt,tt,tt,tt,tt,tt,tt,tt,tt,tt,tt,ff,ff,ff,ff,ff,ff,ff,ff,ff] rfl rfl (take_ofW HT_.out HW_.out (by kernel_rfl)) (fun _ _ _ h => h) (Or.inl ⟨by rfl, ?_⟩) hHeld ?_ ?_
         rotate_left
         ·
          rintro w' ⟨s0, s1, s2, s3, s4, s5, s6, s7, s8, s9⟩
          go_simp
          with_reducible rfl
         rotate_left
         ·
          simp only [Act.put, l1, l2, l3, i64_w, i32_w]
          rfl
         refine pure_ (i := 41) (N := some 147) (v := ?_) (a' := ?_) #[tt,tt,tt,tt,tt,tt,tt,tt,tt,tt,tt,tt,tt,tt,tt,tt,tt,tt,tt,tt,tt,tt,tt,tt,tt,tt,tt,tt,tt,tt,tt,tt,tt,tt,tt,tt,tt,tt,tt,tt,tt,tt,ff,ff,ff,ff,ff,ff,ff,ff] rfl rfl (any_of HT_.out (by kernel_rfl)) (fun _ _ _ h => h) (Or.inl ⟨by rfl, ?_⟩) ?_ ?_
         rotate_left
         ·
          intro w'
          go_simp
          with_reducible rfl
         rotate_left
         ·
          simp only [Act.put, l1, l2, l3, i64_w, i32_w]
          rfl
         refine pure_ (i := 42) (N := some 148) (v := ?_) (a' := ?_) #[tt,tt,tt,tt,tt,tt,tt,tt,tt,tt,tt,tt,tt,tt,tt,tt,tt,tt,tt,tt,tt,tt,tt,tt,tt,tt,tt,tt,tt,tt,tt,tt,tt,tt,tt,tt,tt,tt,tt,tt,tt,tt,tt,ff,ff,ff,ff,ff,ff,ff] rfl rfl (any_of HT_.out (by kernel_rfl)) (fun _ _ _ h => h) (Or.inl ⟨by rfl, ?_⟩) ?_ ?_
         rotate_left
         ·
          intro w'
          go_simp
          with_reducible rfl
         rotate_left
         ·
          simp only [Act.put, l1, l2, l3, i64_w, i32_w]
          rfl
         refine take_ (i := 43) (N := some 149) (v := ?_) (a' := ?_) #[tt,tt,tt,tt,tt,tt,tt,tt,tt,tt,tt,tt,tt,tt,tt,tt,tt,tt,tt,tt,tt,tt,tt,tt,tt,tt,tt,tt,tt,tt,tt,tt,tt,tt,tt,tt,tt,tt,tt,tt,tt,tt,tt,tt,ff,ff,ff,ff,ff,ff] rfl rfl (take_ofW HT_.out HW_.out (by kernel_rfl)) (fun _ _ _ h => h) (Or.inl ⟨by rfl, ?_⟩) hHeld ?_ ?_
         rotate_left
         ·
          rintro w' ⟨s0, s1, s2, s3, s4, s5, s6, s7, s8, s9⟩
          go_simp
          with_reducible rfl
         rotate_left
         ·
          simp only [Act.put, l1, l2, l3, i64_w, i32_w]
          rfl
         refine pure_ (i := 44) (N := some 150) (v := ?_) (a' := ?_) #[tt,tt,tt,tt,tt,tt,tt,tt,tt,tt,tt,tt,tt,tt,tt,tt,tt,tt,tt,tt,tt,tt,tt,tt,tt,tt,tt,tt,tt,tt,tt,tt,tt,tt,tt,tt,tt,tt,tt,tt,tt,tt,tt,tt,tt,ff,ff,ff,ff,ff] rfl rfl (any_of HT_.out (by kernel_rfl)) (fun _ _ _ h => h) (Or.inl ⟨by rfl, ?_⟩) ?_ ?_
         rotate_left
         ·
          intro w'
          go_simp
          with_reducible rfl
         rotate_left
         ·
          simp only [Act.put, l1, l2, l3, i64_w, i32_w]
          rfl
         refine pure_ (i := 45) (N := some 151) (v := ?_) (a' := ?_) #[tt,tt,tt,tt,tt,tt,tt,tt,tt,tt,tt,tt,tt,tt,tt,tt,tt,tt,tt,tt,tt,tt,tt,tt,tt,tt,tt,tt,tt,tt,tt,tt,tt,tt,tt,tt,tt,tt,tt,tt,tt,tt,tt,tt,tt,tt,ff,ff,ff,ff] rfl rfl (any_of HT_.out (by kernel_rfl)) (fun _ _ _ h => h) (Or.inl ⟨by rfl, ?_⟩) ?_ ?_
         rotate_left
         ·
          intro w'
          go_simp
          with_reducible rfl
         rotate_left
         ·
          simp only [Act.put, l1, l2, l3, i64_w, i32_w]
          rfl
         refine pure_ (i := 46) (N := some 152) (v := ?_) (a' := ?_) #[tt,tt,tt,tt,tt,tt,tt,tt,tt,tt,tt,tt,tt,tt,tt,tt,tt,tt,tt,tt,tt,tt,tt,tt,tt,tt,tt,tt,tt,tt,tt,tt,tt,tt,tt,tt,tt,tt,tt,tt,tt,tt,tt,tt,tt,tt,tt,ff,ff,ff] rfl rfl (any_of HT_.out (by kernel_rfl)) (fun _ _ _ h => h) (Or.inl ⟨by rfl, ?_⟩) ?_ ?_
         rotate_left
         ·
          intro w'
          go_simp
          with_reducible rfl
         rotate_left
         ·
          simp only [Act.put, l1, l2, l3, i64_w, i32_w]
          rfl
         refine one_ (i := 47) (N := some 153) #[tt,tt,tt,tt,tt,tt,tt,tt,tt,tt,tt,tt,tt,tt,tt,tt,tt,tt,tt,tt,tt,tt,tt,tt,tt,tt,tt,tt,tt,tt,tt,tt,tt,tt,tt,tt,tt,tt,tt,tt,tt,tt,tt,tt,tt,tt,tt,tt,ff,ff] rfl rfl (one_of HT_.out (by kernel_rfl)) (by decide) (fun K hK => ?_)
         refine goes_ Try.func15 (by kernel_rfl) rfl #[] (by rfl) rfl rfl (by (try simp only [List.map_toArray, List.map_cons, List.map_nil]); first | done | rfl | (simp only [List.length_drop, List.length_take]; rfl)) ?_
         with_reducible refine (tensilelaw09_wakes.calls  t536 _ A86.out).mono ?_
         rintro e w154 ⟨rfl, hb⟩
         have HS4_ := (hb.cell (World.block_lt_of_cell? _ _ (hHeld.2.2.2.2.1))).trans (hHeld.2.2.2.2.1)
         have HS5_ := (hb.cell (World.block_lt_of_cell? _ _ (hHeld.2.2.2.2.2.1))).trans (hHeld.2.2.2.2.2.1)
         have HS6_ := (hb.cell (World.block_lt_of_cell? _ _ (hHeld.2.2.2.2.2.2.1))).trans (hHeld.2.2.2.2.2.2.1)
         have HS7_ := (hb.cell (World.block_lt_of_cell? _ _ (hHeld.2.2.2.2.2.2.2.1))).trans (hHeld.2.2.2.2.2.2.2.1)
         have HS8_ := (hb.cell (World.block_lt_of_cell? _ _ (hHeld.2.2.2.2.2.2.2.2.1))).trans (hHeld.2.2.2.2.2.2.2.2.1)
         have HS9_ := (hb.cell (World.block_lt_of_cell? _ _ (hHeld.2.2.2.2.2.2.2.2.2))).trans (hHeld.2.2.2.2.2.2.2.2.2)
         refine ⟨_, rfl, ?_⟩
         have n0_ := Aside0.mk (Kd.R_below (by (with_reducible repeat (first | apply Kd.R_alloc | apply Kd.R_drewN | apply Kd.R_drew)); exact HO497.out) hb)
         have n1_ := Aside0.mk (Kd.R_below (by (with_reducible repeat (first | apply Kd.R_alloc | apply Kd.R_drewN | apply Kd.R_drew)); exact HO507.out) hb)
         have n2_ := Aside0.mk (Kd.R_below (by (with_reducible repeat (first | apply Kd.R_alloc | apply Kd.R_drewN | apply Kd.R_drew)); exact HO521.out) hb)
         have n3_ := Aside0.mk (Kd.R_below (by (with_reducible repeat (first | apply Kd.R_alloc | apply Kd.R_drewN | apply Kd.R_drew)); exact HO531.out) hb)
         have n4_ := Aside0.mk (b6 (g := gb488) (o := .cells #[.int .i64 a0_0, .slice A0_1 l0_1.length c0_1] 24 (0, 0)) (by (with_reducible repeat (first | refine b1 ?_ _ | refine b2 ?_ | refine b3 ?_ _)); exact BK488.out) hb)
         have n5_ := Aside0.mk (b6 (g := gb489) (o := .cells #[.int .i64 a1_0, .int .i64 a1_1, .int .i64 a1_2, .int .i64 a1_3] 64 (0, 0)) (by (with_reducible repeat (first | refine b1 ?_ _ | refine b2 ?_ | refine b3 ?_ _)); exact BK489.out) hb)
         have n6_ := Aside0.mk (b6 (g := gb493) (o := .cells #[.int .i64 x494000_29, .int .i64 x494001_29, .int .i64 x494002_29, .int .i64 x494003_29] 64 (0, 0)) (by (with_reducible repeat (first | refine b1 ?_ _ | refine b2 ?_ | refine b3 ?_ _)); exact BK493.out) hb)
         have n7_ := Aside0.mk (b6 (g := gb523) (o := .cells #[.int .i64 t518, .slice (some ad535) t519.length co103] 31 (0, 0)) (by (with_reducible repeat (first | refine b1 ?_ _ | refine b2 ?_ | refine b3 ?_ _)); exact BK523.out) hb)
         have n8_ := Aside0.mk (b6 (g := gb533) (o := .cells #[.int .i64 t528, .slice (some ad534) t529.length co112] 31 (0, 0)) (by (with_reducible repeat (first | refine b1 ?_ _ | refine b2 ?_ | refine b3 ?_ _)); exact BK533.out) hb)
         have n9_ := Aside0.mk (below_step (by repeat (first | (with_reducible first | exact HB.out | apply b9 | apply b7 | apply b8 | refine b4 ?_ GE488.out | refine b4 ?_ GE489.out | refine b4 ?_ GE493.out | refine b4 ?_ GE523.out | refine b4 ?_ GE533.out) | exact HB.out)) hb)
         clear HO497
         clear HO507
         clear HO521
         clear HO531
         clear BK488
         clear BK489
         clear BK493
         clear BK523
         clear BK533
         clear HB
         have HO497 := n0_
         have HO507 := n1_
         have HO521 := n2_
         have HO531 := n3_
         have BK488 := n4_
         have BK489 := n5_
         have BK493 := n6_
         have BK523 := n7_
         have BK533 := n8_
         have HB := n9_
         clear n0_ n1_ n2_ n3_ n4_ n5_ n6_ n7_ n8_ n9_
         (try clear hb)
         (try clear hb2)
         (try clear hk)
         (try clear hi)
         refine hK.out _ _ ⟨(b5 BK523.out 0).trans rfl, (b5 BK523.out 1).trans rfl, (b5 BK533.out 0).trans rfl, (b5 BK533.out 1).trans rfl, HS4_, HS5_, HS6_, HS7_, HS8_, HS9_⟩ (fun hHeld => ?_)
         clear hK K
         refine norm_ (a' := ?_) ?_ ?_
         rotate_left
         ·
          show Act.put _ (some 153) _ = _
          simp only [Act.put, l1, l2, l3, i64_w, i32_w]
          rfl
         refine pure_ (i := 48) (N := some 154) (v := ?_) (a' := ?_) #[tt,tt,tt,tt,tt,tt,tt,tt,tt,tt,tt,tt,tt,tt,tt,tt,tt,tt,tt,tt,tt,tt,tt,tt,tt,tt,tt,tt,tt,tt,tt,tt,tt,tt,tt,tt,tt,tt,tt,tt,tt,tt,tt,tt,tt,tt,tt,tt,tt,ff] rfl rfl (any_of HT_.out (by kernel_rfl)) (fun _ _ _ h => h) (Or.inl ⟨by rfl, ?_⟩) ?_ ?_
         rotate_left
         ·
          intro w'
          go_simp
          with_reducible rfl
         rotate_left
         ·
          simp only [Act.put, l1, l2, l3, i64_w, i32_w]
          rfl
         refine pure_ (i := 49) (N := some 8) (v := ?_) (a' := ?_) #[tt,tt,tt,tt,tt,tt,tt,tt,tt,tt,tt,tt,tt,tt,tt,tt,tt,tt,tt,tt,tt,tt,tt,tt,tt,tt,tt,tt,tt,tt,tt,tt,tt,tt,tt,tt,tt,tt,tt,tt,tt,tt,tt,tt,tt,tt,tt,tt,tt,tt] rfl rfl (any_of HT_.out (by kernel_rfl)) (fun _ _ _ h => h) (Or.inl ⟨by rfl, ?_⟩) ?_ ?_
         rotate_left
         ·
          intro w'
          go_simp
          with_reducible rfl
         rotate_left
         ·
          simp only [Act.put, l1, l2, l3, i64_w, i32_w]
          rfl
         refine done_ (done_of HT_.out (by kernel_rfl)) ?_
         try go_wp2
         go_ret
         exact ⟨by first | rfl | (simp [errW_none, errW_some] <;> rfl) | (simp [*, errW_none, errW_some] <;> rfl), by repeat (first | (with_reducible first | exact HB.out | apply b9 | apply b7 | apply b8 | refine b4 ?_ GE488.out | refine b4 ?_ GE489.out | refine b4 ?_ GE493.out | refine b4 ?_ GE523.out | refine b4 ?_ GE533.out) | exact HB.out)⟩
       ·
        rw [if_neg c76] at H
        have c76b0 : (t513 == 0) = false := beq_eq_false_iff_ne.mpr c76
        have c76b1 : (t513 != 0) = true := bne_iff_ne.mpr c76
        exact absurd H (by simp)
      ·
       rw [if_neg c75] at H
       have c75b0 : (t503 == 0) = false := beq_eq_false_iff_ne.mpr c75
       have c75b1 : (t503 != 0) = true := bne_iff_ne.mpr c75
       exact absurd H (by simp)

end Go.Proofs.Ytigpnafpdmdmhaa.P
