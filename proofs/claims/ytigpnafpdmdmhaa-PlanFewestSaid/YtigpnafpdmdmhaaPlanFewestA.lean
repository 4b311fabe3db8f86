/- Part of the proof of the statement PlanFewest: functions of the program and what each call of them comes to, for any arguments. -/
import Derived.Test.YtigpnafpdmdmhaaC2
import Derived.Test.YtigpnafpdmdmhaaC1
import Derived.Laws.AppendOwn
import Derived.WalkLawsBesides
set_option linter.unusedVariables false
set_option linter.unusedSimpArgs false
namespace Go.Proofs.Ytigpnafpdmdmhaa.P
open Go.RowKit Go.Proofs.YtigpnafpdmdmhaaW.PrintWords Go.Proofs.YtigpnafpdmdmhaaW.PrintLast

/-! ### tensilelaw09_ready: function 26 -/
def tensilelaw09_ready.f (k : Nat) (a0_0 : Int) (l0_1 : List (S57)) : Option (Bool) := (tensilelaw09_Thin.f a0_0 l0_1).bind fun t164 => (if t164 = true then ((tensileref09_Fault.f k a0_0 l0_1).bind fun t165 => (some (t165 == 0))) else (some false))
set_option maxHeartbeats 8000000 in
set_option maxRecDepth 100000 in
theorem tensilelaw09_ready.calls (k : Nat) (a0_0 : Int) (A0_1 : Option Addr) (c0_1 : Nat) (l0_1 : List (S57)) (r : Bool) (w : World) (hr0_1 : Kd.C k57 w A0_1 l0_1.length l0_1) (hc0_1 : l0_1.length ≤ c0_1) (h : tensilelaw09_ready.f k a0_0 l0_1 = some r) :
  Calls Try.prog 26 #[.agg #[.int .i64 a0_0, .slice A0_1 l0_1.length c0_1]] w fun e w' => e = .returned (.bool r) ∧ Below w.heap.size w w' := by
 have hu24 := Try.underlying24
 have HR0_1 := Aside0.mk hr0_1
 have HC0_1 := Aside0.mk hc0_1
 clear hr0_1 hc0_1
 have HB := Aside0.mk (Below.refl w.heap.size w)
 have H : ((tensilelaw09_Thin.f a0_0 l0_1).bind fun t164 => (if t164 = true then ((tensileref09_Fault.f k a0_0 l0_1).bind fun t165 => (some (t165 == 0))) else (some false))) = some r := h
 clear h
 replace H := Option.bind_eq_some_iff.mp H
 obtain ⟨t164, A20, H⟩ := H
 replace H : (if t164 = true then ((tensileref09_Fault.f k a0_0 l0_1).bind fun t165 => (some (t165 == 0))) else (some false)) = some r := H
 have A2 := Aside0.mk A20
 clear A20
 by_cases c3 : t164 = true
 ·
  subst c3
  have H1 : ((tensileref09_Fault.f k a0_0 l0_1).bind fun t165 => (some (t165 == 0))) = some r := by rw [if_pos rfl] at H; exact H
  clear H
  have H := H1
  clear H1
  replace H := Option.bind_eq_some_iff.mp H
  obtain ⟨t165, A40, H⟩ := H
  replace H : (some (t165 == 0)) = some r := H
  have A4 := Aside0.mk A40
  clear A40
  obtain rfl := Option.some.inj H
  go_enter Try.func26, Try.ntmps26
  go_wp2_with (first | ((with_reducible refine gate_dst (N := 1) rfl ?_); refine box_event ?hg (N := 1) ?hd (cs := #[.int .i64 a0_0, .slice A0_1 l0_1.length c0_1]) (t := 24) ?hr ?_; (case hd => rfl); (case hg => rfl); (case hr => first | (go_simp; done) | (go_simp; rfl)); intro gb163 hg w5 hbox hb; have n0_ := Aside0.mk (below_step (by repeat (first | (with_reducible first | exact HB.out | apply below_alloc | apply pw_below_drewN | apply below_drew1) | exact HB.out)) hb); have n1_ := Aside0.mk (hbox); have n2_ := Aside0.mk ((by rw [hg]; exact (below_size (by repeat (first | (with_reducible first | exact HB.out | apply below_alloc | apply pw_below_drewN | apply below_drew1) | exact HB.out))) : w.heap.size ≤ gb163)); have n3_ := Aside0.mk ((by rw [hg]; exact (below_size (by repeat (first | (with_reducible first | exact HB.out | apply below_alloc | apply pw_below_drewN | apply below_drew1) | exact HB.out))) : w.heap.size ≤ gb163)); clear HB; have HB := n0_; have BK163 := n1_; have GW163 := n2_; have GE163 := n3_; clear n0_ n1_ n2_ n3_; clear hb hbox hg; have hcz6_0 : w5.cell? ⟨gb163, 0, none⟩ = some (.int .i64 a0_0) := (blk_cell BK163.out 0).trans rfl; have hcz6_1 : w5.cell? ⟨gb163, 1, none⟩ = some (.slice A0_1 l0_1.length c0_1) := (blk_cell BK163.out 1).trans rfl; have hfz6_0 := blk_frozen BK163.out 0; have hfz6_1 := blk_frozen BK163.out 1) | ((with_reducible refine gate_callee (f := 14) rfl ?_); refine goesL_ (some 4) rfl rfl Try.func14 (by kernel_rfl) rfl #[.agg #[.int .i64 a0_0, .slice A0_1 l0_1.length c0_1]] rfl (by (try simp only [List.map_toArray, List.map_cons, List.map_nil]); first | done | rfl | (simp only [List.length_drop, List.length_take]; rfl)) ?_; (with_reducible refine (tensilelaw09_Thin.calls a0_0 _ _ l0_1 true _ ?side1 ?side2 A2.out).mono ?_); (case side1 => repeat (first | exact (Kd.C_below HR0_1.out HB.out) | (with_reducible refine Kd.C_alloc ?_ _) | (with_reducible refine Kd.C_drewN ?_ _) | (with_reducible refine Kd.C_drew ?_))); (case side2 => exact HC0_1.out); rintro e w7 ⟨rfl, hb⟩; refine ⟨_, rfl, ?_⟩; have n0_ := Aside0.mk (blk_below (g := gb163) (o := .cells #[.int .i64 a0_0, .slice A0_1 l0_1.length c0_1] 24 (0, 0)) (by (with_reducible repeat (first | refine blk_drewN ?_ _ | refine blk_drew ?_ | refine blk_alloc ?_ _)); exact BK163.out) hb); have n1_ := Aside0.mk (below_step (by repeat (first | (with_reducible first | exact HB.out | apply below_alloc | apply pw_below_drewN | apply below_drew1 | refine below_set ?_ GE163.out) | exact HB.out)) hb); clear BK163; clear HB; have BK163 := n0_; have HB := n1_; clear n0_ n1_; (try clear hb); (try clear hb2); (try clear hk); (try clear hi); have hcz8_0 : w7.cell? ⟨gb163, 0, none⟩ = some (.int .i64 a0_0) := (blk_cell BK163.out 0).trans rfl; have hcz8_1 : w7.cell? ⟨gb163, 1, none⟩ = some (.slice A0_1 l0_1.length c0_1) := (blk_cell BK163.out 1).trans rfl; have hfz8_0 := blk_frozen BK163.out 0; have hfz8_1 := blk_frozen BK163.out 1) | (go_at_call 37; (with_reducible refine (tensileref09_Fault.calls k a0_0 _ _ l0_1 t165 _ ?side1 ?side2 A4.out).mono ?_); (case side1 => repeat (first | exact (Kd.C_below HR0_1.out HB.out) | (with_reducible refine Kd.C_alloc ?_ _) | (with_reducible refine Kd.C_drewN ?_ _) | (with_reducible refine Kd.C_drew ?_))); (case side2 => exact HC0_1.out); rintro e w9 ⟨rfl, hb⟩; have n0_ := Aside0.mk (blk_below (g := gb163) (o := .cells #[.int .i64 a0_0, .slice A0_1 l0_1.length c0_1] 24 (0, 0)) (by (with_reducible repeat (first | refine blk_drewN ?_ _ | refine blk_drew ?_ | refine blk_alloc ?_ _)); exact BK163.out) hb); have n1_ := Aside0.mk (below_step (by repeat (first | (with_reducible first | exact HB.out | apply below_alloc | apply pw_below_drewN | apply below_drew1 | refine below_set ?_ GE163.out) | exact HB.out)) hb); clear BK163; clear HB; have BK163 := n0_; have HB := n1_; clear n0_ n1_; (try clear hb); (try clear hb2); (try clear hk); (try clear hi)))
  go_ret
  exact ⟨by first | rfl | (simp [errW_none, errW_some] <;> rfl) | (simp [*, errW_none, errW_some] <;> rfl), by repeat (first | (with_reducible first | exact HB.out | apply below_alloc | apply pw_below_drewN | apply below_drew1 | refine below_set ?_ GE163.out) | exact HB.out)⟩
 ·
  replace c3 := Bool.eq_false_iff.mpr c3
  subst c3
  have H1 : (some false) = some r := by rw [if_neg (show ¬ (false = true) by decide)] at H; exact H
  clear H
  have H := H1
  clear H1
  obtain rfl := Option.some.inj H
  go_enter Try.func26, Try.ntmps26
  go_wp2_with (first | ((with_reducible refine gate_dst (N := 1) rfl ?_); refine box_event ?hg (N := 1) ?hd (cs := #[.int .i64 a0_0, .slice A0_1 l0_1.length c0_1]) (t := 24) ?hr ?_; (case hd => rfl); (case hg => rfl); (case hr => first | (go_simp; done) | (go_simp; rfl)); intro gb163 hg w10 hbox hb; have n0_ := Aside0.mk (below_step (by repeat (first | (with_reducible first | exact HB.out | apply below_alloc | apply pw_below_drewN | apply below_drew1) | exact HB.out)) hb); have n1_ := Aside0.mk (hbox); have n2_ := Aside0.mk ((by rw [hg]; exact (below_size (by repeat (first | (with_reducible first | exact HB.out | apply below_alloc | apply pw_below_drewN | apply below_drew1) | exact HB.out))) : w.heap.size ≤ gb163)); have n3_ := Aside0.mk ((by rw [hg]; exact (below_size (by repeat (first | (with_reducible first | exact HB.out | apply below_alloc | apply pw_below_drewN | apply below_drew1) | exact HB.out))) : w.heap.size ≤ gb163)); clear HB; have HB := n0_; have BK163 := n1_; have GW163 := n2_; have GE163 := n3_; clear n0_ n1_ n2_ n3_; clear hb hbox hg; have hcz11_0 : w10.cell? ⟨gb163, 0, none⟩ = some (.int .i64 a0_0) := (blk_cell BK163.out 0).trans rfl; have hcz11_1 : w10.cell? ⟨gb163, 1, none⟩ = some (.slice A0_1 l0_1.length c0_1) := (blk_cell BK163.out 1).trans rfl; have hfz11_0 := blk_frozen BK163.out 0; have hfz11_1 := blk_frozen BK163.out 1) | ((with_reducible refine gate_callee (f := 14) rfl ?_); refine goesL_ (some 4) rfl rfl Try.func14 (by kernel_rfl) rfl #[.agg #[.int .i64 a0_0, .slice A0_1 l0_1.length c0_1]] rfl (by (try simp only [List.map_toArray, List.map_cons, List.map_nil]); first | done | rfl | (simp only [List.length_drop, List.length_take]; rfl)) ?_; (with_reducible refine (tensilelaw09_Thin.calls a0_0 _ _ l0_1 false _ ?side1 ?side2 A2.out).mono ?_); (case side1 => repeat (first | exact (Kd.C_below HR0_1.out HB.out) | (with_reducible refine Kd.C_alloc ?_ _) | (with_reducible refine Kd.C_drewN ?_ _) | (with_reducible refine Kd.C_drew ?_))); (case side2 => exact HC0_1.out); rintro e w12 ⟨rfl, hb⟩; refine ⟨_, rfl, ?_⟩; have n0_ := Aside0.mk (blk_below (g := gb163) (o := .cells #[.int .i64 a0_0, .slice A0_1 l0_1.length c0_1] 24 (0, 0)) (by (with_reducible repeat (first | refine blk_drewN ?_ _ | refine blk_drew ?_ | refine blk_alloc ?_ _)); exact BK163.out) hb); have n1_ := Aside0.mk (below_step (by repeat (first | (with_reducible first | exact HB.out | apply below_alloc | apply pw_below_drewN | apply below_drew1 | refine below_set ?_ GE163.out) | exact HB.out)) hb); clear BK163; clear HB; have BK163 := n0_; have HB := n1_; clear n0_ n1_; (try clear hb); (try clear hb2); (try clear hk); (try clear hi)))
  go_ret
  exact ⟨by first | rfl | (simp [errW_none, errW_some] <;> rfl) | (simp [*, errW_none, errW_some] <;> rfl), by repeat (first | (with_reducible first | exact HB.out | apply below_alloc | apply pw_below_drewN | apply below_drew1 | refine below_set ?_ GE163.out) | exact HB.out)⟩

end Go.Proofs.Ytigpnafpdmdmhaa.P

namespace Go.Proofs.Ytigpnafpdmdmhaa.P
open Go.RowKit Go.Proofs.YtigpnafpdmdmhaaW.PrintWords Go.Proofs.YtigpnafpdmdmhaaW.PrintLast

/-! ### tensilelaw09_least: function 28 -/
def tensilelaw09_least.f (a0_0 : Int) (a0_1 : Int) (a1_0 : Int) (a1_1 : Int) : Option (Bool) := if a0_0 > 1000000000 then (if a0_1 > 0 then (some (decide (a1_1 > 0))) else (some false)) else (if a0_1 > 1000000000 then (if a0_1 > 0 then (some (decide (a1_1 > 0))) else (some false)) else (if a1_0 > 1000000000 then (if a0_1 > 0 then (some (decide (a1_1 > 0))) else (some false)) else (if a1_1 > 1000000000 then (if a0_1 > 0 then (some (decide (a1_1 > 0))) else (some false)) else (if a0_1 ≤ 0 then (if a0_1 > 0 then (some (decide (a1_1 > 0))) else (some false)) else (if a1_1 ≤ 0 then (if a0_1 > 0 then (some (decide (a1_1 > 0))) else (some false)) else (some (decide ((wrap64 (a0_0 * a1_1)) ≤ (wrap64 (a1_0 * a0_1))))))))))
set_option maxHeartbeats 8000000 in
set_option maxRecDepth 100000 in
theorem tensilelaw09_least.calls (a0_0 : Int) (a0_1 : Int) (a1_0 : Int) (a1_1 : Int) (r : Bool) (w : World) (h : tensilelaw09_least.f a0_0 a0_1 a1_0 a1_1 = some r) :
  Calls Try.prog 28 #[.agg #[.int .i64 a0_0, .int .i64 a0_1], .agg #[.int .i64 a1_0, .int .i64 a1_1]] w fun e w' => e = .returned (.bool r) ∧ Below w.heap.size w w' := by
 have hu34 := Try.underlying34
 have HB := Aside0.mk (Below.refl w.heap.size w)
 have H : (if a0_0 > 1000000000 then (if a0_1 > 0 then (some (decide (a1_1 > 0))) else (some false)) else (if a0_1 > 1000000000 then (if a0_1 > 0 then (some (decide (a1_1 > 0))) else (some false)) else (if a1_0 > 1000000000 then (if a0_1 > 0 then (some (decide (a1_1 > 0))) else (some false)) else (if a1_1 > 1000000000 then (if a0_1 > 0 then (some (decide (a1_1 > 0))) else (some false)) else (if a0_1 ≤ 0 then (if a0_1 > 0 then (some (decide (a1_1 > 0))) else (some false)) else (if a1_1 ≤ 0 then (if a0_1 > 0 then (some (decide (a1_1 > 0))) else (some false)) else (some (decide ((wrap64 (a0_0 * a1_1)) ≤ (wrap64 (a1_0 * a0_1))))))))))) = some r := h
 clear h
 by_cases c3 : a0_0 > 1000000000
 ·
  rw [if_pos c3] at H
  have c3b0 : decide (1000000000 < a0_0) = true := decide_eq_true c3
  clear c3
  by_cases c4 : a0_1 > 0
  ·
   rw [if_pos c4] at H
   have c4b0 : decide (0 < a0_1) = true := decide_eq_true c4
   clear c4
   obtain rfl := Option.some.inj H
   go_enter Try.func28, Try.ntmps28
   go_wp2_with (first | ((with_reducible refine gate_dst (N := 2) rfl ?_); refine box_event ?hg (N := 2) ?hd (cs := #[.int .i64 a0_0, .int .i64 a0_1]) (t := 34) ?hr ?_; (case hd => rfl); (case hg => rfl); (case hr => first | (go_simp; done) | (go_simp; rfl)); intro gb321 hg w5 hbox hb; have n0_ := Aside0.mk (below_step (by repeat (first | (with_reducible first | exact HB.out | apply below_alloc | apply pw_below_drewN | apply below_drew1) | exact HB.out)) hb); have n1_ := Aside0.mk (hbox); have n2_ := Aside0.mk ((by rw [hg]; exact (below_size (by repeat (first | (with_reducible first | exact HB.out | apply below_alloc | apply pw_below_drewN | apply below_drew1) | exact HB.out))) : w.heap.size ≤ gb321)); have n3_ := Aside0.mk ((by rw [hg]; exact (below_size (by repeat (first | (with_reducible first | exact HB.out | apply below_alloc | apply pw_below_drewN | apply below_drew1) | exact HB.out))) : w.heap.size ≤ gb321)); clear HB; have HB := n0_; have BK321 := n1_; have GW321 := n2_; have GE321 := n3_; clear n0_ n1_ n2_ n3_; clear hb hbox hg) | ((with_reducible refine gate_dst (N := 3) rfl ?_); refine box_event ?hg (N := 3) ?hd (cs := #[.int .i64 a1_0, .int .i64 a1_1]) (t := 34) ?hr ?_; (case hd => rfl); (case hg => rfl); (case hr => first | (go_simp; done) | (go_simp; rfl)); intro gb322 hg w6 hbox hb; have n0_ := Aside0.mk (blk_below (g := gb321) (o := .cells #[.int .i64 a0_0, .int .i64 a0_1] 34 (0, 0)) (by (with_reducible repeat (first | refine blk_drewN ?_ _ | refine blk_drew ?_ | refine blk_alloc ?_ _)); exact BK321.out) hb); have n1_ := Aside0.mk (below_step (by repeat (first | (with_reducible first | exact HB.out | apply below_alloc | apply pw_below_drewN | apply below_drew1 | refine below_set ?_ GE321.out) | exact HB.out)) hb); have n2_ := Aside0.mk (hbox); have n3_ := Aside0.mk ((by rw [hg]; exact (below_size (by repeat (first | (with_reducible first | exact HB.out | apply below_alloc | apply pw_below_drewN | apply below_drew1 | refine below_set ?_ GE321.out) | exact HB.out))) : w.heap.size ≤ gb322)); have n4_ := Aside0.mk ((by rw [hg]; exact (below_size (by repeat (first | (with_reducible first | exact HB.out | apply below_alloc | apply pw_below_drewN | apply below_drew1 | refine below_set ?_ GE321.out) | exact HB.out))) : w.heap.size ≤ gb322)); have n5_ := Aside0.mk ((by rw [hg]; exact Nat.ne_of_lt (blk_lt (g := gb321) (o := .cells #[.int .i64 a0_0, .int .i64 a0_1] 34 (0, 0)) (by (with_reducible repeat (first | refine blk_drewN ?_ _ | refine blk_drew ?_ | refine blk_alloc ?_ _)); exact BK321.out)) : gb321 ≠ gb322)); have n6_ := Aside0.mk ((by rw [hg]; exact Nat.ne_of_gt (blk_lt (g := gb321) (o := .cells #[.int .i64 a0_0, .int .i64 a0_1] 34 (0, 0)) (by (with_reducible repeat (first | refine blk_drewN ?_ _ | refine blk_drew ?_ | refine blk_alloc ?_ _)); exact BK321.out)) : gb322 ≠ gb321)); clear BK321; clear HB; have BK321 := n0_; have HB := n1_; have BK322 := n2_; have GW322 := n3_; have GE322 := n4_; have NB321_322 := n5_; have NB322_321 := n6_; clear n0_ n1_ n2_ n3_ n4_ n5_ n6_; clear hb hbox hg; have hnb7 := NB321_322.out; have hnc7 := NB322_321.out; have hcz8_0 : w6.cell? ⟨gb321, 0, none⟩ = some (.int .i64 a0_0) := (blk_cell BK321.out 0).trans rfl; have hcz8_1 : w6.cell? ⟨gb321, 1, none⟩ = some (.int .i64 a0_1) := (blk_cell BK321.out 1).trans rfl; have hfz8_0 := blk_frozen BK321.out 0; have hfz8_1 := blk_frozen BK321.out 1; have hcz9_0 : w6.cell? ⟨gb322, 0, none⟩ = some (.int .i64 a1_0) := (blk_cell BK322.out 0).trans rfl; have hcz9_1 : w6.cell? ⟨gb322, 1, none⟩ = some (.int .i64 a1_1) := (blk_cell BK322.out 1).trans rfl; have hfz9_0 := blk_frozen BK322.out 0; have hfz9_1 := blk_frozen BK322.out 1))
   go_ret
   exact ⟨by first | rfl | (simp [errW_none, errW_some] <;> rfl) | (simp [*, errW_none, errW_some] <;> rfl), by repeat (first | (with_reducible first | exact HB.out | apply below_alloc | apply pw_below_drewN | apply below_drew1 | refine below_set ?_ GE321.out | refine below_set ?_ GE322.out) | exact HB.out)⟩
  ·
   rw [if_neg c4] at H
   have c4b0 : decide (0 < a0_1) = false := decide_eq_false c4
   clear c4
   obtain rfl := Option.some.inj H
   go_enter Try.func28, Try.ntmps28
   go_wp2_with (first | ((with_reducible refine gate_dst (N := 2) rfl ?_); refine box_event ?hg (N := 2) ?hd (cs := #[.int .i64 a0_0, .int .i64 a0_1]) (t := 34) ?hr ?_; (case hd => rfl); (case hg => rfl); (case hr => first | (go_simp; done) | (go_simp; rfl)); intro gb321 hg w10 hbox hb; have n0_ := Aside0.mk (below_step (by repeat (first | (with_reducible first | exact HB.out | apply below_alloc | apply pw_below_drewN | apply below_drew1) | exact HB.out)) hb); have n1_ := Aside0.mk (hbox); have n2_ := Aside0.mk ((by rw [hg]; exact (below_size (by repeat (first | (with_reducible first | exact HB.out | apply below_alloc | apply pw_below_drewN | apply below_drew1) | exact HB.out))) : w.heap.size ≤ gb321)); have n3_ := Aside0.mk ((by rw [hg]; exact (below_size (by repeat (first | (with_reducible first | exact HB.out | apply below_alloc | apply pw_below_drewN | apply below_drew1) | exact HB.out))) : w.heap.size ≤ gb321)); clear HB; have HB := n0_; have BK321 := n1_; have GW321 := n2_; have GE321 := n3_; clear n0_ n1_ n2_ n3_; clear hb hbox hg) | ((with_reducible refine gate_dst (N := 3) rfl ?_); refine box_event ?hg (N := 3) ?hd (cs := #[.int .i64 a1_0, .int .i64 a1_1]) (t := 34) ?hr ?_; (case hd => rfl); (case hg => rfl); (case hr => first | (go_simp; done) | (go_simp; rfl)); intro gb322 hg w11 hbox hb; have n0_ := Aside0.mk (blk_below (g := gb321) (o := .cells #[.int .i64 a0_0, .int .i64 a0_1] 34 (0, 0)) (by (with_reducible repeat (first | refine blk_drewN ?_ _ | refine blk_drew ?_ | refine blk_alloc ?_ _)); exact BK321.out) hb); have n1_ := Aside0.mk (below_step (by repeat (first | (with_reducible first | exact HB.out | apply below_alloc | apply pw_below_drewN | apply below_drew1 | refine below_set ?_ GE321.out) | exact HB.out)) hb); have n2_ := Aside0.mk (hbox); have n3_ := Aside0.mk ((by rw [hg]; exact (below_size (by repeat (first | (with_reducible first | exact HB.out | apply below_alloc | apply pw_below_drewN | apply below_drew1 | refine below_set ?_ GE321.out) | exact HB.out))) : w.heap.size ≤ gb322)); have n4_ := Aside0.mk ((by rw [hg]; exact (below_size (by repeat (first | (with_reducible first | exact HB.out | apply below_alloc | apply pw_below_drewN | apply below_drew1 | refine below_set ?_ GE321.out) | exact HB.out))) : w.heap.size ≤ gb322)); have n5_ := Aside0.mk ((by rw [hg]; exact Nat.ne_of_lt (blk_lt (g := gb321) (o := .cells #[.int .i64 a0_0, .int .i64 a0_1] 34 (0, 0)) (by (with_reducible repeat (first | refine blk_drewN ?_ _ | refine blk_drew ?_ | refine blk_alloc ?_ _)); exact BK321.out)) : gb321 ≠ gb322)); have n6_ := Aside0.mk ((by rw [hg]; exact Nat.ne_of_gt (blk_lt (g := gb321) (o := .cells #[.int .i64 a0_0, .int .i64 a0_1] 34 (0, 0)) (by (with_reducible repeat (first | refine blk_drewN ?_ _ | refine blk_drew ?_ | refine blk_alloc ?_ _)); exact BK321.out)) : gb322 ≠ gb321)); clear BK321; clear HB; have BK321 := n0_; have HB := n1_; have BK322 := n2_; have GW322 := n3_; have GE322 := n4_; have NB321_322 := n5_; have NB322_321 := n6_; clear n0_ n1_ n2_ n3_ n4_ n5_ n6_; clear hb hbox hg; have hnb12 := NB321_322.out; have hnc12 := NB322_321.out; have hcz13_0 : w11.cell? ⟨gb321, 0, none⟩ = some (.int .i64 a0_0) := (blk_cell BK321.out 0).trans rfl; have hcz13_1 : w11.cell? ⟨gb321, 1, none⟩ = some (.int .i64 a0_1) := (blk_cell BK321.out 1).trans rfl; have hfz13_0 := blk_frozen BK321.out 0; have hfz13_1 := blk_frozen BK321.out 1))
   go_ret
   exact ⟨by first | rfl | (simp [errW_none, errW_some] <;> rfl) | (simp [*, errW_none, errW_some] <;> rfl), by repeat (first | (with_reducible first | exact HB.out | apply below_alloc | apply pw_below_drewN | apply below_drew1 | refine below_set ?_ GE321.out | refine below_set ?_ GE322.out) | exact HB.out)⟩
 ·
  rw [if_neg c3] at H
  have c3b0 : decide (1000000000 < a0_0) = false := decide_eq_false c3
  clear c3
  by_cases c14 : a0_1 > 1000000000
  ·
   rw [if_pos c14] at H
   have c14b0 : decide (1000000000 < a0_1) = true := decide_eq_true c14
   clear c14
   by_cases c15 : a0_1 > 0
   ·
    rw [if_pos c15] at H
    have c15b0 : decide (0 < a0_1) = true := decide_eq_true c15
    clear c15
    obtain rfl := Option.some.inj H
    go_enter Try.func28, Try.ntmps28
    go_wp2_with (first | ((with_reducible refine gate_dst (N := 2) rfl ?_); refine box_event ?hg (N := 2) ?hd (cs := #[.int .i64 a0_0, .int .i64 a0_1]) (t := 34) ?hr ?_; (case hd => rfl); (case hg => rfl); (case hr => first | (go_simp; done) | (go_simp; rfl)); intro gb321 hg w16 hbox hb; have n0_ := Aside0.mk (below_step (by repeat (first | (with_reducible first | exact HB.out | apply below_alloc | apply pw_below_drewN | apply below_drew1) | exact HB.out)) hb); have n1_ := Aside0.mk (hbox); have n2_ := Aside0.mk ((by rw [hg]; exact (below_size (by repeat (first | (with_reducible first | exact HB.out | apply below_alloc | apply pw_below_drewN | apply below_drew1) | exact HB.out))) : w.heap.size ≤ gb321)); have n3_ := Aside0.mk ((by rw [hg]; exact (below_size (by repeat (first | (with_reducible first | exact HB.out | apply below_alloc | apply pw_below_drewN | apply below_drew1) | exact HB.out))) : w.heap.size ≤ gb321)); clear HB; have HB := n0_; have BK321 := n1_; have GW321 := n2_; have GE321 := n3_; clear n0_ n1_ n2_ n3_; clear hb hbox hg) | ((with_reducible refine gate_dst (N := 3) rfl ?_); refine box_event ?hg (N := 3) ?hd (cs := #[.int .i64 a1_0, .int .i64 a1_1]) (t := 34) ?hr ?_; (case hd => rfl); (case hg => rfl); (case hr => first | (go_simp; done) | (go_simp; rfl)); intro gb322 hg w17 hbox hb; have n0_ := Aside0.mk (blk_below (g := gb321) (o := .cells #[.int .i64 a0_0, .int .i64 a0_1] 34 (0, 0)) (by (with_reducible repeat (first | refine blk_drewN ?_ _ | refine blk_drew ?_ | refine blk_alloc ?_ _)); exact BK321.out) hb); have n1_ := Aside0.mk (below_step (by repeat (first | (with_reducible first | exact HB.out | apply below_alloc | apply pw_below_drewN | apply below_drew1 | refine below_set ?_ GE321.out) | exact HB.out)) hb); have n2_ := Aside0.mk (hbox); have n3_ := Aside0.mk ((by rw [hg]; exact (below_size (by repeat (first | (with_reducible first | exact HB.out | apply below_alloc | apply pw_below_drewN | apply below_drew1 | refine below_set ?_ GE321.out) | exact HB.out))) : w.heap.size ≤ gb322)); have n4_ := Aside0.mk ((by rw [hg]; exact (below_size (by repeat (first | (with_reducible first | exact HB.out | apply below_alloc | apply pw_below_drewN | apply below_drew1 | refine below_set ?_ GE321.out) | exact HB.out))) : w.heap.size ≤ gb322)); have n5_ := Aside0.mk ((by rw [hg]; exact Nat.ne_of_lt (blk_lt (g := gb321) (o := .cells #[.int .i64 a0_0, .int .i64 a0_1] 34 (0, 0)) (by (with_reducible repeat (first | refine blk_drewN ?_ _ | refine blk_drew ?_ | refine blk_alloc ?_ _)); exact BK321.out)) : gb321 ≠ gb322)); have n6_ := Aside0.mk ((by rw [hg]; exact Nat.ne_of_gt (blk_lt (g := gb321) (o := .cells #[.int .i64 a0_0, .int .i64 a0_1] 34 (0, 0)) (by (with_reducible repeat (first | refine blk_drewN ?_ _ | refine blk_drew ?_ | refine blk_alloc ?_ _)); exact BK321.out)) : gb322 ≠ gb321)); clear BK321; clear HB; have BK321 := n0_; have HB := n1_; have BK322 := n2_; have GW322 := n3_; have GE322 := n4_; have NB321_322 := n5_; have NB322_321 := n6_; clear n0_ n1_ n2_ n3_ n4_ n5_ n6_; clear hb hbox hg; have hnb18 := NB321_322.out; have hnc18 := NB322_321.out; have hcz19_0 : w17.cell? ⟨gb321, 0, none⟩ = some (.int .i64 a0_0) := (blk_cell BK321.out 0).trans rfl; have hcz19_1 : w17.cell? ⟨gb321, 1, none⟩ = some (.int .i64 a0_1) := (blk_cell BK321.out 1).trans rfl; have hfz19_0 := blk_frozen BK321.out 0; have hfz19_1 := blk_frozen BK321.out 1; have hcz20_0 : w17.cell? ⟨gb322, 0, none⟩ = some (.int .i64 a1_0) := (blk_cell BK322.out 0).trans rfl; have hcz20_1 : w17.cell? ⟨gb322, 1, none⟩ = some (.int .i64 a1_1) := (blk_cell BK322.out 1).trans rfl; have hfz20_0 := blk_frozen BK322.out 0; have hfz20_1 := blk_frozen BK322.out 1))
    go_ret
    exact ⟨by first | rfl | (simp [errW_none, errW_some] <;> rfl) | (simp [*, errW_none, errW_some] <;> rfl), by repeat (first | (with_reducible first | exact HB.out | apply below_alloc | apply pw_below_drewN | apply below_drew1 | refine below_set ?_ GE321.out | refine below_set ?_ GE322.out) | exact HB.out)⟩
   ·
    rw [if_neg c15] at H
    have c15b0 : decide (0 < a0_1) = false := decide_eq_false c15
    clear c15
    obtain rfl := Option.some.inj H
    go_enter Try.func28, Try.ntmps28
    go_wp2_with (first | ((with_reducible refine gate_dst (N := 2) rfl ?_); refine box_event ?hg (N := 2) ?hd (cs := #[.int .i64 a0_0, .int .i64 a0_1]) (t := 34) ?hr ?_; (case hd => rfl); (case hg => rfl); (case hr => first | (go_simp; done) | (go_simp; rfl)); intro gb321 hg w21 hbox hb; have n0_ := Aside0.mk (below_step (by repeat (first | (with_reducible first | exact HB.out | apply below_alloc | apply pw_below_drewN | apply below_drew1) | exact HB.out)) hb); have n1_ := Aside0.mk (hbox); have n2_ := Aside0.mk ((by rw [hg]; exact (below_size (by repeat (first | (with_reducible first | exact HB.out | apply below_alloc | apply pw_below_drewN | apply below_drew1) | exact HB.out))) : w.heap.size ≤ gb321)); have n3_ := Aside0.mk ((by rw [hg]; exact (below_size (by repeat (first | (with_reducible first | exact HB.out | apply below_alloc | apply pw_below_drewN | apply below_drew1) | exact HB.out))) : w.heap.size ≤ gb321)); clear HB; have HB := n0_; have BK321 := n1_; have GW321 := n2_; have GE321 := n3_; clear n0_ n1_ n2_ n3_; clear hb hbox hg) | ((with_reducible refine gate_dst (N := 3) rfl ?_); refine box_event ?hg (N := 3) ?hd (cs := #[.int .i64 a1_0, .int .i64 a1_1]) (t := 34) ?hr ?_; (case hd => rfl); (case hg => rfl); (case hr => first | (go_simp; done) | (go_simp; rfl)); intro gb322 hg w22 hbox hb; have n0_ := Aside0.mk (blk_below (g := gb321) (o := .cells #[.int .i64 a0_0, .int .i64 a0_1] 34 (0, 0)) (by (with_reducible repeat (first | refine blk_drewN ?_ _ | refine blk_drew ?_ | refine blk_alloc ?_ _)); exact BK321.out) hb); have n1_ := Aside0.mk (below_step (by repeat (first | (with_reducible first | exact HB.out | apply below_alloc | apply pw_below_drewN | apply below_drew1 | refine below_set ?_ GE321.out) | exact HB.out)) hb); have n2_ := Aside0.mk (hbox); have n3_ := Aside0.mk ((by rw [hg]; exact (below_size (by repeat (first | (with_reducible first | exact HB.out | apply below_alloc | apply pw_below_drewN | apply below_drew1 | refine below_set ?_ GE321.out) | exact HB.out))) : w.heap.size ≤ gb322)); have n4_ := Aside0.mk ((by rw [hg]; exact (below_size (by repeat (first | (with_reducible first | exact HB.out | apply below_alloc | apply pw_below_drewN | apply below_drew1 | refine below_set ?_ GE321.out) | exact HB.out))) : w.heap.size ≤ gb322)); have n5_ := Aside0.mk ((by rw [hg]; exact Nat.ne_of_lt (blk_lt (g := gb321) (o := .cells #[.int .i64 a0_0, .int .i64 a0_1] 34 (0, 0)) (by (with_reducible repeat (first | refine blk_drewN ?_ _ | refine blk_drew ?_ | refine blk_alloc ?_ _)); exact BK321.out)) : gb321 ≠ gb322)); have n6_ := Aside0.mk ((by rw [hg]; exact Nat.ne_of_gt (blk_lt (g := gb321) (o := .cells #[.int .i64 a0_0, .int .i64 a0_1] 34 (0, 0)) (by (with_reducible repeat (first | refine blk_drewN ?_ _ | refine blk_drew ?_ | refine blk_alloc ?_ _)); exact BK321.out)) : gb322 ≠ gb321)); clear BK321; clear HB; have BK321 := n0_; have HB := n1_; have BK322 := n2_; have GW322 := n3_; have GE322 := n4_; have NB321_322 := n5_; have NB322_321 := n6_; clear n0_ n1_ n2_ n3_ n4_ n5_ n6_; clear hb hbox hg; have hnb23 := NB321_322.out; have hnc23 := NB322_321.out; have hcz24_0 : w22.cell? ⟨gb321, 0, none⟩ = some (.int .i64 a0_0) := (blk_cell BK321.out 0).trans rfl; have hcz24_1 : w22.cell? ⟨gb321, 1, none⟩ = some (.int .i64 a0_1) := (blk_cell BK321.out 1).trans rfl; have hfz24_0 := blk_frozen BK321.out 0; have hfz24_1 := blk_frozen BK321.out 1))
    go_ret
    exact ⟨by first | rfl | (simp [errW_none, errW_some] <;> rfl) | (simp [*, errW_none, errW_some] <;> rfl), by repeat (first | (with_reducible first | exact HB.out | apply below_alloc | apply pw_below_drewN | apply below_drew1 | refine below_set ?_ GE321.out | refine below_set ?_ GE322.out) | exact HB.out)⟩
  ·
   rw [if_neg c14] at H
   have c14b0 : decide (1000000000 < a0_1) = false := decide_eq_false c14
   clear c14
   by_cases c25 : a1_0 > 1000000000
   ·
    rw [if_pos c25] at H
    have c25b0 : decide (1000000000 < a1_0) = true := decide_eq_true c25
    clear c25
    by_cases c26 : a0_1 > 0
    ·
     rw [if_pos c26] at H
     have c26b0 : decide (0 < a0_1) = true := decide_eq_true c26
     clear c26
     obtain rfl := Option.some.inj H
     go_enter Try.func28, Try.ntmps28
     go_wp2_with (first | ((with_reducible refine gate_dst (N := 2) rfl ?_); refine box_event ?hg (N := 2) ?hd (cs := #[.int .i64 a0_0, .int .i64 a0_1]) (t := 34) ?hr ?_; (case hd => rfl); (case hg => rfl); (case hr => first | (go_simp; done) | (go_simp; rfl)); intro gb321 hg w27 hbox hb; have n0_ := Aside0.mk (below_step (by repeat (first | (with_reducible first | exact HB.out | apply below_alloc | apply pw_below_drewN | apply below_drew1) | exact HB.out)) hb); have n1_ := Aside0.mk (hbox); have n2_ := Aside0.mk ((by rw [hg]; exact (below_size (by repeat (first | (with_reducible first | exact HB.out | apply below_alloc | apply pw_below_drewN | apply below_drew1) | exact HB.out))) : w.heap.size ≤ gb321)); have n3_ := Aside0.mk ((by rw [hg]; exact (below_size (by repeat (first | (with_reducible first | exact HB.out | apply below_alloc | apply pw_below_drewN | apply below_drew1) | exact HB.out))) : w.heap.size ≤ gb321)); clear HB; have HB := n0_; have BK321 := n1_; have GW321 := n2_; have GE321 := n3_; clear n0_ n1_ n2_ n3_; clear hb hbox hg) | ((with_reducible refine gate_dst (N := 3) rfl ?_); refine box_event ?hg (N := 3) ?hd (cs := #[.int .i64 a1_0, .int .i64 a1_1]) (t := 34) ?hr ?_; (case hd => rfl); (case hg => rfl); (case hr => first | (go_simp; done) | (go_simp; rfl)); intro gb322 hg w28 hbox hb; have n0_ := Aside0.mk (blk_below (g := gb321) (o := .cells #[.int .i64 a0_0, .int .i64 a0_1] 34 (0, 0)) (by (with_reducible repeat (first | refine blk_drewN ?_ _ | refine blk_drew ?_ | refine blk_alloc ?_ _)); exact BK321.out) hb); have n1_ := Aside0.mk (below_step (by repeat (first | (with_reducible first | exact HB.out | apply below_alloc | apply pw_below_drewN | apply below_drew1 | refine below_set ?_ GE321.out) | exact HB.out)) hb); have n2_ := Aside0.mk (hbox); have n3_ := Aside0.mk ((by rw [hg]; exact (below_size (by repeat (first | (with_reducible first | exact HB.out | apply below_alloc | apply pw_below_drewN | apply below_drew1 | refine below_set ?_ GE321.out) | exact HB.out))) : w.heap.size ≤ gb322)); have n4_ := Aside0.mk ((by rw [hg]; exact (below_size (by repeat (first | (with_reducible first | exact HB.out | apply below_alloc | apply pw_below_drewN | apply below_drew1 | refine below_set ?_ GE321.out) | exact HB.out))) : w.heap.size ≤ gb322)); have n5_ := Aside0.mk ((by rw [hg]; exact Nat.ne_of_lt (blk_lt (g := gb321) (o := .cells #[.int .i64 a0_0, .int .i64 a0_1] 34 (0, 0)) (by (with_reducible repeat (first | refine blk_drewN ?_ _ | refine blk_drew ?_ | refine blk_alloc ?_ _)); exact BK321.out)) : gb321 ≠ gb322)); have n6_ := Aside0.mk ((by rw [hg]; exact Nat.ne_of_gt (blk_lt (g := gb321) (o := .cells #[.int .i64 a0_0, .int .i64 a0_1] 34 (0, 0)) (by (with_reducible repeat (first | refine blk_drewN ?_ _ | refine blk_drew ?_ | refine blk_alloc ?_ _)); exact BK321.out)) : gb322 ≠ gb321)); clear BK321; clear HB; have BK321 := n0_; have HB := n1_; have BK322 := n2_; have GW322 := n3_; have GE322 := n4_; have NB321_322 := n5_; have NB322_321 := n6_; clear n0_ n1_ n2_ n3_ n4_ n5_ n6_; clear hb hbox hg; have hnb29 := NB321_322.out; have hnc29 := NB322_321.out; have hcz30_0 : w28.cell? ⟨gb321, 0, none⟩ = some (.int .i64 a0_0) := (blk_cell BK321.out 0).trans rfl; have hcz30_1 : w28.cell? ⟨gb321, 1, none⟩ = some (.int .i64 a0_1) := (blk_cell BK321.out 1).trans rfl; have hfz30_0 := blk_frozen BK321.out 0; have hfz30_1 := blk_frozen BK321.out 1; have hcz31_0 : w28.cell? ⟨gb322, 0, none⟩ = some (.int .i64 a1_0) := (blk_cell BK322.out 0).trans rfl; have hcz31_1 : w28.cell? ⟨gb322, 1, none⟩ = some (.int .i64 a1_1) := (blk_cell BK322.out 1).trans rfl; have hfz31_0 := blk_frozen BK322.out 0; have hfz31_1 := blk_frozen BK322.out 1))
     go_ret
     exact ⟨by first | rfl | (simp [errW_none, errW_some] <;> rfl) | (simp [*, errW_none, errW_some] <;> rfl), by repeat (first | (with_reducible first | exact HB.out | apply below_alloc | apply pw_below_drewN | apply below_drew1 | refine below_set ?_ GE321.out | refine below_set ?_ GE322.out) | exact HB.out)⟩
    ·
     rw [if_neg c26] at H
     have c26b0 : decide (0 < a0_1) = false := decide_eq_false c26
     clear c26
     obtain rfl := Option.some.inj H
     go_enter Try.func28, Try.ntmps28
     go_wp2_with (first | ((with_reducible refine gate_dst (N := 2) rfl ?_); refine box_event ?hg (N := 2) ?hd (cs := #[.int .i64 a0_0, .int .i64 a0_1]) (t := 34) ?hr ?_; (case hd => rfl); (case hg => rfl); (case hr => first | (go_simp; done) | (go_simp; rfl)); intro gb321 hg w32 hbox hb; have n0_ := Aside0.mk (below_step (by repeat (first | (with_reducible first | exact HB.out | apply below_alloc | apply pw_below_drewN | apply below_drew1) | exact HB.out)) hb); have n1_ := Aside0.mk (hbox); have n2_ := Aside0.mk ((by rw [hg]; exact (below_size (by repeat (first | (with_reducible first | exact HB.out | apply below_alloc | apply pw_below_drewN | apply below_drew1) | exact HB.out))) : w.heap.size ≤ gb321)); have n3_ := Aside0.mk ((by rw [hg]; exact (below_size (by repeat (first | (with_reducible first | exact HB.out | apply below_alloc | apply pw_below_drewN | apply below_drew1) | exact HB.out))) : w.heap.size ≤ gb321)); clear HB; have HB := n0_; have BK321 := n1_; have GW321 := n2_; have GE321 := n3_; clear n0_ n1_ n2_ n3_; clear hb hbox hg) | ((with_reducible refine gate_dst (N := 3) rfl ?_); refine box_event ?hg (N := 3) ?hd (cs := #[.int .i64 a1_0, .int .i64 a1_1]) (t := 34) ?hr ?_; (case hd => rfl); (case hg => rfl); (case hr => first | (go_simp; done) | (go_simp; rfl)); intro gb322 hg w33 hbox hb; have n0_ := Aside0.mk (blk_below (g := gb321) (o := .cells #[.int .i64 a0_0, .int .i64 a0_1] 34 (0, 0)) (by (with_reducible repeat (first | refine blk_drewN ?_ _ | refine blk_drew ?_ | refine blk_alloc ?_ _)); exact BK321.out) hb); have n1_ := Aside0.mk (below_step (by repeat (first | (with_reducible first | exact HB.out | apply below_alloc | apply pw_below_drewN | apply below_drew1 | refine below_set ?_ GE321.out) | exact HB.out)) hb); have n2_ := Aside0.mk (hbox); have n3_ := Aside0.mk ((by rw [hg]; exact (below_size (by repeat (first | (with_reducible first | exact HB.out | apply below_alloc | apply pw_below_drewN | apply below_drew1 | refine below_set ?_ GE321.out) | exact HB.out))) : w.heap.size ≤ gb322)); have n4_ := Aside0.mk ((by rw [hg]; exact (below_size (by repeat (first | (with_reducible first | exact HB.out | apply below_alloc | apply pw_below_drewN | apply below_drew1 | refine below_set ?_ GE321.out) | exact HB.out))) : w.heap.size ≤ gb322)); have n5_ := Aside0.mk ((by rw [hg]; exact Nat.ne_of_lt (blk_lt (g := gb321) (o := .cells #[.int .i64 a0_0, .int .i64 a0_1] 34 (0, 0)) (by (with_reducible repeat (first | refine blk_drewN ?_ _ | refine blk_drew ?_ | refine blk_alloc ?_ _)); exact BK321.out)) : gb321 ≠ gb322)); have n6_ := Aside0.mk ((by rw [hg]; exact Nat.ne_of_gt (blk_lt (g := gb321) (o := .cells #[.int .i64 a0_0, .int .i64 a0_1] 34 (0, 0)) (by (with_reducible repeat (first | refine blk_drewN ?_ _ | refine blk_drew ?_ | refine blk_alloc ?_ _)); exact BK321.out)) : gb322 ≠ gb321)); clear BK321; clear HB; have BK321 := n0_; have HB := n1_; have BK322 := n2_; have GW322 := n3_; have GE322 := n4_; have NB321_322 := n5_; have NB322_321 := n6_; clear n0_ n1_ n2_ n3_ n4_ n5_ n6_; clear hb hbox hg; have hnb34 := NB321_322.out; have hnc34 := NB322_321.out; have hcz35_0 : w33.cell? ⟨gb321, 0, none⟩ = some (.int .i64 a0_0) := (blk_cell BK321.out 0).trans rfl; have hcz35_1 : w33.cell? ⟨gb321, 1, none⟩ = some (.int .i64 a0_1) := (blk_cell BK321.out 1).trans rfl; have hfz35_0 := blk_frozen BK321.out 0; have hfz35_1 := blk_frozen BK321.out 1; have hcz36_0 : w33.cell? ⟨gb322, 0, none⟩ = some (.int .i64 a1_0) := (blk_cell BK322.out 0).trans rfl; have hcz36_1 : w33.cell? ⟨gb322, 1, none⟩ = some (.int .i64 a1_1) := (blk_cell BK322.out 1).trans rfl; have hfz36_0 := blk_frozen BK322.out 0; have hfz36_1 := blk_frozen BK322.out 1))
     go_ret
     exact ⟨by first | rfl | (simp [errW_none, errW_some] <;> rfl) | (simp [*, errW_none, errW_some] <;> rfl), by repeat (first | (with_reducible first | exact HB.out | apply below_alloc | apply pw_below_drewN | apply below_drew1 | refine below_set ?_ GE321.out | refine below_set ?_ GE322.out) | exact HB.out)⟩
   ·
    rw [if_neg c25] at H
    have c25b0 : decide (1000000000 < a1_0) = false := decide_eq_false c25
    clear c25
    by_cases c37 : a1_1 > 1000000000
    ·
     rw [if_pos c37] at H
     have c37b0 : decide (1000000000 < a1_1) = true := decide_eq_true c37
     clear c37
     by_cases c38 : a0_1 > 0
     ·
      rw [if_pos c38] at H
      have c38b0 : decide (0 < a0_1) = true := decide_eq_true c38
      clear c38
      obtain rfl := Option.some.inj H
      go_enter Try.func28, Try.ntmps28
      go_wp2_with (first | ((with_reducible refine gate_dst (N := 2) rfl ?_); refine box_event ?hg (N := 2) ?hd (cs := #[.int .i64 a0_0, .int .i64 a0_1]) (t := 34) ?hr ?_; (case hd => rfl); (case hg => rfl); (case hr => first | (go_simp; done) | (go_simp; rfl)); intro gb321 hg w39 hbox hb; have n0_ := Aside0.mk (below_step (by repeat (first | (with_reducible first | exact HB.out | apply below_alloc | apply pw_below_drewN | apply below_drew1) | exact HB.out)) hb); have n1_ := Aside0.mk (hbox); have n2_ := Aside0.mk ((by rw [hg]; exact (below_size (by repeat (first | (with_reducible first | exact HB.out | apply below_alloc | apply pw_below_drewN | apply below_drew1) | exact HB.out))) : w.heap.size ≤ gb321)); have n3_ := Aside0.mk ((by rw [hg]; exact (below_size (by repeat (first | (with_reducible first | exact HB.out | apply below_alloc | apply pw_below_drewN | apply below_drew1) | exact HB.out))) : w.heap.size ≤ gb321)); clear HB; have HB := n0_; have BK321 := n1_; have GW321 := n2_; have GE321 := n3_; clear n0_ n1_ n2_ n3_; clear hb hbox hg) | ((with_reducible refine gate_dst (N := 3) rfl ?_); refine box_event ?hg (N := 3) ?hd (cs := #[.int .i64 a1_0, .int .i64 a1_1]) (t := 34) ?hr ?_; (case hd => rfl); (case hg => rfl); (case hr => first | (go_simp; done) | (go_simp; rfl)); intro gb322 hg w40 hbox hb; have n0_ := Aside0.mk (blk_below (g := gb321) (o := .cells #[.int .i64 a0_0, .int .i64 a0_1] 34 (0, 0)) (by (with_reducible repeat (first | refine blk_drewN ?_ _ | refine blk_drew ?_ | refine blk_alloc ?_ _)); exact BK321.out) hb); have n1_ := Aside0.mk (below_step (by repeat (first | (with_reducible first | exact HB.out | apply below_alloc | apply pw_below_drewN | apply below_drew1 | refine below_set ?_ GE321.out) | exact HB.out)) hb); have n2_ := Aside0.mk (hbox); have n3_ := Aside0.mk ((by rw [hg]; exact (below_size (by repeat (first | (with_reducible first | exact HB.out | apply below_alloc | apply pw_below_drewN | apply below_drew1 | refine below_set ?_ GE321.out) | exact HB.out))) : w.heap.size ≤ gb322)); have n4_ := Aside0.mk ((by rw [hg]; exact (below_size (by repeat (first | (with_reducible first | exact HB.out | apply below_alloc | apply pw_below_drewN | apply below_drew1 | refine below_set ?_ GE321.out) | exact HB.out))) : w.heap.size ≤ gb322)); have n5_ := Aside0.mk ((by rw [hg]; exact Nat.ne_of_lt (blk_lt (g := gb321) (o := .cells #[.int .i64 a0_0, .int .i64 a0_1] 34 (0, 0)) (by (with_reducible repeat (first | refine blk_drewN ?_ _ | refine blk_drew ?_ | refine blk_alloc ?_ _)); exact BK321.out)) : gb321 ≠ gb322)); have n6_ := Aside0.mk ((by rw [hg]; exact Nat.ne_of_gt (blk_lt (g := gb321) (o := .cells #[.int .i64 a0_0, .int .i64 a0_1] 34 (0, 0)) (by (with_reducible repeat (first | refine blk_drewN ?_ _ | refine blk_drew ?_ | refine blk_alloc ?_ _)); exact BK321.out)) : gb322 ≠ gb321)); clear BK321; clear HB; have BK321 := n0_; have HB := n1_; have BK322 := n2_; have GW322 := n3_; have GE322 := n4_; have NB321_322 := n5_; have NB322_321 := n6_; clear n0_ n1_ n2_ n3_ n4_ n5_ n6_; clear hb hbox hg; have hnb41 := NB321_322.out; have hnc41 := NB322_321.out; have hcz42_0 : w40.cell? ⟨gb321, 0, none⟩ = some (.int .i64 a0_0) := (blk_cell BK321.out 0).trans rfl; have hcz42_1 : w40.cell? ⟨gb321, 1, none⟩ = some (.int .i64 a0_1) := (blk_cell BK321.out 1).trans rfl; have hfz42_0 := blk_frozen BK321.out 0; have hfz42_1 := blk_frozen BK321.out 1; have hcz43_0 : w40.cell? ⟨gb322, 0, none⟩ = some (.int .i64 a1_0) := (blk_cell BK322.out 0).trans rfl; have hcz43_1 : w40.cell? ⟨gb322, 1, none⟩ = some (.int .i64 a1_1) := (blk_cell BK322.out 1).trans rfl; have hfz43_0 := blk_frozen BK322.out 0; have hfz43_1 := blk_frozen BK322.out 1))
      go_ret
      exact ⟨by first | rfl | (simp [errW_none, errW_some] <;> rfl) | (simp [*, errW_none, errW_some] <;> rfl), by repeat (first | (with_reducible first | exact HB.out | apply below_alloc | apply pw_below_drewN | apply below_drew1 | refine below_set ?_ GE321.out | refine below_set ?_ GE322.out) | exact HB.out)⟩
     ·
      rw [if_neg c38] at H
      have c38b0 : decide (0 < a0_1) = false := decide_eq_false c38
      clear c38
      obtain rfl := Option.some.inj H
      go_enter Try.func28, Try.ntmps28
      go_wp2_with (first | ((with_reducible refine gate_dst (N := 2) rfl ?_); refine box_event ?hg (N := 2) ?hd (cs := #[.int .i64 a0_0, .int .i64 a0_1]) (t := 34) ?hr ?_; (case hd => rfl); (case hg => rfl); (case hr => first | (go_simp; done) | (go_simp; rfl)); intro gb321 hg w44 hbox hb; have n0_ := Aside0.mk (below_step (by repeat (first | (with_reducible first | exact HB.out | apply below_alloc | apply pw_below_drewN | apply below_drew1) | exact HB.out)) hb); have n1_ := Aside0.mk (hbox); have n2_ := Aside0.mk ((by rw [hg]; exact (below_size (by repeat (first | (with_reducible first | exact HB.out | apply below_alloc | apply pw_below_drewN | apply below_drew1) | exact HB.out))) : w.heap.size ≤ gb321)); have n3_ := Aside0.mk ((by rw [hg]; exact (below_size (by repeat (first | (with_reducible first | exact HB.out | apply below_alloc | apply pw_below_drewN | apply below_drew1) | exact HB.out))) : w.heap.size ≤ gb321)); clear HB; have HB := n0_; have BK321 := n1_; have GW321 := n2_; have GE321 := n3_; clear n0_ n1_ n2_ n3_; clear hb hbox hg) | ((with_reducible refine gate_dst (N := 3) rfl ?_); refine box_event ?hg (N := 3) ?hd (cs := #[.int .i64 a1_0, .int .i64 a1_1]) (t := 34) ?hr ?_; (case hd => rfl); (case hg => rfl); (case hr => first | (go_simp; done) | (go_simp; rfl)); intro gb322 hg w45 hbox hb; have n0_ := Aside0.mk (blk_below (g := gb321) (o := .cells #[.int .i64 a0_0, .int .i64 a0_1] 34 (0, 0)) (by (with_reducible repeat (first | refine blk_drewN ?_ _ | refine blk_drew ?_ | refine blk_alloc ?_ _)); exact BK321.out) hb); have n1_ := Aside0.mk (below_step (by repeat (first | (with_reducible first | exact HB.out | apply below_alloc | apply pw_below_drewN | apply below_drew1 | refine below_set ?_ GE321.out) | exact HB.out)) hb); have n2_ := Aside0.mk (hbox); have n3_ := Aside0.mk ((by rw [hg]; exact (below_size (by repeat (first | (with_reducible first | exact HB.out | apply below_alloc | apply pw_below_drewN | apply below_drew1 | refine below_set ?_ GE321.out) | exact HB.out))) : w.heap.size ≤ gb322)); have n4_ := Aside0.mk ((by rw [hg]; exact (below_size (by repeat (first | (with_reducible first | exact HB.out | apply below_alloc | apply pw_below_drewN | apply below_drew1 | refine below_set ?_ GE321.out) | exact HB.out))) : w.heap.size ≤ gb322)); have n5_ := Aside0.mk ((by rw [hg]; exact Nat.ne_of_lt (blk_lt (g := gb321) (o := .cells #[.int .i64 a0_0, .int .i64 a0_1] 34 (0, 0)) (by (with_reducible repeat (first | refine blk_drewN ?_ _ | refine blk_drew ?_ | refine blk_alloc ?_ _)); exact BK321.out)) : gb321 ≠ gb322)); have n6_ := Aside0.mk ((by rw [hg]; exact Nat.ne_of_gt (blk_lt (g := gb321) (o := .cells #[.int .i64 a0_0, .int .i64 a0_1] 34 (0, 0)) (by (with_reducible repeat (first | refine blk_drewN ?_ _ | refine blk_drew ?_ | refine blk_alloc ?_ _)); exact BK321.out)) : gb322 ≠ gb321)); clear BK321; clear HB; have BK321 := n0_; have HB := n1_; have BK322 := n2_; have GW322 := n3_; have GE322 := n4_; have NB321_322 := n5_; have NB322_321 := n6_; clear n0_ n1_ n2_ n3_ n4_ n5_ n6_; clear hb hbox hg; have hnb46 := NB321_322.out; have hnc46 := NB322_321.out; have hcz47_0 : w45.cell? ⟨gb321, 0, none⟩ = some (.int .i64 a0_0) := (blk_cell BK321.out 0).trans rfl; have hcz47_1 : w45.cell? ⟨gb321, 1, none⟩ = some (.int .i64 a0_1) := (blk_cell BK321.out 1).trans rfl; have hfz47_0 := blk_frozen BK321.out 0; have hfz47_1 := blk_frozen BK321.out 1; have hcz48_0 : w45.cell? ⟨gb322, 0, none⟩ = some (.int .i64 a1_0) := (blk_cell BK322.out 0).trans rfl; have hcz48_1 : w45.cell? ⟨gb322, 1, none⟩ = some (.int .i64 a1_1) := (blk_cell BK322.out 1).trans rfl; have hfz48_0 := blk_frozen BK322.out 0; have hfz48_1 := blk_frozen BK322.out 1))
      go_ret
      exact ⟨by first | rfl | (simp [errW_none, errW_some] <;> rfl) | (simp [*, errW_none, errW_some] <;> rfl), by repeat (first | (with_reducible first | exact HB.out | apply below_alloc | apply pw_below_drewN | apply below_drew1 | refine below_set ?_ GE321.out | refine below_set ?_ GE322.out) | exact HB.out)⟩
    ·
     rw [if_neg c37] at H
     have c37b0 : decide (1000000000 < a1_1) = false := decide_eq_false c37
     clear c37
     by_cases c49 : a0_1 ≤ 0
     ·
      rw [if_pos c49] at H
      have c49b0 : decide (a0_1 ≤ 0) = true := decide_eq_true c49
      clear c49
      by_cases c50 : a0_1 > 0
      ·
       rw [if_pos c50] at H
       have c50b0 : decide (0 < a0_1) = true := decide_eq_true c50
       clear c50
       obtain rfl := Option.some.inj H
       go_enter Try.func28, Try.ntmps28
       go_wp2_with (first | ((with_reducible refine gate_dst (N := 2) rfl ?_); refine box_event ?hg (N := 2) ?hd (cs := #[.int .i64 a0_0, .int .i64 a0_1]) (t := 34) ?hr ?_; (case hd => rfl); (case hg => rfl); (case hr => first | (go_simp; done) | (go_simp; rfl)); intro gb321 hg w51 hbox hb; have n0_ := Aside0.mk (below_step (by repeat (first | (with_reducible first | exact HB.out | apply below_alloc | apply pw_below_drewN | apply below_drew1) | exact HB.out)) hb); have n1_ := Aside0.mk (hbox); have n2_ := Aside0.mk ((by rw [hg]; exact (below_size (by repeat (first | (with_reducible first | exact HB.out | apply below_alloc | apply pw_below_drewN | apply below_drew1) | exact HB.out))) : w.heap.size ≤ gb321)); have n3_ := Aside0.mk ((by rw [hg]; exact (below_size (by repeat (first | (with_reducible first | exact HB.out | apply below_alloc | apply pw_below_drewN | apply below_drew1) | exact HB.out))) : w.heap.size ≤ gb321)); clear HB; have HB := n0_; have BK321 := n1_; have GW321 := n2_; have GE321 := n3_; clear n0_ n1_ n2_ n3_; clear hb hbox hg) | ((with_reducible refine gate_dst (N := 3) rfl ?_); refine box_event ?hg (N := 3) ?hd (cs := #[.int .i64 a1_0, .int .i64 a1_1]) (t := 34) ?hr ?_; (case hd => rfl); (case hg => rfl); (case hr => first | (go_simp; done) | (go_simp; rfl)); intro gb322 hg w52 hbox hb; have n0_ := Aside0.mk (blk_below (g := gb321) (o := .cells #[.int .i64 a0_0, .int .i64 a0_1] 34 (0, 0)) (by (with_reducible repeat (first | refine blk_drewN ?_ _ | refine blk_drew ?_ | refine blk_alloc ?_ _)); exact BK321.out) hb); have n1_ := Aside0.mk (below_step (by repeat (first | (with_reducible first | exact HB.out | apply below_alloc | apply pw_below_drewN | apply below_drew1 | refine below_set ?_ GE321.out) | exact HB.out)) hb); have n2_ := Aside0.mk (hbox); have n3_ := Aside0.mk ((by rw [hg]; exact (below_size (by repeat (first | (with_reducible first | exact HB.out | apply below_alloc | apply pw_below_drewN | apply below_drew1 | refine below_set ?_ GE321.out) | exact HB.out))) : w.heap.size ≤ gb322)); have n4_ := Aside0.mk ((by rw [hg]; exact (below_size (by repeat (first | (with_reducible first | exact HB.out | apply below_alloc | apply pw_below_drewN | apply below_drew1 | refine below_set ?_ GE321.out) | exact HB.out))) : w.heap.size ≤ gb322)); have n5_ := Aside0.mk ((by rw [hg]; exact Nat.ne_of_lt (blk_lt (g := gb321) (o := .cells #[.int .i64 a0_0, .int .i64 a0_1] 34 (0, 0)) (by (with_reducible repeat (first | refine blk_drewN ?_ _ | refine blk_drew ?_ | refine blk_alloc ?_ _)); exact BK321.out)) : gb321 ≠ gb322)); have n6_ := Aside0.mk ((by rw [hg]; exact Nat.ne_of_gt (blk_lt (g := gb321) (o := .cells #[.int .i64 a0_0, .int .i64 a0_1] 34 (0, 0)) (by (with_reducible repeat (first | refine blk_drewN ?_ _ | refine blk_drew ?_ | refine blk_alloc ?_ _)); exact BK321.out)) : gb322 ≠ gb321)); clear BK321; clear HB; have BK321 := n0_; have HB := n1_; have BK322 := n2_; have GW322 := n3_; have GE322 := n4_; have NB321_322 := n5_; have NB322_321 := n6_; clear n0_ n1_ n2_ n3_ n4_ n5_ n6_; clear hb hbox hg; have hnb53 := NB321_322.out; have hnc53 := NB322_321.out; have hcz54_0 : w52.cell? ⟨gb321, 0, none⟩ = some (.int .i64 a0_0) := (blk_cell BK321.out 0).trans rfl; have hcz54_1 : w52.cell? ⟨gb321, 1, none⟩ = some (.int .i64 a0_1) := (blk_cell BK321.out 1).trans rfl; have hfz54_0 := blk_frozen BK321.out 0; have hfz54_1 := blk_frozen BK321.out 1; have hcz55_0 : w52.cell? ⟨gb322, 0, none⟩ = some (.int .i64 a1_0) := (blk_cell BK322.out 0).trans rfl; have hcz55_1 : w52.cell? ⟨gb322, 1, none⟩ = some (.int .i64 a1_1) := (blk_cell BK322.out 1).trans rfl; have hfz55_0 := blk_frozen BK322.out 0; have hfz55_1 := blk_frozen BK322.out 1))
       go_ret
       exact ⟨by first | rfl | (simp [errW_none, errW_some] <;> rfl) | (simp [*, errW_none, errW_some] <;> rfl), by repeat (first | (with_reducible first | exact HB.out | apply below_alloc | apply pw_below_drewN | apply below_drew1 | refine below_set ?_ GE321.out | refine below_set ?_ GE322.out) | exact HB.out)⟩
      ·
       rw [if_neg c50] at H
       have c50b0 : decide (0 < a0_1) = false := decide_eq_false c50
       clear c50
       obtain rfl := Option.some.inj H
       go_enter Try.func28, Try.ntmps28
       go_wp2_with (first | ((with_reducible refine gate_dst (N := 2) rfl ?_); refine box_event ?hg (N := 2) ?hd (cs := #[.int .i64 a0_0, .int .i64 a0_1]) (t := 34) ?hr ?_; (case hd => rfl); (case hg => rfl); (case hr => first | (go_simp; done) | (go_simp; rfl)); intro gb321 hg w56 hbox hb; have n0_ := Aside0.mk (below_step (by repeat (first | (with_reducible first | exact HB.out | apply below_alloc | apply pw_below_drewN | apply below_drew1) | exact HB.out)) hb); have n1_ := Aside0.mk (hbox); have n2_ := Aside0.mk ((by rw [hg]; exact (below_size (by repeat (first | (with_reducible first | exact HB.out | apply below_alloc | apply pw_below_drewN | apply below_drew1) | exact HB.out))) : w.heap.size ≤ gb321)); have n3_ := Aside0.mk ((by rw [hg]; exact (below_size (by repeat (first | (with_reducible first | exact HB.out | apply below_alloc | apply pw_below_drewN | apply below_drew1) | exact HB.out))) : w.heap.size ≤ gb321)); clear HB; have HB := n0_; have BK321 := n1_; have GW321 := n2_; have GE321 := n3_; clear n0_ n1_ n2_ n3_; clear hb hbox hg) | ((with_reducible refine gate_dst (N := 3) rfl ?_); refine box_event ?hg (N := 3) ?hd (cs := #[.int .i64 a1_0, .int .i64 a1_1]) (t := 34) ?hr ?_; (case hd => rfl); (case hg => rfl); (case hr => first | (go_simp; done) | (go_simp; rfl)); intro gb322 hg w57 hbox hb; have n0_ := Aside0.mk (blk_below (g := gb321) (o := .cells #[.int .i64 a0_0, .int .i64 a0_1] 34 (0, 0)) (by (with_reducible repeat (first | refine blk_drewN ?_ _ | refine blk_drew ?_ | refine blk_alloc ?_ _)); exact BK321.out) hb); have n1_ := Aside0.mk (below_step (by repeat (first | (with_reducible first | exact HB.out | apply below_alloc | apply pw_below_drewN | apply below_drew1 | refine below_set ?_ GE321.out) | exact HB.out)) hb); have n2_ := Aside0.mk (hbox); have n3_ := Aside0.mk ((by rw [hg]; exact (below_size (by repeat (first | (with_reducible first | exact HB.out | apply below_alloc | apply pw_below_drewN | apply below_drew1 | refine below_set ?_ GE321.out) | exact HB.out))) : w.heap.size ≤ gb322)); have n4_ := Aside0.mk ((by rw [hg]; exact (below_size (by repeat (first | (with_reducible first | exact HB.out | apply below_alloc | apply pw_below_drewN | apply below_drew1 | refine below_set ?_ GE321.out) | exact HB.out))) : w.heap.size ≤ gb322)); have n5_ := Aside0.mk ((by rw [hg]; exact Nat.ne_of_lt (blk_lt (g := gb321) (o := .cells #[.int .i64 a0_0, .int .i64 a0_1] 34 (0, 0)) (by (with_reducible repeat (first | refine blk_drewN ?_ _ | refine blk_drew ?_ | refine blk_alloc ?_ _)); exact BK321.out)) : gb321 ≠ gb322)); have n6_ := Aside0.mk ((by rw [hg]; exact Nat.ne_of_gt (blk_lt (g := gb321) (o := .cells #[.int .i64 a0_0, .int .i64 a0_1] 34 (0, 0)) (by (with_reducible repeat (first | refine blk_drewN ?_ _ | refine blk_drew ?_ | refine blk_alloc ?_ _)); exact BK321.out)) : gb322 ≠ gb321)); clear BK321; clear HB; have BK321 := n0_; have HB := n1_; have BK322 := n2_; have GW322 := n3_; have GE322 := n4_; have NB321_322 := n5_; have NB322_321 := n6_; clear n0_ n1_ n2_ n3_ n4_ n5_ n6_; clear hb hbox hg; have hnb58 := NB321_322.out; have hnc58 := NB322_321.out; have hcz59_0 : w57.cell? ⟨gb321, 0, none⟩ = some (.int .i64 a0_0) := (blk_cell BK321.out 0).trans rfl; have hcz59_1 : w57.cell? ⟨gb321, 1, none⟩ = some (.int .i64 a0_1) := (blk_cell BK321.out 1).trans rfl; have hfz59_0 := blk_frozen BK321.out 0; have hfz59_1 := blk_frozen BK321.out 1; have hcz60_0 : w57.cell? ⟨gb322, 0, none⟩ = some (.int .i64 a1_0) := (blk_cell BK322.out 0).trans rfl; have hcz60_1 : w57.cell? ⟨gb322, 1, none⟩ = some (.int .i64 a1_1) := (blk_cell BK322.out 1).trans rfl; have hfz60_0 := blk_frozen BK322.out 0; have hfz60_1 := blk_frozen BK322.out 1))
       go_ret
       exact ⟨by first | rfl | (simp [errW_none, errW_some] <;> rfl) | (simp [*, errW_none, errW_some] <;> rfl), by repeat (first | (with_reducible first | exact HB.out | apply below_alloc | apply pw_below_drewN | apply below_drew1 | refine below_set ?_ GE321.out | refine below_set ?_ GE322.out) | exact HB.out)⟩
     ·
      rw [if_neg c49] at H
      have c49b0 : decide (a0_1 ≤ 0) = false := decide_eq_false c49
      clear c49
      by_cases c61 : a1_1 ≤ 0
      ·
       rw [if_pos c61] at H
       have c61b0 : decide (a1_1 ≤ 0) = true := decide_eq_true c61
       clear c61
       by_cases c62 : a0_1 > 0
       ·
        rw [if_pos c62] at H
        have c62b0 : decide (0 < a0_1) = true := decide_eq_true c62
        clear c62
        obtain rfl := Option.some.inj H
        go_enter Try.func28, Try.ntmps28
        go_wp2_with (first | ((with_reducible refine gate_dst (N := 2) rfl ?_); refine box_event ?hg (N := 2) ?hd (cs := #[.int .i64 a0_0, .int .i64 a0_1]) (t := 34) ?hr ?_; (case hd => rfl); (case hg => rfl); (case hr => first | (go_simp; done) | (go_simp; rfl)); intro gb321 hg w63 hbox hb; have n0_ := Aside0.mk (below_step (by repeat (first | (with_reducible first | exact HB.out | apply below_alloc | apply pw_below_drewN | apply below_drew1) | exact HB.out)) hb); have n1_ := Aside0.mk (hbox); have n2_ := Aside0.mk ((by rw [hg]; exact (below_size (by repeat (first | (with_reducible first | exact HB.out | apply below_alloc | apply pw_below_drewN | apply below_drew1) | exact HB.out))) : w.heap.size ≤ gb321)); have n3_ := Aside0.mk ((by rw [hg]; exact (below_size (by repeat (first | (with_reducible first | exact HB.out | apply below_alloc | apply pw_below_drewN | apply below_drew1) | exact HB.out))) : w.heap.size ≤ gb321)); clear HB; have HB := n0_; have BK321 := n1_; have GW321 := n2_; have GE321 := n3_; clear n0_ n1_ n2_ n3_; clear hb hbox hg) | ((with_reducible refine gate_dst (N := 3) rfl ?_); refine box_event ?hg (N := 3) ?hd (cs := #[.int .i64 a1_0, .int .i64 a1_1]) (t := 34) ?hr ?_; (case hd => rfl); (case hg => rfl); (case hr => first | (go_simp; done) | (go_simp; rfl)); intro gb322 hg w64 hbox hb; have n0_ := Aside0.mk (blk_below (g := gb321) (o := .cells #[.int .i64 a0_0, .int .i64 a0_1] 34 (0, 0)) (by (with_reducible repeat (first | refine blk_drewN ?_ _ | refine blk_drew ?_ | refine blk_alloc ?_ _)); exact BK321.out) hb); have n1_ := Aside0.mk (below_step (by repeat (first | (with_reducible first | exact HB.out | apply below_alloc | apply pw_below_drewN | apply below_drew1 | refine below_set ?_ GE321.out) | exact HB.out)) hb); have n2_ := Aside0.mk (hbox); have n3_ := Aside0.mk ((by rw [hg]; exact (below_size (by repeat (first | (with_reducible first | exact HB.out | apply below_alloc | apply pw_below_drewN | apply below_drew1 | refine below_set ?_ GE321.out) | exact HB.out))) : w.heap.size ≤ gb322)); have n4_ := Aside0.mk ((by rw [hg]; exact (below_size (by repeat (first | (with_reducible first | exact HB.out | apply below_alloc | apply pw_below_drewN | apply below_drew1 | refine below_set ?_ GE321.out) | exact HB.out))) : w.heap.size ≤ gb322)); have n5_ := Aside0.mk ((by rw [hg]; exact Nat.ne_of_lt (blk_lt (g := gb321) (o := .cells #[.int .i64 a0_0, .int .i64 a0_1] 34 (0, 0)) (by (with_reducible repeat (first | refine blk_drewN ?_ _ | refine blk_drew ?_ | refine blk_alloc ?_ _)); exact BK321.out)) : gb321 ≠ gb322)); have n6_ := Aside0.mk ((by rw [hg]; exact Nat.ne_of_gt (blk_lt (g := gb321) (o := .cells #[.int .i64 a0_0, .int .i64 a0_1] 34 (0, 0)) (by (with_reducible repeat (first | refine blk_drewN ?_ _ | refine blk_drew ?_ | refine blk_alloc ?_ _)); exact BK321.out)) : gb322 ≠ gb321)); clear BK321; clear HB; have BK321 := n0_; have HB := n1_; have BK322 := n2_; have GW322 := n3_; have GE322 := n4_; have NB321_322 := n5_; have NB322_321 := n6_; clear n0_ n1_ n2_ n3_ n4_ n5_ n6_; clear hb hbox hg; have hnb65 := NB321_322.out; have hnc65 := NB322_321.out; have hcz66_0 : w64.cell? ⟨gb321, 0, none⟩ = some (.int .i64 a0_0) := (blk_cell BK321.out 0).trans rfl; have hcz66_1 : w64.cell? ⟨gb321, 1, none⟩ = some (.int .i64 a0_1) := (blk_cell BK321.out 1).trans rfl; have hfz66_0 := blk_frozen BK321.out 0; have hfz66_1 := blk_frozen BK321.out 1; have hcz67_0 : w64.cell? ⟨gb322, 0, none⟩ = some (.int .i64 a1_0) := (blk_cell BK322.out 0).trans rfl; have hcz67_1 : w64.cell? ⟨gb322, 1, none⟩ = some (.int .i64 a1_1) := (blk_cell BK322.out 1).trans rfl; have hfz67_0 := blk_frozen BK322.out 0; have hfz67_1 := blk_frozen BK322.out 1))
        go_ret
        exact ⟨by first | rfl | (simp [errW_none, errW_some] <;> rfl) | (simp [*, errW_none, errW_some] <;> rfl), by repeat (first | (with_reducible first | exact HB.out | apply below_alloc | apply pw_below_drewN | apply below_drew1 | refine below_set ?_ GE321.out | refine below_set ?_ GE322.out) | exact HB.out)⟩
       ·
        rw [if_neg c62] at H
        have c62b0 : decide (0 < a0_1) = false := decide_eq_false c62
        clear c62
        obtain rfl := Option.some.inj H
        go_enter Try.func28, Try.ntmps28
        go_wp2_with (first | ((with_reducible refine gate_dst (N := 2) rfl ?_); refine box_event ?hg (N := 2) ?hd (cs := #[.int .i64 a0_0, .int .i64 a0_1]) (t := 34) ?hr ?_; (case hd => rfl); (case hg => rfl); (case hr => first | (go_simp; done) | (go_simp; rfl)); intro gb321 hg w68 hbox hb; have n0_ := Aside0.mk (below_step (by repeat (first | (with_reducible first | exact HB.out | apply below_alloc | apply pw_below_drewN | apply below_drew1) | exact HB.out)) hb); have n1_ := Aside0.mk (hbox); have n2_ := Aside0.mk ((by rw [hg]; exact (below_size (by repeat (first | (with_reducible first | exact HB.out | apply below_alloc | apply pw_below_drewN | apply below_drew1) | exact HB.out))) : w.heap.size ≤ gb321)); have n3_ := Aside0.mk ((by rw [hg]; exact (below_size (by repeat (first | (with_reducible first | exact HB.out | apply below_alloc | apply pw_below_drewN | apply below_drew1) | exact HB.out))) : w.heap.size ≤ gb321)); clear HB; have HB := n0_; have BK321 := n1_; have GW321 := n2_; have GE321 := n3_; clear n0_ n1_ n2_ n3_; clear hb hbox hg) | ((with_reducible refine gate_dst (N := 3) rfl ?_); refine box_event ?hg (N := 3) ?hd (cs := #[.int .i64 a1_0, .int .i64 a1_1]) (t := 34) ?hr ?_; (case hd => rfl); (case hg => rfl); (case hr => first | (go_simp; done) | (go_simp; rfl)); intro gb322 hg w69 hbox hb; have n0_ := Aside0.mk (blk_below (g := gb321) (o := .cells #[.int .i64 a0_0, .int .i64 a0_1] 34 (0, 0)) (by (with_reducible repeat (first | refine blk_drewN ?_ _ | refine blk_drew ?_ | refine blk_alloc ?_ _)); exact BK321.out) hb); have n1_ := Aside0.mk (below_step (by repeat (first | (with_reducible first | exact HB.out | apply below_alloc | apply pw_below_drewN | apply below_drew1 | refine below_set ?_ GE321.out) | exact HB.out)) hb); have n2_ := Aside0.mk (hbox); have n3_ := Aside0.mk ((by rw [hg]; exact (below_size (by repeat (first | (with_reducible first | exact HB.out | apply below_alloc | apply pw_below_drewN | apply below_drew1 | refine below_set ?_ GE321.out) | exact HB.out))) : w.heap.size ≤ gb322)); have n4_ := Aside0.mk ((by rw [hg]; exact (below_size (by repeat (first | (with_reducible first | exact HB.out | apply below_alloc | apply pw_below_drewN | apply below_drew1 | refine below_set ?_ GE321.out) | exact HB.out))) : w.heap.size ≤ gb322)); have n5_ := Aside0.mk ((by rw [hg]; exact Nat.ne_of_lt (blk_lt (g := gb321) (o := .cells #[.int .i64 a0_0, .int .i64 a0_1] 34 (0, 0)) (by (with_reducible repeat (first | refine blk_drewN ?_ _ | refine blk_drew ?_ | refine blk_alloc ?_ _)); exact BK321.out)) : gb321 ≠ gb322)); have n6_ := Aside0.mk ((by rw [hg]; exact Nat.ne_of_gt (blk_lt (g := gb321) (o := .cells #[.int .i64 a0_0, .int .i64 a0_1] 34 (0, 0)) (by (with_reducible repeat (first | refine blk_drewN ?_ _ | refine blk_drew ?_ | refine blk_alloc ?_ _)); exact BK321.out)) : gb322 ≠ gb321)); clear BK321; clear HB; have BK321 := n0_; have HB := n1_; have BK322 := n2_; have GW322 := n3_; have GE322 := n4_; have NB321_322 := n5_; have NB322_321 := n6_; clear n0_ n1_ n2_ n3_ n4_ n5_ n6_; clear hb hbox hg; have hnb70 := NB321_322.out; have hnc70 := NB322_321.out; have hcz71_0 : w69.cell? ⟨gb321, 0, none⟩ = some (.int .i64 a0_0) := (blk_cell BK321.out 0).trans rfl; have hcz71_1 : w69.cell? ⟨gb321, 1, none⟩ = some (.int .i64 a0_1) := (blk_cell BK321.out 1).trans rfl; have hfz71_0 := blk_frozen BK321.out 0; have hfz71_1 := blk_frozen BK321.out 1; have hcz72_0 : w69.cell? ⟨gb322, 0, none⟩ = some (.int .i64 a1_0) := (blk_cell BK322.out 0).trans rfl; have hcz72_1 : w69.cell? ⟨gb322, 1, none⟩ = some (.int .i64 a1_1) := (blk_cell BK322.out 1).trans rfl; have hfz72_0 := blk_frozen BK322.out 0; have hfz72_1 := blk_frozen BK322.out 1))
        go_ret
        exact ⟨by first | rfl | (simp [errW_none, errW_some] <;> rfl) | (simp [*, errW_none, errW_some] <;> rfl), by repeat (first | (with_reducible first | exact HB.out | apply below_alloc | apply pw_below_drewN | apply below_drew1 | refine below_set ?_ GE321.out | refine below_set ?_ GE322.out) | exact HB.out)⟩
      ·
       rw [if_neg c61] at H
       have c61b0 : decide (a1_1 ≤ 0) = false := decide_eq_false c61
       clear c61
       obtain rfl := Option.some.inj H
       go_enter Try.func28, Try.ntmps28
       go_wp2_with (first | ((with_reducible refine gate_dst (N := 2) rfl ?_); refine box_event ?hg (N := 2) ?hd (cs := #[.int .i64 a0_0, .int .i64 a0_1]) (t := 34) ?hr ?_; (case hd => rfl); (case hg => rfl); (case hr => first | (go_simp; done) | (go_simp; rfl)); intro gb321 hg w73 hbox hb; have n0_ := Aside0.mk (below_step (by repeat (first | (with_reducible first | exact HB.out | apply below_alloc | apply pw_below_drewN | apply below_drew1) | exact HB.out)) hb); have n1_ := Aside0.mk (hbox); have n2_ := Aside0.mk ((by rw [hg]; exact (below_size (by repeat (first | (with_reducible first | exact HB.out | apply below_alloc | apply pw_below_drewN | apply below_drew1) | exact HB.out))) : w.heap.size ≤ gb321)); have n3_ := Aside0.mk ((by rw [hg]; exact (below_size (by repeat (first | (with_reducible first | exact HB.out | apply below_alloc | apply pw_below_drewN | apply below_drew1) | exact HB.out))) : w.heap.size ≤ gb321)); clear HB; have HB := n0_; have BK321 := n1_; have GW321 := n2_; have GE321 := n3_; clear n0_ n1_ n2_ n3_; clear hb hbox hg) | ((with_reducible refine gate_dst (N := 3) rfl ?_); refine box_event ?hg (N := 3) ?hd (cs := #[.int .i64 a1_0, .int .i64 a1_1]) (t := 34) ?hr ?_; (case hd => rfl); (case hg => rfl); (case hr => first | (go_simp; done) | (go_simp; rfl)); intro gb322 hg w74 hbox hb; have n0_ := Aside0.mk (blk_below (g := gb321) (o := .cells #[.int .i64 a0_0, .int .i64 a0_1] 34 (0, 0)) (by (with_reducible repeat (first | refine blk_drewN ?_ _ | refine blk_drew ?_ | refine blk_alloc ?_ _)); exact BK321.out) hb); have n1_ := Aside0.mk (below_step (by repeat (first | (with_reducible first | exact HB.out | apply below_alloc | apply pw_below_drewN | apply below_drew1 | refine below_set ?_ GE321.out) | exact HB.out)) hb); have n2_ := Aside0.mk (hbox); have n3_ := Aside0.mk ((by rw [hg]; exact (below_size (by repeat (first | (with_reducible first | exact HB.out | apply below_alloc | apply pw_below_drewN | apply below_drew1 | refine below_set ?_ GE321.out) | exact HB.out))) : w.heap.size ≤ gb322)); have n4_ := Aside0.mk ((by rw [hg]; exact (below_size (by repeat (first | (with_reducible first | exact HB.out | apply below_alloc | apply pw_below_drewN | apply below_drew1 | refine below_set ?_ GE321.out) | exact HB.out))) : w.heap.size ≤ gb322)); have n5_ := Aside0.mk ((by rw [hg]; exact Nat.ne_of_lt (blk_lt (g := gb321) (o := .cells #[.int .i64 a0_0, .int .i64 a0_1] 34 (0, 0)) (by (with_reducible repeat (first | refine blk_drewN ?_ _ | refine blk_drew ?_ | refine blk_alloc ?_ _)); exact BK321.out)) : gb321 ≠ gb322)); have n6_ := Aside0.mk ((by rw [hg]; exact Nat.ne_of_gt (blk_lt (g := gb321) (o := .cells #[.int .i64 a0_0, .int .i64 a0_1] 34 (0, 0)) (by (with_reducible repeat (first | refine blk_drewN ?_ _ | refine blk_drew ?_ | refine blk_alloc ?_ _)); exact BK321.out)) : gb322 ≠ gb321)); clear BK321; clear HB; have BK321 := n0_; have HB := n1_; have BK322 := n2_; have GW322 := n3_; have GE322 := n4_; have NB321_322 := n5_; have NB322_321 := n6_; clear n0_ n1_ n2_ n3_ n4_ n5_ n6_; clear hb hbox hg; have hnb75 := NB321_322.out; have hnc75 := NB322_321.out; have hcz76_0 : w74.cell? ⟨gb321, 0, none⟩ = some (.int .i64 a0_0) := (blk_cell BK321.out 0).trans rfl; have hcz76_1 : w74.cell? ⟨gb321, 1, none⟩ = some (.int .i64 a0_1) := (blk_cell BK321.out 1).trans rfl; have hfz76_0 := blk_frozen BK321.out 0; have hfz76_1 := blk_frozen BK321.out 1; have hcz77_0 : w74.cell? ⟨gb322, 0, none⟩ = some (.int .i64 a1_0) := (blk_cell BK322.out 0).trans rfl; have hcz77_1 : w74.cell? ⟨gb322, 1, none⟩ = some (.int .i64 a1_1) := (blk_cell BK322.out 1).trans rfl; have hfz77_0 := blk_frozen BK322.out 0; have hfz77_1 := blk_frozen BK322.out 1))
       go_ret
       exact ⟨by first | rfl | (simp [errW_none, errW_some] <;> rfl) | (simp [*, errW_none, errW_some] <;> rfl), by repeat (first | (with_reducible first | exact HB.out | apply below_alloc | apply pw_below_drewN | apply below_drew1 | refine below_set ?_ GE321.out | refine below_set ?_ GE322.out) | exact HB.out)⟩

end Go.Proofs.Ytigpnafpdmdmhaa.P

namespace Go.Proofs.Ytigpnafpdmdmhaa.P
open Go.RowKit Go.Proofs.YtigpnafpdmdmhaaW.PrintWords Go.Proofs.YtigpnafpdmdmhaaW.PrintLast

/-! ### plan_Demand_kept: function 49, proved by hand -/
def plan_Demand_kept.f (a0_0 : Int) (a0_1 : Int) (a0_2 : Int) (a0_3 : Int) (a1_0 : Int) (l1_1 : List (S61)) : Option (Bool) := Hand.keptV a1_0 (toStg l1_1) a0_0 a0_1 a0_2 a0_3
theorem plan_Demand_kept.calls (a0_0 : Int) (a0_1 : Int) (a0_2 : Int) (a0_3 : Int) (a1_0 : Int) (A1_1 : Option Addr) (c1_1 : Nat) (l1_1 : List (S61)) (r : Bool) (w : World) (hr1_1 : Kd.C k61 w A1_1 l1_1.length l1_1) (hc1_1 : l1_1.length ≤ c1_1) (h : plan_Demand_kept.f a0_0 a0_1 a0_2 a0_3 a1_0 l1_1 = some r) :
  Calls Try.prog 49 #[.agg #[.int .i64 a0_0, .int .i64 a0_1, .int .i64 a0_2, .int .i64 a0_3], .agg #[.int .i64 a1_0, .slice A1_1 l1_1.length c1_1]] w fun e w' => e = .returned (.bool r) ∧ Below w.heap.size w w' := by
 have := Hand.kept_any a1_0 A1_1 c1_1 (toStg l1_1) a0_0 a0_1 a0_2 a0_3 r w (stAt_of_C hr1_1) h
 rw [toStg_length] at this
 exact this

end Go.Proofs.Ytigpnafpdmdmhaa.P

namespace Go.Proofs.Ytigpnafpdmdmhaa.P
open Go.RowKit Go.Proofs.YtigpnafpdmdmhaaW.PrintWords Go.Proofs.YtigpnafpdmdmhaaW.PrintLast

/-! ### plan_Keeps: function 31 -/
def plan_Keeps.f (a0_0 : Int) (l0_1 : List (S61)) (a1_0 : Int) (a1_1 : Int) (a1_2 : Int) (a1_3 : Int) : Option (Bool × Int) := (plan_CheckPlan.f a0_0 l0_1).bind fun t483 => (if t483 = 0 then ((plan_Demand_valid.f a1_0 a1_1 a1_2 a1_3).bind fun t484 => (if t484 = true then (if a1_1 > a0_0 then (some (false, 2)) else ((plan_Demand_kept.f a1_0 a1_1 a1_2 a1_3 a0_0 l0_1).bind fun t485 => (some (t485, 0)))) else (some (false, 1)))) else (some (false, t483)))
set_option maxHeartbeats 8000000 in
set_option maxRecDepth 100000 in
theorem plan_Keeps.calls (a0_0 : Int) (A0_1 : Option Addr) (c0_1 : Nat) (l0_1 : List (S61)) (a1_0 : Int) (a1_1 : Int) (a1_2 : Int) (a1_3 : Int) (r1 : Bool) (r2 : Int) (w : World) (hr0_1 : Kd.C k61 w A0_1 l0_1.length l0_1) (hc0_1 : l0_1.length ≤ c0_1) (h : plan_Keeps.f a0_0 l0_1 a1_0 a1_1 a1_2 a1_3 = some (r1, r2)) :
  Calls Try.prog 31 #[.agg #[.int .i64 a0_0, .slice A0_1 l0_1.length c0_1], .agg #[.int .i64 a1_0, .int .i64 a1_1, .int .i64 a1_2, .int .i64 a1_3]] w fun e w' => e = .returned (.tuple #[.bool r1, .int .i64 r2]) ∧ Below w.heap.size w w' := by
 have hu31 := Try.underlying31
 have hu68 := Try.underlying68
 have HR0_1 := Aside0.mk hr0_1
 have HC0_1 := Aside0.mk hc0_1
 clear hr0_1 hc0_1
 have HB := Aside0.mk (Below.refl w.heap.size w)
 have H : ((plan_CheckPlan.f a0_0 l0_1).bind fun t483 => (if t483 = 0 then ((plan_Demand_valid.f a1_0 a1_1 a1_2 a1_3).bind fun t484 => (if t484 = true then (if a1_1 > a0_0 then (some (false, 2)) else ((plan_Demand_kept.f a1_0 a1_1 a1_2 a1_3 a0_0 l0_1).bind fun t485 => (some (t485, 0)))) else (some (false, 1)))) else (some (false, t483)))) = some (r1, r2) := h
 clear h
 replace H := Option.bind_eq_some_iff.mp H
 obtain ⟨t483, A30, H⟩ := H
 replace H : (if t483 = 0 then ((plan_Demand_valid.f a1_0 a1_1 a1_2 a1_3).bind fun t484 => (if t484 = true then (if a1_1 > a0_0 then (some (false, 2)) else ((plan_Demand_kept.f a1_0 a1_1 a1_2 a1_3 a0_0 l0_1).bind fun t485 => (some (t485, 0)))) else (some (false, 1)))) else (some (false, t483))) = some (r1, r2) := H
 have A3 := Aside0.mk A30
 clear A30
 by_cases c4 : t483 = 0
 ·
  rw [if_pos c4] at H
  have c4b0 : (t483 == 0) = true := beq_iff_eq.mpr c4
  have c4b1 : (t483 != 0) = false := bne_eq_false_iff_eq.mpr c4
  clear c4
  replace H := Option.bind_eq_some_iff.mp H
  obtain ⟨t484, A50, H⟩ := H
  replace H : (if t484 = true then (if a1_1 > a0_0 then (some (false, 2)) else ((plan_Demand_kept.f a1_0 a1_1 a1_2 a1_3 a0_0 l0_1).bind fun t485 => (some (t485, 0)))) else (some (false, 1))) = some (r1, r2) := H
  have A5 := Aside0.mk A50
  clear A50
  by_cases c6 : t484 = true
  ·
   subst c6
   have H1 : (if a1_1 > a0_0 then (some (false, 2)) else ((plan_Demand_kept.f a1_0 a1_1 a1_2 a1_3 a0_0 l0_1).bind fun t485 => (some (t485, 0)))) = some (r1, r2) := by rw [if_pos rfl] at H; exact H
   clear H
   have H := H1
   clear H1
   by_cases c7 : a1_1 > a0_0
   ·
    rw [if_pos c7] at H
    have c7b0 : decide (a0_0 < a1_1) = true := decide_eq_true c7
    clear c7
    simp only [Option.some.injEq, Prod.mk.injEq] at H
    obtain ⟨rfl, rfl⟩ := H
    go_enter Try.func31, Try.ntmps31
    go_wp2_with (first | ((with_reducible refine gate_dst (N := 2) rfl ?_); refine box_event ?hg (N := 2) ?hd (cs := #[.int .i64 a0_0, .slice A0_1 l0_1.length c0_1]) (t := 31) ?hr ?_; (case hd => rfl); (case hg => rfl); (case hr => first | (go_simp; done) | (go_simp; rfl)); intro gb481 hg w8 hbox hb; have n0_ := Aside0.mk (below_step (by repeat (first | (with_reducible first | exact HB.out | apply below_alloc | apply pw_below_drewN | apply below_drew1) | exact HB.out)) hb); have n1_ := Aside0.mk (hbox); have n2_ := Aside0.mk ((by rw [hg]; exact (below_size (by repeat (first | (with_reducible first | exact HB.out | apply below_alloc | apply pw_below_drewN | apply below_drew1) | exact HB.out))) : w.heap.size ≤ gb481)); have n3_ := Aside0.mk ((by rw [hg]; exact (below_size (by repeat (first | (with_reducible first | exact HB.out | apply below_alloc | apply pw_below_drewN | apply below_drew1) | exact HB.out))) : w.heap.size ≤ gb481)); clear HB; have HB := n0_; have BK481 := n1_; have GW481 := n2_; have GE481 := n3_; clear n0_ n1_ n2_ n3_; clear hb hbox hg) | ((with_reducible refine gate_dst (N := 3) rfl ?_); refine box_event ?hg (N := 3) ?hd (cs := #[.int .i64 a1_0, .int .i64 a1_1, .int .i64 a1_2, .int .i64 a1_3]) (t := 68) ?hr ?_; (case hd => rfl); (case hg => rfl); (case hr => first | (go_simp; done) | (go_simp; rfl)); intro gb482 hg w9 hbox hb; have n0_ := Aside0.mk (blk_below (g := gb481) (o := .cells #[.int .i64 a0_0, .slice A0_1 l0_1.length c0_1] 31 (0, 0)) (by (with_reducible repeat (first | refine blk_drewN ?_ _ | refine blk_drew ?_ | refine blk_alloc ?_ _)); exact BK481.out) hb); have n1_ := Aside0.mk (below_step (by repeat (first | (with_reducible first | exact HB.out | apply below_alloc | apply pw_below_drewN | apply below_drew1 | refine below_set ?_ GE481.out) | exact HB.out)) hb); have n2_ := Aside0.mk (hbox); have n3_ := Aside0.mk ((by rw [hg]; exact (below_size (by repeat (first | (with_reducible first | exact HB.out | apply below_alloc | apply pw_below_drewN | apply below_drew1 | refine below_set ?_ GE481.out) | exact HB.out))) : w.heap.size ≤ gb482)); have n4_ := Aside0.mk ((by rw [hg]; exact (below_size (by repeat (first | (with_reducible first | exact HB.out | apply below_alloc | apply pw_below_drewN | apply below_drew1 | refine below_set ?_ GE481.out) | exact HB.out))) : w.heap.size ≤ gb482)); have n5_ := Aside0.mk ((by rw [hg]; exact Nat.ne_of_lt (blk_lt (g := gb481) (o := .cells #[.int .i64 a0_0, .slice A0_1 l0_1.length c0_1] 31 (0, 0)) (by (with_reducible repeat (first | refine blk_drewN ?_ _ | refine blk_drew ?_ | refine blk_alloc ?_ _)); exact BK481.out)) : gb481 ≠ gb482)); have n6_ := Aside0.mk ((by rw [hg]; exact Nat.ne_of_gt (blk_lt (g := gb481) (o := .cells #[.int .i64 a0_0, .slice A0_1 l0_1.length c0_1] 31 (0, 0)) (by (with_reducible repeat (first | refine blk_drewN ?_ _ | refine blk_drew ?_ | refine blk_alloc ?_ _)); exact BK481.out)) : gb482 ≠ gb481)); clear BK481; clear HB; have BK481 := n0_; have HB := n1_; have BK482 := n2_; have GW482 := n3_; have GE482 := n4_; have NB481_482 := n5_; have NB482_481 := n6_; clear n0_ n1_ n2_ n3_ n4_ n5_ n6_; clear hb hbox hg; have hnb10 := NB481_482.out; have hnc10 := NB482_481.out; have hcz11_0 : w9.cell? ⟨gb481, 0, none⟩ = some (.int .i64 a0_0) := (blk_cell BK481.out 0).trans rfl; have hcz11_1 : w9.cell? ⟨gb481, 1, none⟩ = some (.slice A0_1 l0_1.length c0_1) := (blk_cell BK481.out 1).trans rfl; have hfz11_0 := blk_frozen BK481.out 0; have hfz11_1 := blk_frozen BK481.out 1) | ((with_reducible refine gate_callee (f := 16) rfl ?_); refine goesL_ (some 8) rfl rfl Try.func16 (by kernel_rfl) rfl #[.agg #[.int .i64 a0_0, .slice A0_1 l0_1.length c0_1]] rfl (by (try simp only [List.map_toArray, List.map_cons, List.map_nil]); first | done | rfl | (simp only [List.length_drop, List.length_take]; rfl)) ?_; (with_reducible refine (plan_CheckPlan.calls a0_0 _ _ l0_1 t483 _ ?side1 ?side2 A3.out).mono ?_); (case side1 => repeat (first | exact (Kd.C_below HR0_1.out HB.out) | (with_reducible refine Kd.C_alloc ?_ _) | (with_reducible refine Kd.C_drewN ?_ _) | (with_reducible refine Kd.C_drew ?_))); (case side2 => exact HC0_1.out); rintro e w12 ⟨rfl, hb⟩; refine ⟨_, rfl, ?_⟩; have n0_ := Aside0.mk (blk_below (g := gb481) (o := .cells #[.int .i64 a0_0, .slice A0_1 l0_1.length c0_1] 31 (0, 0)) (by (with_reducible repeat (first | refine blk_drewN ?_ _ | refine blk_drew ?_ | refine blk_alloc ?_ _)); exact BK481.out) hb); have n1_ := Aside0.mk (blk_below (g := gb482) (o := .cells #[.int .i64 a1_0, .int .i64 a1_1, .int .i64 a1_2, .int .i64 a1_3] 68 (0, 0)) (by (with_reducible repeat (first | refine blk_drewN ?_ _ | refine blk_drew ?_ | refine blk_alloc ?_ _)); exact BK482.out) hb); have n2_ := Aside0.mk (below_step (by repeat (first | (with_reducible first | exact HB.out | apply below_alloc | apply pw_below_drewN | apply below_drew1 | refine below_set ?_ GE481.out | refine below_set ?_ GE482.out) | exact HB.out)) hb); clear BK481; clear BK482; clear HB; have BK481 := n0_; have BK482 := n1_; have HB := n2_; clear n0_ n1_ n2_; (try clear hb); (try clear hb2); (try clear hk); (try clear hi); have hcz13_0 : w12.cell? ⟨gb482, 0, none⟩ = some (.int .i64 a1_0) := (blk_cell BK482.out 0).trans rfl; have hcz13_1 : w12.cell? ⟨gb482, 1, none⟩ = some (.int .i64 a1_1) := (blk_cell BK482.out 1).trans rfl; have hcz13_2 : w12.cell? ⟨gb482, 2, none⟩ = some (.int .i64 a1_2) := (blk_cell BK482.out 2).trans rfl; have hcz13_3 : w12.cell? ⟨gb482, 3, none⟩ = some (.int .i64 a1_3) := (blk_cell BK482.out 3).trans rfl; have hfz13_0 := blk_frozen BK482.out 0; have hfz13_1 := blk_frozen BK482.out 1; have hfz13_2 := blk_frozen BK482.out 2; have hfz13_3 := blk_frozen BK482.out 3) | ((with_reducible refine gate_callee (f := 48) rfl ?_); refine goesL_ (some 15) rfl rfl Try.func48 (by kernel_rfl) rfl #[.agg #[.int .i64 a1_0, .int .i64 a1_1, .int .i64 a1_2, .int .i64 a1_3]] rfl (by (try simp only [List.map_toArray, List.map_cons, List.map_nil]); first | done | rfl | (simp only [List.length_drop, List.length_take]; rfl)) ?_; (with_reducible refine (plan_Demand_valid.calls a1_0 a1_1 a1_2 a1_3 true _ A5.out).mono ?_); rintro e w14 ⟨rfl, hb⟩; refine ⟨_, rfl, ?_⟩; have n0_ := Aside0.mk (blk_below (g := gb481) (o := .cells #[.int .i64 a0_0, .slice A0_1 l0_1.length c0_1] 31 (0, 0)) (by (with_reducible repeat (first | refine blk_drewN ?_ _ | refine blk_drew ?_ | refine blk_alloc ?_ _)); exact BK481.out) hb); have n1_ := Aside0.mk (blk_below (g := gb482) (o := .cells #[.int .i64 a1_0, .int .i64 a1_1, .int .i64 a1_2, .int .i64 a1_3] 68 (0, 0)) (by (with_reducible repeat (first | refine blk_drewN ?_ _ | refine blk_drew ?_ | refine blk_alloc ?_ _)); exact BK482.out) hb); have n2_ := Aside0.mk (below_step (by repeat (first | (with_reducible first | exact HB.out | apply below_alloc | apply pw_below_drewN | apply below_drew1 | refine below_set ?_ GE481.out | refine below_set ?_ GE482.out) | exact HB.out)) hb); clear BK481; clear BK482; clear HB; have BK481 := n0_; have BK482 := n1_; have HB := n2_; clear n0_ n1_ n2_; (try clear hb); (try clear hb2); (try clear hk); (try clear hi); have hcz15_0 : w14.cell? ⟨gb482, 0, none⟩ = some (.int .i64 a1_0) := (blk_cell BK482.out 0).trans rfl; have hcz15_1 : w14.cell? ⟨gb482, 1, none⟩ = some (.int .i64 a1_1) := (blk_cell BK482.out 1).trans rfl; have hcz15_2 : w14.cell? ⟨gb482, 2, none⟩ = some (.int .i64 a1_2) := (blk_cell BK482.out 2).trans rfl; have hcz15_3 : w14.cell? ⟨gb482, 3, none⟩ = some (.int .i64 a1_3) := (blk_cell BK482.out 3).trans rfl; have hfz15_0 := blk_frozen BK482.out 0; have hfz15_1 := blk_frozen BK482.out 1; have hfz15_2 := blk_frozen BK482.out 2; have hfz15_3 := blk_frozen BK482.out 3; have hcz16_0 : w14.cell? ⟨gb481, 0, none⟩ = some (.int .i64 a0_0) := (blk_cell BK481.out 0).trans rfl; have hcz16_1 : w14.cell? ⟨gb481, 1, none⟩ = some (.slice A0_1 l0_1.length c0_1) := (blk_cell BK481.out 1).trans rfl; have hfz16_0 := blk_frozen BK481.out 0; have hfz16_1 := blk_frozen BK481.out 1))
    go_ret2
    exact ⟨by first | rfl | (simp [errW_none, errW_some] <;> rfl) | (simp [*, errW_none, errW_some] <;> rfl), by repeat (first | (with_reducible first | exact HB.out | apply below_alloc | apply pw_below_drewN | apply below_drew1 | refine below_set ?_ GE481.out | refine below_set ?_ GE482.out) | exact HB.out)⟩
   ·
    rw [if_neg c7] at H
    have c7b0 : decide (a0_0 < a1_1) = false := decide_eq_false c7
    clear c7
    replace H := Option.bind_eq_some_iff.mp H
    obtain ⟨t485, A170, H⟩ := H
    replace H : (some (t485, 0)) = some (r1, r2) := H
    have A17 := Aside0.mk A170
    clear A170
    simp only [Option.some.injEq, Prod.mk.injEq] at H
    obtain ⟨rfl, rfl⟩ := H
    go_enter Try.func31, Try.ntmps31
    go_wp2_with (first | ((with_reducible refine gate_dst (N := 2) rfl ?_); refine box_event ?hg (N := 2) ?hd (cs := #[.int .i64 a0_0, .slice A0_1 l0_1.length c0_1]) (t := 31) ?hr ?_; (case hd => rfl); (case hg => rfl); (case hr => first | (go_simp; done) | (go_simp; rfl)); intro gb481 hg w18 hbox hb; have n0_ := Aside0.mk (below_step (by repeat (first | (with_reducible first | exact HB.out | apply below_alloc | apply pw_below_drewN | apply below_drew1) | exact HB.out)) hb); have n1_ := Aside0.mk (hbox); have n2_ := Aside0.mk ((by rw [hg]; exact (below_size (by repeat (first | (with_reducible first | exact HB.out | apply below_alloc | apply pw_below_drewN | apply below_drew1) | exact HB.out))) : w.heap.size ≤ gb481)); have n3_ := Aside0.mk ((by rw [hg]; exact (below_size (by repeat (first | (with_reducible first | exact HB.out | apply below_alloc | apply pw_below_drewN | apply below_drew1) | exact HB.out))) : w.heap.size ≤ gb481)); clear HB; have HB := n0_; have BK481 := n1_; have GW481 := n2_; have GE481 := n3_; clear n0_ n1_ n2_ n3_; clear hb hbox hg) | ((with_reducible refine gate_dst (N := 3) rfl ?_); refine box_event ?hg (N := 3) ?hd (cs := #[.int .i64 a1_0, .int .i64 a1_1, .int .i64 a1_2, .int .i64 a1_3]) (t := 68) ?hr ?_; (case hd => rfl); (case hg => rfl); (case hr => first | (go_simp; done) | (go_simp; rfl)); intro gb482 hg w19 hbox hb; have n0_ := Aside0.mk (blk_below (g := gb481) (o := .cells #[.int .i64 a0_0, .slice A0_1 l0_1.length c0_1] 31 (0, 0)) (by (with_reducible repeat (first | refine blk_drewN ?_ _ | refine blk_drew ?_ | refine blk_alloc ?_ _)); exact BK481.out) hb); have n1_ := Aside0.mk (below_step (by repeat (first | (with_reducible first | exact HB.out | apply below_alloc | apply pw_below_drewN | apply below_drew1 | refine below_set ?_ GE481.out) | exact HB.out)) hb); have n2_ := Aside0.mk (hbox); have n3_ := Aside0.mk ((by rw [hg]; exact (below_size (by repeat (first | (with_reducible first | exact HB.out | apply below_alloc | apply pw_below_drewN | apply below_drew1 | refine below_set ?_ GE481.out) | exact HB.out))) : w.heap.size ≤ gb482)); have n4_ := Aside0.mk ((by rw [hg]; exact (below_size (by repeat (first | (with_reducible first | exact HB.out | apply below_alloc | apply pw_below_drewN | apply below_drew1 | refine below_set ?_ GE481.out) | exact HB.out))) : w.heap.size ≤ gb482)); have n5_ := Aside0.mk ((by rw [hg]; exact Nat.ne_of_lt (blk_lt (g := gb481) (o := .cells #[.int .i64 a0_0, .slice A0_1 l0_1.length c0_1] 31 (0, 0)) (by (with_reducible repeat (first | refine blk_drewN ?_ _ | refine blk_drew ?_ | refine blk_alloc ?_ _)); exact BK481.out)) : gb481 ≠ gb482)); have n6_ := Aside0.mk ((by rw [hg]; exact Nat.ne_of_gt (blk_lt (g := gb481) (o := .cells #[.int .i64 a0_0, .slice A0_1 l0_1.length c0_1] 31 (0, 0)) (by (with_reducible repeat (first | refine blk_drewN ?_ _ | refine blk_drew ?_ | refine blk_alloc ?_ _)); exact BK481.out)) : gb482 ≠ gb481)); clear BK481; clear HB; have BK481 := n0_; have HB := n1_; have BK482 := n2_; have GW482 := n3_; have GE482 := n4_; have NB481_482 := n5_; have NB482_481 := n6_; clear n0_ n1_ n2_ n3_ n4_ n5_ n6_; clear hb hbox hg; have hnb20 := NB481_482.out; have hnc20 := NB482_481.out; have hcz21_0 : w19.cell? ⟨gb481, 0, none⟩ = some (.int .i64 a0_0) := (blk_cell BK481.out 0).trans rfl; have hcz21_1 : w19.cell? ⟨gb481, 1, none⟩ = some (.slice A0_1 l0_1.length c0_1) := (blk_cell BK481.out 1).trans rfl; have hfz21_0 := blk_frozen BK481.out 0; have hfz21_1 := blk_frozen BK481.out 1) | ((with_reducible refine gate_callee (f := 16) rfl ?_); refine goesL_ (some 8) rfl rfl Try.func16 (by kernel_rfl) rfl #[.agg #[.int .i64 a0_0, .slice A0_1 l0_1.length c0_1]] rfl (by (try simp only [List.map_toArray, List.map_cons, List.map_nil]); first | done | rfl | (simp only [List.length_drop, List.length_take]; rfl)) ?_; (with_reducible refine (plan_CheckPlan.calls a0_0 _ _ l0_1 t483 _ ?side1 ?side2 A3.out).mono ?_); (case side1 => repeat (first | exact (Kd.C_below HR0_1.out HB.out) | (with_reducible refine Kd.C_alloc ?_ _) | (with_reducible refine Kd.C_drewN ?_ _) | (with_reducible refine Kd.C_drew ?_))); (case side2 => exact HC0_1.out); rintro e w22 ⟨rfl, hb⟩; refine ⟨_, rfl, ?_⟩; have n0_ := Aside0.mk (blk_below (g := gb481) (o := .cells #[.int .i64 a0_0, .slice A0_1 l0_1.length c0_1] 31 (0, 0)) (by (with_reducible repeat (first | refine blk_drewN ?_ _ | refine blk_drew ?_ | refine blk_alloc ?_ _)); exact BK481.out) hb); have n1_ := Aside0.mk (blk_below (g := gb482) (o := .cells #[.int .i64 a1_0, .int .i64 a1_1, .int .i64 a1_2, .int .i64 a1_3] 68 (0, 0)) (by (with_reducible repeat (first | refine blk_drewN ?_ _ | refine blk_drew ?_ | refine blk_alloc ?_ _)); exact BK482.out) hb); have n2_ := Aside0.mk (below_step (by repeat (first | (with_reducible first | exact HB.out | apply below_alloc | apply pw_below_drewN | apply below_drew1 | refine below_set ?_ GE481.out | refine below_set ?_ GE482.out) | exact HB.out)) hb); clear BK481; clear BK482; clear HB; have BK481 := n0_; have BK482 := n1_; have HB := n2_; clear n0_ n1_ n2_; (try clear hb); (try clear hb2); (try clear hk); (try clear hi); have hcz23_0 : w22.cell? ⟨gb482, 0, none⟩ = some (.int .i64 a1_0) := (blk_cell BK482.out 0).trans rfl; have hcz23_1 : w22.cell? ⟨gb482, 1, none⟩ = some (.int .i64 a1_1) := (blk_cell BK482.out 1).trans rfl; have hcz23_2 : w22.cell? ⟨gb482, 2, none⟩ = some (.int .i64 a1_2) := (blk_cell BK482.out 2).trans rfl; have hcz23_3 : w22.cell? ⟨gb482, 3, none⟩ = some (.int .i64 a1_3) := (blk_cell BK482.out 3).trans rfl; have hfz23_0 := blk_frozen BK482.out 0; have hfz23_1 := blk_frozen BK482.out 1; have hfz23_2 := blk_frozen BK482.out 2; have hfz23_3 := blk_frozen BK482.out 3) | ((with_reducible refine gate_callee (f := 48) rfl ?_); refine goesL_ (some 15) rfl rfl Try.func48 (by kernel_rfl) rfl #[.agg #[.int .i64 a1_0, .int .i64 a1_1, .int .i64 a1_2, .int .i64 a1_3]] rfl (by (try simp only [List.map_toArray, List.map_cons, List.map_nil]); first | done | rfl | (simp only [List.length_drop, List.length_take]; rfl)) ?_; (with_reducible refine (plan_Demand_valid.calls a1_0 a1_1 a1_2 a1_3 true _ A5.out).mono ?_); rintro e w24 ⟨rfl, hb⟩; refine ⟨_, rfl, ?_⟩; have n0_ := Aside0.mk (blk_below (g := gb481) (o := .cells #[.int .i64 a0_0, .slice A0_1 l0_1.length c0_1] 31 (0, 0)) (by (with_reducible repeat (first | refine blk_drewN ?_ _ | refine blk_drew ?_ | refine blk_alloc ?_ _)); exact BK481.out) hb); have n1_ := Aside0.mk (blk_below (g := gb482) (o := .cells #[.int .i64 a1_0, .int .i64 a1_1, .int .i64 a1_2, .int .i64 a1_3] 68 (0, 0)) (by (with_reducible repeat (first | refine blk_drewN ?_ _ | refine blk_drew ?_ | refine blk_alloc ?_ _)); exact BK482.out) hb); have n2_ := Aside0.mk (below_step (by repeat (first | (with_reducible first | exact HB.out | apply below_alloc | apply pw_below_drewN | apply below_drew1 | refine below_set ?_ GE481.out | refine below_set ?_ GE482.out) | exact HB.out)) hb); clear BK481; clear BK482; clear HB; have BK481 := n0_; have BK482 := n1_; have HB := n2_; clear n0_ n1_ n2_; (try clear hb); (try clear hb2); (try clear hk); (try clear hi); have hcz25_0 : w24.cell? ⟨gb482, 0, none⟩ = some (.int .i64 a1_0) := (blk_cell BK482.out 0).trans rfl; have hcz25_1 : w24.cell? ⟨gb482, 1, none⟩ = some (.int .i64 a1_1) := (blk_cell BK482.out 1).trans rfl; have hcz25_2 : w24.cell? ⟨gb482, 2, none⟩ = some (.int .i64 a1_2) := (blk_cell BK482.out 2).trans rfl; have hcz25_3 : w24.cell? ⟨gb482, 3, none⟩ = some (.int .i64 a1_3) := (blk_cell BK482.out 3).trans rfl; have hfz25_0 := blk_frozen BK482.out 0; have hfz25_1 := blk_frozen BK482.out 1; have hfz25_2 := blk_frozen BK482.out 2; have hfz25_3 := blk_frozen BK482.out 3; have hcz26_0 : w24.cell? ⟨gb481, 0, none⟩ = some (.int .i64 a0_0) := (blk_cell BK481.out 0).trans rfl; have hcz26_1 : w24.cell? ⟨gb481, 1, none⟩ = some (.slice A0_1 l0_1.length c0_1) := (blk_cell BK481.out 1).trans rfl; have hfz26_0 := blk_frozen BK481.out 0; have hfz26_1 := blk_frozen BK481.out 1) | ((with_reducible refine gate_callee (f := 49) rfl ?_); refine goesL_ (some 25) rfl rfl Try.func49 (by kernel_rfl) rfl #[.agg #[.int .i64 a1_0, .int .i64 a1_1, .int .i64 a1_2, .int .i64 a1_3], .agg #[.int .i64 a0_0, .slice A0_1 l0_1.length c0_1]] rfl (by (try simp only [List.map_toArray, List.map_cons, List.map_nil]); first | done | rfl | (simp only [List.length_drop, List.length_take]; rfl)) ?_; (with_reducible refine (plan_Demand_kept.calls a1_0 a1_1 a1_2 a1_3 a0_0 _ _ l0_1 t485 _ ?side1 ?side2 A17.out).mono ?_); (case side1 => repeat (first | exact (Kd.C_below HR0_1.out HB.out) | (with_reducible refine Kd.C_alloc ?_ _) | (with_reducible refine Kd.C_drewN ?_ _) | (with_reducible refine Kd.C_drew ?_))); (case side2 => exact HC0_1.out); rintro e w27 ⟨rfl, hb⟩; refine ⟨_, rfl, ?_⟩; have n0_ := Aside0.mk (blk_below (g := gb481) (o := .cells #[.int .i64 a0_0, .slice A0_1 l0_1.length c0_1] 31 (0, 0)) (by (with_reducible repeat (first | refine blk_drewN ?_ _ | refine blk_drew ?_ | refine blk_alloc ?_ _)); exact BK481.out) hb); have n1_ := Aside0.mk (blk_below (g := gb482) (o := .cells #[.int .i64 a1_0, .int .i64 a1_1, .int .i64 a1_2, .int .i64 a1_3] 68 (0, 0)) (by (with_reducible repeat (first | refine blk_drewN ?_ _ | refine blk_drew ?_ | refine blk_alloc ?_ _)); exact BK482.out) hb); have n2_ := Aside0.mk (below_step (by repeat (first | (with_reducible first | exact HB.out | apply below_alloc | apply pw_below_drewN | apply below_drew1 | refine below_set ?_ GE481.out | refine below_set ?_ GE482.out) | exact HB.out)) hb); clear BK481; clear BK482; clear HB; have BK481 := n0_; have BK482 := n1_; have HB := n2_; clear n0_ n1_ n2_; (try clear hb); (try clear hb2); (try clear hk); (try clear hi)))
    go_ret2
    exact ⟨by first | rfl | (simp [errW_none, errW_some] <;> rfl) | (simp [*, errW_none, errW_some] <;> rfl), by repeat (first | (with_reducible first | exact HB.out | apply below_alloc | apply pw_below_drewN | apply below_drew1 | refine below_set ?_ GE481.out | refine below_set ?_ GE482.out) | exact HB.out)⟩
  ·
   replace c6 := Bool.eq_false_iff.mpr c6
   subst c6
   have H1 : (some (false, 1)) = some (r1, r2) := by rw [if_neg (show ¬ (false = true) by decide)] at H; exact H
   clear H
   have H := H1
   clear H1
   simp only [Option.some.injEq, Prod.mk.injEq] at H
   obtain ⟨rfl, rfl⟩ := H
   go_enter Try.func31, Try.ntmps31
   go_wp2_with (first | ((with_reducible refine gate_dst (N := 2) rfl ?_); refine box_event ?hg (N := 2) ?hd (cs := #[.int .i64 a0_0, .slice A0_1 l0_1.length c0_1]) (t := 31) ?hr ?_; (case hd => rfl); (case hg => rfl); (case hr => first | (go_simp; done) | (go_simp; rfl)); intro gb481 hg w28 hbox hb; have n0_ := Aside0.mk (below_step (by repeat (first | (with_reducible first | exact HB.out | apply below_alloc | apply pw_below_drewN | apply below_drew1) | exact HB.out)) hb); have n1_ := Aside0.mk (hbox); have n2_ := Aside0.mk ((by rw [hg]; exact (below_size (by repeat (first | (with_reducible first | exact HB.out | apply below_alloc | apply pw_below_drewN | apply below_drew1) | exact HB.out))) : w.heap.size ≤ gb481)); have n3_ := Aside0.mk ((by rw [hg]; exact (below_size (by repeat (first | (with_reducible first | exact HB.out | apply below_alloc | apply pw_below_drewN | apply below_drew1) | exact HB.out))) : w.heap.size ≤ gb481)); clear HB; have HB := n0_; have BK481 := n1_; have GW481 := n2_; have GE481 := n3_; clear n0_ n1_ n2_ n3_; clear hb hbox hg) | ((with_reducible refine gate_dst (N := 3) rfl ?_); refine box_event ?hg (N := 3) ?hd (cs := #[.int .i64 a1_0, .int .i64 a1_1, .int .i64 a1_2, .int .i64 a1_3]) (t := 68) ?hr ?_; (case hd => rfl); (case hg => rfl); (case hr => first | (go_simp; done) | (go_simp; rfl)); intro gb482 hg w29 hbox hb; have n0_ := Aside0.mk (blk_below (g := gb481) (o := .cells #[.int .i64 a0_0, .slice A0_1 l0_1.length c0_1] 31 (0, 0)) (by (with_reducible repeat (first | refine blk_drewN ?_ _ | refine blk_drew ?_ | refine blk_alloc ?_ _)); exact BK481.out) hb); have n1_ := Aside0.mk (below_step (by repeat (first | (with_reducible first | exact HB.out | apply below_alloc | apply pw_below_drewN | apply below_drew1 | refine below_set ?_ GE481.out) | exact HB.out)) hb); have n2_ := Aside0.mk (hbox); have n3_ := Aside0.mk ((by rw [hg]; exact (below_size (by repeat (first | (with_reducible first | exact HB.out | apply below_alloc | apply pw_below_drewN | apply below_drew1 | refine below_set ?_ GE481.out) | exact HB.out))) : w.heap.size ≤ gb482)); have n4_ := Aside0.mk ((by rw [hg]; exact (below_size (by repeat (first | (with_reducible first | exact HB.out | apply below_alloc | apply pw_below_drewN | apply below_drew1 | refine below_set ?_ GE481.out) | exact HB.out))) : w.heap.size ≤ gb482)); have n5_ := Aside0.mk ((by rw [hg]; exact Nat.ne_of_lt (blk_lt (g := gb481) (o := .cells #[.int .i64 a0_0, .slice A0_1 l0_1.length c0_1] 31 (0, 0)) (by (with_reducible repeat (first | refine blk_drewN ?_ _ | refine blk_drew ?_ | refine blk_alloc ?_ _)); exact BK481.out)) : gb481 ≠ gb482)); have n6_ := Aside0.mk ((by rw [hg]; exact Nat.ne_of_gt (blk_lt (g := gb481) (o := .cells #[.int .i64 a0_0, .slice A0_1 l0_1.length c0_1] 31 (0, 0)) (by (with_reducible repeat (first | refine blk_drewN ?_ _ | refine blk_drew ?_ | refine blk_alloc ?_ _)); exact BK481.out)) : gb482 ≠ gb481)); clear BK481; clear HB; have BK481 := n0_; have HB := n1_; have BK482 := n2_; have GW482 := n3_; have GE482 := n4_; have NB481_482 := n5_; have NB482_481 := n6_; clear n0_ n1_ n2_ n3_ n4_ n5_ n6_; clear hb hbox hg; have hnb30 := NB481_482.out; have hnc30 := NB482_481.out; have hcz31_0 : w29.cell? ⟨gb481, 0, none⟩ = some (.int .i64 a0_0) := (blk_cell BK481.out 0).trans rfl; have hcz31_1 : w29.cell? ⟨gb481, 1, none⟩ = some (.slice A0_1 l0_1.length c0_1) := (blk_cell BK481.out 1).trans rfl; have hfz31_0 := blk_frozen BK481.out 0; have hfz31_1 := blk_frozen BK481.out 1) | ((with_reducible refine gate_callee (f := 16) rfl ?_); refine goesL_ (some 8) rfl rfl Try.func16 (by kernel_rfl) rfl #[.agg #[.int .i64 a0_0, .slice A0_1 l0_1.length c0_1]] rfl (by (try simp only [List.map_toArray, List.map_cons, List.map_nil]); first | done | rfl | (simp only [List.length_drop, List.length_take]; rfl)) ?_; (with_reducible refine (plan_CheckPlan.calls a0_0 _ _ l0_1 t483 _ ?side1 ?side2 A3.out).mono ?_); (case side1 => repeat (first | exact (Kd.C_below HR0_1.out HB.out) | (with_reducible refine Kd.C_alloc ?_ _) | (with_reducible refine Kd.C_drewN ?_ _) | (with_reducible refine Kd.C_drew ?_))); (case side2 => exact HC0_1.out); rintro e w32 ⟨rfl, hb⟩; refine ⟨_, rfl, ?_⟩; have n0_ := Aside0.mk (blk_below (g := gb481) (o := .cells #[.int .i64 a0_0, .slice A0_1 l0_1.length c0_1] 31 (0, 0)) (by (with_reducible repeat (first | refine blk_drewN ?_ _ | refine blk_drew ?_ | refine blk_alloc ?_ _)); exact BK481.out) hb); have n1_ := Aside0.mk (blk_below (g := gb482) (o := .cells #[.int .i64 a1_0, .int .i64 a1_1, .int .i64 a1_2, .int .i64 a1_3] 68 (0, 0)) (by (with_reducible repeat (first | refine blk_drewN ?_ _ | refine blk_drew ?_ | refine blk_alloc ?_ _)); exact BK482.out) hb); have n2_ := Aside0.mk (below_step (by repeat (first | (with_reducible first | exact HB.out | apply below_alloc | apply pw_below_drewN | apply below_drew1 | refine below_set ?_ GE481.out | refine below_set ?_ GE482.out) | exact HB.out)) hb); clear BK481; clear BK482; clear HB; have BK481 := n0_; have BK482 := n1_; have HB := n2_; clear n0_ n1_ n2_; (try clear hb); (try clear hb2); (try clear hk); (try clear hi); have hcz33_0 : w32.cell? ⟨gb482, 0, none⟩ = some (.int .i64 a1_0) := (blk_cell BK482.out 0).trans rfl; have hcz33_1 : w32.cell? ⟨gb482, 1, none⟩ = some (.int .i64 a1_1) := (blk_cell BK482.out 1).trans rfl; have hcz33_2 : w32.cell? ⟨gb482, 2, none⟩ = some (.int .i64 a1_2) := (blk_cell BK482.out 2).trans rfl; have hcz33_3 : w32.cell? ⟨gb482, 3, none⟩ = some (.int .i64 a1_3) := (blk_cell BK482.out 3).trans rfl; have hfz33_0 := blk_frozen BK482.out 0; have hfz33_1 := blk_frozen BK482.out 1; have hfz33_2 := blk_frozen BK482.out 2; have hfz33_3 := blk_frozen BK482.out 3) | ((with_reducible refine gate_callee (f := 48) rfl ?_); refine goesL_ (some 15) rfl rfl Try.func48 (by kernel_rfl) rfl #[.agg #[.int .i64 a1_0, .int .i64 a1_1, .int .i64 a1_2, .int .i64 a1_3]] rfl (by (try simp only [List.map_toArray, List.map_cons, List.map_nil]); first | done | rfl | (simp only [List.length_drop, List.length_take]; rfl)) ?_; (with_reducible refine (plan_Demand_valid.calls a1_0 a1_1 a1_2 a1_3 false _ A5.out).mono ?_); rintro e w34 ⟨rfl, hb⟩; refine ⟨_, rfl, ?_⟩; have n0_ := Aside0.mk (blk_below (g := gb481) (o := .cells #[.int .i64 a0_0, .slice A0_1 l0_1.length c0_1] 31 (0, 0)) (by (with_reducible repeat (first | refine blk_drewN ?_ _ | refine blk_drew ?_ | refine blk_alloc ?_ _)); exact BK481.out) hb); have n1_ := Aside0.mk (blk_below (g := gb482) (o := .cells #[.int .i64 a1_0, .int .i64 a1_1, .int .i64 a1_2, .int .i64 a1_3] 68 (0, 0)) (by (with_reducible repeat (first | refine blk_drewN ?_ _ | refine blk_drew ?_ | refine blk_alloc ?_ _)); exact BK482.out) hb); have n2_ := Aside0.mk (below_step (by repeat (first | (with_reducible first | exact HB.out | apply below_alloc | apply pw_below_drewN | apply below_drew1 | refine below_set ?_ GE481.out | refine below_set ?_ GE482.out) | exact HB.out)) hb); clear BK481; clear BK482; clear HB; have BK481 := n0_; have BK482 := n1_; have HB := n2_; clear n0_ n1_ n2_; (try clear hb); (try clear hb2); (try clear hk); (try clear hi)))
   go_ret2
   exact ⟨by first | rfl | (simp [errW_none, errW_some] <;> rfl) | (simp [*, errW_none, errW_some] <;> rfl), by repeat (first | (with_reducible first | exact HB.out | apply below_alloc | apply pw_below_drewN | apply below_drew1 | refine below_set ?_ GE481.out | refine below_set ?_ GE482.out) | exact HB.out)⟩
 ·
  rw [if_neg c4] at H
  have c4b0 : (t483 == 0) = false := beq_eq_false_iff_ne.mpr c4
  have c4b1 : (t483 != 0) = true := bne_iff_ne.mpr c4
  simp only [Option.some.injEq, Prod.mk.injEq] at H
  obtain ⟨rfl, rfl⟩ := H
  go_enter Try.func31, Try.ntmps31
  go_wp2_with (first | ((with_reducible refine gate_dst (N := 2) rfl ?_); refine box_event ?hg (N := 2) ?hd (cs := #[.int .i64 a0_0, .slice A0_1 l0_1.length c0_1]) (t := 31) ?hr ?_; (case hd => rfl); (case hg => rfl); (case hr => first | (go_simp; done) | (go_simp; rfl)); intro gb481 hg w35 hbox hb; have n0_ := Aside0.mk (below_step (by repeat (first | (with_reducible first | exact HB.out | apply below_alloc | apply pw_below_drewN | apply below_drew1) | exact HB.out)) hb); have n1_ := Aside0.mk (hbox); have n2_ := Aside0.mk ((by rw [hg]; exact (below_size (by repeat (first | (with_reducible first | exact HB.out | apply below_alloc | apply pw_below_drewN | apply below_drew1) | exact HB.out))) : w.heap.size ≤ gb481)); have n3_ := Aside0.mk ((by rw [hg]; exact (below_size (by repeat (first | (with_reducible first | exact HB.out | apply below_alloc | apply pw_below_drewN | apply below_drew1) | exact HB.out))) : w.heap.size ≤ gb481)); clear HB; have HB := n0_; have BK481 := n1_; have GW481 := n2_; have GE481 := n3_; clear n0_ n1_ n2_ n3_; clear hb hbox hg) | ((with_reducible refine gate_dst (N := 3) rfl ?_); refine box_event ?hg (N := 3) ?hd (cs := #[.int .i64 a1_0, .int .i64 a1_1, .int .i64 a1_2, .int .i64 a1_3]) (t := 68) ?hr ?_; (case hd => rfl); (case hg => rfl); (case hr => first | (go_simp; done) | (go_simp; rfl)); intro gb482 hg w36 hbox hb; have n0_ := Aside0.mk (blk_below (g := gb481) (o := .cells #[.int .i64 a0_0, .slice A0_1 l0_1.length c0_1] 31 (0, 0)) (by (with_reducible repeat (first | refine blk_drewN ?_ _ | refine blk_drew ?_ | refine blk_alloc ?_ _)); exact BK481.out) hb); have n1_ := Aside0.mk (below_step (by repeat (first | (with_reducible first | exact HB.out | apply below_alloc | apply pw_below_drewN | apply below_drew1 | refine below_set ?_ GE481.out) | exact HB.out)) hb); have n2_ := Aside0.mk (hbox); have n3_ := Aside0.mk ((by rw [hg]; exact (below_size (by repeat (first | (with_reducible first | exact HB.out | apply below_alloc | apply pw_below_drewN | apply below_drew1 | refine below_set ?_ GE481.out) | exact HB.out))) : w.heap.size ≤ gb482)); have n4_ := Aside0.mk ((by rw [hg]; exact (below_size (by repeat (first | (with_reducible first | exact HB.out | apply below_alloc | apply pw_below_drewN | apply below_drew1 | refine below_set ?_ GE481.out) | exact HB.out))) : w.heap.size ≤ gb482)); have n5_ := Aside0.mk ((by rw [hg]; exact Nat.ne_of_lt (blk_lt (g := gb481) (o := .cells #[.int .i64 a0_0, .slice A0_1 l0_1.length c0_1] 31 (0, 0)) (by (with_reducible repeat (first | refine blk_drewN ?_ _ | refine blk_drew ?_ | refine blk_alloc ?_ _)); exact BK481.out)) : gb481 ≠ gb482)); have n6_ := Aside0.mk ((by rw [hg]; exact Nat.ne_of_gt (blk_lt (g := gb481) (o := .cells #[.int .i64 a0_0, .slice A0_1 l0_1.length c0_1] 31 (0, 0)) (by (with_reducible repeat (first | refine blk_drewN ?_ _ | refine blk_drew ?_ | refine blk_alloc ?_ _)); exact BK481.out)) : gb482 ≠ gb481)); clear BK481; clear HB; have BK481 := n0_; have HB := n1_; have BK482 := n2_; have GW482 := n3_; have GE482 := n4_; have NB481_482 := n5_; have NB482_481 := n6_; clear n0_ n1_ n2_ n3_ n4_ n5_ n6_; clear hb hbox hg; have hnb37 := NB481_482.out; have hnc37 := NB482_481.out; have hcz38_0 : w36.cell? ⟨gb481, 0, none⟩ = some (.int .i64 a0_0) := (blk_cell BK481.out 0).trans rfl; have hcz38_1 : w36.cell? ⟨gb481, 1, none⟩ = some (.slice A0_1 l0_1.length c0_1) := (blk_cell BK481.out 1).trans rfl; have hfz38_0 := blk_frozen BK481.out 0; have hfz38_1 := blk_frozen BK481.out 1) | ((with_reducible refine gate_callee (f := 16) rfl ?_); refine goesL_ (some 8) rfl rfl Try.func16 (by kernel_rfl) rfl #[.agg #[.int .i64 a0_0, .slice A0_1 l0_1.length c0_1]] rfl (by (try simp only [List.map_toArray, List.map_cons, List.map_nil]); first | done | rfl | (simp only [List.length_drop, List.length_take]; rfl)) ?_; (with_reducible refine (plan_CheckPlan.calls a0_0 _ _ l0_1 t483 _ ?side1 ?side2 A3.out).mono ?_); (case side1 => repeat (first | exact (Kd.C_below HR0_1.out HB.out) | (with_reducible refine Kd.C_alloc ?_ _) | (with_reducible refine Kd.C_drewN ?_ _) | (with_reducible refine Kd.C_drew ?_))); (case side2 => exact HC0_1.out); rintro e w39 ⟨rfl, hb⟩; refine ⟨_, rfl, ?_⟩; have n0_ := Aside0.mk (blk_below (g := gb481) (o := .cells #[.int .i64 a0_0, .slice A0_1 l0_1.length c0_1] 31 (0, 0)) (by (with_reducible repeat (first | refine blk_drewN ?_ _ | refine blk_drew ?_ | refine blk_alloc ?_ _)); exact BK481.out) hb); have n1_ := Aside0.mk (blk_below (g := gb482) (o := .cells #[.int .i64 a1_0, .int .i64 a1_1, .int .i64 a1_2, .int .i64 a1_3] 68 (0, 0)) (by (with_reducible repeat (first | refine blk_drewN ?_ _ | refine blk_drew ?_ | refine blk_alloc ?_ _)); exact BK482.out) hb); have n2_ := Aside0.mk (below_step (by repeat (first | (with_reducible first | exact HB.out | apply below_alloc | apply pw_below_drewN | apply below_drew1 | refine below_set ?_ GE481.out | refine below_set ?_ GE482.out) | exact HB.out)) hb); clear BK481; clear BK482; clear HB; have BK481 := n0_; have BK482 := n1_; have HB := n2_; clear n0_ n1_ n2_; (try clear hb); (try clear hb2); (try clear hk); (try clear hi)))
  go_ret2
  exact ⟨by first | rfl | (simp [errW_none, errW_some] <;> rfl) | (simp [*, errW_none, errW_some] <;> rfl), by repeat (first | (with_reducible first | exact HB.out | apply below_alloc | apply pw_below_drewN | apply below_drew1 | refine below_set ?_ GE481.out | refine below_set ?_ GE482.out) | exact HB.out)⟩

end Go.Proofs.Ytigpnafpdmdmhaa.P

namespace Go.Proofs.Ytigpnafpdmdmhaa.P
open Go.RowKit Go.Proofs.YtigpnafpdmdmhaaW.PrintWords Go.Proofs.YtigpnafpdmdmhaaW.PrintLast

/-! ### tensilelaw09_Demand: function 32 -/
def tensilelaw09_Demand.f (a0_0 : Int) (a0_1 : Int) (a0_2 : Int) (a0_3 : Int) : Option (Int × Int × Int × Int) := some (a0_0, a0_1, a0_2, a0_3)
set_option maxHeartbeats 8000000 in
set_option maxRecDepth 100000 in
theorem tensilelaw09_Demand.calls (a0_0 : Int) (a0_1 : Int) (a0_2 : Int) (a0_3 : Int) (r1 : Int) (r2 : Int) (r3 : Int) (r4 : Int) (w : World) (h : tensilelaw09_Demand.f a0_0 a0_1 a0_2 a0_3 = some (r1, r2, r3, r4)) :
  Calls Try.prog 32 #[.agg #[.int .i64 a0_0, .int .i64 a0_1, .int .i64 a0_2, .int .i64 a0_3]] w fun e w' => e = .returned (.agg #[.int .i64 r1, .int .i64 r2, .int .i64 r3, .int .i64 r4]) ∧ Below w.heap.size w w' := by
 have hu64 := Try.underlying64
 have hu68 := Try.underlying68
 have HB := Aside0.mk (Below.refl w.heap.size w)
 have H : (some (a0_0, a0_1, a0_2, a0_3)) = some (r1, r2, r3, r4) := h
 clear h
 simp only [Option.some.injEq, Prod.mk.injEq] at H
 obtain ⟨rfl, rfl, rfl, rfl⟩ := H
 go_enter Try.func32, Try.ntmps32
 go_wp2_with (first | ((with_reducible refine gate_dst (N := 1) rfl ?_); refine box_event ?hg (N := 1) ?hd (cs := #[.int .i64 a0_0, .int .i64 a0_1, .int .i64 a0_2, .int .i64 a0_3]) (t := 64) ?hr ?_; (case hd => rfl); (case hg => rfl); (case hr => first | (go_simp; done) | (go_simp; rfl)); intro gb486 hg w2 hbox hb; have n0_ := Aside0.mk (below_step (by repeat (first | (with_reducible first | exact HB.out | apply below_alloc | apply pw_below_drewN | apply below_drew1) | exact HB.out)) hb); have n1_ := Aside0.mk (hbox); have n2_ := Aside0.mk ((by rw [hg]; exact (below_size (by repeat (first | (with_reducible first | exact HB.out | apply below_alloc | apply pw_below_drewN | apply below_drew1) | exact HB.out))) : w.heap.size ≤ gb486)); have n3_ := Aside0.mk ((by rw [hg]; exact (below_size (by repeat (first | (with_reducible first | exact HB.out | apply below_alloc | apply pw_below_drewN | apply below_drew1) | exact HB.out))) : w.heap.size ≤ gb486)); clear HB; have HB := n0_; have BK486 := n1_; have GW486 := n2_; have GE486 := n3_; clear n0_ n1_ n2_ n3_; clear hb hbox hg) | ((with_reducible refine gate_dst (N := 2) rfl ?_); refine box_event ?hg (N := 2) ?hd (cs := #[.int .i64 0, .int .i64 0, .int .i64 0, .int .i64 0]) (t := 68) ?hr ?_; (case hd => rfl); (case hg => rfl); (case hr => first | (go_simp; done) | (go_simp; rfl)); intro gb487 hg w3 hbox hb; have n0_ := Aside0.mk (blk_below (g := gb486) (o := .cells #[.int .i64 a0_0, .int .i64 a0_1, .int .i64 a0_2, .int .i64 a0_3] 64 (0, 0)) (by (with_reducible repeat (first | refine blk_drewN ?_ _ | refine blk_drew ?_ | refine blk_alloc ?_ _)); exact BK486.out) hb); have n1_ := Aside0.mk (below_step (by repeat (first | (with_reducible first | exact HB.out | apply below_alloc | apply pw_below_drewN | apply below_drew1 | refine below_set ?_ GE486.out) | exact HB.out)) hb); have n2_ := Aside0.mk (hbox); have n3_ := Aside0.mk ((by rw [hg]; exact (below_size (by repeat (first | (with_reducible first | exact HB.out | apply below_alloc | apply pw_below_drewN | apply below_drew1 | refine below_set ?_ GE486.out) | exact HB.out))) : w.heap.size ≤ gb487)); have n4_ := Aside0.mk ((by rw [hg]; exact (below_size (by repeat (first | (with_reducible first | exact HB.out | apply below_alloc | apply pw_below_drewN | apply below_drew1 | refine below_set ?_ GE486.out) | exact HB.out))) : w.heap.size ≤ gb487)); have n5_ := Aside0.mk ((by rw [hg]; exact Nat.ne_of_lt (blk_lt (g := gb486) (o := .cells #[.int .i64 a0_0, .int .i64 a0_1, .int .i64 a0_2, .int .i64 a0_3] 64 (0, 0)) (by (with_reducible repeat (first | refine blk_drewN ?_ _ | refine blk_drew ?_ | refine blk_alloc ?_ _)); exact BK486.out)) : gb486 ≠ gb487)); have n6_ := Aside0.mk ((by rw [hg]; exact Nat.ne_of_gt (blk_lt (g := gb486) (o := .cells #[.int .i64 a0_0, .int .i64 a0_1, .int .i64 a0_2, .int .i64 a0_3] 64 (0, 0)) (by (with_reducible repeat (first | refine blk_drewN ?_ _ | refine blk_drew ?_ | refine blk_alloc ?_ _)); exact BK486.out)) : gb487 ≠ gb486)); clear BK486; clear HB; have BK486 := n0_; have HB := n1_; have BK487 := n2_; have GW487 := n3_; have GE487 := n4_; have NB486_487 := n5_; have NB487_486 := n6_; clear n0_ n1_ n2_ n3_ n4_ n5_ n6_; clear hb hbox hg; have hnb4 := NB486_487.out; have hnc4 := NB487_486.out; have hcz5_0 : w3.cell? ⟨gb486, 0, none⟩ = some (.int .i64 a0_0) := (blk_cell BK486.out 0).trans rfl; have hcz5_1 : w3.cell? ⟨gb486, 1, none⟩ = some (.int .i64 a0_1) := (blk_cell BK486.out 1).trans rfl; have hcz5_2 : w3.cell? ⟨gb486, 2, none⟩ = some (.int .i64 a0_2) := (blk_cell BK486.out 2).trans rfl; have hcz5_3 : w3.cell? ⟨gb486, 3, none⟩ = some (.int .i64 a0_3) := (blk_cell BK486.out 3).trans rfl; have hfz5_0 := blk_frozen BK486.out 0; have hfz5_1 := blk_frozen BK486.out 1; have hfz5_2 := blk_frozen BK486.out 2; have hfz5_3 := blk_frozen BK486.out 3; have hcz6_0 : w3.cell? ⟨gb487, 0, none⟩ = some (.int .i64 0) := (blk_cell BK487.out 0).trans rfl; have hcz6_1 : w3.cell? ⟨gb487, 1, none⟩ = some (.int .i64 0) := (blk_cell BK487.out 1).trans rfl; have hcz6_2 : w3.cell? ⟨gb487, 2, none⟩ = some (.int .i64 0) := (blk_cell BK487.out 2).trans rfl; have hcz6_3 : w3.cell? ⟨gb487, 3, none⟩ = some (.int .i64 0) := (blk_cell BK487.out 3).trans rfl; have hfz6_0 := blk_frozen BK487.out 0; have hfz6_1 := blk_frozen BK487.out 1; have hfz6_2 := blk_frozen BK487.out 2; have hfz6_3 := blk_frozen BK487.out 3))
 refine bodyPost_ret (results_cell_row rfl _ _ gb487 68 #[.int .i64 a0_0, .int .i64 a0_1, .int .i64 a0_2, .int .i64 a0_3] (0, 0) _ rfl (by (with_reducible repeat (first | refine blk_drewN ?_ _ | refine blk_drew ?_ | refine blk_alloc ?_ _)); refine blk_put (cs := #[.int .i64 a0_0, .int .i64 a0_1, .int .i64 a0_2, .int .i64 0]) ?_ 3 _ rfl; (with_reducible repeat (first | refine blk_drewN ?_ _ | refine blk_drew ?_ | refine blk_alloc ?_ _)); refine blk_put (cs := #[.int .i64 a0_0, .int .i64 a0_1, .int .i64 0, .int .i64 0]) ?_ 2 _ rfl; (with_reducible repeat (first | refine blk_drewN ?_ _ | refine blk_drew ?_ | refine blk_alloc ?_ _)); refine blk_put (cs := #[.int .i64 a0_0, .int .i64 0, .int .i64 0, .int .i64 0]) ?_ 1 _ rfl; (with_reducible repeat (first | refine blk_drewN ?_ _ | refine blk_drew ?_ | refine blk_alloc ?_ _)); refine blk_put (cs := #[.int .i64 0, .int .i64 0, .int .i64 0, .int .i64 0]) ?_ 0 _ rfl; (with_reducible repeat (first | refine blk_drewN ?_ _ | refine blk_drew ?_ | refine blk_alloc ?_ _)); exact BK487.out) Try.underlying68 rfl (by kernel_rfl)) rfl ?_
 exact ⟨by first | rfl | (simp [errW_none, errW_some] <;> rfl) | (simp [*, errW_none, errW_some] <;> rfl), by repeat (first | (with_reducible first | exact HB.out | apply below_alloc | apply pw_below_drewN | apply below_drew1 | refine below_set ?_ GE486.out | refine below_set ?_ GE487.out) | exact HB.out)⟩

end Go.Proofs.Ytigpnafpdmdmhaa.P

namespace Go.Proofs.Ytigpnafpdmdmhaa.Hand
open Go.RowKit Go.Shelf

theorem infoSt : (Try.prog.info? 61).map (fun i => (i.zero, i.size, i.bytes)) = some (some (.agg #[.int .i64 0, .int .i64 0, .int .i64 0]), 3, 24) := by kernel_rfl

/-- The cells of two stages. -/
def two6 (p q : Stg) : List Value := [.int .i64 p.take, .int .i64 p.accept, .int .i64 p.reject, .int .i64 q.take, .int .i64 q.accept, .int .i64 q.reject]

/-- What Clone leaves. -/
def ClonePost (p q : Stg) (w : World) (e : Ending) (w' : World) : Prop :=
  ∃ g cap cur, e = .returned (.slice (some ⟨g, 0, none⟩) 2 cap) ∧ w.heap.size ≤ g ∧ (2 ≤ cap ∧ cap ≤ maxLen) ∧ cur.size = cap * 3 ∧ Blk w' g cur 61 ∧ cur.toList.take 6 = two6 p q ∧ Below w.heap.size w w'

theorem two6_at {p q : Stg} {b : Nat} {w : World} (h : Blk w b (two6 p q).toArray 61) (j : Nat) (u : Value) (hj : (two6 p q)[j]? = some u) : w.cell? ((⟨b, 0, none⟩ : Addr).add j) = some u := by
  have e : (⟨b, 0, none⟩ : Addr).add j = ⟨b, j, none⟩ := by
    unfold Addr.add
    split
    · rename_i hz; rw [hz]
    · simp
  rw [e, h.cell j]
  simpa using hj

theorem own_none (w : World) : (w.alloc (.cells #[] 61)).ownsRow w.heap.size 61 3 (.slice (some ⟨w.heap.size, 0, none⟩) 0 0) 0 [] :=
  ⟨rfl, .inr ⟨w.heap.size, 0, #[], rfl, Nat.le_refl _, Blk.new w #[] 61, Nat.le_refl _, by decide, rfl, rfl⟩⟩

set_option maxHeartbeats 2000000 in
set_option maxRecDepth 100000 in
theorem clone_any (p q : Stg) (b c : Nat) (w : World) (hb : Blk w b (two6 p q).toArray 61) : Calls Try.prog 56 #[.slice (some ⟨b, 0, none⟩) 2 c] w (ClonePost p q w) := by
  have hlt := hb.lt
  have HN := Aw.mk (fun j u hj => two6_at (hb.alloc (.cells #[] 61)) j u hj)
  have HO := Aw.mk (own_none w)
  have HR := Aw.mk ((Below.refl w.heap.size w).alloc (Nat.le_refl _) (.cells #[] 61))
  have hz : (w.alloc (.cells #[] 61)).heap.size = w.heap.size + 1 := World.size_alloc ..
  have HZ := Aw.mk hz
  clear hb hz
  obtain ⟨i0, hi, hz0, hz1, hz2⟩ := info_parts infoSt
  have hn := fun W => Lib.run_eql_slice_nil (P := Try.prog) W 29 61 (some ⟨b, 0, none⟩) 2 c 0 0 Try.underlying29
  go_enter Try.func56, Try.ntmps56
  go_wp2_with (at_builtin; refine wpList_append_own _ rfl (.tmp 5) (.tmp 6) 29 rfl w.heap.size 61 i0 (.agg #[.int .i64 0, .int .i64 0, .int .i64 0]) 3 24 Try.underlying29 hi hz0 hz1 hz2 rfl (by decide) _ 0 [] rfl HO.out ⟨b, 0, none⟩ 2 c (two6 p q) rfl rfl HN.out (by intro u hu; simp [two6] at hu; rcases hu with rfl | rfl | rfl | rfl | rfl | rfl <;> rfl) (by decide) (by decide) (by rw [HZ.out]; omega) ?_; intro v' w1 hown1 hgrow1 hnil1; have HO1 := Aw.mk hown1; have HG1 := Aw.mk hgrow1; clear hown1 hgrow1 hnil1)
  go_ret
  obtain ⟨_, (⟨_, h0⟩ | ⟨g, cap, cur, rfl, g1, g2, g3, g4, g5, g6⟩)⟩ := HO1.out
  · exact absurd h0 (by decide)
  · exact ⟨g, cap, cur, rfl, g1, ⟨g3, g4⟩, g5, g2, g6, HR.out.grown HG1.out HR.out.size (fun k e => by cases e; exact Nat.le_refl _)⟩
end Go.Proofs.Ytigpnafpdmdmhaa.Hand

namespace Go.Proofs.Ytigpnafpdmdmhaa.Hand
open Go.RowKit Go.Shelf

/-- Whether a plan is the better one, as the machine reckons. -/
def betB (lb : Int) (c o : Cnt) : Bool := (lb == 0) || decide (wrap64 (c.pieces * o.draws) < wrap64 (o.pieces * c.draws))

theorem wanted_ofF {ops : Array Oper} {o : Oper} {j d : Nat} {g : Bool} {a : Act} (hg : o.guard = some (j, false)) (hd : (ops[j]?).bind (·.dst) = some d) (hv : a.tmps.getD d undef = .bool g) :
    Region.wanted o (yielded ops a.tmps) = !g := by
  unfold Region.wanted yielded
  rw [hg]
  simp only
  rw [hd]
  have hv' : a.tmps[d]? = some (.bool g) := by
    rw [Array.getD_eq_getD_getElem?] at hv
    cases h : a.tmps[d]? with
    | none => rw [h] at hv; simp [undef] at hv
    | some v => rw [h] at hv; simp at hv; rw [hv]
  simp only [Option.bind_some, hv']
  cases g <;> rfl

set_option maxHeartbeats 8000000 in
set_option maxRecDepth 10000 in
theorem better_region (B5 B7 B8 : Nat) (c o : Cnt) (lb : Int) (sv : Value) (a0 : Act) (w0 : World) (Q : Exit → Act → World → Prop) (hsz : a0.tmps.size = 40)
    (f2 : a0.tmps.getD 2 undef = .pointer (some ⟨B7, 0, none⟩)) (f3 : a0.tmps.getD 3 undef = .pointer (some ⟨B8, 0, none⟩)) (f5 : a0.tmps.getD 5 undef = .pointer (some ⟨B5, 0, none⟩))
    (h7 : Blk w0 B7 #[.int .i64 lb, sv] 31) (h8 : Blk w0 B8 o.cells 84) (h5 : Blk w0 B5 c.cells 84)
    (hQ : ∀ (a : Act) (W : World), a.defers = a0.defers → a.tmps.size = 40 → a.tmps.getD 32 undef = .bool (betB lb c o) → (∀ s, s < 15 → a.tmps.getD s undef = a0.tmps.getD s undef) → Below w0.heap.size w0 W → Q .normal a W) :
    (Code.region 3 (opsOf Try.f52 3) true).wpIn Fence.wide 0 Try.prog Q a0 w0 := by
  refine region_walk2 (rd := none) 17 (fun i => i + 15) (by kernel_rfl) (by kernel_rfl) (by rw [hsz]; kernel_rfl)
    (fun _ _ W => Blk W B7 #[.int .i64 lb, sv] 31 ∧ Blk W B8 o.cells 84 ∧ Blk W B5 c.cells 84 ∧ Below w0.heap.size w0 W)
    (fun _ W W' => Below W.heap.size W W')
    (fun _ i v W => match i with
      | 0 => v = .pointer (some ⟨B7, 0, none⟩)
      | 1 => v = .int .i64 lb
      | 2 => v = .bool (lb == 0)
      | 3 => v = .bool (lb == 0)
      | 4 => ((lb == 0) = false → v = .pointer (some ⟨B5, 1, none⟩))
      | 5 => ((lb == 0) = false → v = .int .i64 c.pieces)
      | 6 => ((lb == 0) = false → v = .pointer (some ⟨B8, 2, none⟩))
      | 7 => ((lb == 0) = false → v = .int .i64 o.draws)
      | 8 => ((lb == 0) = false → ∃ bb : Nat, v = .slice (some ⟨bb, 0, none⟩) 2 2 ∧ Blk W bb #[.int .i64 (c.pieces), .int .i64 (o.draws)] 3)
      | 9 => ((lb == 0) = false → v = .int .i64 (wrap64 (c.pieces * o.draws)))
      | 10 => ((lb == 0) = false → v = .pointer (some ⟨B8, 1, none⟩))
      | 11 => ((lb == 0) = false → v = .int .i64 o.pieces)
      | 12 => ((lb == 0) = false → v = .pointer (some ⟨B5, 2, none⟩))
      | 13 => ((lb == 0) = false → v = .int .i64 c.draws)
      | 14 => ((lb == 0) = false → ∃ bb : Nat, v = .slice (some ⟨bb, 0, none⟩) 2 2 ∧ Blk W bb #[.int .i64 (o.pieces), .int .i64 (c.draws)] 3)
      | 15 => ((lb == 0) = false → v = .int .i64 (wrap64 (o.pieces * c.draws)))
      | _ => ((lb == 0) = false → v = .bool (decide (wrap64 (c.pieces * o.draws) < wrap64 (o.pieces * c.draws)))))
    ?hSp ?hL (fun _ _ _ _ _ _ _ h => h) ⟨h7.drew, h8.drew, h5.drew, (Below.refl _ _).drew⟩ ?hop ?hlast
  case hSp =>
    intro L j i v W W' _ hi _ _ _ _ hb h
    have hs : ∀ x y : Int, (∃ bb : Nat, v = .slice (some ⟨bb, 0, none⟩) 2 2 ∧ Blk W bb #[.int .i64 x, .int .i64 y] 3) → (∃ bb : Nat, v = .slice (some ⟨bb, 0, none⟩) 2 2 ∧ Blk W' bb #[.int .i64 x, .int .i64 y] 3) := fun x y ⟨bb, h1, h2⟩ => ⟨bb, h1, h2.below hb h2.lt⟩
    match i, h with
    | 0, h => exact h
    | 1, h => exact h
    | 2, h => exact h
    | 3, h => exact h
    | 4, h => exact h
    | 5, h => exact h
    | 6, h => exact h
    | 7, h => exact h
    | 8, h => exact fun hg => hs _ _ (h hg)
    | 9, h => exact h
    | 10, h => exact h
    | 11, h => exact h
    | 12, h => exact h
    | 13, h => exact h
    | 14, h => exact fun hg => hs _ _ (h hg)
    | 15, h => exact h
    | _ + 16, h => exact h
  case hL =>
    intro L L' j v W _ h
    exact h
  case hop =>
    intro L i a W hi hN _ hfix hBW hnl _ _ hdep
    have f2 : a.tmps.getD 2 undef = .pointer (some ⟨B7, 0, none⟩) := (hfix 2 (fun j _ => by omega)).trans f2
    have f3 : a.tmps.getD 3 undef = .pointer (some ⟨B8, 0, none⟩) := (hfix 3 (fun j _ => by omega)).trans f3
    have f5 : a.tmps.getD 5 undef = .pointer (some ⟨B5, 0, none⟩) := (hfix 5 (fun j _ => by omega)).trans f5
    have e0 : ∀ x, a.eval (.tmp x) = a.tmps.getD x undef := fun _ => rfl
    have g0 : W.cell? ⟨B7, 0, none⟩ = some (.int .i64 lb) := hBW.1.cell 0
    have g1 : W.cell? ⟨B5, 1, none⟩ = some (.int .i64 c.pieces) := hBW.2.2.1.cell 1
    have g2 : W.cell? ⟨B5, 2, none⟩ = some (.int .i64 c.draws) := hBW.2.2.1.cell 2
    have g3 : W.cell? ⟨B8, 1, none⟩ = some (.int .i64 o.pieces) := hBW.2.1.cell 1
    have g4 : W.cell? ⟨B8, 2, none⟩ = some (.int .i64 o.draws) := hBW.2.1.cell 2
    have hBs : ∀ {W' : World}, Below W.heap.size W W' → (Blk W' B7 #[.int .i64 lb, sv] 31 ∧ Blk W' B8 o.cells 84 ∧ Blk W' B5 c.cells 84 ∧ Below w0.heap.size w0 W') := fun hb => ⟨hBW.1.below hb hBW.1.lt, hBW.2.1.below hb hBW.2.1.lt, hBW.2.2.1.below hb hBW.2.2.1.lt, hBW.2.2.2.trans (hb.mono hBW.2.2.2.size)⟩
    clear hQ
    match i, hN, hi, hdep with
    | 0, _, _, hdep =>
      refine ⟨fun _ => ?_, fun h => absurd (show true = false from h) (by decide)⟩
      refine OpOk.val (v := .pointer (some ⟨B7, 0, none⟩)) (w' := W) ?_ ⟨Below.refl _ _, rfl, hBW⟩
      show (execOp a.eval { dst := some 15, op := Op.fieldAddr 31 (.tmp 2) 0, type := _, pos := _, after := _, guard := none }).run Try.prog W = _
      simp only [execOp, List.map_toArray, List.map_cons, List.map_nil, e0, f2]
      go_simp
    | 1, _, _, hdep =>
      refine ⟨fun _ => ?_, fun h => absurd (show true = false from h) (by decide)⟩
      have d15 : a.tmps.getD 15 undef = .pointer (some ⟨B7, 0, none⟩) := hdep 0 rfl
      refine OpOk.val (v := .int .i64 lb) (w' := W) ?_ ⟨Below.refl _ _, rfl, hBW⟩
      show (execOp a.eval { dst := some 16, op := Op.load 3 (.tmp 15), type := _, pos := _, after := _, guard := none }).run Try.prog W = _
      simp only [execOp, List.map_toArray, List.map_cons, List.map_nil, e0, d15]
      go_simp
    | 2, _, _, hdep =>
      refine ⟨fun _ => ?_, fun h => absurd (show true = false from h) (by decide)⟩
      have d16 : a.tmps.getD 16 undef = .int .i64 lb := hdep 1 rfl
      refine OpOk.val (v := .bool (lb == 0)) (w' := W) ?_ ⟨Below.refl _ _, rfl, hBW⟩
      show (execOp a.eval { dst := some 17, op := Op.binOp BinOp.eql 3 (.tmp 16) (.const (.int .i64 0)) 3, type := _, pos := _, after := _, guard := none }).run Try.prog W = _
      simp only [execOp, List.map_toArray, List.map_cons, List.map_nil, e0, d16]
      go_simp
      all_goals (first | rfl | exact Go.IntWalk.i64_left _)
    | 3, _, _, hdep =>
      refine ⟨fun _ => ?_, fun h => absurd (show true = false from h) (by decide)⟩
      have d17 : a.tmps.getD 17 undef = .bool (lb == 0) := hdep 2 rfl
      refine OpOk.val (v := .bool (lb == 0)) (w' := W) ?_ ⟨Below.refl _ _, rfl, hBW⟩
      show (execOp a.eval { dst := some 18, op := Op.move (.tmp 17), type := _, pos := _, after := _, guard := none }).run Try.prog W = _
      simp only [execOp, List.map_toArray, List.map_cons, List.map_nil, e0, d17]
      go_simp
    | 4, _, _, hdep =>
      have hv18 : a.tmps.getD 18 undef = .bool (lb == 0) := hdep 3 rfl
      refine ⟨fun hw => ?_, fun hw => ⟨Below.refl _ _, fun hg => absurd ((wanted_ofF (j := 3) (d := 18) rfl rfl hv18).symm.trans hw) (by rw [hg]; decide), hBW⟩⟩
      have hg : (lb == 0) = false := by have := (wanted_ofF (j := 3) (d := 18) rfl rfl hv18).symm.trans hw; simpa using this
      refine OpOk.val (v := .pointer (some ⟨B5, 1, none⟩)) (w' := W) ?_ ⟨Below.refl _ _, fun _ => rfl, hBW⟩
      show (execOp a.eval { dst := some 19, op := Op.fieldAddr 84 (.tmp 5) 1, type := _, pos := _, after := _, guard := some (3, false) }).run Try.prog W = _
      simp only [execOp, List.map_toArray, List.map_cons, List.map_nil, e0, f5]
      go_simp
    | 5, _, _, hdep =>
      have hv18 : a.tmps.getD 18 undef = .bool (lb == 0) := hdep 3 rfl
      refine ⟨fun hw => ?_, fun hw => ⟨Below.refl _ _, fun hg => absurd ((wanted_ofF (j := 3) (d := 18) rfl rfl hv18).symm.trans hw) (by rw [hg]; decide), hBW⟩⟩
      have hg : (lb == 0) = false := by have := (wanted_ofF (j := 3) (d := 18) rfl rfl hv18).symm.trans hw; simpa using this
      have d19 : a.tmps.getD 19 undef = .pointer (some ⟨B5, 1, none⟩) := hdep 4 rfl hg
      refine OpOk.val (v := .int .i64 c.pieces) (w' := W) ?_ ⟨Below.refl _ _, fun _ => rfl, hBW⟩
      show (execOp a.eval { dst := some 20, op := Op.load 3 (.tmp 19), type := _, pos := _, after := _, guard := some (3, false) }).run Try.prog W = _
      simp only [execOp, List.map_toArray, List.map_cons, List.map_nil, e0, d19]
      go_simp
    | 6, _, _, hdep =>
      have hv18 : a.tmps.getD 18 undef = .bool (lb == 0) := hdep 3 rfl
      refine ⟨fun hw => ?_, fun hw => ⟨Below.refl _ _, fun hg => absurd ((wanted_ofF (j := 3) (d := 18) rfl rfl hv18).symm.trans hw) (by rw [hg]; decide), hBW⟩⟩
      have hg : (lb == 0) = false := by have := (wanted_ofF (j := 3) (d := 18) rfl rfl hv18).symm.trans hw; simpa using this
      refine OpOk.val (v := .pointer (some ⟨B8, 2, none⟩)) (w' := W) ?_ ⟨Below.refl _ _, fun _ => rfl, hBW⟩
      show (execOp a.eval { dst := some 21, op := Op.fieldAddr 84 (.tmp 3) 2, type := _, pos := _, after := _, guard := some (3, false) }).run Try.prog W = _
      simp only [execOp, List.map_toArray, List.map_cons, List.map_nil, e0, f3]
      go_simp
    | 7, _, _, hdep =>
      have hv18 : a.tmps.getD 18 undef = .bool (lb == 0) := hdep 3 rfl
      refine ⟨fun hw => ?_, fun hw => ⟨Below.refl _ _, fun hg => absurd ((wanted_ofF (j := 3) (d := 18) rfl rfl hv18).symm.trans hw) (by rw [hg]; decide), hBW⟩⟩
      have hg : (lb == 0) = false := by have := (wanted_ofF (j := 3) (d := 18) rfl rfl hv18).symm.trans hw; simpa using this
      have d21 : a.tmps.getD 21 undef = .pointer (some ⟨B8, 2, none⟩) := hdep 6 rfl hg
      refine OpOk.val (v := .int .i64 o.draws) (w' := W) ?_ ⟨Below.refl _ _, fun _ => rfl, hBW⟩
      show (execOp a.eval { dst := some 22, op := Op.load 3 (.tmp 21), type := _, pos := _, after := _, guard := some (3, false) }).run Try.prog W = _
      simp only [execOp, List.map_toArray, List.map_cons, List.map_nil, e0, d21]
      go_simp
    | 8, _, _, hdep =>
      have hv18 : a.tmps.getD 18 undef = .bool (lb == 0) := hdep 3 rfl
      refine ⟨fun hw => ?_, fun hw => ⟨Below.refl _ _, fun hg => absurd ((wanted_ofF (j := 3) (d := 18) rfl rfl hv18).symm.trans hw) (by rw [hg]; decide), hBW⟩⟩
      have hg : (lb == 0) = false := by have := (wanted_ofF (j := 3) (d := 18) rfl rfl hv18).symm.trans hw; simpa using this
      have d20 : a.tmps.getD 20 undef = .int .i64 c.pieces := hdep 5 rfl hg
      have d22 : a.tmps.getD 22 undef = .int .i64 o.draws := hdep 7 rfl hg
      have hal : Below W.heap.size W (W.alloc (.cells #[.int .i64 (c.pieces), .int .i64 (o.draws)] 3)) := (Below.refl _ _).alloc (Nat.le_refl _) _
      refine OpOk.val (v := .slice (some ⟨W.heap.size, 0, none⟩) 2 2) (w' := W.alloc (.cells #[.int .i64 (c.pieces), .int .i64 (o.draws)] 3)) ?_ ⟨hal, fun _ => ⟨W.heap.size, rfl, Blk.new _ _ _⟩, hBs hal⟩
      show (execOp a.eval { dst := some 23, op := Op.buildSlice 53 2 #[(0, (.tmp 20)), (1, (.tmp 22))], type := _, pos := _, after := _, guard := some (3, false) }).run Try.prog W = _
      simp only [execOp, List.map_toArray, List.map_cons, List.map_nil, e0, d20, d22]
      go_simp
    | 9, _, _, hdep =>
      have hv18 : a.tmps.getD 18 undef = .bool (lb == 0) := hdep 3 rfl
      refine ⟨fun hw => ?_, fun hw => ⟨Below.refl _ _, fun hg => absurd ((wanted_ofF (j := 3) (d := 18) rfl rfl hv18).symm.trans hw) (by rw [hg]; decide), hBW⟩⟩
      have hg : (lb == 0) = false := by have := (wanted_ofF (j := 3) (d := 18) rfl rfl hv18).symm.trans hw; simpa using this
      obtain ⟨bb, d23, hbb⟩ : ∃ bb : Nat, a.tmps.getD 23 undef = .slice (some ⟨bb, 0, none⟩) 2 2 ∧ Blk W bb #[.int .i64 (c.pieces), .int .i64 (o.draws)] 3 := hdep 8 rfl hg
      refine OpOk.call (f := 55) (args := #[.slice (some ⟨bb, 0, none⟩) 2 2]) (w1 := W) ?_ ((times_any bb (c.pieces) (o.draws) W (hbb.cell 0) (hbb.cell 1)).mono ?_)
      · show (execOp a.eval { dst := some 24, op := Op.call { callee := .value (.func 55), args := #[(.tmp 23)], argTypes := #[53] }, type := _, pos := _, after := _, guard := some (3, false) }).run Try.prog W = _
        have e55 : ∀ args w, (callFunc 55 args).run Try.prog w = .ok (.enter 55 args) w := enters_of Try.func55 (by kernel_rfl) rfl
        simp only [execOp, List.map_toArray, List.map_cons, List.map_nil, e0, d23]
        go_simp
      · rintro e w' ⟨rfl, rfl⟩
        exact ⟨_, rfl, Below.refl _ _, fun _ => rfl, hBW⟩
    | 10, _, _, hdep =>
      have hv18 : a.tmps.getD 18 undef = .bool (lb == 0) := hdep 3 rfl
      refine ⟨fun hw => ?_, fun hw => ⟨Below.refl _ _, fun hg => absurd ((wanted_ofF (j := 3) (d := 18) rfl rfl hv18).symm.trans hw) (by rw [hg]; decide), hBW⟩⟩
      have hg : (lb == 0) = false := by have := (wanted_ofF (j := 3) (d := 18) rfl rfl hv18).symm.trans hw; simpa using this
      refine OpOk.val (v := .pointer (some ⟨B8, 1, none⟩)) (w' := W) ?_ ⟨Below.refl _ _, fun _ => rfl, hBW⟩
      show (execOp a.eval { dst := some 25, op := Op.fieldAddr 84 (.tmp 3) 1, type := _, pos := _, after := _, guard := some (3, false) }).run Try.prog W = _
      simp only [execOp, List.map_toArray, List.map_cons, List.map_nil, e0, f3]
      go_simp
    | 11, _, _, hdep =>
      have hv18 : a.tmps.getD 18 undef = .bool (lb == 0) := hdep 3 rfl
      refine ⟨fun hw => ?_, fun hw => ⟨Below.refl _ _, fun hg => absurd ((wanted_ofF (j := 3) (d := 18) rfl rfl hv18).symm.trans hw) (by rw [hg]; decide), hBW⟩⟩
      have hg : (lb == 0) = false := by have := (wanted_ofF (j := 3) (d := 18) rfl rfl hv18).symm.trans hw; simpa using this
      have d25 : a.tmps.getD 25 undef = .pointer (some ⟨B8, 1, none⟩) := hdep 10 rfl hg
      refine OpOk.val (v := .int .i64 o.pieces) (w' := W) ?_ ⟨Below.refl _ _, fun _ => rfl, hBW⟩
      show (execOp a.eval { dst := some 26, op := Op.load 3 (.tmp 25), type := _, pos := _, after := _, guard := some (3, false) }).run Try.prog W = _
      simp only [execOp, List.map_toArray, List.map_cons, List.map_nil, e0, d25]
      go_simp
    | 12, _, _, hdep =>
      have hv18 : a.tmps.getD 18 undef = .bool (lb == 0) := hdep 3 rfl
      refine ⟨fun hw => ?_, fun hw => ⟨Below.refl _ _, fun hg => absurd ((wanted_ofF (j := 3) (d := 18) rfl rfl hv18).symm.trans hw) (by rw [hg]; decide), hBW⟩⟩
      have hg : (lb == 0) = false := by have := (wanted_ofF (j := 3) (d := 18) rfl rfl hv18).symm.trans hw; simpa using this
      refine OpOk.val (v := .pointer (some ⟨B5, 2, none⟩)) (w' := W) ?_ ⟨Below.refl _ _, fun _ => rfl, hBW⟩
      show (execOp a.eval { dst := some 27, op := Op.fieldAddr 84 (.tmp 5) 2, type := _, pos := _, after := _, guard := some (3, false) }).run Try.prog W = _
      simp only [execOp, List.map_toArray, List.map_cons, List.map_nil, e0, f5]
      go_simp
    | 13, _, _, hdep =>
      have hv18 : a.tmps.getD 18 undef = .bool (lb == 0) := hdep 3 rfl
      refine ⟨fun hw => ?_, fun hw => ⟨Below.refl _ _, fun hg => absurd ((wanted_ofF (j := 3) (d := 18) rfl rfl hv18).symm.trans hw) (by rw [hg]; decide), hBW⟩⟩
      have hg : (lb == 0) = false := by have := (wanted_ofF (j := 3) (d := 18) rfl rfl hv18).symm.trans hw; simpa using this
      have d27 : a.tmps.getD 27 undef = .pointer (some ⟨B5, 2, none⟩) := hdep 12 rfl hg
      refine OpOk.val (v := .int .i64 c.draws) (w' := W) ?_ ⟨Below.refl _ _, fun _ => rfl, hBW⟩
      show (execOp a.eval { dst := some 28, op := Op.load 3 (.tmp 27), type := _, pos := _, after := _, guard := some (3, false) }).run Try.prog W = _
      simp only [execOp, List.map_toArray, List.map_cons, List.map_nil, e0, d27]
      go_simp
    | 14, _, _, hdep =>
      have hv18 : a.tmps.getD 18 undef = .bool (lb == 0) := hdep 3 rfl
      refine ⟨fun hw => ?_, fun hw => ⟨Below.refl _ _, fun hg => absurd ((wanted_ofF (j := 3) (d := 18) rfl rfl hv18).symm.trans hw) (by rw [hg]; decide), hBW⟩⟩
      have hg : (lb == 0) = false := by have := (wanted_ofF (j := 3) (d := 18) rfl rfl hv18).symm.trans hw; simpa using this
      have d26 : a.tmps.getD 26 undef = .int .i64 o.pieces := hdep 11 rfl hg
      have d28 : a.tmps.getD 28 undef = .int .i64 c.draws := hdep 13 rfl hg
      have hal : Below W.heap.size W (W.alloc (.cells #[.int .i64 (o.pieces), .int .i64 (c.draws)] 3)) := (Below.refl _ _).alloc (Nat.le_refl _) _
      refine OpOk.val (v := .slice (some ⟨W.heap.size, 0, none⟩) 2 2) (w' := W.alloc (.cells #[.int .i64 (o.pieces), .int .i64 (c.draws)] 3)) ?_ ⟨hal, fun _ => ⟨W.heap.size, rfl, Blk.new _ _ _⟩, hBs hal⟩
      show (execOp a.eval { dst := some 29, op := Op.buildSlice 53 2 #[(0, (.tmp 26)), (1, (.tmp 28))], type := _, pos := _, after := _, guard := some (3, false) }).run Try.prog W = _
      simp only [execOp, List.map_toArray, List.map_cons, List.map_nil, e0, d26, d28]
      go_simp
    | 15, _, _, hdep =>
      have hv18 : a.tmps.getD 18 undef = .bool (lb == 0) := hdep 3 rfl
      refine ⟨fun hw => ?_, fun hw => ⟨Below.refl _ _, fun hg => absurd ((wanted_ofF (j := 3) (d := 18) rfl rfl hv18).symm.trans hw) (by rw [hg]; decide), hBW⟩⟩
      have hg : (lb == 0) = false := by have := (wanted_ofF (j := 3) (d := 18) rfl rfl hv18).symm.trans hw; simpa using this
      obtain ⟨bb, d29, hbb⟩ : ∃ bb : Nat, a.tmps.getD 29 undef = .slice (some ⟨bb, 0, none⟩) 2 2 ∧ Blk W bb #[.int .i64 (o.pieces), .int .i64 (c.draws)] 3 := hdep 14 rfl hg
      refine OpOk.call (f := 55) (args := #[.slice (some ⟨bb, 0, none⟩) 2 2]) (w1 := W) ?_ ((times_any bb (o.pieces) (c.draws) W (hbb.cell 0) (hbb.cell 1)).mono ?_)
      · show (execOp a.eval { dst := some 30, op := Op.call { callee := .value (.func 55), args := #[(.tmp 29)], argTypes := #[53] }, type := _, pos := _, after := _, guard := some (3, false) }).run Try.prog W = _
        have e55 : ∀ args w, (callFunc 55 args).run Try.prog w = .ok (.enter 55 args) w := enters_of Try.func55 (by kernel_rfl) rfl
        simp only [execOp, List.map_toArray, List.map_cons, List.map_nil, e0, d29]
        go_simp
      · rintro e w' ⟨rfl, rfl⟩
        exact ⟨_, rfl, Below.refl _ _, fun _ => rfl, hBW⟩
    | 16, _, _, hdep =>
      have hv18 : a.tmps.getD 18 undef = .bool (lb == 0) := hdep 3 rfl
      refine ⟨fun hw => ?_, fun hw => ⟨Below.refl _ _, fun hg => absurd ((wanted_ofF (j := 3) (d := 18) rfl rfl hv18).symm.trans hw) (by rw [hg]; decide), hBW⟩⟩
      have hg : (lb == 0) = false := by have := (wanted_ofF (j := 3) (d := 18) rfl rfl hv18).symm.trans hw; simpa using this
      have d24 : a.tmps.getD 24 undef = .int .i64 (wrap64 (c.pieces * o.draws)) := hdep 9 rfl hg
      have d30 : a.tmps.getD 30 undef = .int .i64 (wrap64 (o.pieces * c.draws)) := hdep 15 rfl hg
      refine OpOk.val (v := .bool (decide (wrap64 (c.pieces * o.draws) < wrap64 (o.pieces * c.draws)))) (w' := W) ?_ ⟨Below.refl _ _, fun _ => rfl, hBW⟩
      show (execOp a.eval { dst := some 31, op := Op.binOp BinOp.lss 3 (.tmp 24) (.tmp 30) 3, type := _, pos := _, after := _, guard := some (3, false) }).run Try.prog W = _
      simp only [execOp, List.map_toArray, List.map_cons, List.map_nil, e0, d24, d30]
      go_simp
      all_goals (first | rfl | exact Go.IntWalk.i64_left _)
    | kk + 17, h, _, _ => exact absurd h (by omega)
  case hlast =>
    intro a W e1 e2 hfix hBW hall
    have d18 : a.tmps.getD 18 undef = .bool (lb == 0) := hall (fun _ => True) (fun _ _ => trivial) 3 (by decide)
    have d31 : (lb == 0) = false → a.tmps.getD 31 undef = .bool (decide (wrap64 (c.pieces * o.draws) < wrap64 (o.pieces * c.draws))) := hall (fun _ => True) (fun _ _ => trivial) 16 (by decide)
    have e0 : ∀ x, a.eval (.tmp x) = a.tmps.getD x undef := fun _ => rfl
    refine OpOk.val (v := .bool (betB lb c o)) (w' := W) ?_ ?_
    · show (execOp a.eval { dst := some 32, op := Op.pick (.tmp 18) (.const (.bool true)) (.tmp 31), type := _, pos := _, after := _, guard := none }).run Try.prog W = _
      cases hgb : (lb == 0) with
      | true =>
        rw [hgb] at d18
        have hk : betB lb c o = true := by unfold betB; rw [hgb]; rfl
        rw [hk]
        simp only [execOp, List.map_toArray, List.map_cons, List.map_nil, e0, d18]
        go_simp
      | false =>
        rw [hgb] at d18
        have d31 := d31 hgb
        have hk : betB lb c o = decide (wrap64 (c.pieces * o.draws) < wrap64 (o.pieces * c.draws)) := by unfold betB; rw [hgb]; rfl
        rw [hk]
        simp only [execOp, List.map_toArray, List.map_cons, List.map_nil, e0, d18, d31]
        go_simp
    · have hz : a.tmps.size = 40 := e2.trans hsz
      refine hQ _ _ e1 ?_ ?_ ?_ (hBW (fun _ => True) (fun _ _ => trivial)).2.2.2
      · show (a.tmps.setIfInBounds 32 _).size = 40
        simp [hz]
      · show (a.tmps.setIfInBounds 32 _).getD 32 undef = _
        simp [hz]
      · intro s hs
        show (a.tmps.setIfInBounds 32 _).getD s undef = _
        rw [Array.getD_eq_getD_getElem?, Array.getElem?_setIfInBounds_ne (by omega), ← Array.getD_eq_getD_getElem?]
        exact hfix s (fun j _ => by omega)

end Go.Proofs.Ytigpnafpdmdmhaa.Hand

namespace Go.Proofs.Ytigpnafpdmdmhaa.Hand
open Go.RowKit Go.Shelf

/-- What an operation keeps of its value. -/
def kept3 (o : Oper) (v : Value) : Value := match o.dst with | some _ => v | none => undef
theorem kept3_undef (o : Oper) : kept3 o undef = undef := by unfold kept3; split <;> rfl
theorem getD_past {a : Array Value} {i : Nat} (h : a.size ≤ i) : a.getD i undef = undef := by
  rw [Array.getD_eq_getD_getElem?, Array.getElem?_eq_none h]; rfl

/-- The operations' own places, as a Bool; guards or not; an operation that keeps nothing has a place past the end. -/
def dstOk3 (ops : Array Oper) (N : Nat) (d : Nat → Nat) (sz : Nat) : Bool :=
  ((List.range N).all fun i => match ops[i]? with
    | some o => (match o.op with | .defer _ => false | _ => true) && ((o.dst == some (d i) && decide (d i < sz)) || (o.dst == none && decide (sz ≤ d i)))
    | none => false) && (List.range N).all fun i => (List.range i).all fun j => d i != d j

theorem dstOk3_spec {ops : Array Oper} {N : Nat} {d : Nat → Nat} {sz : Nat} (h : dstOk3 ops N d sz = true) :
    (∀ i, i < N → ∃ o, ops[i]? = some o ∧ (∀ c, o.op ≠ .defer c) ∧ ((o.dst = some (d i) ∧ d i < sz) ∨ (o.dst = none ∧ sz ≤ d i))) ∧ ∀ i j, i < N → j < N → d i = d j → i = j := by
  unfold dstOk3 at h
  rw [Bool.and_eq_true] at h
  obtain ⟨h1, h2⟩ := h
  refine ⟨fun i hi => ?_, fun i j hi hj e => ?_⟩
  · have := List.all_eq_true.1 h1 i (List.mem_range.2 hi)
    cases ho : ops[i]? with
    | none => simp [ho] at this
    | some o =>
      simp only [ho, Bool.and_eq_true, Bool.or_eq_true] at this
      obtain ⟨a2, a3⟩ := this
      refine ⟨o, rfl, fun c hc => by simp [hc] at a2, a3.imp (fun h => ⟨by simpa using h.1, by simpa using h.2⟩) fun h => ⟨by simpa using h.1, by simpa using h.2⟩⟩
  · rcases Nat.lt_trichotomy i j with hlt | rfl | hlt
    · have := List.all_eq_true.1 (List.all_eq_true.1 h2 j (List.mem_range.2 hj)) i (List.mem_range.2 hlt)
      simp [e] at this
    · rfl
    · have := List.all_eq_true.1 (List.all_eq_true.1 h2 i (List.mem_range.2 hi)) j (List.mem_range.2 hlt)
      simp [e] at this

/-- Each that binds waits for earlier ones alone. -/
def acyc3 (ops : Array Oper) : Bool := (List.range ops.size).all fun i => match ops[i]? with | some o => o.after.all fun e => !Region.binds .any e || decide (e.on < i) | none => true

theorem acyc_spec3 {ops : Array Oper} (h : acyc3 ops = true) {i : Nat} {o : Oper} (ho : ops[i]? = some o) {e : Edge} (he : e ∈ o.after) (hb : Region.binds .any e = true) : e.on < i := by
  have hi : i < ops.size := (Array.getElem?_eq_some_iff.1 ho).1
  have := List.all_eq_true.1 h i (List.mem_range.2 hi)
  simp only [ho] at this
  have h2 := Array.all_eq_true_iff_forall_mem.1 this e he
  simpa [hb] using h2

theorem ready_ne3 {ops : Array Oper} (h : acyc3 ops = true) {listed : Array Bool} (hs : listed.size = ops.size) (hr : Region.ready .any ops listed = []) : ∀ i, i < ops.size → listed.getD i false = true := by
  intro i
  induction i using Nat.strongRecOn with
  | _ i ih =>
    intro hi
    by_cases hv : listed.getD i false = true
    · exact hv
    · have hm : i ∈ Region.ready .any ops listed := by
        rw [mem_ready]
        refine ⟨?_, ops[i], by simp [hi], fun e he hb => ?_⟩
        · have hil : i < listed.size := by omega
          simp [hil] at hv ⊢
          exact hv
        · have hlt := acyc_spec3 h (i := i) (o := ops[i]) (by simp [hi]) he hb
          exact ih e.on hlt (by omega)
      rw [hr] at hm
      cases hm

/-- A region in whatever order, by an invariant over what has been carried out. -/
theorem wpAnyIn_inv3 {F : Fence} {n : Nat} {P : Program} {ops : Array Oper} {Q : Exit → Act → World → Prop} (hac : acyc3 ops = true) (Inv : Array Bool → Act → World → Prop)
    (hstep : ∀ (listed : Array Bool) (a : Act) (w : World) (i : Nat) (o : Oper), Inv listed a w → listed.size = ops.size → ops[i]? = some o → listed.getD i true = false →
      (∀ e ∈ o.after, Region.binds .any e = true → listed.getD e.on false = true) → wpOpIn F n P ops Q i (fun a' w' => Inv (listed.setIfInBounds i true) a' w') a w)
    (hend : ∀ (listed : Array Bool) (a : Act) (w : World), Inv listed a w → (∀ i, i < ops.size → listed.getD i false = true) → Q .normal a w) :
    ∀ (fuel : Nat) (listed : Array Bool) (a : Act) (w : World), Inv listed a w → listed.size = ops.size → left listed ≤ fuel → wpAnyIn F n P .any ops Q fuel listed a w := by
  intro fuel
  induction fuel with
  | zero =>
    intro listed a w hI hs hl
    have hz := left_zero (Nat.le_zero.1 hl)
    have hr : Region.ready .any ops listed = [] := by
      cases h : Region.ready .any ops listed with
      | nil => rfl
      | cons j js =>
        have : j ∈ Region.ready .any ops listed := by rw [h]; simp
        have := (mem_ready.1 this).1
        rw [hz j] at this
        cases this
    exact ⟨hr, hend listed a w hI (ready_ne3 hac hs hr)⟩
  | succ fuel ih =>
    intro listed a w hI hs hl
    refine ⟨fun hr => hend listed a w hI (ready_ne3 hac hs hr), fun i hi => ?_⟩
    obtain ⟨h0, o, ho, hall⟩ := mem_ready.1 hi
    refine wpOpIn_mono (fun a' w' h' => ih _ a' w' h' (by simp [hs]) ?_) (hstep listed a w i o hI hs ho h0 hall)
    have := left_set h0
    omega

/-- The operations before N stand ahead of N; those behind it come one behind the other. -/
def lastOk3 (ops : Array Oper) (N : Nat) : Bool := decide (N < ops.size) && acyc3 ops && ((List.range N).all fun j => (anc ops (N + 1) [N]).contains j) &&
  (List.range ops.size).all fun i => decide (i < N) || (match ops[i]? with
    | some o => o.guard.isNone && (match o.op with | .defer _ => false | _ => true) && (decide (i = N) || o.after.toList.any fun e => Region.binds .any e && e.on + 1 == i)
    | none => false)

/-- **As region_spec2, with operations that keep nothing (stores) among the free ones, with guards and with callees that write: a region that draws its order: the operations before N in whatever order, each told by what it leaves; then the others in the text's order.** -/
theorem region_spec3 {P : Program} {rd : Option Nat} {id : Nat} {ops : Array Oper} {Q : Exit → Act → World → Prop} {a0 : Act} {w0 : World} {N : Nat} (hm : P.follows .mixedOrders = true) (hl : lastOk3 ops N = true)
    (d : Nat → Nat) (hdst : ∀ i, i < N → ∃ o, ops[i]? = some o ∧ (∀ c, o.op ≠ .defer c) ∧ ((o.dst = some (d i) ∧ d i < a0.tmps.size) ∨ (o.dst = none ∧ a0.tmps.size ≤ d i))) (hinj : ∀ i j, i < N → j < N → d i = d j → i = j)
    (B : (Nat → Prop) → (Nat → Value) → World → Prop) (Rel : Nat → World → World → Prop) (Sp : (Nat → Prop) → Nat → Value → World → Prop)
    (hSp : ∀ (L : Nat → Prop) i j v w w', i < N → j < N → i ≠ j → ¬ L i → (∀ k ∈ anc ops (i + 1) [i], k = i ∨ L k) → (∀ k ∈ anc ops (j + 1) [j], k = j ∨ L k) → Rel i w w' → Sp L j v w → Sp (fun k => L k ∨ k = i) j v w')
    (hL : ∀ (L L' : Nat → Prop) j v w, (∀ k, k < N → L k → L' k) → Sp L j v w → Sp L' j v w)
    (hBc : ∀ (L L' : Nat → Prop) (f f' : Nat → Value) w, (∀ k, k < N → (L k ↔ L' k)) → (∀ k, k < N → f k = f' k) → B L f w → B L' f' w)
    (hB0 : B (fun _ => False) (fun j => a0.tmps.getD (d j) undef) w0.drew)
    (hop : ∀ (L : Nat → Prop) (i : Nat) (o : Oper) (a : Act) (w : World), i < N → ops[i]? = some o → a.tmps.size = a0.tmps.size → (∀ s, (∀ j, j < N → d j ≠ s) → a.tmps.getD s undef = a0.tmps.getD s undef) → B L (fun j => a.tmps.getD (d j) undef) w → ¬ L i → (∀ k ∈ anc ops (i + 1) [i], k = i ∨ L k) →
      (∀ j, j < N → (L j → Sp L j (a.tmps.getD (d j) undef) w)) → (∀ j, (o.after.toList.any fun e => Region.binds .any e && e.on == j) = true → Sp L j (a.tmps.getD (d j) undef) w) →
      (Region.wanted o (yielded ops a.tmps) = true → OpOk P o a w fun v w' => Rel i w w' ∧ Sp (fun k => L k ∨ k = i) i (kept3 o v) w' ∧ B (fun k => L k ∨ k = i) (fun j => if j = i then kept3 o v else a.tmps.getD (d j) undef) w') ∧ (Region.wanted o (yielded ops a.tmps) = false → Rel i w w ∧ Sp (fun k => L k ∨ k = i) i undef w ∧ B (fun k => L k ∨ k = i) (fun j => if j = i then undef else a.tmps.getD (d j) undef) w))
    (hlast : ∀ (a : Act) (w : World), a.defers = a0.defers → a.tmps.size = a0.tmps.size → (∀ s, (∀ j, j < N → d j ≠ s) → a.tmps.getD s undef = a0.tmps.getD s undef) → (∀ (L : Nat → Prop), (∀ j, j < N → L j) → B L (fun j => a.tmps.getD (d j) undef) w) → (∀ (L : Nat → Prop), (∀ j, j < N → L j) → ∀ j, j < N → Sp L j (a.tmps.getD (d j) undef) w) →
      tailRun P Q (ops.toList.drop N) a w) :
    (Code.region id ops true).wpIn { Fence.wide with round := rd } 0 P Q a0 w0 := by
  unfold lastOk3 at hl
  simp only [Bool.and_eq_true, decide_eq_true_eq] at hl
  obtain ⟨⟨⟨hsz, hac⟩, hanc0⟩, htl0⟩ := hl
  have hanc : ∀ j, j < N → j ∈ anc ops (N + 1) [N] := fun j hj => by simpa using List.all_eq_true.1 hanc0 j (List.mem_range.2 hj)
  have htl : ∀ i o, ops[i]? = some o → N ≤ i → o.guard = none ∧ (∀ c, o.op ≠ .defer c) ∧ (i = N ∨ ∃ e ∈ o.after, Region.binds .any e = true ∧ e.on + 1 = i) := fun i o ho hi => by
    have hlt := (Array.getElem?_eq_some_iff.1 ho).1
    have := List.all_eq_true.1 htl0 i (List.mem_range.2 hlt)
    simp only [ho, Bool.or_eq_true, decide_eq_true_eq, Bool.and_eq_true] at this
    obtain ⟨⟨a1, a2⟩, a3⟩ := this.resolve_left (by omega)
    refine ⟨by simpa using a1, fun c hc => by simp [hc] at a2, a3.imp (fun h => h) fun h => ?_⟩
    obtain ⟨e, he, hb⟩ := List.any_eq_true.1 h
    simp only [Bool.and_eq_true, beq_iff_eq] at hb
    exact ⟨e, by simpa using he, hb.1, hb.2⟩
  refine wpIn_region_any hm (wpAnyIn_inv3 hac
    (fun listed a w => (∃ k, N < k ∧ k ≤ ops.size ∧ (∀ j, j < k → listed.getD j false = true) ∧ (∀ j, k ≤ j → j < ops.size → listed.getD j true = false) ∧ tailRun P Q (ops.toList.drop k) a w) ∨
      ((∀ j, N ≤ j → j < ops.size → listed.getD j true = false) ∧ listed.size = ops.size ∧ (∀ i o, i ≠ N → ops[i]? = some o → listed.getD i false = true → ∀ e ∈ o.after, Region.binds .any e = true → listed.getD e.on false = true) ∧
      a.defers = a0.defers ∧ a.tmps.size = a0.tmps.size ∧ (∀ s, (∀ j, j < N → d j ≠ s) → a.tmps.getD s undef = a0.tmps.getD s undef) ∧ B (fun k => listed.getD k false = true) (fun j => a.tmps.getD (d j) undef) w ∧ ∀ j, j < N → listed.getD j false = true → Sp (fun k => listed.getD k false = true) j (a.tmps.getD (d j) undef) w)) ?_ ?_ ops.size _ a0 _ ?_ (by simp) ?_)
  · -- a step of the tail
    have tstep : ∀ (listed : Array Bool) (a : Act) (w : World) (k : Nat) (o : Oper), N ≤ k → ops[k]? = some o → listed.size = ops.size → (∀ j, j < k → listed.getD j false = true) → (∀ j, k ≤ j → j < ops.size → listed.getD j true = false) →
        tailRun P Q (ops.toList.drop k) a w → wpOpIn { Fence.wide with round := rd } 0 P ops Q k (fun a' w' => ∃ k', N < k' ∧ k' ≤ ops.size ∧ (∀ j, j < k' → (listed.setIfInBounds k true).getD j false = true) ∧ (∀ j, k' ≤ j → j < ops.size → (listed.setIfInBounds k true).getD j true = false) ∧ tailRun P Q (ops.toList.drop k') a' w') a w := by
      intro listed a w k o hk ho hs hlo hhi ht
      obtain ⟨hlt, hok⟩ := Array.getElem?_eq_some_iff.1 ho
      have hdr : ops.toList.drop k = o :: ops.toList.drop (k + 1) := by
        rw [List.drop_eq_getElem_cons (by simpa using hlt)]
        simp [hok]
      rw [hdr] at ht
      obtain ⟨g1, g2, _⟩ := htl k o ho hk
      refine OpOk.wpOpIn ho g1 g2 (OpOk.mono ht fun v w' h => ⟨k + 1, by omega, by omega, fun j hj => ?_, fun j hj hjs => ?_, h⟩)
      · by_cases e : j = k
        · subst e
          have : j < listed.size := by omega
          simp [this]
        · exact getD_set_true (hlo j (by omega))
      · rw [getD_set_ne true (by omega)]; exact hhi j (by omega) hjs
    rintro listed a w i o (⟨k, hk1, hk2, hlo, hhi, ht⟩ | ⟨hNl, hls, hcl, hdf, hts, hfix, hBw, hall⟩) hs ho hun hdeps
    · have hi : i < ops.size := (Array.getElem?_eq_some_iff.1 ho).1
      have hki : k ≤ i := by
        rcases Nat.lt_or_ge i k with h | h
        · have h1 := hlo i h
          have hil : i < listed.size := by omega
          simp [hil] at h1 hun
          rw [h1] at hun; cases hun
        · exact h
      have hik : i = k := by
        obtain ⟨_, _, h | ⟨e, he, hb, he1⟩⟩ := htl i o ho (by omega)
        · omega
        · rcases Nat.lt_or_ge k i with h | h
          · have h1 := hdeps e he hb
            have h2 := hhi e.on (by omega) (by omega)
            have hil : e.on < listed.size := by omega
            simp [hil] at h1 h2
            rw [h1] at h2; cases h2
          · omega
      subst hik
      exact wpOpIn_mono (fun a' w' h => .inl h) (tstep listed a w i o (by omega) ho hs hlo hhi ht)
    · have hi : i < ops.size := (Array.getElem?_eq_some_iff.1 ho).1
      rcases Nat.lt_or_ge i N with hiN' | hge
      · obtain ⟨o', ho', hdf', hdd⟩ := hdst i hiN'
        obtain rfl : o = o' := by rw [ho] at ho'; exact Option.some.inj ho'
        have hanc2 : ∀ k ∈ anc ops (i + 1) [i], k = i ∨ listed.getD k false = true :=
          anc_spec (N := i) (fun i' o' hne ho' hl' => by
            by_cases h : i' = N
            · subst h
              have h1 := hNl i' (Nat.le_refl _) hsz
              have hil : i' < listed.size := by omega
              simp [hil] at h1 hl'
              rw [h1] at hl'; cases hl'
            · exact hcl i' o' h ho' hl') (fun o' ho' => by obtain rfl : o = o' := Option.some.inj (ho.symm.trans ho'); exact hdeps) (i + 1) [i] (fun k hk => .inl (by simpa using hk))
        have hanc3 : ∀ j, j < N → listed.getD j false = true → ∀ k ∈ anc ops (j + 1) [j], k = j ∨ listed.getD k false = true := fun j hjN hjl =>
          anc_spec (N := j) (fun i' o' hne ho' hl' => by
            by_cases h : i' = N
            · subst h
              have h1 := hNl i' (Nat.le_refl _) hsz
              have hil : i' < listed.size := by omega
              simp [hil] at h1 hl'
              rw [h1] at hl'; cases hl'
            · exact hcl i' o' h ho' hl') (fun o' ho' => hcl j o' (by omega) ho' hjl) (j + 1) [j] (fun k hk => .inl (by simpa using hk))
        have hnl : ¬ listed.getD i false = true := by
          have hil : i < listed.size := by omega
          simp [hil] at hun ⊢
          exact hun
        have fin : ∀ (v : Value) (w' : World), Rel i w w' ∧ Sp (fun k => listed.getD k false = true ∨ k = i) i (kept3 o v) w' ∧ B (fun k => listed.getD k false = true ∨ k = i) (fun j => if j = i then kept3 o v else a.tmps.getD (d j) undef) w' → (∀ j, N ≤ j → j < ops.size → (listed.setIfInBounds i true).getD j true = false) ∧ (listed.setIfInBounds i true).size = ops.size ∧ (∀ i' o, i' ≠ N → ops[i']? = some o → (listed.setIfInBounds i true).getD i' false = true → ∀ e ∈ o.after, Region.binds .any e = true → (listed.setIfInBounds i true).getD e.on false = true) ∧
            (a.put o.dst v).defers = a0.defers ∧ (a.put o.dst v).tmps.size = a0.tmps.size ∧ (∀ s, (∀ j, j < N → d j ≠ s) → (a.put o.dst v).tmps.getD s undef = a0.tmps.getD s undef) ∧ B (fun k => (listed.setIfInBounds i true).getD k false = true) (fun j => (a.put o.dst v).tmps.getD (d j) undef) w' ∧ ∀ j, j < N → (listed.setIfInBounds i true).getD j false = true → Sp (fun k => (listed.setIfInBounds i true).getD k false = true) j ((a.put o.dst v).tmps.getD (d j) undef) w' := by
          rintro v w' ⟨hbw, hsp, hBn⟩
          have hil : i < listed.size := by omega
          have hLL : ∀ k, k < N → (listed.getD k false = true ∨ k = i) → (listed.setIfInBounds i true).getD k false = true := fun k _ hk => by
            rcases hk with hk | rfl
            · exact getD_set_true hk
            · simp [hil]
          rcases hdd with ⟨hds, hdlt⟩ | ⟨hds, hdlt⟩
          · have hk3 : kept3 o v = v := by unfold kept3; rw [hds]
            rw [hk3] at hsp hBn
            refine ⟨?_, by simp [hls], ?_, ?_, ?_, ?_, ?_, ?_⟩
            · intro j hj hjs
              rw [getD_set_ne true (by omega)]; exact hNl j hj hjs
            · intro j oj hjN hoj hjl e he hb
              by_cases hji : i = j
              · subst hji
                obtain rfl : o = oj := by rw [ho] at hoj; exact Option.some.inj hoj
                exact getD_set_true (hdeps e he hb)
              · rw [getD_set_ne false hji] at hjl
                exact getD_set_true (hcl j oj hjN hoj hjl e he hb)
            · rw [hds]; exact hdf
            · rw [hds]; simp [Act.put, hts]
            · intro s hns
              rw [hds]
              have hne : d i ≠ s := hns i hiN'
              simp only [Act.put]
              rw [← hfix s hns]
              simp [Array.getElem?_setIfInBounds_ne hne]
            · refine hBc _ _ _ _ w' (fun k hk => ⟨hLL k hk, fun h => ?_⟩) (fun k hk => ?_) hBn
              · by_cases hki : i = k
                · exact .inr hki.symm
                · rw [getD_set_ne false hki] at h; exact .inl h
              · rw [hds]
                by_cases hki : k = i
                · subst hki
                  have : d k < a.tmps.size := by omega
                  simp [Act.put, this]
                · have hne : d i ≠ d k := fun e => hki (hinj i k hiN' hk e).symm
                  rw [if_neg hki]
                  simp [Act.put, Array.getElem?_setIfInBounds_ne hne]
            · intro j hj hjl
              rw [hds]
              by_cases hji : i = j
              · subst hji
                simp only [Act.put]
                have : d i < a.tmps.size := by omega
                have h2 := hL _ _ i v w' hLL hsp
                simpa [this] using h2
              · rw [getD_set_ne false hji] at hjl
                have hne : d i ≠ d j := fun e => hji (hinj i j hiN' hj e)
                have h2 := hL _ _ j _ w' hLL (hSp (fun k => listed.getD k false = true) i j _ w w' hiN' hj hji hnl hanc2 (hanc3 j hj hjl) hbw (hall j hj hjl))
                simpa [Act.put, Array.getElem?_setIfInBounds_ne hne] using h2
          · have hk3 : kept3 o v = undef := by unfold kept3; rw [hds]
            rw [hk3] at hsp hBn
            refine ⟨?_, by simp [hls], ?_, ?_, ?_, ?_, ?_, ?_⟩
            · intro j hj hjs
              rw [getD_set_ne true (by omega)]; exact hNl j hj hjs
            · intro j oj hjN hoj hjl e he hb
              by_cases hji : i = j
              · subst hji
                obtain rfl : o = oj := by rw [ho] at hoj; exact Option.some.inj hoj
                exact getD_set_true (hdeps e he hb)
              · rw [getD_set_ne false hji] at hjl
                exact getD_set_true (hcl j oj hjN hoj hjl e he hb)
            · rw [hds]; exact hdf
            · rw [hds]; exact hts
            · intro s hns
              rw [hds]
              exact hfix s hns
            · refine hBc _ _ _ _ w' (fun k hk => ⟨hLL k hk, fun h => ?_⟩) (fun k hk => ?_) hBn
              · by_cases hki : i = k
                · exact .inr hki.symm
                · rw [getD_set_ne false hki] at h; exact .inl h
              · rw [hds]
                by_cases hki : k = i
                · subst hki
                  rw [if_pos rfl]
                  exact (getD_past (show a.tmps.size ≤ _ by omega)).symm
                · rw [if_neg hki]
                  rfl
            · intro j hj hjl
              rw [hds]
              by_cases hji : i = j
              · subst hji
                have h2 := hL _ _ i undef w' hLL hsp
                have e2 : a.tmps.getD (d i) undef = undef := getD_past (by omega)
                show Sp _ i (a.tmps.getD (d i) undef) w'
                rw [e2]; exact h2
              · rw [getD_set_ne false hji] at hjl
                exact hL _ _ j _ w' hLL (hSp (fun k => listed.getD k false = true) i j _ w w' hiN' hj hji hnl hanc2 (hanc3 j hj hjl) hbw (hall j hj hjl))
        obtain ⟨hw1, hw0⟩ := hop (fun k => listed.getD k false = true) i o a w hiN' ho hts hfix hBw hnl hanc2 hall (fun j hj => by
          obtain ⟨e, he, hb⟩ := List.any_eq_true.1 hj
          simp only [Bool.and_eq_true, beq_iff_eq] at hb
          obtain ⟨hb1, rfl⟩ := hb
          have he' : e ∈ o.after := by simpa using he
          have hlt := acyc_spec3 hac ho he' hb1
          exact hall e.on (by omega) (hdeps e he' hb1))
        cases hwt : Region.wanted o (yielded ops a.tmps) with
        | true => exact OpOk.wpOpIn' ho hwt hdf' ((hw1 hwt).mono fun v w' h => .inr (fin v w' h))
        | false => exact wpOpIn_skip ho hwt (.inr (fin undef w (by rw [kept3_undef]; exact hw0 hwt)))
      · have hiN : i = N := by
          obtain ⟨_, _, h | ⟨e, he, hb, he1⟩⟩ := htl i o ho hge
          · exact h
          · rcases Nat.lt_or_ge N i with h | h
            · have h1 := hdeps e he hb
              have h2 := hNl e.on (by omega) (by omega)
              have hil : e.on < listed.size := by omega
              simp [hil] at h1 h2
              rw [h1] at h2; cases h2
            · omega
        subst hiN
        have hallL : ∀ j, j < i → listed.getD j false = true := fun j hj => by
          rcases anc_spec hcl (fun o' ho' e he hb => by obtain rfl : o = o' := Option.some.inj (ho.symm.trans ho'); exact hdeps e he hb) (i + 1) [i] (fun k hk => .inl (by simpa using hk)) j (hanc j hj) with h | h
          · omega
          · exact h
        exact wpOpIn_mono (fun a' w' h => .inl h) (tstep listed a w i o (by omega) ho hs hallL hNl (hlast a w hdf hts hfix (fun L hLn => hBc _ L _ _ w (fun k hk => ⟨fun _ => hLn k hk, fun _ => hallL k hk⟩) (fun _ _ => rfl) hBw) (fun L hLn j hj => hL _ L j _ w (fun k hk _ => hLn k hk) (hall j hj (hallL j hj)))))
  · rintro listed a w (⟨k, hk1, hk2, hlo, hhi, ht⟩ | ⟨hNl, _⟩) hall
    · have hk : k = ops.size := by
        rcases Nat.lt_or_ge k ops.size with h | h
        · have h1 := hall k h
          have h2 := hhi k (Nat.le_refl _) h
          by_cases hkl : k < listed.size
          · simp [hkl] at h1 h2
            rw [h1] at h2; cases h2
          · simp [hkl] at h1
        · omega
      subst hk
      rw [List.drop_of_length_le (by simp)] at ht
      exact ht
    · have h1 := hall N hsz
      have h2 := hNl N (Nat.le_refl _) hsz
      by_cases hkl : N < listed.size
      · simp [hkl] at h1 h2
        rw [h1] at h2; cases h2
      · simp [hkl] at h1
  · refine .inr ⟨fun j _ hj => by simp [hj], by simp, fun i o _ _ h => ?_, rfl, rfl, fun _ _ => rfl, hBc _ _ _ _ _ (fun k _ => ⟨fun h => h.elim, fun h => ?_⟩) (fun _ _ => rfl) hB0, fun j _ h => ?_⟩
    · simp [Array.getElem?_replicate] at h; split at h <;> simp at h
    · simp [Array.getElem?_replicate] at h; split at h <;> simp at h
    · simp [Array.getElem?_replicate] at h; split at h <;> simp at h
  · unfold left
    exact Nat.le_trans List.countP_le_length (by simp)

/-- As 'region_spec3', the places checked at once; each operation by its number. -/
theorem region_walk3 {P : Program} {rd : Option Nat} {id : Nat} {ops : Array Oper} {Q : Exit → Act → World → Prop} {a0 : Act} {w0 : World} (N : Nat) (d : Nat → Nat) (hm : P.follows .mixedOrders = true) (hl : lastOk3 ops N = true)
    (hd : dstOk3 ops N d a0.tmps.size = true)
    (B : (Nat → Prop) → (Nat → Value) → World → Prop) (Rel : Nat → World → World → Prop) (Sp : (Nat → Prop) → Nat → Value → World → Prop)
    (hSp : ∀ (L : Nat → Prop) i j v w w', i < N → j < N → i ≠ j → ¬ L i → (∀ k ∈ anc ops (i + 1) [i], k = i ∨ L k) → (∀ k ∈ anc ops (j + 1) [j], k = j ∨ L k) → Rel i w w' → Sp L j v w → Sp (fun k => L k ∨ k = i) j v w')
    (hL : ∀ (L L' : Nat → Prop) j v w, (∀ k, k < N → L k → L' k) → Sp L j v w → Sp L' j v w)
    (hBc : ∀ (L L' : Nat → Prop) (f f' : Nat → Value) w, (∀ k, k < N → (L k ↔ L' k)) → (∀ k, k < N → f k = f' k) → B L f w → B L' f' w)
    (hB0 : B (fun _ => False) (fun j => a0.tmps.getD (d j) undef) w0.drew)
    (hop : ∀ (L : Nat → Prop) (i : Nat) (a : Act) (w : World) (hi : i < ops.size), i < N → a.tmps.size = a0.tmps.size → (∀ s, (∀ j, j < N → d j ≠ s) → a.tmps.getD s undef = a0.tmps.getD s undef) → B L (fun j => a.tmps.getD (d j) undef) w → ¬ L i → (∀ k ∈ anc ops (i + 1) [i], k = i ∨ L k) →
      (∀ j, j < N → (L j → Sp L j (a.tmps.getD (d j) undef) w)) → (∀ j, (ops[i].after.toList.any fun e => Region.binds .any e && e.on == j) = true → Sp L j (a.tmps.getD (d j) undef) w) →
      (Region.wanted ops[i] (yielded ops a.tmps) = true → OpOk P ops[i] a w fun v w' => Rel i w w' ∧ Sp (fun k => L k ∨ k = i) i (kept3 ops[i] v) w' ∧ B (fun k => L k ∨ k = i) (fun j => if j = i then kept3 ops[i] v else a.tmps.getD (d j) undef) w') ∧ (Region.wanted ops[i] (yielded ops a.tmps) = false → Rel i w w ∧ Sp (fun k => L k ∨ k = i) i undef w ∧ B (fun k => L k ∨ k = i) (fun j => if j = i then undef else a.tmps.getD (d j) undef) w))
    (hlast : ∀ (a : Act) (w : World), a.defers = a0.defers → a.tmps.size = a0.tmps.size → (∀ s, (∀ j, j < N → d j ≠ s) → a.tmps.getD s undef = a0.tmps.getD s undef) → (∀ (L : Nat → Prop), (∀ j, j < N → L j) → B L (fun j => a.tmps.getD (d j) undef) w) → (∀ (L : Nat → Prop), (∀ j, j < N → L j) → ∀ j, j < N → Sp L j (a.tmps.getD (d j) undef) w) →
      tailRun P Q (ops.toList.drop N) a w) :
    (Code.region id ops true).wpIn { Fence.wide with round := rd } 0 P Q a0 w0 := by
  obtain ⟨h1, h2⟩ := dstOk3_spec hd
  refine region_spec3 hm hl d h1 h2 B Rel Sp hSp hL hBc hB0 ?_ hlast
  intro L i o a w hi ho hts hfix hBw hnl hanc hall hdep
  obtain ⟨his, rfl⟩ := Array.getElem?_eq_some_iff.1 ho
  exact hop L i a w his hi hts hfix hBw hnl hanc hall hdep

end Go.Proofs.Ytigpnafpdmdmhaa.Hand

namespace Go.Proofs.Ytigpnafpdmdmhaa.Hand
open Go.RowKit Go.Shelf

/-- A clone of two stages, past n. -/
def Cl (n : Nat) (p q : Stg) (W : World) (g cap : Nat) (cur : Array Value) : Prop := n ≤ g ∧ (2 ≤ cap ∧ cap ≤ maxLen) ∧ cur.size = cap * 3 ∧ Blk W g cur 61 ∧ cur.toList.take 6 = two6 p q

set_option maxHeartbeats 8000000 in
set_option maxRecDepth 10000 in
theorem write_region (B4 B5 B7 B8 b n : Nat) (p q : Stg) (c : Cnt) (lot : Int) (x7 y7 x8 y8 z8 : Value) (a0 : Act) (w w0 : World) (Q : Exit → Act → World → Prop) (hsz : a0.tmps.size = 40)
    (f2 : a0.tmps.getD 2 undef = .pointer (some ⟨B7, 0, none⟩)) (f3 : a0.tmps.getD 3 undef = .pointer (some ⟨B8, 0, none⟩)) (f4 : a0.tmps.getD 4 undef = .pointer (some ⟨B4, 0, none⟩)) (f5 : a0.tmps.getD 5 undef = .pointer (some ⟨B5, 0, none⟩))
    (h4 : Blk w0 B4 #[.int .i64 lot, .slice (some ⟨b, 0, none⟩) 2 2] 31) (hb : Blk w0 b (two6 p q).toArray 61) (h5 : Blk w0 B5 c.cells 84) (h7 : Blk w0 B7 #[x7, y7] 31) (h8 : Blk w0 B8 #[x8, y8, z8] 84)
    (n7 : n ≤ B7) (n8 : n ≤ B8) (hne : B7 ≠ B8) (ne4 : B4 ≠ B7) (ne5 : B5 ≠ B7) (neb : b ≠ B7) (hbel : Below n w w0)
    (hQ : ∀ (a : Act) (W : World) (g cap : Nat) (cur : Array Value), a.defers = a0.defers → a.tmps.size = 40 → (∀ s, s < 33 → a.tmps.getD s undef = a0.tmps.getD s undef) →
      Blk W B7 #[.int .i64 lot, .slice (some ⟨g, 0, none⟩) 2 cap] 31 → Cl w0.heap.size p q W g cap cur → Blk W B8 c.cells 84 → (∀ b' cs ty, b' ≠ B7 → b' ≠ B8 → Blk w0 b' cs ty → Blk W b' cs ty) → Below n w W → w0.heap.size ≤ W.heap.size → Q .normal a W) :
    (Code.region 4 (opsOf Try.f52 4) true).wpIn Fence.wide 0 Try.prog Q a0 w0 := by
  have l7 := h7.lt
  have l8 := h8.lt
  refine region_walk3 (rd := none) 8 (fun i => i + 33) (by kernel_rfl) (by kernel_rfl) (by rw [hsz]; kernel_rfl)
    (fun L _ W => (¬ L 7 → Blk W B7 #[x7, y7] 31) ∧ (∀ b' cs ty, b' ≠ B7 → Blk w0 b' cs ty → Blk W b' cs ty) ∧ w0.heap.size ≤ W.heap.size ∧ Below n w W)
    (fun i W W' => ∀ b' cs ty, (i = 7 → b' ≠ B7) → Blk W b' cs ty → Blk W' b' cs ty)
    (fun _ i v W => match i with
      | 0 => v = .pointer (some ⟨B4, 0, none⟩)
      | 1 => v = .int .i64 lot
      | 2 => v = .pointer (some ⟨B4, 1, none⟩)
      | 3 => v = .slice (some ⟨b, 0, none⟩) 2 2
      | 4 => ∃ g cap cur, v = .slice (some ⟨g, 0, none⟩) 2 cap ∧ Cl w0.heap.size p q W g cap cur
      | 5 => ∃ g cap cur, v = .agg #[.int .i64 lot, .slice (some ⟨g, 0, none⟩) 2 cap] ∧ Cl w0.heap.size p q W g cap cur
      | 6 => v = c.enc
      | _ => ∃ g cap cur, Blk W B7 #[.int .i64 lot, .slice (some ⟨g, 0, none⟩) 2 cap] 31 ∧ Cl w0.heap.size p q W g cap cur)
    ?hSp ?hL ?hBc ⟨fun _ => h7.drew, fun b' cs ty _ h => h.drew, Nat.le_refl _, hbel.drew⟩ ?hop ?hlast
  case hSp =>
    intro L j i v W W' hj8 hi hji _ _ _ hb h
    have hc : ∀ g cap cur, Cl w0.heap.size p q W g cap cur → Cl w0.heap.size p q W' g cap cur := fun g cap cur ⟨h1, h2, h3, h4, h5⟩ => ⟨h1, h2, h3, hb _ _ _ (fun _ => by omega) h4, h5⟩
    match i, hi, h with
    | 0, _, h => exact h
    | 1, _, h => exact h
    | 2, _, h => exact h
    | 3, _, h => exact h
    | 4, _, ⟨g, cap, cur, e, h⟩ => exact ⟨g, cap, cur, e, hc _ _ _ h⟩
    | 5, _, ⟨g, cap, cur, e, h⟩ => exact ⟨g, cap, cur, e, hc _ _ _ h⟩
    | 6, _, h => exact h
    | 7, _, ⟨g, cap, cur, e, h⟩ => exact ⟨g, cap, cur, hb _ _ _ (fun e => absurd e hji) e, hc _ _ _ h⟩
    | k + 8, hk, _ => exact absurd hk (by omega)
  case hL =>
    intro L L' j v W _ h
    exact h
  case hBc =>
    intro L L' f f' W hLL _ ⟨h1, h2⟩
    exact ⟨fun h => h1 (fun h' => h ((hLL 7 (by omega)).1 h')), h2⟩
  case hop =>
    intro L i a W hi hN _ hfix hBW hnl _ hall hdep
    have f2 : a.tmps.getD 2 undef = .pointer (some ⟨B7, 0, none⟩) := (hfix 2 (fun j _ => by omega)).trans f2
    have f3 : a.tmps.getD 3 undef = .pointer (some ⟨B8, 0, none⟩) := (hfix 3 (fun j _ => by omega)).trans f3
    have f4 : a.tmps.getD 4 undef = .pointer (some ⟨B4, 0, none⟩) := (hfix 4 (fun j _ => by omega)).trans f4
    have f5 : a.tmps.getD 5 undef = .pointer (some ⟨B5, 0, none⟩) := (hfix 5 (fun j _ => by omega)).trans f5
    have e0 : ∀ x, a.eval (.tmp x) = a.tmps.getD x undef := fun _ => rfl
    obtain ⟨hB7, hfr, hzz, hbl⟩ := hBW
    have k4 := hfr _ _ _ ne4 h4
    have k5 := hfr _ _ _ ne5 h5
    have kb := hfr _ _ _ neb hb
    have g0 : W.cell? ⟨B4, 0, none⟩ = some (.int .i64 lot) := k4.cell 0
    have g1 : W.cell? ⟨B4, 1, none⟩ = some (.slice (some ⟨b, 0, none⟩) 2 2) := k4.cell 1
    have g2 : W.cell? ⟨B5, 0, none⟩ = some (.int .i64 c.accepts) := k5.cell 0
    have g3 : W.cell? ⟨B5, 1, none⟩ = some (.int .i64 c.pieces) := k5.cell 1
    have g4 : W.cell? ⟨B5, 2, none⟩ = some (.int .i64 c.draws) := k5.cell 2
    have hBs : ∀ {i : Nat} {W' : World}, i ≠ 7 → Below W.heap.size W W' → (fun (L : Nat → Prop) (_ : Nat → Value) (W : World) => (¬ L 7 → Blk W B7 #[x7, y7] 31) ∧ (∀ b' cs ty, b' ≠ B7 → Blk w0 b' cs ty → Blk W b' cs ty) ∧ w0.heap.size ≤ W.heap.size ∧ Below n w W) (fun k => L k ∨ k = i) (fun _ => undef) W' := fun hi7 hb => ⟨fun h => (hB7 (fun h7 => h (.inl h7))).below hb (by omega), fun b' cs ty hne h => (hfr b' cs ty hne h).below hb (hfr b' cs ty hne h).lt, Nat.le_trans hzz hb.size, hbl.trans (hb.mono (Nat.le_trans (by omega) hzz))⟩
    have hRl : ∀ {i : Nat} {W' : World}, Below W.heap.size W W' → ∀ b' cs ty, (i = 7 → b' ≠ B7) → Blk W b' cs ty → Blk W' b' cs ty := fun hb b' cs ty _ h => h.below hb h.lt
    have hr := Below.refl W.heap.size W
    clear hQ
    match i, hN, hi, hdep with
    | 0, _, _, hdep =>
      refine ⟨fun _ => ?_, fun h => absurd (show true = false from h) (by decide)⟩
      refine OpOk.val (v := .pointer (some ⟨B4, 0, none⟩)) (w' := W) ?_ ⟨hRl hr, rfl, hBs (by decide) hr⟩
      show (execOp a.eval { dst := some 33, op := Op.fieldAddr 31 (.tmp 4) 0, type := _, pos := _, after := _, guard := none }).run Try.prog W = _
      simp only [execOp, List.map_toArray, List.map_cons, List.map_nil, e0, f4]
      go_simp
    | 1, _, _, hdep =>
      refine ⟨fun _ => ?_, fun h => absurd (show true = false from h) (by decide)⟩
      have d33 : a.tmps.getD 33 undef = .pointer (some ⟨B4, 0, none⟩) := hdep 0 rfl
      refine OpOk.val (v := .int .i64 lot) (w' := W) ?_ ⟨hRl hr, rfl, hBs (by decide) hr⟩
      show (execOp a.eval { dst := some 34, op := Op.load 3 (.tmp 33), type := _, pos := _, after := _, guard := none }).run Try.prog W = _
      simp only [execOp, List.map_toArray, List.map_cons, List.map_nil, e0, d33]
      go_simp
    | 2, _, _, hdep =>
      refine ⟨fun _ => ?_, fun h => absurd (show true = false from h) (by decide)⟩
      refine OpOk.val (v := .pointer (some ⟨B4, 1, none⟩)) (w' := W) ?_ ⟨hRl hr, rfl, hBs (by decide) hr⟩
      show (execOp a.eval { dst := some 35, op := Op.fieldAddr 31 (.tmp 4) 1, type := _, pos := _, after := _, guard := none }).run Try.prog W = _
      simp only [execOp, List.map_toArray, List.map_cons, List.map_nil, e0, f4]
      go_simp
    | 3, _, _, hdep =>
      refine ⟨fun _ => ?_, fun h => absurd (show true = false from h) (by decide)⟩
      have d35 : a.tmps.getD 35 undef = .pointer (some ⟨B4, 1, none⟩) := hdep 2 rfl
      refine OpOk.val (v := .slice (some ⟨b, 0, none⟩) 2 2) (w' := W) ?_ ⟨hRl hr, rfl, hBs (by decide) hr⟩
      show (execOp a.eval { dst := some 36, op := Op.load 29 (.tmp 35), type := _, pos := _, after := _, guard := none }).run Try.prog W = _
      simp only [execOp, List.map_toArray, List.map_cons, List.map_nil, e0, d35]
      go_simp
    | 4, _, _, hdep =>
      refine ⟨fun _ => ?_, fun h => absurd (show true = false from h) (by decide)⟩
      have d36 : a.tmps.getD 36 undef = .slice (some ⟨b, 0, none⟩) 2 2 := hdep 3 rfl
      refine OpOk.call (f := 56) (args := #[.slice (some ⟨b, 0, none⟩) 2 2]) (w1 := W) ?_ ((clone_any p q b 2 W kb).mono ?_)
      · show (execOp a.eval { dst := some 37, op := Op.call { callee := .value (.func 56), args := #[(.tmp 36)], argTypes := #[29] }, type := _, pos := _, after := _, guard := none }).run Try.prog W = _
        have e56 : ∀ args w, (callFunc 56 args).run Try.prog w = .ok (.enter 56 args) w := enters_of Try.func56 (by kernel_rfl) rfl
        simp only [execOp, List.map_toArray, List.map_cons, List.map_nil, e0, d36]
        go_simp
      · rintro e W' ⟨g, cap, cur, rfl, h1, h2, h3, h4, h5, h6⟩
        exact ⟨_, rfl, hRl h6, ⟨g, cap, cur, rfl, Nat.le_trans hzz h1, h2, h3, h4, h5⟩, hBs (by decide) h6⟩
    | 5, _, _, hdep =>
      refine ⟨fun _ => ?_, fun h => absurd (show true = false from h) (by decide)⟩
      have d34 : a.tmps.getD 34 undef = .int .i64 lot := hdep 1 rfl
      obtain ⟨g, cap, cur, d37, hcl⟩ : ∃ g cap cur, a.tmps.getD 37 undef = .slice (some ⟨g, 0, none⟩) 2 cap ∧ Cl w0.heap.size p q W g cap cur := hdep 4 rfl
      refine OpOk.val (v := .agg #[.int .i64 lot, .slice (some ⟨g, 0, none⟩) 2 cap]) (w' := W) ?_ ⟨hRl hr, ⟨g, cap, cur, rfl, hcl⟩, hBs (by decide) hr⟩
      show (execOp a.eval { dst := some 38, op := Op.build 31 #[(0, (.tmp 34)), (1, (.tmp 37))], type := _, pos := _, after := _, guard := none }).run Try.prog W = _
      simp only [execOp, List.map_toArray, List.map_cons, List.map_nil, e0, d34, d37]
      go_simp
    | 6, _, _, hdep =>
      refine ⟨fun _ => ?_, fun h => absurd (show true = false from h) (by decide)⟩
      refine OpOk.val (v := c.enc) (w' := W) ?_ ⟨hRl hr, rfl, hBs (by decide) hr⟩
      show (execOp a.eval { dst := some 39, op := Op.load 84 (.tmp 5), type := _, pos := _, after := _, guard := none }).run Try.prog W = _
      simp only [execOp, List.map_toArray, List.map_cons, List.map_nil, e0, f5, Cnt.enc]
      go_simp
    | 7, _, _, hdep =>
      refine ⟨fun _ => ?_, fun h => absurd (show true = false from h) (by decide)⟩
      obtain ⟨g, cap, cur, d38, hcl⟩ : ∃ g cap cur, a.tmps.getD 38 undef = .agg #[.int .i64 lot, .slice (some ⟨g, 0, none⟩) 2 cap] ∧ Cl w0.heap.size p q W g cap cur := hdep 5 rfl
      have k7 := hB7 hnl
      have q0 : W.cell? ⟨B7, 0, none⟩ = some x7 := k7.cell 0
      have q1 : W.cell? ⟨B7, 1, none⟩ = some y7 := k7.cell 1
      have z0 : W.frozen? ⟨B7, 0, none⟩ = false := k7.frozen 0
      have z1 : W.frozen? ⟨B7, 1, none⟩ = false := k7.frozen 1
      have hfr' : ∀ b' cs ty, b' ≠ B7 → Blk W b' cs ty → Blk ((W.setCell ⟨B7, 0, none⟩ (.int .i64 lot)).setCell ⟨B7, 1, none⟩ (.slice (some ⟨g, 0, none⟩) 2 cap)) b' cs ty := fun b' cs ty hne h => (h.other hne _).other hne _
      refine OpOk.skip (w' := (W.setCell ⟨B7, 0, none⟩ (.int .i64 lot)).setCell ⟨B7, 1, none⟩ (.slice (some ⟨g, 0, none⟩) 2 cap)) ?_ ⟨fun b' cs ty hne h => hfr' b' cs ty (hne rfl) h, ⟨g, cap, cur, (k7.set 0 _).set 1 _, hcl.1, hcl.2.1, hcl.2.2.1, hfr' _ _ _ (by have := hcl.1; omega) hcl.2.2.2.1, hcl.2.2.2.2⟩, fun h => absurd (.inr rfl) h, fun b' cs ty hne h => hfr' _ _ _ hne (hfr b' cs ty hne h), by simpa [World.setCell] using hzz, below_set (below_set hbl n7) n7⟩
      show (execOp a.eval { dst := none, op := Op.store 31 (.tmp 2) (.tmp 38), type := _, pos := _, after := _, guard := none }).run Try.prog W = _
      simp only [execOp, List.map_toArray, List.map_cons, List.map_nil, e0, f2, d38]
      go_simp
    | kk + 8, h, _, _ => exact absurd h (by omega)
  case hlast =>
    intro a W e1 e2 hfix hBW hall
    obtain ⟨_, hfr, hzz, hbl⟩ := hBW (fun _ => True) (fun _ _ => trivial)
    have d39 : a.tmps.getD 39 undef = c.enc := hall (fun _ => True) (fun _ _ => trivial) 6 (by decide)
    obtain ⟨g, cap, cur, k7, hcl⟩ : ∃ g cap cur, Blk W B7 #[.int .i64 lot, .slice (some ⟨g, 0, none⟩) 2 cap] 31 ∧ Cl w0.heap.size p q W g cap cur := hall (fun _ => True) (fun _ _ => trivial) 7 (by decide)
    have f3 : a.tmps.getD 3 undef = .pointer (some ⟨B8, 0, none⟩) := (hfix 3 (fun j _ => by omega)).trans f3
    have e0 : ∀ x, a.eval (.tmp x) = a.tmps.getD x undef := fun _ => rfl
    have k8 := hfr _ _ _ (Ne.symm hne) h8
    have q0 : W.cell? ⟨B8, 0, none⟩ = some x8 := k8.cell 0
    have q1 : W.cell? ⟨B8, 1, none⟩ = some y8 := k8.cell 1
    have q2 : W.cell? ⟨B8, 2, none⟩ = some z8 := k8.cell 2
    have z0 : W.frozen? ⟨B8, 0, none⟩ = false := k8.frozen 0
    have z1 : W.frozen? ⟨B8, 1, none⟩ = false := k8.frozen 1
    have z2 : W.frozen? ⟨B8, 2, none⟩ = false := k8.frozen 2
    have hz : a.tmps.size = 40 := e2.trans hsz
    have hfr' : ∀ b' cs ty, b' ≠ B8 → Blk W b' cs ty → Blk (((W.setCell ⟨B8, 0, none⟩ (.int .i64 c.accepts)).setCell ⟨B8, 1, none⟩ (.int .i64 c.pieces)).setCell ⟨B8, 2, none⟩ (.int .i64 c.draws)) b' cs ty := fun b' cs ty hne h => ((h.other hne _).other hne _).other hne _
    refine OpOk.skip (w' := ((W.setCell ⟨B8, 0, none⟩ (.int .i64 c.accepts)).setCell ⟨B8, 1, none⟩ (.int .i64 c.pieces)).setCell ⟨B8, 2, none⟩ (.int .i64 c.draws)) ?_ ?_
    · show (execOp a.eval { dst := none, op := Op.store 84 (.tmp 3) (.tmp 39), type := _, pos := _, after := _, guard := none }).run Try.prog W = _
      simp only [execOp, List.map_toArray, List.map_cons, List.map_nil, e0, f3, d39, Cnt.enc]
      go_simp
    · exact hQ _ _ g cap cur e1 hz (fun s hs => hfix s (fun j _ => by omega)) (hfr' _ _ _ hne k7) ⟨hcl.1, hcl.2.1, hcl.2.2.1, hfr' _ _ _ (by have := hcl.1; omega) hcl.2.2.2.1, hcl.2.2.2.2⟩ (((k8.set 0 _).set 1 _).set 2 _) (fun b' cs ty h7 h8 h => hfr' _ _ _ h8 (hfr b' cs ty h7 h)) (below_set (below_set (below_set hbl n8) n8) n8) (by simpa [World.setCell] using hzz)

end Go.Proofs.Ytigpnafpdmdmhaa.Hand

namespace Go.Proofs.Ytigpnafpdmdmhaa.Hand
open Go.RowKit Go.Shelf

/-- The best so far, and its count. -/
abbrev DSt := Option ((Stg × Stg) × Cnt)
def lotOf (lot : Int) (s : DSt) : Int := match s with | none => 0 | some _ => lot
def cntOf (s : DSt) : Cnt := match s with | none => ⟨0, 0, 0⟩ | some x => x.2

/-- One more plan. -/
def dblStep (lot good bad al be : Int) (s : DSt) (x : Stg × Stg) : Option DSt :=
  (keptV lot [x.1, x.2] good bad al be).bind fun k => some (if k = true then (if betB (lotOf lot s) (cntW lot.toNat good.toNat [x.1, x.2] 0 0) (cntOf s) = true then some (x, cntW lot.toNat good.toNat [x.1, x.2] 0 0) else s) else s)

/-- The best plan's value, with its clone past n. -/
def BestV (n : Nat) (lot : Int) (W : World) (s : DSt) (sv : Value) : Prop := match s with
  | none => sv = .slice none 0 0
  | some (x, _) => ∃ g cap cur, sv = .slice (some ⟨g, 0, none⟩) 2 cap ∧ Cl n x.1 x.2 W g cap cur

/-- The closure's state. -/
structure DbSt (n0 n B3 B7 B8 : Nat) (lot good bad al be : Int) (w W : World) (s : DSt) : Prop where
  b3 : Blk W B3 #[.int .i64 good, .int .i64 bad, .int .i64 al, .int .i64 be] 68
  b7 : ∃ sv, Blk W B7 #[.int .i64 (lotOf lot s), sv] 31 ∧ BestV n lot W s sv
  b8 : Blk W B8 (cntOf s).cells 84
  bel : Below n0 w W
  ord : n0 ≤ B7 ∧ n0 ≤ B8 ∧ B3 < B7 ∧ B7 < B8 ∧ B8 < n
  sz : n ≤ W.heap.size

theorem BestV.frame {n : Nat} {lot : Int} {W W' : World} {s : DSt} {sv : Value} (h : BestV n lot W s sv) (hb : ∀ b cs ty, n ≤ b → Blk W b cs ty → Blk W' b cs ty) : BestV n lot W' s sv := by
  unfold BestV at h ⊢
  split
  · exact h
  · obtain ⟨g, cap, cur, e, h1, h2, h3, h4, h5⟩ := h
    exact ⟨g, cap, cur, e, h1, h2, h3, hb _ _ _ h1 h4, h5⟩

theorem DbSt.below {n0 n B3 B7 B8 : Nat} {lot good bad al be : Int} {w W W' : World} {s : DSt} (h : DbSt n0 n B3 B7 B8 lot good bad al be w W s) (hb : Below W.heap.size W W') : DbSt n0 n B3 B7 B8 lot good bad al be w W' s := by
  obtain ⟨h3, ⟨sv, h7, hv⟩, h8, hbl, ho, hz⟩ := h
  exact ⟨h3.below hb h3.lt, ⟨sv, h7.below hb h7.lt, hv.frame fun b cs ty _ h => h.below hb h.lt⟩, h8.below hb h8.lt, hbl.trans (hb.mono (by omega)), ho, Nat.le_trans hz hb.size⟩

theorem st_two {p q : Stg} {b : Nat} {W : World} (h : Blk W b (two6 p q).toArray 61) : StAt W (some ⟨b, 0, none⟩) [p, q] := by
  intro i hi
  match i, hi with
  | 0, _ => exact ⟨b, 0, rfl, h.lt, h.cell 0, h.cell 1, h.cell 2⟩
  | 1, _ => exact ⟨b, 0, rfl, h.lt, h.cell 3, h.cell 4, h.cell 5⟩
  | k + 2, h => exact absurd h (by simp)

theorem results52 (tmps : Array Value) (W : World) : (results Try.f52 tmps).run Try.prog W = .ok (.tuple #[]) W := by
  have e : Try.f52.results = #[] := rfl
  unfold results
  simp only [e]
  go_simp

set_option maxHeartbeats 4000000 in
set_option maxRecDepth 10000 in
theorem see_any (lot : Nat) (good bad al be : Int) (p q : Stg) (b n0 n B3 B7 B8 : Nat) (s s' : DSt) (w W : World) (hS : DbSt n0 n B3 B7 B8 lot good bad al be w W s) (hb : Blk W b (two6 p q).toArray 61) (hbn : n ≤ b)
    (h : dblStep lot good bad al be s (p, q) = some s') :
    Calls Try.prog 52 #[.agg #[.int .i64 lot, .slice (some ⟨b, 0, none⟩) 2 2], .pointer (some ⟨B3, 0, none⟩), .pointer (some ⟨B7, 0, none⟩), .pointer (some ⟨B8, 0, none⟩)] W fun e W' => e = .returned (.tuple #[]) ∧ DbSt n0 n B3 B7 B8 lot good bad al be w W' s' := by
  unfold dblStep at h
  obtain ⟨k, hk, h⟩ : ∃ k, keptV lot [p, q] good bad al be = some k ∧ _ = some s' := by
    cases hk : keptV lot [p, q] good bad al be with
    | none => rw [hk] at h; cases h
    | some k => rw [hk] at h; exact ⟨k, rfl, h⟩
  have hs := Option.some.inj h
  clear h
  have hkv := hk
  unfold keptV at hkv
  split at hkv
  case isFalse => cases hkv
  rename_i hp
  obtain ⟨p1, p2, p3, _, _⟩ := hp
  have hv := checkPlan_ok p1
  obtain ⟨G, rfl⟩ : ∃ m : Nat, good = m := ⟨good.toNat, by omega⟩
  simp only [Int.toNat_natCast] at hs hv
  have HV := Aw.mk (show lot ≤ 30 ∧ G ≤ lot from ⟨by have := hv.hi; omega, by omega⟩)
  have HVV := Aw.mk hv
  have HS := Aw.mk hS
  have HB := Aw.mk hb
  have HK := Aw.mk hk
  obtain ⟨C, hC⟩ : ∃ C, C = cntW lot G [p, q] 0 0 := ⟨_, rfl⟩
  rw [← hC] at hs
  have HC := Aw.mk hC
  have HN := Aw.mk hbn
  have HSS := Aw.mk hs
  have d0 : W.cell? ⟨B3, 0, none⟩ = some (.int .i64 G) := hS.b3.cell 0
  have d1 : W.cell? ⟨B3, 1, none⟩ = some (.int .i64 bad) := hS.b3.cell 1
  have d2 : W.cell? ⟨B3, 2, none⟩ = some (.int .i64 al) := hS.b3.cell 2
  have d3 : W.cell? ⟨B3, 3, none⟩ = some (.int .i64 be) := hS.b3.cell 3
  have l3 := hS.b3.lt
  clear hkv p1 p2 p3 hv hS hb hk hC hs hbn
  go_enter Try.func52, Try.ntmps52
  go_wp2_with fail
  obtain ⟨w1, hw1⟩ : ∃ w1, w1 = W.alloc (.cells #[.int .i64 lot, .slice (some ⟨b, 0, none⟩) 2 2] 31) := ⟨_, rfl⟩
  have hb1 : Below W.heap.size W w1 := by rw [hw1]; exact (Below.refl _ _).alloc (Nat.le_refl _) _
  have h4 : Blk w1 W.heap.size #[.int .i64 lot, .slice (some ⟨b, 0, none⟩) 2 2] 31 := by rw [hw1]; exact Blk.new W _ _
  have hl4 : b < W.heap.size := HB.out.lt
  have hl48 : n ≤ W.heap.size := by have := HN.out; omega
  rw [← hw1]
  have HS1 := Aw.mk (HS.out.below hb1)
  have HB1 := Aw.mk (HB.out.below hb1 HB.out.lt)
  clear HS HB d0 d1 d2 d3 l3 hb1 hw1
  refine (kept_any lot (some ⟨b, 0, none⟩) 2 [p, q] G bad al be k w1 (st_two HB1.out) HK.out).mono ?_
  intro e V hp
  obtain ⟨rfl, hb1⟩ := hp
  have H4 := Aw.mk (h4.below hb1 h4.lt)
  have HS := Aw.mk (HS1.out.below hb1)
  have HB := Aw.mk (HB1.out.below hb1 HB1.out.lt)
  have HL4 := Aw.mk (show b < W.heap.size ∧ n ≤ W.heap.size from ⟨hl4, hl48⟩)
  clear HS1 HB1 h4 hb1 hl4 hl48
  have b0 : V.cell? ⟨W.heap.size, 0, none⟩ = some (.int .i64 lot) := H4.out.cell 0
  have b1 : V.cell? ⟨W.heap.size, 1, none⟩ = some (.slice (some ⟨b, 0, none⟩) 2 2) := H4.out.cell 1
  have d0 : V.cell? ⟨B3, 0, none⟩ = some (.int .i64 G) := HS.out.b3.cell 0
  cases k with
  | false =>
    have e1 := HSS.out
    rw [if_neg Bool.false_ne_true] at e1
    subst e1
    go_wp2_with fail
    exact bodyPost_ret (results52 _ _) rfl ⟨rfl, HS.out⟩
  | true =>
    have e1 := HSS.out
    rw [if_pos rfl] at e1
    have HE1 := Aw.mk e1
    clear e1 HSS
    go_wp2_with fail
    refine (on_any lot (some ⟨b, 0, none⟩) 2 2 G V).mono ?_
    rintro e V1 ⟨gw, m, rfl, hW, hm, hgw, hmm, hb1⟩
    have HB1 := Aw.mk hb1
    have HM := Aw.mk hmm
    clear hgw hmm b0 b1 d0 hb1
    go_wp2_with fail
    refine (count_any lot G HV.out.1 HV.out.2 (some ⟨b, 0, none⟩) 2 m gw [p, q] HVV.out.len HVV.out.ne HVV.out.last HVV.out.fit V1 hW (st_two (HB.out.below HB1.out HB.out.lt)) hm).mono ?_
    rintro e V2 ⟨rfl, hc⟩
    have hb2 : Below V.heap.size V V2 := HB1.out.trans (Chg.toBelow hc HB1.out.size (fun _ hk => hk ▸ HM.out))
    have K4 := Aw.mk (H4.out.below hb2 H4.out.lt)
    have KS := Aw.mk (HS.out.below hb2)
    have KB := Aw.mk (HB.out.below hb2 HB.out.lt)
    rw [← HC.out]
    simp only [Cnt.enc]
    clear hb2 hc hW hm HB1 HM HS HB H4
    go_wp2_with fail
    obtain ⟨w3, hw3⟩ : ∃ w3, w3 = V2.alloc (.cells #[.int .i64 C.accepts, .int .i64 C.pieces, .int .i64 C.draws] 84) := ⟨_, rfl⟩
    rw [← hw3]
    have hb3 : Below V2.heap.size V2 w3 := by rw [hw3]; exact (Below.refl _ _).alloc (Nat.le_refl _) _
    have K5 := Aw.mk (show Blk w3 V2.heap.size C.cells 84 by rw [hw3]; exact Blk.new V2 _ _)
    have HL5 := Aw.mk (show B7 < V2.heap.size from (by obtain ⟨sv, h, _⟩ := KS.out.b7; exact h.lt))
    have J4 := Aw.mk (K4.out.below hb3 K4.out.lt)
    have JS := Aw.mk (KS.out.below hb3)
    have JB := Aw.mk (KB.out.below hb3 KB.out.lt)
    clear hw3 hb3 K4 KS KB
    obtain ⟨sv, j7, jv⟩ := JS.out.b7
    refine wpIn_wide.1 (better_region V2.heap.size B7 B8 C (cntOf s) (lotOf lot s) sv _ w3 _ rfl rfl rfl rfl j7 JS.out.b8 K5.out ?_)
    intro a W3 hdf hsz f32 ffix hbel
    have f2 : slot a 2 = .pointer (some ⟨B7, 0, none⟩) := ffix 2 (by decide)
    have f3 : slot a 3 = .pointer (some ⟨B8, 0, none⟩) := ffix 3 (by decide)
    have f4 : slot a 4 = .pointer (some ⟨W.heap.size, 0, none⟩) := ffix 4 (by decide)
    have f5 : slot a 5 = .pointer (some ⟨V2.heap.size, 0, none⟩) := ffix 5 (by decide)
    have HE2 := HE1.out
    obtain ⟨bb, hbb⟩ : ∃ bb, bb = betB (lotOf lot s) C (cntOf s) := ⟨_, rfl⟩
    rw [← hbb] at f32 HE2
    have f32' : slot a 32 = .bool bb := f32
    have L4 := Aw.mk (J4.out.below hbel J4.out.lt)
    have L5 := Aw.mk (K5.out.below hbel K5.out.lt)
    have LS := Aw.mk (JS.out.below hbel)
    have LB := Aw.mk (JB.out.below hbel JB.out.lt)
    rw [frame_lit' a 40 hsz, hdf]
    simp only [List.range, List.range.loop, List.map_cons, List.map_nil, f2, f3, f4, f5, f32']
    clear f2 f3 f4 f5 f32 f32' ffix hdf hsz hbel hbb j7 jv JS J4 JB K5 HE1
    dsimp only [Exit.then]
    generalize a = a'
    cases bb with
    | false =>
      rw [if_neg Bool.false_ne_true] at HE2
      subst HE2
      go_wp2_with fail
      exact bodyPost_end (results52 _ _) rfl ⟨rfl, LS.out⟩
    | true =>
      rw [if_pos rfl] at HE2
      subst HE2
      go_wp2_with fail
      obtain ⟨sv', j7, jv⟩ := LS.out.b7
      obtain ⟨o2, o3, o4, o5, o6⟩ := LS.out.ord
      have hl := HL4.out
      have hl5 := HL5.out
      have hl6 := LB.out.lt
      have hl7 := HN.out
      refine wpIn_wide.1 (write_region W.heap.size V2.heap.size B7 B8 b n0 p q C lot (.int .i64 (lotOf lot s)) sv' (.int .i64 (cntOf s).accepts) (.int .i64 (cntOf s).pieces) (.int .i64 (cntOf s).draws) _ w W3 _ rfl rfl rfl rfl rfl L4.out LB.out L5.out j7 LS.out.b8 o2 o3 (by omega) (by omega) (by omega) (by omega) LS.out.bel ?_)
      intro a2 W4 g cap cur hdf hsz ffix r7 rcl r8 rfr rbel rsz
      have R := Aw.mk (show DbSt n0 n B3 B7 B8 lot G bad al be w W4 (some ((p, q), C)) from ⟨rfr _ _ _ (by omega) (by omega) LS.out.b3, ⟨_, r7, g, cap, cur, rfl, by have := rcl.1; omega, rcl.2⟩, r8, rbel, LS.out.ord, Nat.le_trans LS.out.sz rsz⟩)
      clear r7 rcl r8 rfr rbel rsz ffix hl hl5 hl6 hl7
      rw [frame_lit' a2 40 hsz, hdf]
      clear hdf hsz
      simp only [List.range, List.range.loop, List.map_cons, List.map_nil]
      generalize a2 = a3
      go_wp2_with fail
      exact bodyPost_end (results52 _ _) rfl ⟨rfl, R.out⟩
end Go.Proofs.Ytigpnafpdmdmhaa.Hand

namespace Go.Proofs.Ytigpnafpdmdmhaa.Hand
open Go.RowKit Go.Shelf

/-- The plans of two stages, in the order they are tried. -/
def dL (t a r m : Int) : Nat → Int → List (Stg × Stg)
  | 0, _ => []
  | k + 1, l => (⟨t, a, r⟩, ⟨m, l, l + 1⟩) :: dL t a r m k (l + 1)
def mx2 (a b : Int) : Int := if a < b then b else a
def dM (t a r : Int) : Nat → Int → List (Stg × Stg)
  | 0, _ => []
  | k + 1, m => dL t a r m (t + m + 1 - mx2 a (r - 1)).toNat (mx2 a (r - 1)) ++ dM t a r k (m + 1)
def dR (lot t a : Int) : Nat → Int → List (Stg × Stg)
  | 0, _ => []
  | k + 1, r => dM t a r (lot - t).toNat 1 ++ dR lot t a k (r + 1)
def dA (lot t : Int) : Nat → Int → List (Stg × Stg)
  | 0, _ => []
  | k + 1, a => dR lot t a (t + 1 - a).toNat (a + 1) ++ dA lot t k (a + 1)
def dT (lot : Int) : Nat → Int → List (Stg × Stg)
  | 0, _ => []
  | k + 1, t => dA lot t (t + 2).toNat (-1) ++ dT lot k (t + 1)

/-- All of them, one behind the other. -/
def dblGo {α : Type} (f : DSt → α → Option DSt) : List α → DSt → Option DSt
  | [], s => some s
  | x :: l, s => (f s x).bind (dblGo f l)

/-- The state that leads to an end. -/
def DRun (J : World → DSt → Prop) (f : DSt → Stg × Stg → Option DSt) (s' : DSt) (l : List (Stg × Stg)) (W : World) : Prop := ∃ s, J W s ∧ dblGo f l s = some s'

theorem results51 (tmps : Array Value) (W : World) : (results Try.f51 tmps).run Try.prog W = .ok (.tuple #[]) W := by
  have e : Try.f51.results = #[] := rfl
  unfold results
  simp only [e]
  go_simp

set_option maxHeartbeats 4000000 in
set_option maxRecDepth 10000 in
theorem doubles_any (lot : Nat) (hl : lot ≤ 30) (B3 B7 B8 n : Nat) (J : World → DSt → Prop) (f : DSt → Stg × Stg → Option DSt) (hJb : ∀ W W' s, J W s → Below W.heap.size W W' → J W' s) (hJn : ∀ W s, J W s → n ≤ W.heap.size)
    (hsee : ∀ W s s' p q b, J W s → Blk W b (two6 p q).toArray 61 → n ≤ b → f s (p, q) = some s' → Calls Try.prog 52 #[.agg #[.int .i64 lot, .slice (some ⟨b, 0, none⟩) 2 2], .pointer (some ⟨B3, 0, none⟩), .pointer (some ⟨B7, 0, none⟩), .pointer (some ⟨B8, 0, none⟩)] W fun e W' => e = .returned (.tuple #[]) ∧ J W' s')
    (s' : DSt) (W : World) (h : DRun J f s' (dT lot (lot - 1) 1) W) :
    Calls Try.prog 51 #[.int .i64 lot, .func (.func 52) #[] #[.pointer (some ⟨B3, 0, none⟩), .pointer (some ⟨B7, 0, none⟩), .pointer (some ⟨B8, 0, none⟩)]] W fun e W' => e = .returned (.tuple #[]) ∧ J W' s' := by
  have HJB := Aw.mk hJb
  have HJN := Aw.mk hJn
  have HSEE := Aw.mk hsee
  have H := Aw.mk h
  clear hJb hJn hsee h
  go_enter Try.func51, Try.ntmps51
  go_wp2_with fail
  go_loopg [4] lot (fun gg s4 wr => ∃ t m : Nat, 1 ≤ t ∧ m = lot - t ∧ m ≤ gg ∧ s4 = .int .i64 (t : Int) ∧ Aw (DRun J f s' (dT lot m t) wr))
  case atStart => exact ⟨1, lot - 1, Nat.le_refl _, rfl, by omega, rfl, H⟩
  case round =>
    obtain ⟨t, m, ht1, htm, hgg, rfl, HS⟩ := hrel
    clear H
    rcases Nat.eq_zero_or_pos m with rfl | hm0
    · have c0 : decide ((t : Int) < (lot : Int)) = false := decide_eq_false (by omega)
      have c0' : decide (t < lot) = false := decide_eq_false (by omega)
      obtain ⟨s, j, e⟩ := HS.out
      have e2 : s = s' := by simpa [dT, dblGo] using e
      subst e2
      have HJ := Aw.mk j
      clear j e HS
      go_wp2_with fail
      exact bodyPost_end (results51 _ _) rfl ⟨rfl, HJ.out⟩
    · obtain ⟨m', rfl⟩ : ∃ m', m = m' + 1 := ⟨m - 1, by omega⟩
      have c0 : decide ((t : Int) < (lot : Int)) = true := decide_eq_true (by omega)
      have c0' : decide (t < lot) = true := decide_eq_true (by omega)
      have c1 : IntKind.i64.wrap ((t : Int) + 1) = (t : Int) + 1 := IntWalk.i64_in _ (by omega)
      go_wp2_with fail
      go_loopg [5] (t + 3) (fun gg s5 wr => ∃ (a : Int) (k : Nat), -1 ≤ a ∧ a + k = (t : Int) + 1 ∧ k ≤ gg ∧ s5 = .int .i64 a ∧ Aw (DRun J f s' (dA lot t k a ++ dT lot m' (t + 1)) wr))
      case atStart => exact ⟨-1, t + 2, by omega, by omega, by omega, rfl, ⟨by have := HS.out; rwa [dT, show ((t : Int) + 2).toNat = t + 2 by omega] at this⟩⟩
      case round =>
        obtain ⟨a, k, ha1, hak, hgk, rfl, HS2⟩ := hrel
        clear HS
        rcases Nat.eq_zero_or_pos k with rfl | hk0
        · have c2 : decide (a ≤ (t : Int)) = false := decide_eq_false (by omega)
          go_wp2_with fail
          go_roundg m'
          case measure => omega
          case rel => exact ⟨t + 1, m', by omega, by omega, Nat.le_refl _, by go_num, ⟨by simpa [dA] using HS2.out⟩⟩
        · obtain ⟨k', rfl⟩ : ∃ k', k = k' + 1 := ⟨k - 1, by omega⟩
          have c2 : decide (a ≤ (t : Int)) = true := decide_eq_true (by omega)
          have c3 : IntKind.i64.wrap (a + 1) = a + 1 := IntWalk.i64_in _ (by omega)
          go_wp2_with fail
          go_loopg [6] (t + 3) (fun gg s6 wr => ∃ (r : Int) (i : Nat), a + 1 ≤ r ∧ r + i = (t : Int) + 2 ∧ i ≤ gg ∧ s6 = .int .i64 r ∧ Aw (DRun J f s' (dR lot t a i r ++ (dA lot t k' (a + 1) ++ dT lot m' (t + 1))) wr))
          case atStart => exact ⟨a + 1, (t + 1 - a).toNat, by omega, by omega, by omega, rfl, ⟨by have := HS2.out; rwa [dA, List.append_assoc] at this⟩⟩
          case round =>
            obtain ⟨r, i, hr1, hri, hgi, rfl, HS3⟩ := hrel
            clear HS2
            rcases Nat.eq_zero_or_pos i with rfl | hi0
            · have c4 : decide (r ≤ (t : Int) + 1) = false := decide_eq_false (by omega)
              go_wp2_with fail
              go_roundg k'
              case measure => omega
              case rel => exact ⟨a + 1, k', by omega, by omega, Nat.le_refl _, by go_num, ⟨by simpa [dR] using HS3.out⟩⟩
            · obtain ⟨i', rfl⟩ : ∃ i', i = i' + 1 := ⟨i - 1, by omega⟩
              have c4 : decide (r ≤ (t : Int) + 1) = true := decide_eq_true (by omega)
              have c5 : IntKind.i64.wrap (r + 1) = r + 1 := IntWalk.i64_in _ (by omega)
              have c6 : IntKind.i64.wrap (r - 1) = r - 1 := IntWalk.i64_in _ (by omega)
              have c7 : IntKind.i64.wrap ((lot : Int) - (t : Int)) = (lot : Int) - t := IntWalk.i64_in _ (by omega)
              go_wp2_with fail
              go_loopg [7] lot (fun gg s7 wr => ∃ (m j : Nat), 1 ≤ m ∧ m + j + t = lot + 1 ∧ j ≤ gg ∧ s7 = .int .i64 (m : Int) ∧ Aw (DRun J f s' (dM t a r j m ++ (dR lot t a i' (r + 1) ++ (dA lot t k' (a + 1) ++ dT lot m' (t + 1)))) wr))
              case atStart => exact ⟨1, lot - t, by omega, by omega, by omega, rfl, ⟨by have := HS3.out; rwa [dR, List.append_assoc, show ((lot : Int) - (t : Int)).toNat = lot - t by omega] at this⟩⟩
              case round =>
                obtain ⟨m, j, hm1, hmj, hgj, rfl, HS4⟩ := hrel
                clear HS3
                rcases Nat.eq_zero_or_pos j with rfl | hj0
                · have c8 : decide ((m : Int) ≤ (lot : Int) - (t : Int)) = false := decide_eq_false (by omega)
                  go_wp2_with fail
                  go_roundg i'
                  case measure => omega
                  case rel => exact ⟨r + 1, i', by omega, by omega, Nat.le_refl _, by go_num, ⟨by simpa [dM] using HS4.out⟩⟩
                · obtain ⟨j', rfl⟩ : ∃ j', j = j' + 1 := ⟨j - 1, by omega⟩
                  have c8 : decide ((m : Int) ≤ (lot : Int) - (t : Int)) = true := decide_eq_true (by omega)
                  have c9 : IntKind.i64.wrap ((m : Int) + 1) = (m : Int) + 1 := IntWalk.i64_in _ (by omega)
                  have c10 : IntKind.i64.wrap ((t : Int) + (m : Int)) = (t : Int) + m := IntWalk.i64_in _ (by omega)
                  have hxb : -1 ≤ mx2 a (r - 1) ∧ mx2 a (r - 1) ≤ t := by unfold mx2; split <;> omega
                  go_wp2_with fail
                  all_goals
                    go_loopg [8] (t + m + 3) (fun gg s8 wr => ∃ (l : Int) (e : Nat), -1 ≤ l ∧ l + e = (t : Int) + m + 1 ∧ e ≤ gg ∧ s8 = .int .i64 l ∧ Aw (DRun J f s' (dL t a r m e l ++ (dM t a r j' (m + 1) ++ (dR lot t a i' (r + 1) ++ (dA lot t k' (a + 1) ++ dT lot m' (t + 1))))) wr))
                    case atStart => exact ⟨mx2 a (r - 1), ((t : Int) + m + 1 - mx2 a (r - 1)).toNat, hxb.1, by omega, by omega, congrArg (Value.int .i64) (by unfold mx2; split <;> omega), ⟨by have := HS4.out; rwa [dM, List.append_assoc] at this⟩⟩
                    case round =>
                      obtain ⟨l, e, hl1, hle, hge, rfl, HS5⟩ := hrel
                      clear HS4
                      rcases Nat.eq_zero_or_pos e with rfl | he0
                      · have c11 : decide (l ≤ (t : Int) + (m : Int)) = false := decide_eq_false (by omega)
                        go_wp2_with fail
                        go_roundg j'
                        case measure => omega
                        case rel => exact ⟨m + 1, j', by omega, by omega, Nat.le_refl _, by go_num, ⟨by simpa [dL] using HS5.out⟩⟩
                      · obtain ⟨e', rfl⟩ : ∃ e', e = e' + 1 := ⟨e - 1, by omega⟩
                        have c11 : decide (l ≤ (t : Int) + (m : Int)) = true := decide_eq_true (by omega)
                        have c12 : IntKind.i64.wrap (l + 1) = l + 1 := IntWalk.i64_in _ (by omega)
                        go_wp2_with fail
                        obtain ⟨s, js, e1⟩ := HS5.out
                        rw [dL, List.cons_append, dblGo] at e1
                        obtain ⟨s1, e2, e3⟩ := Option.bind_eq_some_iff.1 e1
                        refine (HSEE.out (wr.alloc (.cells #[.int .i64 t, .int .i64 a, .int .i64 r, .int .i64 m, .int .i64 l, .int .i64 (l + 1)] 61)) s s1 ⟨t, a, r⟩ ⟨m, l, l + 1⟩ wr.heap.size (HJB.out wr _ s js ((Below.refl _ _).alloc (Nat.le_refl _) _)) (Blk.new wr _ 61) (HJN.out wr s js) e2).mono ?_
                        rintro e4 V ⟨rfl, js1⟩
                        have HR := Aw.mk (show DRun J f s' (dL t a r m e' (l + 1) ++ (dM t a r j' (m + 1) ++ (dR lot t a i' (r + 1) ++ (dA lot t k' (a + 1) ++ dT lot m' (t + 1))))) V from ⟨s1, js1, e3⟩)
                        clear e1 e2 e3 js js1 HS5
                        go_wp2_with fail
                        go_roundg e'
                        case measure => omega
                        case rel => exact ⟨l + 1, e', by omega, by omega, Nat.le_refl _, rfl, HR⟩
end Go.Proofs.Ytigpnafpdmdmhaa.Hand

namespace Go.Proofs.Ytigpnafpdmdmhaa.Hand
open Go.RowKit Go.Shelf

def erOf (res : DSt) : Int := match res with | none => 9 | some _ => 0
/-- What Double leaves. -/
def DoublePost (lot : Int) (res : DSt) (er : Int) (w : World) (e : Ending) (w' : World) : Prop :=
  ∃ v, e = .returned (.tuple #[.agg #[.int .i64 (lotOf lot res), v], .int .i64 er]) ∧ BestV w.heap.size lot w' res v ∧ Below w.heap.size w w'

theorem results35 {tmps : Array Value} {W : World} {g : Nat} {x0 x1 : Value} (hp : tmps.getD 4 undef = .pointer (some ⟨g, 0, none⟩)) (h : Blk W g #[x0, x1] 31) :
    (results Try.f35 tmps).run Try.prog W = .ok (.tuple #[.agg #[x0, x1], tmps.getD 5 undef]) W := by
  have c0 : W.cell? ⟨g, 0, none⟩ = some x0 := h.cell 0
  have c1 : W.cell? ⟨g, 1, none⟩ = some x1 := h.cell 1
  have e : Try.f35.results = #[.cell 4 31, .tmp 5] := rfl
  have hp' : tmps[4]?.getD undef = .pointer (some ⟨g, 0, none⟩) := by simpa using hp
  unfold results
  simp only [e]
  go_simp

set_option maxHeartbeats 4000000 in
theorem double_err (lot good bad al be er : Int) (her : er ≠ 0) (w : World)
    (hask : ∀ W, Calls Try.prog 50 #[.agg #[.int .i64 good, .int .i64 bad, .int .i64 al, .int .i64 be], .int .i64 lot, .int .i64 10] W fun e w' => e = .returned (.int .i64 er) ∧ Below W.heap.size W w') :
    Calls Try.prog 35 #[.int .i64 lot, .agg #[.int .i64 good, .int .i64 bad, .int .i64 al, .int .i64 be]] w (DoublePost lot none er w) := by
  have HA := Aw.mk hask
  have n1 : (er != 0) = true := by simp [her]
  clear hask
  go_enter Try.func35, Try.ntmps35
  go_wp2_with fail
  obtain ⟨w1, hw1⟩ : ∃ w1, w1 = (w.alloc (.cells #[.int .i64 good, .int .i64 bad, .int .i64 al, .int .i64 be] 68)).alloc (.cells #[.int .i64 0, .slice none 0 0] 31) := ⟨_, rfl⟩
  have hB1 : Below w.heap.size w w1 := by rw [hw1]; exact ((Below.refl _ _).alloc (Nat.le_refl _) _).alloc (by simp) _
  have h3 : Blk w1 w.heap.size #[.int .i64 good, .int .i64 bad, .int .i64 al, .int .i64 be] 68 := by rw [hw1]; exact (Blk.new w _ _).alloc _
  have h4 : Blk w1 (w.heap.size + 1) #[.int .i64 0, .slice none 0 0] 31 := by
    have := Blk.new (w.alloc (.cells #[.int .i64 good, .int .i64 bad, .int .i64 al, .int .i64 be] 68)) #[.int .i64 0, .slice none 0 0] 31
    rw [hw1]; simpa using this
  rw [← hw1]
  have b0 : w1.cell? ⟨w.heap.size, 0, none⟩ = some (.int .i64 good) := h3.cell 0
  have b1 : w1.cell? ⟨w.heap.size, 1, none⟩ = some (.int .i64 bad) := h3.cell 1
  have b2 : w1.cell? ⟨w.heap.size, 2, none⟩ = some (.int .i64 al) := h3.cell 2
  have b3 : w1.cell? ⟨w.heap.size, 3, none⟩ = some (.int .i64 be) := h3.cell 3
  have HB1 := Aw.mk hB1
  have H4 := Aw.mk h4
  clear hw1 hB1 h3 h4
  go_wp2_with fail
  refine (HA.out w1).mono ?_
  intro e V hp
  obtain ⟨rfl, hb⟩ := hp
  have H4V := Aw.mk (H4.out.below hb H4.out.lt)
  have HBV := Aw.mk (HB1.out.trans (hb.mono HB1.out.size))
  have q2 : V.cell? ⟨w.heap.size + 1, 0, none⟩ = some (.int .i64 0) := H4V.out.cell 0
  have q3 : V.cell? ⟨w.heap.size + 1, 1, none⟩ = some (.slice none 0 0) := H4V.out.cell 1
  have z0 : V.frozen? ⟨w.heap.size + 1, 0, none⟩ = false := H4V.out.frozen 0
  have z1 : V.frozen? ⟨w.heap.size + 1, 1, none⟩ = false := H4V.out.frozen 1
  clear hb
  go_wp2_with fail
  refine bodyPost_ret (results35 rfl ((H4V.out.set 0 _).set 1 _)) rfl ?_
  exact ⟨_, rfl, rfl, below_set (below_set HBV.out (Nat.le_succ _)) (Nat.le_succ _)⟩

set_option maxHeartbeats 4000000 in
set_option maxRecDepth 10000 in
theorem double_any (lot : Nat) (h1 : 1 ≤ lot) (hl : lot ≤ 30) (good bad al be : Int) (res : DSt) (w : World)
    (hask : ∀ W, Calls Try.prog 50 #[.agg #[.int .i64 good, .int .i64 bad, .int .i64 al, .int .i64 be], .int .i64 lot, .int .i64 10] W fun e w' => e = .returned (.int .i64 0) ∧ Below W.heap.size W w')
    (h : dblGo (dblStep lot good bad al be) (dT lot (lot - 1) 1) none = some res) :
    Calls Try.prog 35 #[.int .i64 lot, .agg #[.int .i64 good, .int .i64 bad, .int .i64 al, .int .i64 be]] w (DoublePost lot res (erOf res) w) := by
  have HA := Aw.mk hask
  have H := Aw.mk h
  clear hask h
  go_enter Try.func35, Try.ntmps35
  go_wp2_with fail
  obtain ⟨w1, hw1⟩ : ∃ w1, w1 = (w.alloc (.cells #[.int .i64 good, .int .i64 bad, .int .i64 al, .int .i64 be] 68)).alloc (.cells #[.int .i64 0, .slice none 0 0] 31) := ⟨_, rfl⟩
  have hB1 : Below w.heap.size w w1 := by rw [hw1]; exact ((Below.refl _ _).alloc (Nat.le_refl _) _).alloc (by simp) _
  have hz1 : w1.heap.size = w.heap.size + 2 := by rw [hw1]; simp
  have h3 : Blk w1 w.heap.size #[.int .i64 good, .int .i64 bad, .int .i64 al, .int .i64 be] 68 := by rw [hw1]; exact (Blk.new w _ _).alloc _
  have h4 : Blk w1 (w.heap.size + 1) #[.int .i64 0, .slice none 0 0] 31 := by
    have := Blk.new (w.alloc (.cells #[.int .i64 good, .int .i64 bad, .int .i64 al, .int .i64 be] 68)) #[.int .i64 0, .slice none 0 0] 31
    rw [hw1]; simpa using this
  rw [← hw1]
  have b0 : w1.cell? ⟨w.heap.size, 0, none⟩ = some (.int .i64 good) := h3.cell 0
  have b1 : w1.cell? ⟨w.heap.size, 1, none⟩ = some (.int .i64 bad) := h3.cell 1
  have b2 : w1.cell? ⟨w.heap.size, 2, none⟩ = some (.int .i64 al) := h3.cell 2
  have b3 : w1.cell? ⟨w.heap.size, 3, none⟩ = some (.int .i64 be) := h3.cell 3
  have HB1 := Aw.mk hB1
  have HZ1 := Aw.mk hz1
  have H3 := Aw.mk h3
  have H4 := Aw.mk h4
  clear hw1 hB1 h3 h4 hz1
  go_wp2_with fail
  refine (HA.out w1).mono ?_
  intro e V hp
  obtain ⟨rfl, hb⟩ := hp
  have HV := Aw.mk hb
  clear hb b0 b1 b2 b3
  go_wp2_with fail
  have hvz : w.heap.size + 2 ≤ V.heap.size := by have := HV.out.size; have := HZ1.out; omega
  obtain ⟨w2, hw2⟩ : ∃ w2, w2 = (V.alloc (.cells #[.int .i64 0, .slice none 0 0] 31)).alloc (.cells #[.int .i64 0, .int .i64 0, .int .i64 0] 84) := ⟨_, rfl⟩
  have hst : DbSt (w.heap.size + 2) (V.heap.size + 2) w.heap.size V.heap.size (V.heap.size + 1) lot good bad al be w1 w2 none := by
    rw [hw2]
    refine ⟨((H3.out.below HV.out H3.out.lt).alloc _).alloc _, ⟨.slice none 0 0, (Blk.new V _ _).alloc _, rfl⟩, ?_, ((HV.out.mono (by rw [HZ1.out]; omega)).alloc hvz _).alloc (by simp; omega) _, ⟨hvz, by omega, by omega, by omega⟩, by simp⟩
    have := Blk.new (V.alloc (.cells #[.int .i64 0, .slice none 0 0] 31)) #[.int .i64 0, .int .i64 0, .int .i64 0] 84
    simpa [cntOf, Cnt.cells] using this
  rw [← hw2]
  clear hw2
  refine (doubles_any lot hl w.heap.size V.heap.size (V.heap.size + 1) (V.heap.size + 2) (fun W s => DbSt (w.heap.size + 2) (V.heap.size + 2) w.heap.size V.heap.size (V.heap.size + 1) lot good bad al be w1 W s) (dblStep lot good bad al be)
    (fun W W' s h hb => h.below hb) (fun W s h => h.sz) (fun W s s' p q b h1 h2 h3 h4 => see_any lot good bad al be p q b _ _ _ _ _ s s' w1 W h1 h2 h3 h4) res w2 ⟨none, hst, H.out⟩).mono ?_
  rintro e V2 ⟨rfl, hD⟩
  obtain ⟨sv, j7, jv⟩ := hD.b7
  have j4 := H4.out.below hD.bel (by omega)
  have hbw : Below w.heap.size w V2 := HB1.out.trans (hD.bel.mono (by omega))
  have HB := Aw.mk hbw
  have J4 := Aw.mk j4
  have HBV := Aw.mk (show BestV w.heap.size lot V2 res sv from by
    unfold BestV at jv ⊢
    split at jv
    · exact jv
    · obtain ⟨g, cap, cur, e1, e2, e3⟩ := jv
      exact ⟨g, cap, cur, e1, by omega, e3⟩)
  have hgf : ∀ b cs ty, w.heap.size + 2 ≤ b → Blk V2 b cs ty → ∀ x y, Blk ((V2.setCell ⟨w.heap.size + 1, 0, none⟩ x).setCell ⟨w.heap.size + 1, 1, none⟩ y) b cs ty := fun b cs ty hb h x y => (h.other (show b ≠ w.heap.size + 1 by omega) _).other (show b ≠ w.heap.size + 1 by omega) _
  have hjv2 : ∀ x y, BestV w.heap.size lot ((V2.setCell ⟨w.heap.size + 1, 0, none⟩ x).setCell ⟨w.heap.size + 1, 1, none⟩ y) res sv := fun x y => by
    unfold BestV at jv ⊢
    split at jv
    · exact jv
    · obtain ⟨g, cap, cur, e1, e2, e3, e4, e5, e6⟩ := jv
      exact ⟨g, cap, cur, e1, by omega, e3, e4, hgf _ _ _ (by omega) e5 _ _, e6⟩
  have HJV := Aw.mk hjv2
  have q0 : V2.cell? ⟨V.heap.size, 0, none⟩ = some (.int .i64 (lotOf lot res)) := j7.cell 0
  have q1 : V2.cell? ⟨V.heap.size, 1, none⟩ = some sv := j7.cell 1
  have q2 : V2.cell? ⟨w.heap.size + 1, 0, none⟩ = some (.int .i64 0) := j4.cell 0
  have q3 : V2.cell? ⟨w.heap.size + 1, 1, none⟩ = some (.slice none 0 0) := j4.cell 1
  have z0 : V2.frozen? ⟨w.heap.size + 1, 0, none⟩ = false := j4.frozen 0
  have z1 : V2.frozen? ⟨w.heap.size + 1, 1, none⟩ = false := j4.frozen 1
  clear hD j7 j4 jv hbw hgf hjv2 hst hvz H4 HV H3 HB1 HZ1
  cases res with
  | none =>
    have c0 : (lotOf lot none == 0) = true := rfl
    go_wp2_with fail
    refine bodyPost_ret (results35 rfl ((J4.out.set 0 _).set 1 _)) rfl ?_
    exact ⟨_, rfl, rfl, below_set (below_set HB.out (Nat.le_succ _)) (Nat.le_succ _)⟩
  | some x =>
    have e0 : lotOf lot (some x) = lot := rfl
    have c0 : ((lot : Int) == 0) = false := by simp; omega
    have c0' : (lot == 0) = false := by simp; omega
    rw [e0] at q0
    obtain ⟨g, cap, cur, rfl, _⟩ := HBV.out
    go_wp2_with fail
    refine bodyPost_ret (results35 rfl ((J4.out.set 0 _).set 1 _)) rfl ?_
    exact ⟨_, rfl, HJV.out _ _, below_set (below_set HB.out (Nat.le_succ _)) (Nat.le_succ _)⟩
end Go.Proofs.Ytigpnafpdmdmhaa.Hand

namespace Go.Proofs.Ytigpnafpdmdmhaa.P
open Go.RowKit Go.Proofs.YtigpnafpdmdmhaaW.PrintWords Go.Proofs.YtigpnafpdmdmhaaW.PrintLast

/-! ### plan_Double: function 35, proved by hand -/
/-- The plan of two stages that a search has found. -/
def found2 (lot : Int) : Hand.DSt → Int × List S61 × Int
 | none => (0, [], 9)
 | some (x, _) => (lot, [⟨x.1.take, x.1.accept, x.1.reject⟩, ⟨x.2.take, x.2.accept, x.2.reject⟩], 0)
def plan_Double.f (a0 : Int) (a1_0 : Int) (a1_1 : Int) (a1_2 : Int) (a1_3 : Int) : Option (Int × (List (S61)) × Int) :=
 (plan_Demand_asked.f a1_0 a1_1 a1_2 a1_3 a0 10).bind fun er => if er = 0 then (if 1 ≤ a0 ∧ a0 ≤ 30 then (Hand.dblGo (Hand.dblStep a0 a1_0 a1_1 a1_2 a1_3) (Hand.dT a0 (a0.toNat - 1) 1) none).map (found2 a0) else none) else some (0, [], er)
theorem plan_Double.calls (a0 : Int) (a1_0 : Int) (a1_1 : Int) (a1_2 : Int) (a1_3 : Int) (r1 : Int) (r2 : List (S61)) (r3 : Int) (w : World) (h : plan_Double.f a0 a1_0 a1_1 a1_2 a1_3 = some (r1, r2, r3)) :
  Calls Try.prog 35 #[.int .i64 a0, .agg #[.int .i64 a1_0, .int .i64 a1_1, .int .i64 a1_2, .int .i64 a1_3]] w fun e w' => ∃ v1_ : Value, e = .returned (.tuple #[.agg #[.int .i64 r1, v1_], .int .i64 r3]) ∧ Kd.R k61 61 w' w.heap.size (fun _ => True) v1_ r2 ∧ Below w.heap.size w w' := by
 unfold plan_Double.f at h
 obtain ⟨er, hq, h⟩ := Option.bind_eq_some_iff.mp h
 have hask := fun W => plan_Demand_asked.calls a1_0 a1_1 a1_2 a1_3 a0 10 er W hq
 by_cases he : er = 0
 ·
  rw [if_pos he] at h
  subst he
  by_cases hb : 1 ≤ a0 ∧ a0 ≤ 30
  ·
   rw [if_pos hb] at h
   obtain ⟨lot, rfl⟩ : ∃ n : Nat, a0 = n := ⟨a0.toNat, by omega⟩
   rw [Int.toNat_natCast] at h
   obtain ⟨res, hs, h⟩ := Option.map_eq_some_iff.mp h
   refine (Hand.double_any lot (by omega) (by omega) a1_0 a1_1 a1_2 a1_3 res w hask hs).mono ?_
   rintro e w' ⟨v, rfl, hv, hbel⟩
   cases res with
   | none =>
    obtain rfl : v = .slice none 0 0 := hv
    cases h
    exact ⟨_, rfl, Kd.R_nil _ _ _ _ _, hbel⟩
   | some s =>
    obtain ⟨⟨p, q⟩, c⟩ := s
    obtain ⟨g, cap, cur, rfl, hl, ⟨hc2, hcm⟩, hsz, hblk, htk⟩ := hv
    cases h
    refine ⟨_, rfl, ?_, hbel⟩
    exact ⟨fun _ _ => trivial, Hand.two6 p q, ⟨rfl, .inr ⟨g, cap, _, rfl, hl, hblk, hc2, hcm, hsz, htk⟩⟩, Reps.snoc (ps := [_]) (cs := [.int .i64 p.take, .int .i64 p.accept, .int .i64 p.reject]) (Reps.snoc (ps := []) (cs := []) (Reps.none _ _) (k61_mkM _ _ _ ⟨p.take, p.accept, p.reject⟩) rfl) (k61_mkM _ _ _ ⟨q.take, q.accept, q.reject⟩) rfl⟩
  ·
   rw [if_neg hb] at h; cases h
 ·
  rw [if_neg he] at h
  cases h
  refine (Hand.double_err a0 a1_0 a1_1 a1_2 a1_3 r3 he w hask).mono ?_
  rintro e w' ⟨v, rfl, hv, hbel⟩
  obtain rfl : v = .slice none 0 0 := hv
  exact ⟨_, rfl, Kd.R_nil _ _ _ _ _, hbel⟩

end Go.Proofs.Ytigpnafpdmdmhaa.P

namespace Go.Proofs.Ytigpnafpdmdmhaa.P
open Go.RowKit Go.Proofs.YtigpnafpdmdmhaaW.PrintWords Go.Proofs.YtigpnafpdmdmhaaW.PrintLast

/-! ### tensileref09_IsDemand: function 30 -/
def tensileref09_IsDemand.f (a0_0 : Int) (a0_1 : Int) (a0_2 : Int) (a0_3 : Int) : Option (Bool) := (tensileref09_In.f a0_1 1 30).bind fun t476 => (if t476 = true then ((tensileref09_In.f a0_0 0 (wrap64 (a0_1 - 1))).bind fun t477 => (if t477 = true then ((tensileref09_In.f a0_2 0 1000).bind fun t478 => (if t478 = true then ((tensileref09_In.f a0_3 0 1000).bind fun t479 => (some t479)) else (some false))) else (some false))) else (some false))
set_option maxHeartbeats 8000000 in
set_option maxRecDepth 100000 in
theorem tensileref09_IsDemand.calls (a0_0 : Int) (a0_1 : Int) (a0_2 : Int) (a0_3 : Int) (r : Bool) (w : World) (h : tensileref09_IsDemand.f a0_0 a0_1 a0_2 a0_3 = some r) :
  Calls Try.prog 30 #[.agg #[.int .i64 a0_0, .int .i64 a0_1, .int .i64 a0_2, .int .i64 a0_3]] w fun e w' => e = .returned (.bool r) ∧ Below w.heap.size w w' := by
 have hu64 := Try.underlying64
 have HB := Aside0.mk (Below.refl w.heap.size w)
 have H : ((tensileref09_In.f a0_1 1 30).bind fun t476 => (if t476 = true then ((tensileref09_In.f a0_0 0 (wrap64 (a0_1 - 1))).bind fun t477 => (if t477 = true then ((tensileref09_In.f a0_2 0 1000).bind fun t478 => (if t478 = true then ((tensileref09_In.f a0_3 0 1000).bind fun t479 => (some t479)) else (some false))) else (some false))) else (some false))) = some r := h
 clear h
 replace H := Option.bind_eq_some_iff.mp H
 obtain ⟨t476, A20, H⟩ := H
 replace H : (if t476 = true then ((tensileref09_In.f a0_0 0 (wrap64 (a0_1 - 1))).bind fun t477 => (if t477 = true then ((tensileref09_In.f a0_2 0 1000).bind fun t478 => (if t478 = true then ((tensileref09_In.f a0_3 0 1000).bind fun t479 => (some t479)) else (some false))) else (some false))) else (some false)) = some r := H
 have A2 := Aside0.mk A20
 clear A20
 by_cases c3 : t476 = true
 ·
  subst c3
  have H1 : ((tensileref09_In.f a0_0 0 (wrap64 (a0_1 - 1))).bind fun t477 => (if t477 = true then ((tensileref09_In.f a0_2 0 1000).bind fun t478 => (if t478 = true then ((tensileref09_In.f a0_3 0 1000).bind fun t479 => (some t479)) else (some false))) else (some false))) = some r := by rw [if_pos rfl] at H; exact H
  clear H
  have H := H1
  clear H1
  replace H := Option.bind_eq_some_iff.mp H
  obtain ⟨t477, A40, H⟩ := H
  replace H : (if t477 = true then ((tensileref09_In.f a0_2 0 1000).bind fun t478 => (if t478 = true then ((tensileref09_In.f a0_3 0 1000).bind fun t479 => (some t479)) else (some false))) else (some false)) = some r := H
  have A4 := Aside0.mk A40
  clear A40
  by_cases c5 : t477 = true
  ·
   subst c5
   have H1 : ((tensileref09_In.f a0_2 0 1000).bind fun t478 => (if t478 = true then ((tensileref09_In.f a0_3 0 1000).bind fun t479 => (some t479)) else (some false))) = some r := by rw [if_pos rfl] at H; exact H
   clear H
   have H := H1
   clear H1
   replace H := Option.bind_eq_some_iff.mp H
   obtain ⟨t478, A60, H⟩ := H
   replace H : (if t478 = true then ((tensileref09_In.f a0_3 0 1000).bind fun t479 => (some t479)) else (some false)) = some r := H
   have A6 := Aside0.mk A60
   clear A60
   by_cases c7 : t478 = true
   ·
    subst c7
    have H1 : ((tensileref09_In.f a0_3 0 1000).bind fun t479 => (some t479)) = some r := by rw [if_pos rfl] at H; exact H
    clear H
    have H := H1
    clear H1
    replace H := Option.bind_eq_some_iff.mp H
    obtain ⟨t479, A80, H⟩ := H
    replace H : (some t479) = some r := H
    have A8 := Aside0.mk A80
    clear A80
    obtain rfl := Option.some.inj H
    go_enter Try.func30, Try.ntmps30
    go_wp2_with (first | ((with_reducible refine gate_dst (N := 1) rfl ?_); refine box_event ?hg (N := 1) ?hd (cs := #[.int .i64 a0_0, .int .i64 a0_1, .int .i64 a0_2, .int .i64 a0_3]) (t := 64) ?hr ?_; (case hd => rfl); (case hg => rfl); (case hr => first | (go_simp; done) | (go_simp; rfl)); intro gb475 hg w9 hbox hb; have n0_ := Aside0.mk (below_step (by repeat (first | (with_reducible first | exact HB.out | apply below_alloc | apply pw_below_drewN | apply below_drew1) | exact HB.out)) hb); have n1_ := Aside0.mk (hbox); have n2_ := Aside0.mk ((by rw [hg]; exact (below_size (by repeat (first | (with_reducible first | exact HB.out | apply below_alloc | apply pw_below_drewN | apply below_drew1) | exact HB.out))) : w.heap.size ≤ gb475)); have n3_ := Aside0.mk ((by rw [hg]; exact (below_size (by repeat (first | (with_reducible first | exact HB.out | apply below_alloc | apply pw_below_drewN | apply below_drew1) | exact HB.out))) : w.heap.size ≤ gb475)); clear HB; have HB := n0_; have BK475 := n1_; have GW475 := n2_; have GE475 := n3_; clear n0_ n1_ n2_ n3_; clear hb hbox hg; have hcz10_0 : w9.cell? ⟨gb475, 0, none⟩ = some (.int .i64 a0_0) := (blk_cell BK475.out 0).trans rfl; have hcz10_1 : w9.cell? ⟨gb475, 1, none⟩ = some (.int .i64 a0_1) := (blk_cell BK475.out 1).trans rfl; have hcz10_2 : w9.cell? ⟨gb475, 2, none⟩ = some (.int .i64 a0_2) := (blk_cell BK475.out 2).trans rfl; have hcz10_3 : w9.cell? ⟨gb475, 3, none⟩ = some (.int .i64 a0_3) := (blk_cell BK475.out 3).trans rfl; have hfz10_0 := blk_frozen BK475.out 0; have hfz10_1 := blk_frozen BK475.out 1; have hfz10_2 := blk_frozen BK475.out 2; have hfz10_3 := blk_frozen BK475.out 3) | ((with_reducible refine gate_callee (f := 20) rfl ?_); refine goesL_ (some 5) rfl rfl Try.func20 (by kernel_rfl) rfl #[.int .i64 a0_1, .int .i64 1, .int .i64 30] rfl (by (try simp only [List.map_toArray, List.map_cons, List.map_nil]); first | done | rfl | (simp only [List.length_drop, List.length_take]; rfl)) ?_; (with_reducible refine (tensileref09_In.calls a0_1 1 30 true _ A2.out).mono ?_); rintro e w' ⟨rfl, ⟨nd, rfl⟩⟩; refine ⟨_, rfl, ?_⟩) | (go_at_call 20; (with_reducible refine (tensileref09_In.calls a0_0 0 (wrap64 (a0_1 - 1)) true _ A4.out).mono ?_); rintro e w' ⟨rfl, ⟨nd, rfl⟩⟩) | (go_at_call 20; (with_reducible refine (tensileref09_In.calls a0_2 0 1000 true _ A6.out).mono ?_); rintro e w' ⟨rfl, ⟨nd, rfl⟩⟩) | (go_at_call 20; (with_reducible refine (tensileref09_In.calls a0_3 0 1000 t479 _ A8.out).mono ?_); rintro e w' ⟨rfl, ⟨nd, rfl⟩⟩))
    go_ret
    exact ⟨by first | rfl | (simp [errW_none, errW_some] <;> rfl) | (simp [*, errW_none, errW_some] <;> rfl), by repeat (first | (with_reducible first | exact HB.out | apply below_alloc | apply pw_below_drewN | apply below_drew1 | refine below_set ?_ GE475.out) | exact HB.out)⟩
   ·
    replace c7 := Bool.eq_false_iff.mpr c7
    subst c7
    have H1 : (some false) = some r := by rw [if_neg (show ¬ (false = true) by decide)] at H; exact H
    clear H
    have H := H1
    clear H1
    obtain rfl := Option.some.inj H
    go_enter Try.func30, Try.ntmps30
    go_wp2_with (first | ((with_reducible refine gate_dst (N := 1) rfl ?_); refine box_event ?hg (N := 1) ?hd (cs := #[.int .i64 a0_0, .int .i64 a0_1, .int .i64 a0_2, .int .i64 a0_3]) (t := 64) ?hr ?_; (case hd => rfl); (case hg => rfl); (case hr => first | (go_simp; done) | (go_simp; rfl)); intro gb475 hg w11 hbox hb; have n0_ := Aside0.mk (below_step (by repeat (first | (with_reducible first | exact HB.out | apply below_alloc | apply pw_below_drewN | apply below_drew1) | exact HB.out)) hb); have n1_ := Aside0.mk (hbox); have n2_ := Aside0.mk ((by rw [hg]; exact (below_size (by repeat (first | (with_reducible first | exact HB.out | apply below_alloc | apply pw_below_drewN | apply below_drew1) | exact HB.out))) : w.heap.size ≤ gb475)); have n3_ := Aside0.mk ((by rw [hg]; exact (below_size (by repeat (first | (with_reducible first | exact HB.out | apply below_alloc | apply pw_below_drewN | apply below_drew1) | exact HB.out))) : w.heap.size ≤ gb475)); clear HB; have HB := n0_; have BK475 := n1_; have GW475 := n2_; have GE475 := n3_; clear n0_ n1_ n2_ n3_; clear hb hbox hg; have hcz12_0 : w11.cell? ⟨gb475, 0, none⟩ = some (.int .i64 a0_0) := (blk_cell BK475.out 0).trans rfl; have hcz12_1 : w11.cell? ⟨gb475, 1, none⟩ = some (.int .i64 a0_1) := (blk_cell BK475.out 1).trans rfl; have hcz12_2 : w11.cell? ⟨gb475, 2, none⟩ = some (.int .i64 a0_2) := (blk_cell BK475.out 2).trans rfl; have hcz12_3 : w11.cell? ⟨gb475, 3, none⟩ = some (.int .i64 a0_3) := (blk_cell BK475.out 3).trans rfl; have hfz12_0 := blk_frozen BK475.out 0; have hfz12_1 := blk_frozen BK475.out 1; have hfz12_2 := blk_frozen BK475.out 2; have hfz12_3 := blk_frozen BK475.out 3) | ((with_reducible refine gate_callee (f := 20) rfl ?_); refine goesL_ (some 5) rfl rfl Try.func20 (by kernel_rfl) rfl #[.int .i64 a0_1, .int .i64 1, .int .i64 30] rfl (by (try simp only [List.map_toArray, List.map_cons, List.map_nil]); first | done | rfl | (simp only [List.length_drop, List.length_take]; rfl)) ?_; (with_reducible refine (tensileref09_In.calls a0_1 1 30 true _ A2.out).mono ?_); rintro e w' ⟨rfl, ⟨nd, rfl⟩⟩; refine ⟨_, rfl, ?_⟩) | (go_at_call 20; (with_reducible refine (tensileref09_In.calls a0_0 0 (wrap64 (a0_1 - 1)) true _ A4.out).mono ?_); rintro e w' ⟨rfl, ⟨nd, rfl⟩⟩) | (go_at_call 20; (with_reducible refine (tensileref09_In.calls a0_2 0 1000 false _ A6.out).mono ?_); rintro e w' ⟨rfl, ⟨nd, rfl⟩⟩))
    go_ret
    exact ⟨by first | rfl | (simp [errW_none, errW_some] <;> rfl) | (simp [*, errW_none, errW_some] <;> rfl), by repeat (first | (with_reducible first | exact HB.out | apply below_alloc | apply pw_below_drewN | apply below_drew1 | refine below_set ?_ GE475.out) | exact HB.out)⟩
  ·
   replace c5 := Bool.eq_false_iff.mpr c5
   subst c5
   have H1 : (some false) = some r := by rw [if_neg (show ¬ (false = true) by decide)] at H; exact H
   clear H
   have H := H1
   clear H1
   obtain rfl := Option.some.inj H
   go_enter Try.func30, Try.ntmps30
   go_wp2_with (first | ((with_reducible refine gate_dst (N := 1) rfl ?_); refine box_event ?hg (N := 1) ?hd (cs := #[.int .i64 a0_0, .int .i64 a0_1, .int .i64 a0_2, .int .i64 a0_3]) (t := 64) ?hr ?_; (case hd => rfl); (case hg => rfl); (case hr => first | (go_simp; done) | (go_simp; rfl)); intro gb475 hg w13 hbox hb; have n0_ := Aside0.mk (below_step (by repeat (first | (with_reducible first | exact HB.out | apply below_alloc | apply pw_below_drewN | apply below_drew1) | exact HB.out)) hb); have n1_ := Aside0.mk (hbox); have n2_ := Aside0.mk ((by rw [hg]; exact (below_size (by repeat (first | (with_reducible first | exact HB.out | apply below_alloc | apply pw_below_drewN | apply below_drew1) | exact HB.out))) : w.heap.size ≤ gb475)); have n3_ := Aside0.mk ((by rw [hg]; exact (below_size (by repeat (first | (with_reducible first | exact HB.out | apply below_alloc | apply pw_below_drewN | apply below_drew1) | exact HB.out))) : w.heap.size ≤ gb475)); clear HB; have HB := n0_; have BK475 := n1_; have GW475 := n2_; have GE475 := n3_; clear n0_ n1_ n2_ n3_; clear hb hbox hg; have hcz14_0 : w13.cell? ⟨gb475, 0, none⟩ = some (.int .i64 a0_0) := (blk_cell BK475.out 0).trans rfl; have hcz14_1 : w13.cell? ⟨gb475, 1, none⟩ = some (.int .i64 a0_1) := (blk_cell BK475.out 1).trans rfl; have hcz14_2 : w13.cell? ⟨gb475, 2, none⟩ = some (.int .i64 a0_2) := (blk_cell BK475.out 2).trans rfl; have hcz14_3 : w13.cell? ⟨gb475, 3, none⟩ = some (.int .i64 a0_3) := (blk_cell BK475.out 3).trans rfl; have hfz14_0 := blk_frozen BK475.out 0; have hfz14_1 := blk_frozen BK475.out 1; have hfz14_2 := blk_frozen BK475.out 2; have hfz14_3 := blk_frozen BK475.out 3) | ((with_reducible refine gate_callee (f := 20) rfl ?_); refine goesL_ (some 5) rfl rfl Try.func20 (by kernel_rfl) rfl #[.int .i64 a0_1, .int .i64 1, .int .i64 30] rfl (by (try simp only [List.map_toArray, List.map_cons, List.map_nil]); first | done | rfl | (simp only [List.length_drop, List.length_take]; rfl)) ?_; (with_reducible refine (tensileref09_In.calls a0_1 1 30 true _ A2.out).mono ?_); rintro e w' ⟨rfl, ⟨nd, rfl⟩⟩; refine ⟨_, rfl, ?_⟩) | (go_at_call 20; (with_reducible refine (tensileref09_In.calls a0_0 0 (wrap64 (a0_1 - 1)) false _ A4.out).mono ?_); rintro e w' ⟨rfl, ⟨nd, rfl⟩⟩))
   go_ret
   exact ⟨by first | rfl | (simp [errW_none, errW_some] <;> rfl) | (simp [*, errW_none, errW_some] <;> rfl), by repeat (first | (with_reducible first | exact HB.out | apply below_alloc | apply pw_below_drewN | apply below_drew1 | refine below_set ?_ GE475.out) | exact HB.out)⟩
 ·
  replace c3 := Bool.eq_false_iff.mpr c3
  subst c3
  have H1 : (some false) = some r := by rw [if_neg (show ¬ (false = true) by decide)] at H; exact H
  clear H
  have H := H1
  clear H1
  obtain rfl := Option.some.inj H
  go_enter Try.func30, Try.ntmps30
  go_wp2_with (first | ((with_reducible refine gate_dst (N := 1) rfl ?_); refine box_event ?hg (N := 1) ?hd (cs := #[.int .i64 a0_0, .int .i64 a0_1, .int .i64 a0_2, .int .i64 a0_3]) (t := 64) ?hr ?_; (case hd => rfl); (case hg => rfl); (case hr => first | (go_simp; done) | (go_simp; rfl)); intro gb475 hg w15 hbox hb; have n0_ := Aside0.mk (below_step (by repeat (first | (with_reducible first | exact HB.out | apply below_alloc | apply pw_below_drewN | apply below_drew1) | exact HB.out)) hb); have n1_ := Aside0.mk (hbox); have n2_ := Aside0.mk ((by rw [hg]; exact (below_size (by repeat (first | (with_reducible first | exact HB.out | apply below_alloc | apply pw_below_drewN | apply below_drew1) | exact HB.out))) : w.heap.size ≤ gb475)); have n3_ := Aside0.mk ((by rw [hg]; exact (below_size (by repeat (first | (with_reducible first | exact HB.out | apply below_alloc | apply pw_below_drewN | apply below_drew1) | exact HB.out))) : w.heap.size ≤ gb475)); clear HB; have HB := n0_; have BK475 := n1_; have GW475 := n2_; have GE475 := n3_; clear n0_ n1_ n2_ n3_; clear hb hbox hg; have hcz16_0 : w15.cell? ⟨gb475, 0, none⟩ = some (.int .i64 a0_0) := (blk_cell BK475.out 0).trans rfl; have hcz16_1 : w15.cell? ⟨gb475, 1, none⟩ = some (.int .i64 a0_1) := (blk_cell BK475.out 1).trans rfl; have hcz16_2 : w15.cell? ⟨gb475, 2, none⟩ = some (.int .i64 a0_2) := (blk_cell BK475.out 2).trans rfl; have hcz16_3 : w15.cell? ⟨gb475, 3, none⟩ = some (.int .i64 a0_3) := (blk_cell BK475.out 3).trans rfl; have hfz16_0 := blk_frozen BK475.out 0; have hfz16_1 := blk_frozen BK475.out 1; have hfz16_2 := blk_frozen BK475.out 2; have hfz16_3 := blk_frozen BK475.out 3) | ((with_reducible refine gate_callee (f := 20) rfl ?_); refine goesL_ (some 5) rfl rfl Try.func20 (by kernel_rfl) rfl #[.int .i64 a0_1, .int .i64 1, .int .i64 30] rfl (by (try simp only [List.map_toArray, List.map_cons, List.map_nil]); first | done | rfl | (simp only [List.length_drop, List.length_take]; rfl)) ?_; (with_reducible refine (tensileref09_In.calls a0_1 1 30 false _ A2.out).mono ?_); rintro e w' ⟨rfl, ⟨nd, rfl⟩⟩; refine ⟨_, rfl, ?_⟩))
  go_ret
  exact ⟨by first | rfl | (simp [errW_none, errW_some] <;> rfl) | (simp [*, errW_none, errW_some] <;> rfl), by repeat (first | (with_reducible first | exact HB.out | apply below_alloc | apply pw_below_drewN | apply below_drew1 | refine below_set ?_ GE475.out) | exact HB.out)⟩

end Go.Proofs.Ytigpnafpdmdmhaa.P

namespace Go.Proofs.Ytigpnafpdmdmhaa.P
open Go.RowKit Go.Proofs.YtigpnafpdmdmhaaW.PrintWords Go.Proofs.YtigpnafpdmdmhaaW.PrintLast

/-! ### tensilelaw09_asked: function 36 -/
def tensilelaw09_asked.f (a0 : Int) (a1 : Int) (a2_0 : Int) (a2_1 : Int) (a2_2 : Int) (a2_3 : Int) : Option (Int) := (tensileref09_IsDemand.f a2_0 a2_1 a2_2 a2_3).bind fun t676 => (if t676 = true then ((tensileref09_In.f a0 1 a1).bind fun t677 => (if t677 = true then (if a0 < a2_1 then (some 2) else (some 0)) else (some 2))) else (some 1))
set_option maxHeartbeats 8000000 in
set_option maxRecDepth 100000 in
theorem tensilelaw09_asked.calls (a0 : Int) (a1 : Int) (a2_0 : Int) (a2_1 : Int) (a2_2 : Int) (a2_3 : Int) (r : Int) (w : World) (h : tensilelaw09_asked.f a0 a1 a2_0 a2_1 a2_2 a2_3 = some r) :
  Calls Try.prog 36 #[.int .i64 a0, .int .i64 a1, .agg #[.int .i64 a2_0, .int .i64 a2_1, .int .i64 a2_2, .int .i64 a2_3]] w fun e w' => e = .returned (.int .i64 r) ∧ Below w.heap.size w w' := by
 have hu64 := Try.underlying64
 have HB := Aside0.mk (Below.refl w.heap.size w)
 have H : ((tensileref09_IsDemand.f a2_0 a2_1 a2_2 a2_3).bind fun t676 => (if t676 = true then ((tensileref09_In.f a0 1 a1).bind fun t677 => (if t677 = true then (if a0 < a2_1 then (some 2) else (some 0)) else (some 2))) else (some 1))) = some r := h
 clear h
 replace H := Option.bind_eq_some_iff.mp H
 obtain ⟨t676, A40, H⟩ := H
 replace H : (if t676 = true then ((tensileref09_In.f a0 1 a1).bind fun t677 => (if t677 = true then (if a0 < a2_1 then (some 2) else (some 0)) else (some 2))) else (some 1)) = some r := H
 have A4 := Aside0.mk A40
 clear A40
 by_cases c5 : t676 = true
 ·
  subst c5
  have H1 : ((tensileref09_In.f a0 1 a1).bind fun t677 => (if t677 = true then (if a0 < a2_1 then (some 2) else (some 0)) else (some 2))) = some r := by rw [if_pos rfl] at H; exact H
  clear H
  have H := H1
  clear H1
  replace H := Option.bind_eq_some_iff.mp H
  obtain ⟨t677, A60, H⟩ := H
  replace H : (if t677 = true then (if a0 < a2_1 then (some 2) else (some 0)) else (some 2)) = some r := H
  have A6 := Aside0.mk A60
  clear A60
  by_cases c7 : t677 = true
  ·
   subst c7
   have H1 : (if a0 < a2_1 then (some 2) else (some 0)) = some r := by rw [if_pos rfl] at H; exact H
   clear H
   have H := H1
   clear H1
   by_cases c8 : a0 < a2_1
   ·
    rw [if_pos c8] at H
    have c8b0 : decide (a0 < a2_1) = true := decide_eq_true c8
    clear c8
    obtain rfl := Option.some.inj H
    go_enter Try.func36, Try.ntmps36
    go_wp2_with (first | ((with_reducible refine gate_dst (N := 5) rfl ?_); refine box_event ?hg (N := 5) ?hd (cs := #[.int .i64 a2_0, .int .i64 a2_1, .int .i64 a2_2, .int .i64 a2_3]) (t := 64) ?hr ?_; (case hd => rfl); (case hg => rfl); (case hr => first | (go_simp; done) | (go_simp; rfl)); intro gb675 hg w9 hbox hb; have n0_ := Aside0.mk (below_step (by repeat (first | (with_reducible first | exact HB.out | apply below_alloc | apply pw_below_drewN | apply below_drew1) | exact HB.out)) hb); have n1_ := Aside0.mk (hbox); have n2_ := Aside0.mk ((by rw [hg]; exact (below_size (by repeat (first | (with_reducible first | exact HB.out | apply below_alloc | apply pw_below_drewN | apply below_drew1) | exact HB.out))) : w.heap.size ≤ gb675)); have n3_ := Aside0.mk ((by rw [hg]; exact (below_size (by repeat (first | (with_reducible first | exact HB.out | apply below_alloc | apply pw_below_drewN | apply below_drew1) | exact HB.out))) : w.heap.size ≤ gb675)); clear HB; have HB := n0_; have BK675 := n1_; have GW675 := n2_; have GE675 := n3_; clear n0_ n1_ n2_ n3_; clear hb hbox hg; have hcz10_0 : w9.cell? ⟨gb675, 0, none⟩ = some (.int .i64 a2_0) := (blk_cell BK675.out 0).trans rfl; have hcz10_1 : w9.cell? ⟨gb675, 1, none⟩ = some (.int .i64 a2_1) := (blk_cell BK675.out 1).trans rfl; have hcz10_2 : w9.cell? ⟨gb675, 2, none⟩ = some (.int .i64 a2_2) := (blk_cell BK675.out 2).trans rfl; have hcz10_3 : w9.cell? ⟨gb675, 3, none⟩ = some (.int .i64 a2_3) := (blk_cell BK675.out 3).trans rfl; have hfz10_0 := blk_frozen BK675.out 0; have hfz10_1 := blk_frozen BK675.out 1; have hfz10_2 := blk_frozen BK675.out 2; have hfz10_3 := blk_frozen BK675.out 3) | ((with_reducible refine gate_callee (f := 30) rfl ?_); refine goesL_ (some 8) rfl rfl Try.func30 (by kernel_rfl) rfl #[.agg #[.int .i64 a2_0, .int .i64 a2_1, .int .i64 a2_2, .int .i64 a2_3]] rfl (by (try simp only [List.map_toArray, List.map_cons, List.map_nil]); first | done | rfl | (simp only [List.length_drop, List.length_take]; rfl)) ?_; (with_reducible refine (tensileref09_IsDemand.calls a2_0 a2_1 a2_2 a2_3 true _ A4.out).mono ?_); rintro e w11 ⟨rfl, hb⟩; refine ⟨_, rfl, ?_⟩; have n0_ := Aside0.mk (blk_below (g := gb675) (o := .cells #[.int .i64 a2_0, .int .i64 a2_1, .int .i64 a2_2, .int .i64 a2_3] 64 (0, 0)) (by (with_reducible repeat (first | refine blk_drewN ?_ _ | refine blk_drew ?_ | refine blk_alloc ?_ _)); exact BK675.out) hb); have n1_ := Aside0.mk (below_step (by repeat (first | (with_reducible first | exact HB.out | apply below_alloc | apply pw_below_drewN | apply below_drew1 | refine below_set ?_ GE675.out) | exact HB.out)) hb); clear BK675; clear HB; have BK675 := n0_; have HB := n1_; clear n0_ n1_; (try clear hb); (try clear hb2); (try clear hk); (try clear hi)) | ((with_reducible refine gate_callee (f := 20) rfl ?_); refine goesL_ (some 12) rfl rfl Try.func20 (by kernel_rfl) rfl #[.int .i64 a0, .int .i64 1, .int .i64 a1] rfl (by (try simp only [List.map_toArray, List.map_cons, List.map_nil]); first | done | rfl | (simp only [List.length_drop, List.length_take]; rfl)) ?_; (with_reducible refine (tensileref09_In.calls a0 1 a1 true _ A6.out).mono ?_); rintro e w' ⟨rfl, ⟨nd, rfl⟩⟩; refine ⟨_, rfl, ?_⟩; have hcz12_0 : w11.cell? ⟨gb675, 0, none⟩ = some (.int .i64 a2_0) := (blk_cell BK675.out 0).trans rfl; have hcz12_1 : w11.cell? ⟨gb675, 1, none⟩ = some (.int .i64 a2_1) := (blk_cell BK675.out 1).trans rfl; have hcz12_2 : w11.cell? ⟨gb675, 2, none⟩ = some (.int .i64 a2_2) := (blk_cell BK675.out 2).trans rfl; have hcz12_3 : w11.cell? ⟨gb675, 3, none⟩ = some (.int .i64 a2_3) := (blk_cell BK675.out 3).trans rfl; have hfz12_0 := blk_frozen BK675.out 0; have hfz12_1 := blk_frozen BK675.out 1; have hfz12_2 := blk_frozen BK675.out 2; have hfz12_3 := blk_frozen BK675.out 3))
    go_ret
    exact ⟨by first | rfl | (simp [errW_none, errW_some] <;> rfl) | (simp [*, errW_none, errW_some] <;> rfl), by repeat (first | (with_reducible first | exact HB.out | apply below_alloc | apply pw_below_drewN | apply below_drew1 | refine below_set ?_ GE675.out) | exact HB.out)⟩
   ·
    rw [if_neg c8] at H
    have c8b0 : decide (a0 < a2_1) = false := decide_eq_false c8
    clear c8
    obtain rfl := Option.some.inj H
    go_enter Try.func36, Try.ntmps36
    go_wp2_with (first | ((with_reducible refine gate_dst (N := 5) rfl ?_); refine box_event ?hg (N := 5) ?hd (cs := #[.int .i64 a2_0, .int .i64 a2_1, .int .i64 a2_2, .int .i64 a2_3]) (t := 64) ?hr ?_; (case hd => rfl); (case hg => rfl); (case hr => first | (go_simp; done) | (go_simp; rfl)); intro gb675 hg w13 hbox hb; have n0_ := Aside0.mk (below_step (by repeat (first | (with_reducible first | exact HB.out | apply below_alloc | apply pw_below_drewN | apply below_drew1) | exact HB.out)) hb); have n1_ := Aside0.mk (hbox); have n2_ := Aside0.mk ((by rw [hg]; exact (below_size (by repeat (first | (with_reducible first | exact HB.out | apply below_alloc | apply pw_below_drewN | apply below_drew1) | exact HB.out))) : w.heap.size ≤ gb675)); have n3_ := Aside0.mk ((by rw [hg]; exact (below_size (by repeat (first | (with_reducible first | exact HB.out | apply below_alloc | apply pw_below_drewN | apply below_drew1) | exact HB.out))) : w.heap.size ≤ gb675)); clear HB; have HB := n0_; have BK675 := n1_; have GW675 := n2_; have GE675 := n3_; clear n0_ n1_ n2_ n3_; clear hb hbox hg; have hcz14_0 : w13.cell? ⟨gb675, 0, none⟩ = some (.int .i64 a2_0) := (blk_cell BK675.out 0).trans rfl; have hcz14_1 : w13.cell? ⟨gb675, 1, none⟩ = some (.int .i64 a2_1) := (blk_cell BK675.out 1).trans rfl; have hcz14_2 : w13.cell? ⟨gb675, 2, none⟩ = some (.int .i64 a2_2) := (blk_cell BK675.out 2).trans rfl; have hcz14_3 : w13.cell? ⟨gb675, 3, none⟩ = some (.int .i64 a2_3) := (blk_cell BK675.out 3).trans rfl; have hfz14_0 := blk_frozen BK675.out 0; have hfz14_1 := blk_frozen BK675.out 1; have hfz14_2 := blk_frozen BK675.out 2; have hfz14_3 := blk_frozen BK675.out 3) | ((with_reducible refine gate_callee (f := 30) rfl ?_); refine goesL_ (some 8) rfl rfl Try.func30 (by kernel_rfl) rfl #[.agg #[.int .i64 a2_0, .int .i64 a2_1, .int .i64 a2_2, .int .i64 a2_3]] rfl (by (try simp only [List.map_toArray, List.map_cons, List.map_nil]); first | done | rfl | (simp only [List.length_drop, List.length_take]; rfl)) ?_; (with_reducible refine (tensileref09_IsDemand.calls a2_0 a2_1 a2_2 a2_3 true _ A4.out).mono ?_); rintro e w15 ⟨rfl, hb⟩; refine ⟨_, rfl, ?_⟩; have n0_ := Aside0.mk (blk_below (g := gb675) (o := .cells #[.int .i64 a2_0, .int .i64 a2_1, .int .i64 a2_2, .int .i64 a2_3] 64 (0, 0)) (by (with_reducible repeat (first | refine blk_drewN ?_ _ | refine blk_drew ?_ | refine blk_alloc ?_ _)); exact BK675.out) hb); have n1_ := Aside0.mk (below_step (by repeat (first | (with_reducible first | exact HB.out | apply below_alloc | apply pw_below_drewN | apply below_drew1 | refine below_set ?_ GE675.out) | exact HB.out)) hb); clear BK675; clear HB; have BK675 := n0_; have HB := n1_; clear n0_ n1_; (try clear hb); (try clear hb2); (try clear hk); (try clear hi)) | ((with_reducible refine gate_callee (f := 20) rfl ?_); refine goesL_ (some 12) rfl rfl Try.func20 (by kernel_rfl) rfl #[.int .i64 a0, .int .i64 1, .int .i64 a1] rfl (by (try simp only [List.map_toArray, List.map_cons, List.map_nil]); first | done | rfl | (simp only [List.length_drop, List.length_take]; rfl)) ?_; (with_reducible refine (tensileref09_In.calls a0 1 a1 true _ A6.out).mono ?_); rintro e w' ⟨rfl, ⟨nd, rfl⟩⟩; refine ⟨_, rfl, ?_⟩; have hcz16_0 : w15.cell? ⟨gb675, 0, none⟩ = some (.int .i64 a2_0) := (blk_cell BK675.out 0).trans rfl; have hcz16_1 : w15.cell? ⟨gb675, 1, none⟩ = some (.int .i64 a2_1) := (blk_cell BK675.out 1).trans rfl; have hcz16_2 : w15.cell? ⟨gb675, 2, none⟩ = some (.int .i64 a2_2) := (blk_cell BK675.out 2).trans rfl; have hcz16_3 : w15.cell? ⟨gb675, 3, none⟩ = some (.int .i64 a2_3) := (blk_cell BK675.out 3).trans rfl; have hfz16_0 := blk_frozen BK675.out 0; have hfz16_1 := blk_frozen BK675.out 1; have hfz16_2 := blk_frozen BK675.out 2; have hfz16_3 := blk_frozen BK675.out 3))
    go_ret
    exact ⟨by first | rfl | (simp [errW_none, errW_some] <;> rfl) | (simp [*, errW_none, errW_some] <;> rfl), by repeat (first | (with_reducible first | exact HB.out | apply below_alloc | apply pw_below_drewN | apply below_drew1 | refine below_set ?_ GE675.out) | exact HB.out)⟩
  ·
   replace c7 := Bool.eq_false_iff.mpr c7
   subst c7
   have H1 : (some 2) = some r := by rw [if_neg (show ¬ (false = true) by decide)] at H; exact H
   clear H
   have H := H1
   clear H1
   obtain rfl := Option.some.inj H
   go_enter Try.func36, Try.ntmps36
   go_wp2_with (first | ((with_reducible refine gate_dst (N := 5) rfl ?_); refine box_event ?hg (N := 5) ?hd (cs := #[.int .i64 a2_0, .int .i64 a2_1, .int .i64 a2_2, .int .i64 a2_3]) (t := 64) ?hr ?_; (case hd => rfl); (case hg => rfl); (case hr => first | (go_simp; done) | (go_simp; rfl)); intro gb675 hg w17 hbox hb; have n0_ := Aside0.mk (below_step (by repeat (first | (with_reducible first | exact HB.out | apply below_alloc | apply pw_below_drewN | apply below_drew1) | exact HB.out)) hb); have n1_ := Aside0.mk (hbox); have n2_ := Aside0.mk ((by rw [hg]; exact (below_size (by repeat (first | (with_reducible first | exact HB.out | apply below_alloc | apply pw_below_drewN | apply below_drew1) | exact HB.out))) : w.heap.size ≤ gb675)); have n3_ := Aside0.mk ((by rw [hg]; exact (below_size (by repeat (first | (with_reducible first | exact HB.out | apply below_alloc | apply pw_below_drewN | apply below_drew1) | exact HB.out))) : w.heap.size ≤ gb675)); clear HB; have HB := n0_; have BK675 := n1_; have GW675 := n2_; have GE675 := n3_; clear n0_ n1_ n2_ n3_; clear hb hbox hg; have hcz18_0 : w17.cell? ⟨gb675, 0, none⟩ = some (.int .i64 a2_0) := (blk_cell BK675.out 0).trans rfl; have hcz18_1 : w17.cell? ⟨gb675, 1, none⟩ = some (.int .i64 a2_1) := (blk_cell BK675.out 1).trans rfl; have hcz18_2 : w17.cell? ⟨gb675, 2, none⟩ = some (.int .i64 a2_2) := (blk_cell BK675.out 2).trans rfl; have hcz18_3 : w17.cell? ⟨gb675, 3, none⟩ = some (.int .i64 a2_3) := (blk_cell BK675.out 3).trans rfl; have hfz18_0 := blk_frozen BK675.out 0; have hfz18_1 := blk_frozen BK675.out 1; have hfz18_2 := blk_frozen BK675.out 2; have hfz18_3 := blk_frozen BK675.out 3) | ((with_reducible refine gate_callee (f := 30) rfl ?_); refine goesL_ (some 8) rfl rfl Try.func30 (by kernel_rfl) rfl #[.agg #[.int .i64 a2_0, .int .i64 a2_1, .int .i64 a2_2, .int .i64 a2_3]] rfl (by (try simp only [List.map_toArray, List.map_cons, List.map_nil]); first | done | rfl | (simp only [List.length_drop, List.length_take]; rfl)) ?_; (with_reducible refine (tensileref09_IsDemand.calls a2_0 a2_1 a2_2 a2_3 true _ A4.out).mono ?_); rintro e w19 ⟨rfl, hb⟩; refine ⟨_, rfl, ?_⟩; have n0_ := Aside0.mk (blk_below (g := gb675) (o := .cells #[.int .i64 a2_0, .int .i64 a2_1, .int .i64 a2_2, .int .i64 a2_3] 64 (0, 0)) (by (with_reducible repeat (first | refine blk_drewN ?_ _ | refine blk_drew ?_ | refine blk_alloc ?_ _)); exact BK675.out) hb); have n1_ := Aside0.mk (below_step (by repeat (first | (with_reducible first | exact HB.out | apply below_alloc | apply pw_below_drewN | apply below_drew1 | refine below_set ?_ GE675.out) | exact HB.out)) hb); clear BK675; clear HB; have BK675 := n0_; have HB := n1_; clear n0_ n1_; (try clear hb); (try clear hb2); (try clear hk); (try clear hi)) | ((with_reducible refine gate_callee (f := 20) rfl ?_); refine goesL_ (some 12) rfl rfl Try.func20 (by kernel_rfl) rfl #[.int .i64 a0, .int .i64 1, .int .i64 a1] rfl (by (try simp only [List.map_toArray, List.map_cons, List.map_nil]); first | done | rfl | (simp only [List.length_drop, List.length_take]; rfl)) ?_; (with_reducible refine (tensileref09_In.calls a0 1 a1 false _ A6.out).mono ?_); rintro e w' ⟨rfl, ⟨nd, rfl⟩⟩; refine ⟨_, rfl, ?_⟩))
   go_ret
   exact ⟨by first | rfl | (simp [errW_none, errW_some] <;> rfl) | (simp [*, errW_none, errW_some] <;> rfl), by repeat (first | (with_reducible first | exact HB.out | apply below_alloc | apply pw_below_drewN | apply below_drew1 | refine below_set ?_ GE675.out) | exact HB.out)⟩
 ·
  replace c5 := Bool.eq_false_iff.mpr c5
  subst c5
  have H1 : (some 1) = some r := by rw [if_neg (show ¬ (false = true) by decide)] at H; exact H
  clear H
  have H := H1
  clear H1
  obtain rfl := Option.some.inj H
  go_enter Try.func36, Try.ntmps36
  go_wp2_with (first | ((with_reducible refine gate_dst (N := 5) rfl ?_); refine box_event ?hg (N := 5) ?hd (cs := #[.int .i64 a2_0, .int .i64 a2_1, .int .i64 a2_2, .int .i64 a2_3]) (t := 64) ?hr ?_; (case hd => rfl); (case hg => rfl); (case hr => first | (go_simp; done) | (go_simp; rfl)); intro gb675 hg w20 hbox hb; have n0_ := Aside0.mk (below_step (by repeat (first | (with_reducible first | exact HB.out | apply below_alloc | apply pw_below_drewN | apply below_drew1) | exact HB.out)) hb); have n1_ := Aside0.mk (hbox); have n2_ := Aside0.mk ((by rw [hg]; exact (below_size (by repeat (first | (with_reducible first | exact HB.out | apply below_alloc | apply pw_below_drewN | apply below_drew1) | exact HB.out))) : w.heap.size ≤ gb675)); have n3_ := Aside0.mk ((by rw [hg]; exact (below_size (by repeat (first | (with_reducible first | exact HB.out | apply below_alloc | apply pw_below_drewN | apply below_drew1) | exact HB.out))) : w.heap.size ≤ gb675)); clear HB; have HB := n0_; have BK675 := n1_; have GW675 := n2_; have GE675 := n3_; clear n0_ n1_ n2_ n3_; clear hb hbox hg; have hcz21_0 : w20.cell? ⟨gb675, 0, none⟩ = some (.int .i64 a2_0) := (blk_cell BK675.out 0).trans rfl; have hcz21_1 : w20.cell? ⟨gb675, 1, none⟩ = some (.int .i64 a2_1) := (blk_cell BK675.out 1).trans rfl; have hcz21_2 : w20.cell? ⟨gb675, 2, none⟩ = some (.int .i64 a2_2) := (blk_cell BK675.out 2).trans rfl; have hcz21_3 : w20.cell? ⟨gb675, 3, none⟩ = some (.int .i64 a2_3) := (blk_cell BK675.out 3).trans rfl; have hfz21_0 := blk_frozen BK675.out 0; have hfz21_1 := blk_frozen BK675.out 1; have hfz21_2 := blk_frozen BK675.out 2; have hfz21_3 := blk_frozen BK675.out 3) | ((with_reducible refine gate_callee (f := 30) rfl ?_); refine goesL_ (some 8) rfl rfl Try.func30 (by kernel_rfl) rfl #[.agg #[.int .i64 a2_0, .int .i64 a2_1, .int .i64 a2_2, .int .i64 a2_3]] rfl (by (try simp only [List.map_toArray, List.map_cons, List.map_nil]); first | done | rfl | (simp only [List.length_drop, List.length_take]; rfl)) ?_; (with_reducible refine (tensileref09_IsDemand.calls a2_0 a2_1 a2_2 a2_3 false _ A4.out).mono ?_); rintro e w22 ⟨rfl, hb⟩; refine ⟨_, rfl, ?_⟩; have n0_ := Aside0.mk (blk_below (g := gb675) (o := .cells #[.int .i64 a2_0, .int .i64 a2_1, .int .i64 a2_2, .int .i64 a2_3] 64 (0, 0)) (by (with_reducible repeat (first | refine blk_drewN ?_ _ | refine blk_drew ?_ | refine blk_alloc ?_ _)); exact BK675.out) hb); have n1_ := Aside0.mk (below_step (by repeat (first | (with_reducible first | exact HB.out | apply below_alloc | apply pw_below_drewN | apply below_drew1 | refine below_set ?_ GE675.out) | exact HB.out)) hb); clear BK675; clear HB; have BK675 := n0_; have HB := n1_; clear n0_ n1_; (try clear hb); (try clear hb2); (try clear hk); (try clear hi)))
  go_ret
  exact ⟨by first | rfl | (simp [errW_none, errW_some] <;> rfl) | (simp [*, errW_none, errW_some] <;> rfl), by repeat (first | (with_reducible first | exact HB.out | apply below_alloc | apply pw_below_drewN | apply below_drew1 | refine below_set ?_ GE675.out) | exact HB.out)⟩

end Go.Proofs.Ytigpnafpdmdmhaa.P

namespace Go.Proofs.Ytigpnafpdmdmhaa.P
open Go.RowKit Go.Proofs.YtigpnafpdmdmhaaW.PrintWords Go.Proofs.YtigpnafpdmdmhaaW.PrintLast

theorem info57 : (Try.prog.info? 57).map (fun i => (i.zero, i.size, i.bytes)) = some (some (.agg #[(.int .i64 0), (.int .i64 0), (.int .i64 0)]), 3, 24) := by kernel_rfl
/-! ### tensilelaw09_Back: function 38 -/
def tensilelaw09_Back.l0 : Nat → Int → Int → List (S61) → Int → List (S57) → Option (Int × (List (S57)))
 | 0, _, _, _, _, _ => none
 | k + 1, x4, x679000, x679001, x681000, x681001 => if x4 < (x679001.length : Int) then (if 0 ≤ x4 then (if x681001.length < 5864062014805 then (tensilelaw09_Back.l0 k (wrap64 (x4 + 1)) x679000 x679001 x681000 (x681001 ++ [(⟨(rd_T61 x679001 x4).f0, (rd_T61 x679001 x4).f1, (rd_T61 x679001 x4).f2⟩ : S57)])) else (none)) else (none)) else (some (x681000, x681001))
def tensilelaw09_Back.f (k : Nat) (a0_0 : Int) (l0_1 : List (S61)) : Option (Int × (List (S57))) := tensilelaw09_Back.l0 k 0 a0_0 l0_1 a0_0 ([] : List (S57))
set_option maxHeartbeats 8000000 in
set_option maxRecDepth 100000 in
theorem tensilelaw09_Back.calls (k : Nat) (a0_0 : Int) (A0_1 : Option Addr) (c0_1 : Nat) (l0_1 : List (S61)) (r1 : Int) (r2 : List (S57)) (w : World) (hr0_1 : Kd.C k61 w A0_1 l0_1.length l0_1) (hc0_1 : l0_1.length ≤ c0_1) (h : tensilelaw09_Back.f k a0_0 l0_1 = some (r1, r2)) :
  Calls Try.prog 38 #[.agg #[.int .i64 a0_0, .slice A0_1 l0_1.length c0_1]] w fun e w' => ∃ v1_ : Value, e = .returned (.agg #[.int .i64 r1, v1_]) ∧ Kd.R k57 57 w' w.heap.size (fun _ => True) v1_ r2 ∧ Below w.heap.size w w' := by
 have hu31 := Try.underlying31
 have hu24 := Try.underlying24
 have hu61 := Try.underlying61
 have hu57 := Try.underlying57
 have HR0_1 := Aside0.mk hr0_1
 have HC0_1 := Aside0.mk hc0_1
 clear hr0_1 hc0_1
 have HB := Aside0.mk (Below.refl w.heap.size w)
 have H : (tensilelaw09_Back.l0 k 0 a0_0 l0_1 a0_0 ([] : List (S57))) = some (r1, r2) := h
 clear h
 have H' := Aside0.mk H
 clear H
 go_enter Try.func38, Try.ntmps38
 go_wp2_with (first | ((with_reducible refine gate_dst (N := 1) rfl ?_); refine box_event ?hg (N := 1) ?hd (cs := #[.int .i64 a0_0, .slice A0_1 l0_1.length c0_1]) (t := 31) ?hr ?_; (case hd => rfl); (case hg => rfl); (case hr => first | (go_simp; done) | (go_simp; rfl)); intro gb678 hg w2 hbox hb; have n0_ := Aside0.mk (below_step (by repeat (first | (with_reducible first | exact HB.out | apply below_alloc | apply pw_below_drewN | apply below_drew1) | exact HB.out)) hb); have n1_ := Aside0.mk (hbox); have n2_ := Aside0.mk ((by rw [hg]; exact (below_size (by repeat (first | (with_reducible first | exact HB.out | apply below_alloc | apply pw_below_drewN | apply below_drew1) | exact HB.out))) : w.heap.size ≤ gb678)); have n3_ := Aside0.mk ((by rw [hg]; exact (below_size (by repeat (first | (with_reducible first | exact HB.out | apply below_alloc | apply pw_below_drewN | apply below_drew1) | exact HB.out))) : w.heap.size ≤ gb678)); clear HB; have HB := n0_; have BK678 := n1_; have GW678 := n2_; have GE678 := n3_; clear n0_ n1_ n2_ n3_; clear hb hbox hg) | ((with_reducible refine gate_dst (N := 2) rfl ?_); refine box_event ?hg (N := 2) ?hd (cs := #[.int .i64 0, .slice none 0 0]) (t := 24) ?hr ?_; (case hd => rfl); (case hg => rfl); (case hr => first | (go_simp; done) | (go_simp; rfl)); intro gb679 hg w3 hbox hb; have n0_ := Aside0.mk (blk_below (g := gb678) (o := .cells #[.int .i64 a0_0, .slice A0_1 l0_1.length c0_1] 31 (0, 0)) (by (with_reducible repeat (first | refine blk_drewN ?_ _ | refine blk_drew ?_ | refine blk_alloc ?_ _)); exact BK678.out) hb); have n1_ := Aside0.mk (below_step (by repeat (first | (with_reducible first | exact HB.out | apply below_alloc | apply pw_below_drewN | apply below_drew1 | refine below_set ?_ GE678.out) | exact HB.out)) hb); have n2_ := Aside0.mk (hbox); have n3_ := Aside0.mk ((by rw [hg]; exact (below_size (by repeat (first | (with_reducible first | exact HB.out | apply below_alloc | apply pw_below_drewN | apply below_drew1 | refine below_set ?_ GE678.out) | exact HB.out))) : w.heap.size ≤ gb679)); have n4_ := Aside0.mk ((by rw [hg]; exact (below_size (by repeat (first | (with_reducible first | exact HB.out | apply below_alloc | apply pw_below_drewN | apply below_drew1 | refine below_set ?_ GE678.out) | exact HB.out))) : w.heap.size ≤ gb679)); have n5_ := Aside0.mk ((by rw [hg]; exact Nat.ne_of_lt (blk_lt (g := gb678) (o := .cells #[.int .i64 a0_0, .slice A0_1 l0_1.length c0_1] 31 (0, 0)) (by (with_reducible repeat (first | refine blk_drewN ?_ _ | refine blk_drew ?_ | refine blk_alloc ?_ _)); exact BK678.out)) : gb678 ≠ gb679)); have n6_ := Aside0.mk ((by rw [hg]; exact Nat.ne_of_gt (blk_lt (g := gb678) (o := .cells #[.int .i64 a0_0, .slice A0_1 l0_1.length c0_1] 31 (0, 0)) (by (with_reducible repeat (first | refine blk_drewN ?_ _ | refine blk_drew ?_ | refine blk_alloc ?_ _)); exact BK678.out)) : gb679 ≠ gb678)); clear BK678; clear HB; have BK678 := n0_; have HB := n1_; have BK679 := n2_; have GW679 := n3_; have GE679 := n4_; have NB678_679 := n5_; have NB679_678 := n6_; clear n0_ n1_ n2_ n3_ n4_ n5_ n6_; clear hb hbox hg; have hnb4 := NB678_679.out; have hnc4 := NB679_678.out; have hcz5_0 : w3.cell? ⟨gb678, 0, none⟩ = some (.int .i64 a0_0) := (blk_cell BK678.out 0).trans rfl; have hcz5_1 : w3.cell? ⟨gb678, 1, none⟩ = some (.slice A0_1 l0_1.length c0_1) := (blk_cell BK678.out 1).trans rfl; have hfz5_0 := blk_frozen BK678.out 0; have hfz5_1 := blk_frozen BK678.out 1) | ((with_reducible refine gate_dst (N := 3) rfl ?_); refine box_event ?hg (N := 3) ?hd (cs := #[.int .i64 0, .slice none 0 0]) (t := 24) ?hr ?_; (case hd => rfl); (case hg => rfl); (case hr => first | (go_simp; done) | (go_simp; rfl)); intro gb680 hg w6 hbox hb; have n0_ := Aside0.mk (blk_below (g := gb678) (o := .cells #[.int .i64 a0_0, .slice A0_1 l0_1.length c0_1] 31 (0, 0)) (by (with_reducible repeat (first | refine blk_drewN ?_ _ | refine blk_drew ?_ | refine blk_alloc ?_ _)); exact BK678.out) hb); have n1_ := Aside0.mk (blk_below (g := gb679) (o := .cells #[.int .i64 0, .slice none 0 0] 24 (0, 0)) (by (with_reducible repeat (first | refine blk_drewN ?_ _ | refine blk_drew ?_ | refine blk_alloc ?_ _)); exact BK679.out) hb); have n2_ := Aside0.mk (below_step (by repeat (first | (with_reducible first | exact HB.out | apply below_alloc | apply pw_below_drewN | apply below_drew1 | refine below_set ?_ GE678.out | refine below_set ?_ GE679.out) | exact HB.out)) hb); have n3_ := Aside0.mk (hbox); have n4_ := Aside0.mk ((by rw [hg]; exact (below_size (by repeat (first | (with_reducible first | exact HB.out | apply below_alloc | apply pw_below_drewN | apply below_drew1 | refine below_set ?_ GE678.out | refine below_set ?_ GE679.out) | exact HB.out))) : w.heap.size ≤ gb680)); have n5_ := Aside0.mk ((by rw [hg]; exact (below_size (by repeat (first | (with_reducible first | exact HB.out | apply below_alloc | apply pw_below_drewN | apply below_drew1 | refine below_set ?_ GE678.out | refine below_set ?_ GE679.out) | exact HB.out))) : w.heap.size ≤ gb680)); have n6_ := Aside0.mk ((by rw [hg]; exact Nat.ne_of_lt (blk_lt (g := gb678) (o := .cells #[.int .i64 a0_0, .slice A0_1 l0_1.length c0_1] 31 (0, 0)) (by (with_reducible repeat (first | refine blk_drewN ?_ _ | refine blk_drew ?_ | refine blk_alloc ?_ _)); exact BK678.out)) : gb678 ≠ gb680)); have n7_ := Aside0.mk ((by rw [hg]; exact Nat.ne_of_gt (blk_lt (g := gb678) (o := .cells #[.int .i64 a0_0, .slice A0_1 l0_1.length c0_1] 31 (0, 0)) (by (with_reducible repeat (first | refine blk_drewN ?_ _ | refine blk_drew ?_ | refine blk_alloc ?_ _)); exact BK678.out)) : gb680 ≠ gb678)); have n8_ := Aside0.mk ((by rw [hg]; exact Nat.ne_of_lt (blk_lt (g := gb679) (o := .cells #[.int .i64 0, .slice none 0 0] 24 (0, 0)) (by (with_reducible repeat (first | refine blk_drewN ?_ _ | refine blk_drew ?_ | refine blk_alloc ?_ _)); exact BK679.out)) : gb679 ≠ gb680)); have n9_ := Aside0.mk ((by rw [hg]; exact Nat.ne_of_gt (blk_lt (g := gb679) (o := .cells #[.int .i64 0, .slice none 0 0] 24 (0, 0)) (by (with_reducible repeat (first | refine blk_drewN ?_ _ | refine blk_drew ?_ | refine blk_alloc ?_ _)); exact BK679.out)) : gb680 ≠ gb679)); clear BK678; clear BK679; clear HB; have BK678 := n0_; have BK679 := n1_; have HB := n2_; have BK680 := n3_; have GW680 := n4_; have GE680 := n5_; have NB678_680 := n6_; have NB680_678 := n7_; have NB679_680 := n8_; have NB680_679 := n9_; clear n0_ n1_ n2_ n3_ n4_ n5_ n6_ n7_ n8_ n9_; clear hb hbox hg; have hnb7 := NB680_678.out; have hnc7 := NB678_680.out; have hnb8 := NB680_679.out; have hnc8 := NB679_680.out; have hcz9_0 : w6.cell? ⟨gb680, 0, none⟩ = some (.int .i64 0) := (blk_cell BK680.out 0).trans rfl; have hcz9_1 : w6.cell? ⟨gb680, 1, none⟩ = some (.slice none 0 0) := (blk_cell BK680.out 1).trans rfl; have hfz9_0 := blk_frozen BK680.out 0; have hfz9_1 := blk_frozen BK680.out 1))
 go_loopg [4] k (fun kq v4 w' => ∃ (x4_1 : Int) (x681001_1 : List (S57)) (u681001 : Value), v4 = .int .i64 x4_1 ∧ Aside0 (tensilelaw09_Back.l0 kq x4_1 a0_0 l0_1 a0_0 x681001_1 = some (r1, r2)) ∧ Aside0 (kq ≤ k) ∧ Aside0 (Kd.R k57 57 w' w.heap.size (fun _ => True) u681001 x681001_1) ∧ Aside0 (w'.heap[gb678]? = some (.cells #[.int .i64 a0_0, (.slice A0_1 l0_1.length c0_1)] 31 (0, 0))) ∧ Aside0 (w'.heap[gb679]? = some (.cells #[.int .i64 0, (.slice none 0 0)] 24 (0, 0))) ∧ Aside0 (w'.heap[gb680]? = some (.cells #[.int .i64 a0_0, u681001] 24 (0, 0))) ∧ Aside0 (Below w.heap.size w w'))
 case atStart => exact ⟨(0), (([] : List (S57))), (.slice none 0 0), (by first | rfl | (simp; done) | (simp [*]; done)), H', ⟨Nat.le_refl _⟩, ⟨by first | exact Kd.R_nil _ _ _ _ _ | exact Kd.N_nil _ _ _ _ _ | exact Kd.V_nil _ _ _ _ _ | exact Kd.Q_nil _ _ _ _ _ | exact Kd.S_nil _ _ _ _ _⟩, ⟨by (with_reducible repeat (first | refine blk_drewN ?_ _ | refine blk_drew ?_ | refine blk_alloc ?_ _)); refine blk_far ?_ NB678_680.out _; (with_reducible repeat (first | refine blk_drewN ?_ _ | refine blk_drew ?_ | refine blk_alloc ?_ _)); refine blk_far ?_ NB678_680.out _; (with_reducible repeat (first | refine blk_drewN ?_ _ | refine blk_drew ?_ | refine blk_alloc ?_ _)); exact BK678.out⟩, ⟨by (with_reducible repeat (first | refine blk_drewN ?_ _ | refine blk_drew ?_ | refine blk_alloc ?_ _)); refine blk_far ?_ NB679_680.out _; (with_reducible repeat (first | refine blk_drewN ?_ _ | refine blk_drew ?_ | refine blk_alloc ?_ _)); refine blk_far ?_ NB679_680.out _; (with_reducible repeat (first | refine blk_drewN ?_ _ | refine blk_drew ?_ | refine blk_alloc ?_ _)); exact BK679.out⟩, ⟨by (with_reducible repeat (first | refine blk_drewN ?_ _ | refine blk_drew ?_ | refine blk_alloc ?_ _)); refine blk_put (cs := #[.int .i64 a0_0, .slice none 0 0]) ?_ 1 _ rfl; (with_reducible repeat (first | refine blk_drewN ?_ _ | refine blk_drew ?_ | refine blk_alloc ?_ _)); refine blk_put (cs := #[.int .i64 0, .slice none 0 0]) ?_ 0 _ rfl; (with_reducible repeat (first | refine blk_drewN ?_ _ | refine blk_drew ?_ | refine blk_alloc ?_ _)); exact BK680.out⟩, ⟨by repeat (first | (with_reducible first | exact HB.out | apply below_alloc | apply pw_below_drewN | apply below_drew1 | refine below_set ?_ GE678.out | refine below_set ?_ GE679.out | refine below_set ?_ GE680.out) | exact HB.out)⟩⟩
 case round =>
  clear H'
  try clear p2
  try clear c3
  try clear c4
  try clear c7
  try clear c8
  try clear hcz5_0
  try clear hcz5_1
  try clear hcz9_0
  try clear hcz9_1
  try clear hfz5_0
  try clear hfz5_1
  try clear hfz9_0
  try clear hfz9_1
  obtain ⟨x4_1, x681001_1, u681001, rfl, HA, HK1, HO_681001, BK678, BK679, BK680, HB⟩ := hrel
  cases gk with
  | zero => exact absurd HA.out (by simp [tensilelaw09_Back.l0])
  | succ k1 =>
   have H := HA.out
   clear HA
   simp only [tensilelaw09_Back.l0] at H
   by_cases c10 : x4_1 < (l0_1.length : Int)
   ·
    rw [if_pos c10] at H
    have c10b0 : decide (x4_1 < (l0_1.length : Int)) = true := decide_eq_true c10
    clear c10
    by_cases c11 : 0 ≤ x4_1
    ·
     rw [if_pos c11] at H
     have c11b0 : decide (0 ≤ x4_1) = true := decide_eq_true c11
     clear c11
     by_cases c12 : x681001_1.length < 5864062014805
     ·
      rw [if_pos c12] at H
      have LMc12 := Aside0.mk c12
      clear c12
      obtain ⟨y683, hy683⟩ : ∃ y_ : List (S57), y_ = (x681001_1 ++ [(⟨(rd_T61 l0_1 x4_1).f0, (rd_T61 l0_1 x4_1).f1, (rd_T61 l0_1 x4_1).f2⟩ : S57)]) := ⟨_, rfl⟩
      replace H : (tensilelaw09_Back.l0 k1 (wrap64 (x4_1 + 1)) a0_0 l0_1 a0_0 y683) = some (r1, r2) := by first | (rw [hy683]; with_reducible exact H) | (have H2_ := (Option.bind_some _ _).symm.trans H; rw [hy683]; with_reducible exact H2_) | (have H2_ := (Option.bind_some _ _).symm.trans H; with_reducible exact H2_) | with_reducible exact H | (rw [hy683]; exact H) | exact H
      have Ny683 := Aside0.mk hy683
      clear hy683
      have H' := Aside0.mk H
      clear H
      have hnb13 := NB678_679.out
      have hnc13 := NB679_678.out
      have hnb14 := NB678_680.out
      have hnc14 := NB680_678.out
      have hcz15_0 : wr.cell? ⟨gb678, 0, none⟩ = some (.int .i64 a0_0) := (blk_cell BK678.out 0).trans rfl
      have hcz15_1 : wr.cell? ⟨gb678, 1, none⟩ = some (.slice A0_1 l0_1.length c0_1) := (blk_cell BK678.out 1).trans rfl
      have hfz15_0 := blk_frozen BK678.out 0
      have hfz15_1 := blk_frozen BK678.out 1
      have p681 : 0 ≤ (x4_1 : Int) := of_decide_eq_true (by first | (with_reducible assumption) | assumption)
      have q681 : x4_1 < (l0_1.length : Int) := of_decide_eq_true (by first | (with_reducible assumption) | assumption)
      obtain ⟨ad681, e681, hx681_0, hx681_1, hx681_2⟩ := at_T61 HR0_1.out x4_1 p681 q681
      cases e681
      replace hx681_0 := (HB.out.cell (World.block_lt_of_cell? w _ hx681_0)).trans hx681_0
      replace hx681_1 := (HB.out.cell (World.block_lt_of_cell? w _ hx681_1)).trans hx681_1
      replace hx681_2 := (HB.out.cell (World.block_lt_of_cell? w _ hx681_2)).trans hx681_2
      replace p681 := eq_true p681
      replace q681 := eq_true q681
      go_wp2_with (first | ((with_reducible refine gate_dst (N := 5) rfl ?_); refine box_event ?hg (N := 5) ?hd (cs := #[.int .i64 0, .int .i64 0, .int .i64 0]) (t := 61) ?hr ?_; (case hd => rfl); (case hg => rfl); (case hr => first | (go_simp; done) | (go_simp; rfl)); intro gb682 hg w16 hbox hb; have n0_ := Aside0.mk (Kd.R_below (by (with_reducible repeat (first | apply Kd.R_alloc | apply Kd.R_drewN | apply Kd.R_drew)); exact HO_681001.out) hb); have n1_ := Aside0.mk (blk_below (g := gb678) (o := .cells #[.int .i64 a0_0, .slice (some ad681) l0_1.length c0_1] 31 (0, 0)) (by (with_reducible repeat (first | refine blk_drewN ?_ _ | refine blk_drew ?_ | refine blk_alloc ?_ _)); exact BK678.out) hb); have n2_ := Aside0.mk (blk_below (g := gb679) (o := .cells #[.int .i64 0, .slice none 0 0] 24 (0, 0)) (by (with_reducible repeat (first | refine blk_drewN ?_ _ | refine blk_drew ?_ | refine blk_alloc ?_ _)); exact BK679.out) hb); have n3_ := Aside0.mk (blk_below (g := gb680) (o := .cells #[.int .i64 a0_0, u681001] 24 (0, 0)) (by (with_reducible repeat (first | refine blk_drewN ?_ _ | refine blk_drew ?_ | refine blk_alloc ?_ _)); exact BK680.out) hb); have n4_ := Aside0.mk (below_step (by repeat (first | (with_reducible first | exact HB.out | apply below_alloc | apply pw_below_drewN | apply below_drew1 | refine below_set ?_ GE678.out | refine below_set ?_ GE679.out | refine below_set ?_ GE680.out) | exact HB.out)) hb); have n5_ := Aside0.mk (hbox); have n6_ := Aside0.mk ((by rw [hg]; exact (below_size (by repeat (first | (with_reducible first | exact HB.out | apply below_alloc | apply pw_below_drewN | apply below_drew1 | refine below_set ?_ GE678.out | refine below_set ?_ GE679.out | refine below_set ?_ GE680.out) | exact HB.out))) : w.heap.size ≤ gb682)); have n7_ := Aside0.mk ((by rw [hg]; exact (below_size (by repeat (first | (with_reducible first | exact HB.out | apply below_alloc | apply pw_below_drewN | apply below_drew1 | refine below_set ?_ GE678.out | refine below_set ?_ GE679.out | refine below_set ?_ GE680.out) | exact HB.out))) : w.heap.size ≤ gb682)); have n8_ := Aside0.mk ((by rw [hg]; exact Nat.ne_of_lt (blk_lt (g := gb678) (o := .cells #[.int .i64 a0_0, .slice (some ad681) l0_1.length c0_1] 31 (0, 0)) (by (with_reducible repeat (first | refine blk_drewN ?_ _ | refine blk_drew ?_ | refine blk_alloc ?_ _)); exact BK678.out)) : gb678 ≠ gb682)); have n9_ := Aside0.mk ((by rw [hg]; exact Nat.ne_of_gt (blk_lt (g := gb678) (o := .cells #[.int .i64 a0_0, .slice (some ad681) l0_1.length c0_1] 31 (0, 0)) (by (with_reducible repeat (first | refine blk_drewN ?_ _ | refine blk_drew ?_ | refine blk_alloc ?_ _)); exact BK678.out)) : gb682 ≠ gb678)); have n10_ := Aside0.mk ((by rw [hg]; exact Nat.ne_of_lt (blk_lt (g := gb679) (o := .cells #[.int .i64 0, .slice none 0 0] 24 (0, 0)) (by (with_reducible repeat (first | refine blk_drewN ?_ _ | refine blk_drew ?_ | refine blk_alloc ?_ _)); exact BK679.out)) : gb679 ≠ gb682)); have n11_ := Aside0.mk ((by rw [hg]; exact Nat.ne_of_gt (blk_lt (g := gb679) (o := .cells #[.int .i64 0, .slice none 0 0] 24 (0, 0)) (by (with_reducible repeat (first | refine blk_drewN ?_ _ | refine blk_drew ?_ | refine blk_alloc ?_ _)); exact BK679.out)) : gb682 ≠ gb679)); have n12_ := Aside0.mk ((by rw [hg]; exact Nat.ne_of_lt (blk_lt (g := gb680) (o := .cells #[.int .i64 a0_0, u681001] 24 (0, 0)) (by (with_reducible repeat (first | refine blk_drewN ?_ _ | refine blk_drew ?_ | refine blk_alloc ?_ _)); exact BK680.out)) : gb680 ≠ gb682)); have n13_ := Aside0.mk ((by rw [hg]; exact Nat.ne_of_gt (blk_lt (g := gb680) (o := .cells #[.int .i64 a0_0, u681001] 24 (0, 0)) (by (with_reducible repeat (first | refine blk_drewN ?_ _ | refine blk_drew ?_ | refine blk_alloc ?_ _)); exact BK680.out)) : gb682 ≠ gb680)); clear HO_681001; clear BK678; clear BK679; clear BK680; clear HB; have HO_681001 := n0_; have BK678 := n1_; have BK679 := n2_; have BK680 := n3_; have HB := n4_; have BK682 := n5_; have GW682 := n6_; have GE682 := n7_; have NB678_682 := n8_; have NB682_678 := n9_; have NB679_682 := n10_; have NB682_679 := n11_; have NB680_682 := n12_; have NB682_680 := n13_; clear n0_ n1_ n2_ n3_ n4_ n5_ n6_ n7_ n8_ n9_ n10_ n11_ n12_ n13_; clear hb hbox hg; have hnb17 := NB682_678.out; have hnc17 := NB678_682.out; have hnb18 := NB682_679.out; have hnc18 := NB679_682.out; have hnb19 := NB682_680.out; have hnc19 := NB680_682.out; have hcz20_0 : w16.cell? ⟨gb682, 0, none⟩ = some (.int .i64 0) := (blk_cell BK682.out 0).trans rfl; have hcz20_1 : w16.cell? ⟨gb682, 1, none⟩ = some (.int .i64 0) := (blk_cell BK682.out 1).trans rfl; have hcz20_2 : w16.cell? ⟨gb682, 2, none⟩ = some (.int .i64 0) := (blk_cell BK682.out 2).trans rfl; have hfz20_0 := blk_frozen BK682.out 0; have hfz20_1 := blk_frozen BK682.out 1; have hfz20_2 := blk_frozen BK682.out 2; have hnb21 := NB680_679.out; have hnc21 := NB679_680.out; have hcz22_0 : w16.cell? ⟨gb680, 0, none⟩ = some (.int .i64 a0_0) := (blk_cell BK680.out 0).trans rfl; have hcz22_1 : w16.cell? ⟨gb680, 1, none⟩ = some (u681001) := (blk_cell BK680.out 1).trans rfl; have hfz22_0 := blk_frozen BK680.out 0; have hfz22_1 := blk_frozen BK680.out 1) | ((with_reducible refine gate_builtin (b := .append) (xs := #[.tmp 22, .tmp 30]) rfl ?_); at_builtin; refine Kd.R_append k57 (w0 := w) w.heap.size rfl (.tmp 22) (.tmp 30) 22 57 (.agg #[(.int .i64 0), (.int .i64 0), (.int .i64 0)]) 24 rfl Try.underlying22 info57 rfl (by decide) (by omega) u681001 x681001_1 (⟨(rd_T61 l0_1 x4_1).f0, (rd_T61 l0_1 x4_1).f1, (rd_T61 l0_1 x4_1).f2⟩ : S57) [.int .i64 ((rd_T61 l0_1 x4_1).f0), .int .i64 ((rd_T61 l0_1 x4_1).f1), .int .i64 ((rd_T61 l0_1 x4_1).f2)] (fun _ => True) (fun _ => False) rfl (by first | (go_simp; done) | (go_simp; rfl)) ?aP (fun _ hk => hk.elim) ?aF ?aO ?aB ?aS ?aL ?_; (case aP => exact k57_mkM _ _ _ (⟨(rd_T61 l0_1 x4_1).f0, (rd_T61 l0_1 x4_1).f1, (rd_T61 l0_1 x4_1).f2⟩ : S57)); (case aB => exact (by repeat (first | (with_reducible first | exact HB.out | apply below_alloc | apply pw_below_drewN | apply below_drew1 | refine below_set ?_ GE678.out | refine below_set ?_ GE679.out | refine below_set ?_ GE680.out | refine below_set ?_ GE682.out) | exact HB.out))); (case aF => exact (fun _ _ => trivial)); (case aO => exact (by (with_reducible repeat (first | apply Kd.R_alloc | apply Kd.R_drewN | apply Kd.R_drew)); exact Kd.R_mono (Kd.R_far (p := ⟨gb682, 2, none⟩) (Kd.R_far (p := ⟨gb682, 1, none⟩) (Kd.R_far (p := ⟨gb682, 0, none⟩) (Kd.R_types HO_681001.out BK682.out (by decide)) (fun _ hk => hk.2) (.int .i64 ((rd_T61 l0_1 x4_1).f0))) (fun _ hk => hk.2) (.int .i64 ((rd_T61 l0_1 x4_1).f1))) (fun _ hk => hk.2) (.int .i64 ((rd_T61 l0_1 x4_1).f2))) (fun _ hk => trivial))); (case aS => exact (below_size (by repeat (first | (with_reducible first | exact HB.out | apply below_alloc | apply pw_below_drewN | apply below_drew1 | refine below_set ?_ GE678.out | refine below_set ?_ GE679.out | refine below_set ?_ GE680.out | refine below_set ?_ GE682.out) | exact HB.out)))); (case aL => have := LMc12.out; omega); intro v684 w23 ho hb hg hat; rw [← Ny683.out] at ho; have n0_ := Aside0.mk (blk_grown (g := gb678) (o := .cells #[.int .i64 a0_0, .slice (some ad681) l0_1.length c0_1] 31 (0, 0)) (by (with_reducible repeat (first | refine blk_drewN ?_ _ | refine blk_drew ?_ | refine blk_alloc ?_ _)); refine blk_far ?_ NB678_682.out _; (with_reducible repeat (first | refine blk_drewN ?_ _ | refine blk_drew ?_ | refine blk_alloc ?_ _)); refine blk_far ?_ NB678_682.out _; (with_reducible repeat (first | refine blk_drewN ?_ _ | refine blk_drew ?_ | refine blk_alloc ?_ _)); refine blk_far ?_ NB678_682.out _; (with_reducible repeat (first | refine blk_drewN ?_ _ | refine blk_drew ?_ | refine blk_alloc ?_ _)); exact BK678.out) hg (Kd.R_ne HO_681001.out BK678.out (by decide))); have n1_ := Aside0.mk (blk_grown (g := gb679) (o := .cells #[.int .i64 0, .slice none 0 0] 24 (0, 0)) (by (with_reducible repeat (first | refine blk_drewN ?_ _ | refine blk_drew ?_ | refine blk_alloc ?_ _)); refine blk_far ?_ NB679_682.out _; (with_reducible repeat (first | refine blk_drewN ?_ _ | refine blk_drew ?_ | refine blk_alloc ?_ _)); refine blk_far ?_ NB679_682.out _; (with_reducible repeat (first | refine blk_drewN ?_ _ | refine blk_drew ?_ | refine blk_alloc ?_ _)); refine blk_far ?_ NB679_682.out _; (with_reducible repeat (first | refine blk_drewN ?_ _ | refine blk_drew ?_ | refine blk_alloc ?_ _)); exact BK679.out) hg (Kd.R_ne HO_681001.out BK679.out (by decide))); have n2_ := Aside0.mk (blk_grown (g := gb680) (o := .cells #[.int .i64 a0_0, u681001] 24 (0, 0)) (by (with_reducible repeat (first | refine blk_drewN ?_ _ | refine blk_drew ?_ | refine blk_alloc ?_ _)); refine blk_far ?_ NB680_682.out _; (with_reducible repeat (first | refine blk_drewN ?_ _ | refine blk_drew ?_ | refine blk_alloc ?_ _)); refine blk_far ?_ NB680_682.out _; (with_reducible repeat (first | refine blk_drewN ?_ _ | refine blk_drew ?_ | refine blk_alloc ?_ _)); refine blk_far ?_ NB680_682.out _; (with_reducible repeat (first | refine blk_drewN ?_ _ | refine blk_drew ?_ | refine blk_alloc ?_ _)); exact BK680.out) hg (Kd.R_ne HO_681001.out BK680.out (by decide))); have n3_ := Aside0.mk (blk_grown (g := gb682) (o := .cells #[.int .i64 ((rd_T61 l0_1 x4_1).f0), .int .i64 ((rd_T61 l0_1 x4_1).f1), .int .i64 ((rd_T61 l0_1 x4_1).f2)] 61 (0, 0)) (by (with_reducible repeat (first | refine blk_drewN ?_ _ | refine blk_drew ?_ | refine blk_alloc ?_ _)); refine blk_put (cs := #[.int .i64 ((rd_T61 l0_1 x4_1).f0), .int .i64 ((rd_T61 l0_1 x4_1).f1), .int .i64 0]) ?_ 2 _ rfl; (with_reducible repeat (first | refine blk_drewN ?_ _ | refine blk_drew ?_ | refine blk_alloc ?_ _)); refine blk_put (cs := #[.int .i64 ((rd_T61 l0_1 x4_1).f0), .int .i64 0, .int .i64 0]) ?_ 1 _ rfl; (with_reducible repeat (first | refine blk_drewN ?_ _ | refine blk_drew ?_ | refine blk_alloc ?_ _)); refine blk_put (cs := #[.int .i64 0, .int .i64 0, .int .i64 0]) ?_ 0 _ rfl; (with_reducible repeat (first | refine blk_drewN ?_ _ | refine blk_drew ?_ | refine blk_alloc ?_ _)); exact BK682.out) hg (Kd.R_ne HO_681001.out BK682.out (by decide))); have n4_ := Aside0.mk (hb); have n5_ := Aside0.mk (ho); clear BK678; clear BK679; clear BK680; clear BK682; clear HB; clear HO_681001; have BK678 := n0_; have BK679 := n1_; have BK680 := n2_; have BK682 := n3_; have HB := n4_; have HO685 := n5_; clear n0_ n1_ n2_ n3_ n4_ n5_; clear ho hb hg hat; obtain ⟨Ao24, co24, eo24⟩ := Kd.R_slice HO685.out; subst eo24; have hcz25_0 : w23.cell? ⟨gb680, 0, none⟩ = some (.int .i64 a0_0) := (blk_cell BK680.out 0).trans rfl; have hcz25_1 : w23.cell? ⟨gb680, 1, none⟩ = some (u681001) := (blk_cell BK680.out 1).trans rfl; have hfz25_0 := blk_frozen BK680.out 0; have hfz25_1 := blk_frozen BK680.out 1))
      go_roundg k1
      case measure => have := HK1.out; omega
      case rel => exact ⟨(wrap64 (x4_1 + 1)), (y683), (.slice Ao24 y683.length co24), (by first | rfl | (simp; done) | (simp [*]; done)), H', ⟨by have := HK1.out; omega⟩, ⟨by (with_reducible repeat (first | apply Kd.R_alloc | apply Kd.R_drewN | apply Kd.R_drew)); exact Kd.R_mono (Kd.R_far (p := ⟨gb680, 1, none⟩) (Kd.R_types HO685.out BK680.out (by decide)) (fun _ hk => hk.2) (.slice Ao24 y683.length co24)) (fun _ hk => trivial)⟩, ⟨by (with_reducible repeat (first | refine blk_drewN ?_ _ | refine blk_drew ?_ | refine blk_alloc ?_ _)); refine blk_far ?_ NB678_680.out _; (with_reducible repeat (first | refine blk_drewN ?_ _ | refine blk_drew ?_ | refine blk_alloc ?_ _)); exact BK678.out⟩, ⟨by (with_reducible repeat (first | refine blk_drewN ?_ _ | refine blk_drew ?_ | refine blk_alloc ?_ _)); refine blk_far ?_ NB679_680.out _; (with_reducible repeat (first | refine blk_drewN ?_ _ | refine blk_drew ?_ | refine blk_alloc ?_ _)); exact BK679.out⟩, ⟨by (with_reducible repeat (first | refine blk_drewN ?_ _ | refine blk_drew ?_ | refine blk_alloc ?_ _)); refine blk_put (cs := #[.int .i64 a0_0, u681001]) ?_ 1 _ rfl; (with_reducible repeat (first | refine blk_drewN ?_ _ | refine blk_drew ?_ | refine blk_alloc ?_ _)); exact BK680.out⟩, ⟨by repeat (first | (with_reducible first | exact HB.out | apply below_alloc | apply pw_below_drewN | apply below_drew1 | refine below_set ?_ GE678.out | refine below_set ?_ GE679.out | refine below_set ?_ GE680.out | refine below_set ?_ GE682.out) | exact HB.out)⟩⟩
     ·
      rw [if_neg c12] at H
      exact absurd H (by simp)
    ·
     rw [if_neg c11] at H
     exact absurd H (by simp)
   ·
    rw [if_neg c10] at H
    have c10b0 : decide (x4_1 < (l0_1.length : Int)) = false := decide_eq_false c10
    clear c10
    simp only [Option.some.injEq, Prod.mk.injEq] at H
    obtain ⟨rfl, rfl⟩ := H
    have hnb26 := NB678_679.out
    have hnc26 := NB679_678.out
    have hnb27 := NB678_680.out
    have hnc27 := NB680_678.out
    have hcz28_0 : wr.cell? ⟨gb678, 0, none⟩ = some (.int .i64 a0_0) := (blk_cell BK678.out 0).trans rfl
    have hcz28_1 : wr.cell? ⟨gb678, 1, none⟩ = some (.slice A0_1 l0_1.length c0_1) := (blk_cell BK678.out 1).trans rfl
    have hfz28_0 := blk_frozen BK678.out 0
    have hfz28_1 := blk_frozen BK678.out 1
    have hnb29 := NB680_679.out
    have hnc29 := NB679_680.out
    have hcz30_0 : wr.cell? ⟨gb680, 0, none⟩ = some (.int .i64 a0_0) := (blk_cell BK680.out 0).trans rfl
    have hcz30_1 : wr.cell? ⟨gb680, 1, none⟩ = some (u681001) := (blk_cell BK680.out 1).trans rfl
    have hfz30_0 := blk_frozen BK680.out 0
    have hfz30_1 := blk_frozen BK680.out 1
    have hcz31_0 : wr.cell? ⟨gb679, 0, none⟩ = some (.int .i64 0) := (blk_cell BK679.out 0).trans rfl
    have hcz31_1 : wr.cell? ⟨gb679, 1, none⟩ = some (.slice none 0 0) := (blk_cell BK679.out 1).trans rfl
    have hfz31_0 := blk_frozen BK679.out 0
    have hfz31_1 := blk_frozen BK679.out 1
    obtain ⟨Ao32, co32, eo32⟩ := Kd.R_slice HO_681001.out
    subst eo32
    go_wp2
    refine bodyPost_ret (results_cell_row rfl _ _ gb679 24 #[.int .i64 a0_0, .slice Ao32 x681001_1.length co32] (0, 0) _ rfl (by (with_reducible repeat (first | refine blk_drewN ?_ _ | refine blk_drew ?_ | refine blk_alloc ?_ _)); refine blk_put (cs := #[.int .i64 a0_0, .slice none 0 0]) ?_ 1 _ rfl; (with_reducible repeat (first | refine blk_drewN ?_ _ | refine blk_drew ?_ | refine blk_alloc ?_ _)); refine blk_put (cs := #[.int .i64 0, .slice none 0 0]) ?_ 0 _ rfl; (with_reducible repeat (first | refine blk_drewN ?_ _ | refine blk_drew ?_ | refine blk_alloc ?_ _)); exact BK679.out) Try.underlying24 rfl (by kernel_rfl)) rfl ?_
    exact ⟨_, by first | rfl | (simp [errW_none, errW_some] <;> rfl) | (simp [*, errW_none, errW_some] <;> rfl), by (with_reducible repeat (first | apply Kd.R_alloc | apply Kd.R_drewN | apply Kd.R_drew)); exact Kd.R_mono (Kd.R_far (p := ⟨gb679, 1, none⟩) (Kd.R_far (p := ⟨gb679, 0, none⟩) (Kd.R_types HO_681001.out BK679.out (by decide)) (fun _ hk => hk.2) (.int .i64 a0_0)) (fun _ hk => hk.2) (.slice Ao32 x681001_1.length co32)) (fun _ hk => trivial), by repeat (first | (with_reducible first | exact HB.out | apply below_alloc | apply pw_below_drewN | apply below_drew1 | refine below_set ?_ GE678.out | refine below_set ?_ GE679.out | refine below_set ?_ GE680.out) | exact HB.out)⟩

end Go.Proofs.Ytigpnafpdmdmhaa.P

namespace Go.Proofs.Ytigpnafpdmdmhaa.P
open Go.RowKit Go.Proofs.YtigpnafpdmdmhaaW.PrintWords Go.Proofs.YtigpnafpdmdmhaaW.PrintLast

mutual
def tensilelaw09_PlanFewest.j0 : Nat → Int → Int → Int → Bool → Int → Int → Int → Int → Int → List (S57) → Int → List (S61) → Option (Bool)
 | 0, _, _, _, _, _, _, _, _, _, _, _, _ => none
 | k + 1, x3, x4, x11, x65, x687000, x687001, x687002, x687003, x688000, x688001, x700000, x700001 => if x65 = true then (none) else ((tensilelaw09_Demand.f x687000 x687001 x687002 x687003).bind fun bt705 => ((plan_Keeps.f x700000 x700001 bt705.1 bt705.2.1 bt705.2.2.1 bt705.2.2.2).bind fun bt709 => (if bt709.2 = 0 then (tensilelaw09_PlanFewest.j1 k x3 x4 x11 (!bt709.1) x687000 x687001 x687002 x687003 x688000 x688001 x700000 x700001) else (none))))
def tensilelaw09_PlanFewest.j1 : Nat → Int → Int → Int → Bool → Int → Int → Int → Int → Int → List (S57) → Int → List (S61) → Option (Bool)
 | 0, _, _, _, _, _, _, _, _, _, _, _, _ => none
 | k + 1, x3, x4, x11, x78, x687000, x687001, x687002, x687003, x688000, x688001, x700000, x700001 => if x78 = true then (none) else (if x11 = 0 then (none) else (if 0 < (x700001.length : Int) then (if (wrap64 (1 + (Int.tmod (wrap64 (x3)) x11))) < ((rd_T61 x700001 0).f0) then (if (wrap64 ((wrap64 (1 + (Int.tmod (wrap64 (x3)) x11))) + 2)) = 0 then (none) else ((tensilelaw09_Demand.f x687000 x687001 x687002 x687003).bind fun bt715 => ((plan_Keeps.f x11 (([(⟨wrap64 (1 + (Int.tmod (wrap64 (x3)) x11)), wrap64 ((Int.tmod (wrap64 (x4)) (wrap64 ((wrap64 (1 + (Int.tmod (wrap64 (x3)) x11))) + 2))) - 1), wrap64 ((wrap64 ((Int.tmod (wrap64 (x4)) (wrap64 ((wrap64 (1 + (Int.tmod (wrap64 (x3)) x11))) + 2))) - 1)) + 1)⟩ : S61)] : List (S61))) bt715.1 bt715.2.1 bt715.2.2.1 bt715.2.2.2).bind fun bt719 => (if bt719.2 = 0 then (if bt719.1 = true then (none) else (tensilelaw09_PlanFewest.j2 k x11 x687000 x687001 x687002 x687003 x688000 x688001)) else (none))))) else (tensilelaw09_PlanFewest.j2 k x11 x687000 x687001 x687002 x687003 x688000 x688001)) else (none)))
def tensilelaw09_PlanFewest.j2 : Nat → Int → Int → Int → Int → Int → Int → List (S57) → Option (Bool)
 | 0, _, _, _, _, _, _, _ => none
 | k + 1, x11, x687000, x687001, x687002, x687003, x688000, x688001 => if x11 > 7 then ((tensilelaw09_wakes.f).bind fun t721 => (some t721)) else ((tensilelaw09_Demand.f x687000 x687001 x687002 x687003).bind fun bt722 => ((plan_Double.f x11 bt722.1 bt722.2.1 bt722.2.2.1 bt722.2.2.2).bind fun bt726 => ((tensilelaw09_ready.f k x688000 x688001).bind fun t732 => (if t732 = true then (if x688000 = x11 then (tensilelaw09_PlanFewest.j3 k x11 bt726.2.2 ((x688001.length : Int) == 2) x687000 x687001 x687002 x687003 x688000 x688001 bt726.1 bt726.2.1) else (tensilelaw09_PlanFewest.j3 k x11 bt726.2.2 false x687000 x687001 x687002 x687003 x688000 x688001 bt726.1 bt726.2.1)) else (tensilelaw09_PlanFewest.j3 k x11 bt726.2.2 false x687000 x687001 x687002 x687003 x688000 x688001 bt726.1 bt726.2.1)))))
def tensilelaw09_PlanFewest.j3 : Nat → Int → Int → Bool → Int → Int → Int → Int → Int → List (S57) → Int → List (S61) → Option (Bool)
 | 0, _, _, _, _, _, _, _, _, _, _, _ => none
 | k + 1, x11, x21, x22, x687000, x687001, x687002, x687003, x688000, x688001, x732000, x732001 => if x22 = true then ((tensilelaw09_Plan.f k x688000 x688001).bind fun bt733 => ((tensilelaw09_Demand.f x687000 x687001 x687002 x687003).bind fun bt737 => ((plan_Keeps.f bt733.1 bt733.2 bt737.1 bt737.2.1 bt737.2.2.1 bt737.2.2.2).bind fun bt741 => (if bt741.2 = 0 then (tensilelaw09_PlanFewest.j4 k x11 x21 bt741.1 x687000 x687001 x687002 x687003 x688000 x688001 x732000 x732001) else (none))))) else (tensilelaw09_PlanFewest.j4 k x11 x21 x22 x687000 x687001 x687002 x687003 x688000 x688001 x732000 x732001)
def tensilelaw09_PlanFewest.j4 : Nat → Int → Int → Bool → Int → Int → Int → Int → Int → List (S57) → Int → List (S61) → Option (Bool)
 | 0, _, _, _, _, _, _, _, _, _, _, _ => none
 | k + 1, x11, x21, x22, x687000, x687001, x687002, x687003, x688000, x688001, x732000, x732001 => if x21 = 0 then ((tensilelaw09_Back.f k x732000 x732001).bind fun bt744 => ((tensileref09_Fault.f k bt744.1 bt744.2).bind fun t748 => (if t748 = 0 then (if (x732001.length : Int) = 2 then (tensilelaw09_PlanFewest.j5 k x22 (x732000 != x11) x687000 x687001 x687002 x687003 x688000 x688001 x732000 x732001) else (none)) else (none)))) else (if x21 = 9 then (if x22 = true then (none) else ((tensilelaw09_wakes.f).bind fun t743 => (some t743))) else (none))
def tensilelaw09_PlanFewest.j5 : Nat → Bool → Bool → Int → Int → Int → Int → Int → List (S57) → Int → List (S61) → Option (Bool)
 | 0, _, _, _, _, _, _, _, _, _, _ => none
 | k + 1, x22, x178, x687000, x687001, x687002, x687003, x688000, x688001, x732000, x732001 => if x178 = true then (none) else ((tensilelaw09_Demand.f x687000 x687001 x687002 x687003).bind fun bt749 => ((plan_Keeps.f x732000 x732001 bt749.1 bt749.2.1 bt749.2.2.1 bt749.2.2.2).bind fun bt753 => ((plan_Mean.f x732000 x732001 x687000).bind fun bt755 => (if bt753.2 = 0 then (if bt753.1 = true then (tensilelaw09_PlanFewest.j6 k x22 (bt755.2.2 != 0) x687000 x687001 x687002 x687003 x688000 x688001 bt755.1 bt755.2.1) else (none)) else (none)))))
def tensilelaw09_PlanFewest.j6 : Nat → Bool → Bool → Int → Int → Int → Int → Int → List (S57) → Int → Int → Option (Bool)
 | 0, _, _, _, _, _, _, _, _, _, _ => none
 | k + 1, x22, x202, x687000, x687001, x687002, x687003, x688000, x688001, x759000, x759001 => if x202 = true then (none) else (if x22 = true then ((tensilelaw09_Plan.f k x688000 x688001).bind fun bt760 => ((plan_Mean.f bt760.1 bt760.2 x687000).bind fun bt764 => (if bt764.2.2 = 0 then ((tensilelaw09_least.f x759000 x759001 bt764.1 bt764.2.1).bind fun t768 => (if t768 = true then ((tensilelaw09_wakes.f).bind fun t769 => (some t769)) else (none))) else (none)))) else ((tensilelaw09_wakes.f).bind fun t759 => (some t759)))
end
def tensilelaw09_PlanFewest.f (k : Nat) (a0 : Int) (a1_0 : Int) (a1_1 : Int) (a1_2 : Int) (a1_3 : Int) (a2_0 : Int) (l2_1 : List (S57)) (a3 : Int) (a4 : Int) : Option (Bool) := (tensilelaw09_asked.f (Int.tmod (wrap64 (a0)) 31) 30 a1_0 a1_1 a1_2 a1_3).bind fun t688 => (if t688 = 0 then ((tensilelaw09_Demand.f a1_0 a1_1 a1_2 a1_3).bind fun bt690 => ((plan_Single.f (Int.tmod (wrap64 (a0)) 31) bt690.1 bt690.2.1 bt690.2.2.1 bt690.2.2.2).bind fun bt694 => (if bt694.2.2 = 0 then ((tensilelaw09_Back.f k bt694.1 bt694.2.1).bind fun bt700 => ((tensileref09_Fault.f k bt700.1 bt700.2).bind fun t704 => (if t704 = 0 then (if (bt694.2.1.length : Int) = 1 then (tensilelaw09_PlanFewest.j0 k a3 a4 (Int.tmod (wrap64 (a0)) 31) (bt694.1 != (Int.tmod (wrap64 (a0)) 31)) a1_0 a1_1 a1_2 a1_3 a2_0 l2_1 bt694.1 bt694.2.1) else (none)) else (none)))) else (none)))) else ((tensilelaw09_wakes.f).bind fun t689 => (some t689)))
def tensilelaw09_PlanFewest.T7 : Bool × List (List Nat × List Nat) := (true, [([], []), ([], []), ([1], [1]), ([0, 2, 2], [0, 2]), ([3], [3]), ([4], [4]), ([4], [4]), ([5, 3, 0, 1, 2, 3, 4, 5], [5]), ([6, 7, 0, 1, 2, 3, 4, 5, 6, 7], [6])])
def tensilelaw09_PlanFewest.B7 : List Nat := [0, 0, 2, 7, 15, 31, 31, 63, 255]
theorem tensilelaw09_PlanFewest.tab7 : rtab .any (opsOf Try.f13 7) = tensilelaw09_PlanFewest.T7 := by kernel_rfl
theorem tensilelaw09_PlanFewest.bits7 : waitsOk tensilelaw09_PlanFewest.T7.2 tensilelaw09_PlanFewest.B7 = true := by kernel_rfl
def tensilelaw09_PlanFewest.T21 : Bool × List (List Nat × List Nat) := (true, [([], []), ([0], [0]), ([], []), ([2, 1], [2]), ([1, 3, 3], [1, 3]), ([4], [4]), ([5], [5]), ([5], [5]), ([6, 4, 0, 1, 2, 3, 4, 5, 6], [6]), ([7, 8, 0, 1, 2, 3, 4, 5, 6, 7, 8], [7])])
def tensilelaw09_PlanFewest.B21 : List Nat := [0, 1, 0, 7, 15, 31, 63, 63, 127, 511]
theorem tensilelaw09_PlanFewest.tab21 : rtab .any (opsOf Try.f13 21) = tensilelaw09_PlanFewest.T21 := by kernel_rfl
theorem tensilelaw09_PlanFewest.bits21 : waitsOk tensilelaw09_PlanFewest.T21.2 tensilelaw09_PlanFewest.B21 = true := by kernel_rfl
def tensilelaw09_PlanFewest.T29 : Bool × List (List Nat × List Nat) := (true, [([], []), ([], []), ([1], [1]), ([0, 2, 2], [0, 2]), ([3], [3]), ([4], [4]), ([4], [4]), ([5, 3, 0, 1, 2, 3, 4, 5], [5]), ([6, 7, 0, 1, 2, 3, 4, 5, 6, 7], [6])])
def tensilelaw09_PlanFewest.B29 : List Nat := [0, 0, 2, 7, 15, 31, 31, 63, 255]
theorem tensilelaw09_PlanFewest.tab29 : rtab .any (opsOf Try.f13 29) = tensilelaw09_PlanFewest.T29 := by kernel_rfl
theorem tensilelaw09_PlanFewest.bits29 : waitsOk tensilelaw09_PlanFewest.T29.2 tensilelaw09_PlanFewest.B29 = true := by kernel_rfl
def tensilelaw09_PlanFewest.T35 : Bool × List (List Nat × List Nat) := (true, [([], []), ([0], [0]), ([], []), ([2], [2]), ([1, 3, 1], [1, 3]), ([4], [4]), ([5], [5]), ([5], [5]), ([], []), ([8, 6, 4, 0, 1, 2, 3, 4, 5, 6, 8], [6, 8]), ([7, 9, 0, 1, 2, 3, 4, 5, 6, 7, 8, 9], [7])])
def tensilelaw09_PlanFewest.B35 : List Nat := [0, 1, 0, 4, 15, 31, 63, 63, 0, 383, 1023]
theorem tensilelaw09_PlanFewest.tab35 : rtab .any (opsOf Try.f13 35) = tensilelaw09_PlanFewest.T35 := by kernel_rfl
theorem tensilelaw09_PlanFewest.bits35 : waitsOk tensilelaw09_PlanFewest.T35.2 tensilelaw09_PlanFewest.B35 = true := by kernel_rfl
end Go.Proofs.Ytigpnafpdmdmhaa.P
