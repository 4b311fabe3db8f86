/- The statement CreepEnds: whatever the input (its guards are the law's own), the call returns true, and each argument reads as it did. -/
import Derived.Test.YtdagijgoegkphaaC2
import Derived.Test.YtdagijgoegkphaaC3
import Derived.Test.YtdagijgoegkphaaRows
import Derived.WalkKit
import Derived.ProofKit
import Derived.OpenShut
import Derived.ShutString
import Derived.ChangeOld
import Derived.Below
import Derived.SizedLaws
set_option linter.unusedVariables false
set_option linter.unusedSimpArgs false
namespace Go.Proofs.Ytdagijgoegkphaa.P
open Go.RowKit Go.Proofs.YtdagijgoegkphaaW.PrintWords Go.Proofs.YtdagijgoegkphaaW.PrintLast Go.Proofs.YtdagijgoegkphaaW.PrintMore
attribute [local go_sem] max2_int min2_int max_two min_two max_three min_three max_four min_four   -- for this text's walks alone

/-! ### tensilelaw05_ready: function 16 -/
def tensilelaw05_ready.f (k : Nat) (l0_0 : List (S54)) (l1 : List (S81)) (l2 : List (S56)) : Option (Bool) := (tensilelaw05_Thin.f k l0_0 l1 l2).bind fun t300 => (if t300 = true then ((tensilelaw05_fault.f k l0_0 l1).bind fun t301 => (if t301 = 0 then ((tensileref05_IsPlan.f k l0_0 l2).bind fun t302 => (some t302)) else (some false))) else (some false))
set_option maxHeartbeats 8000000 in
set_option maxRecDepth 100000 in
theorem tensilelaw05_ready.calls (k : Nat) (A0_0 : Option Addr) (c0_0 : Nat) (l0_0 : List (S54)) (A1 : Option Addr) (c1 : Nat) (l1 : List (S81)) (A2 : Option Addr) (c2 : Nat) (l2 : List (S56)) (r : Bool) (w : World) (hr0_0 : Kd.C k54 w A0_0 l0_0.length l0_0) (hc0_0 : l0_0.length ≤ c0_0) (hr1 : Kd.C k81 w A1 l1.length l1) (hc1 : l1.length ≤ c1) (hr2 : Kd.C k56 w A2 l2.length l2) (hc2 : l2.length ≤ c2) (h : tensilelaw05_ready.f k l0_0 l1 l2 = some r) :
  Calls Try.prog 16 #[.agg #[.slice A0_0 l0_0.length c0_0], .slice A1 l1.length c1, .slice A2 l2.length c2] w fun e w' => e = .returned (.bool r) ∧ Below w.heap.size w w' := by
 have hu24 := Try.underlying24
 have HR0_0 := Aside0.mk hr0_0
 have HC0_0 := Aside0.mk hc0_0
 clear hr0_0 hc0_0
 have HR1 := Aside0.mk hr1
 have HC1 := Aside0.mk hc1
 clear hr1 hc1
 have HR2 := Aside0.mk hr2
 have HC2 := Aside0.mk hc2
 clear hr2 hc2
 have HB := Aside0.mk (Below.refl w.heap.size w)
 have H : ((tensilelaw05_Thin.f k l0_0 l1 l2).bind fun t300 => (if t300 = true then ((tensilelaw05_fault.f k l0_0 l1).bind fun t301 => (if t301 = 0 then ((tensileref05_IsPlan.f k l0_0 l2).bind fun t302 => (some t302)) else (some false))) else (some false))) = some r := h
 clear h
 replace H := Option.bind_eq_some_iff.mp H
 obtain ⟨t300, A40, H⟩ := H
 replace H : (if t300 = true then ((tensilelaw05_fault.f k l0_0 l1).bind fun t301 => (if t301 = 0 then ((tensileref05_IsPlan.f k l0_0 l2).bind fun t302 => (some t302)) else (some false))) else (some false)) = some r := H
 have A4 := Aside0.mk A40
 clear A40
 by_cases c5 : t300 = true
 ·
  subst c5
  have H1 : ((tensilelaw05_fault.f k l0_0 l1).bind fun t301 => (if t301 = 0 then ((tensileref05_IsPlan.f k l0_0 l2).bind fun t302 => (some t302)) else (some false))) = some r := by rw [if_pos rfl] at H; exact H
  clear H
  have H := H1
  clear H1
  replace H := Option.bind_eq_some_iff.mp H
  obtain ⟨t301, A60, H⟩ := H
  replace H : (if t301 = 0 then ((tensileref05_IsPlan.f k l0_0 l2).bind fun t302 => (some t302)) else (some false)) = some r := H
  have A6 := Aside0.mk A60
  clear A60
  by_cases c7 : t301 = 0
  ·
   rw [if_pos c7] at H
   have c7b0 : (t301 == 0) = true := beq_iff_eq.mpr c7
   have c7b1 : (t301 != 0) = false := bne_eq_false_iff_eq.mpr c7
   clear c7
   replace H := Option.bind_eq_some_iff.mp H
   obtain ⟨t302, A80, H⟩ := H
   replace H : (some t302) = some r := H
   have A8 := Aside0.mk A80
   clear A80
   obtain rfl := Option.some.inj H
   go_enter Try.func16, Try.ntmps16
   go_wp2_with (first | ((with_reducible refine gate_dst (N := 3) rfl ?_); refine box_event ?hg (N := 3) ?hd (cs := #[.slice A0_0 l0_0.length c0_0]) (t := 24) ?hr ?_; (case hd => rfl); (case hg => rfl); (case hr => first | (go_simp; done) | (go_simp; rfl)); intro gb299 hg w9 hbox hb; have n0_ := Aside0.mk (below_step (by repeat (first | (with_reducible first | exact HB.out | apply below_alloc | apply pw_below_drewN | apply below_drew1) | exact HB.out)) hb); have n1_ := Aside0.mk (hbox); have n2_ := Aside0.mk ((by rw [hg]; exact (below_size (by repeat (first | (with_reducible first | exact HB.out | apply below_alloc | apply pw_below_drewN | apply below_drew1) | exact HB.out))) : w.heap.size ≤ gb299)); have n3_ := Aside0.mk ((by rw [hg]; exact (below_size (by repeat (first | (with_reducible first | exact HB.out | apply below_alloc | apply pw_below_drewN | apply below_drew1) | exact HB.out))) : w.heap.size ≤ gb299)); clear HB; have HB := n0_; have BK299 := n1_; have GW299 := n2_; have GE299 := n3_; clear n0_ n1_ n2_ n3_; clear hb hbox hg; have hcz10_0 : w9.cell? ⟨gb299, 0, none⟩ = some (.slice A0_0 l0_0.length c0_0) := (blk_cell BK299.out 0).trans rfl; have hfz10_0 := blk_frozen BK299.out 0) | ((with_reducible refine gate_callee (f := 37) rfl ?_); refine goesL_ (some 10) rfl rfl Try.func37 (by kernel_rfl) rfl #[.agg #[.slice A0_0 l0_0.length c0_0], .slice A1 l1.length c1, .slice A2 l2.length c2] rfl (by (try simp only [List.map_toArray, List.map_cons, List.map_nil]); first | done | rfl | (simp only [List.length_drop, List.length_take]; rfl)) ?_; (with_reducible refine (tensilelaw05_Thin.calls k _ _ l0_0 _ _ l1 _ _ l2 true _ ?side1 ?side2 ?side3 ?side4 ?side5 ?side6 A4.out).mono ?_); (case side1 => repeat (first | exact (Kd.C_below HR0_0.out HB.out) | (with_reducible refine Kd.C_alloc ?_ _) | (with_reducible refine Kd.C_drewN ?_ _) | (with_reducible refine Kd.C_drew ?_))); (case side2 => exact HC0_0.out); (case side3 => repeat (first | exact (Kd.C_below HR1.out HB.out) | (with_reducible refine Kd.C_alloc ?_ _) | (with_reducible refine Kd.C_drewN ?_ _) | (with_reducible refine Kd.C_drew ?_))); (case side4 => exact HC1.out); (case side5 => repeat (first | exact (Kd.C_below HR2.out HB.out) | (with_reducible refine Kd.C_alloc ?_ _) | (with_reducible refine Kd.C_drewN ?_ _) | (with_reducible refine Kd.C_drew ?_))); (case side6 => exact HC2.out); rintro e w11 ⟨rfl, hb⟩; refine ⟨_, rfl, ?_⟩; have n0_ := Aside0.mk (blk_below (g := gb299) (o := .cells #[.slice A0_0 l0_0.length c0_0] 24 (0, 0)) (by (with_reducible repeat (first | refine blk_drewN ?_ _ | refine blk_drew ?_ | refine blk_alloc ?_ _)); exact BK299.out) hb); have n1_ := Aside0.mk (below_step (by repeat (first | (with_reducible first | exact HB.out | apply below_alloc | apply pw_below_drewN | apply below_drew1 | refine below_set ?_ GE299.out) | exact HB.out)) hb); clear BK299; clear HB; have BK299 := n0_; have HB := n1_; clear n0_ n1_; (try clear hb); (try clear hb2); (try clear hk); (try clear hi); have hcz12_0 : w11.cell? ⟨gb299, 0, none⟩ = some (.slice A0_0 l0_0.length c0_0) := (blk_cell BK299.out 0).trans rfl; have hfz12_0 := blk_frozen BK299.out 0) | (go_at_call 49; (with_reducible refine (tensilelaw05_fault.calls k _ _ l0_0 _ _ l1 t301 _ ?side1 ?side2 ?side3 ?side4 A6.out).mono ?_); (case side1 => repeat (first | exact (Kd.C_below HR0_0.out HB.out) | (with_reducible refine Kd.C_alloc ?_ _) | (with_reducible refine Kd.C_drewN ?_ _) | (with_reducible refine Kd.C_drew ?_))); (case side2 => exact HC0_0.out); (case side3 => repeat (first | exact (Kd.C_below HR1.out HB.out) | (with_reducible refine Kd.C_alloc ?_ _) | (with_reducible refine Kd.C_drewN ?_ _) | (with_reducible refine Kd.C_drew ?_))); (case side4 => exact HC1.out); rintro e w13 ⟨rfl, hb⟩; have n0_ := Aside0.mk (blk_below (g := gb299) (o := .cells #[.slice A0_0 l0_0.length c0_0] 24 (0, 0)) (by (with_reducible repeat (first | refine blk_drewN ?_ _ | refine blk_drew ?_ | refine blk_alloc ?_ _)); exact BK299.out) hb); have n1_ := Aside0.mk (below_step (by repeat (first | (with_reducible first | exact HB.out | apply below_alloc | apply pw_below_drewN | apply below_drew1 | refine below_set ?_ GE299.out) | exact HB.out)) hb); clear BK299; clear HB; have BK299 := n0_; have HB := n1_; clear n0_ n1_; (try clear hb); (try clear hb2); (try clear hk); (try clear hi); have hcz14_0 : w13.cell? ⟨gb299, 0, none⟩ = some (.slice A0_0 l0_0.length c0_0) := (blk_cell BK299.out 0).trans rfl; have hfz14_0 := blk_frozen BK299.out 0) | (go_at_call 44; (with_reducible refine (tensileref05_IsPlan.calls k _ _ l0_0 _ _ l2 t302 _ ?side1 ?side2 ?side3 ?side4 A8.out).mono ?_); (case side1 => repeat (first | exact (Kd.C_below HR0_0.out HB.out) | (with_reducible refine Kd.C_alloc ?_ _) | (with_reducible refine Kd.C_drewN ?_ _) | (with_reducible refine Kd.C_drew ?_))); (case side2 => exact HC0_0.out); (case side3 => repeat (first | exact (Kd.C_below HR2.out HB.out) | (with_reducible refine Kd.C_alloc ?_ _) | (with_reducible refine Kd.C_drewN ?_ _) | (with_reducible refine Kd.C_drew ?_))); (case side4 => exact HC2.out); rintro e w15 ⟨rfl, hb⟩; have n0_ := Aside0.mk (blk_below (g := gb299) (o := .cells #[.slice A0_0 l0_0.length c0_0] 24 (0, 0)) (by (with_reducible repeat (first | refine blk_drewN ?_ _ | refine blk_drew ?_ | refine blk_alloc ?_ _)); exact BK299.out) hb); have n1_ := Aside0.mk (below_step (by repeat (first | (with_reducible first | exact HB.out | apply below_alloc | apply pw_below_drewN | apply below_drew1 | refine below_set ?_ GE299.out) | exact HB.out)) hb); clear BK299; clear HB; have BK299 := n0_; have HB := n1_; clear n0_ n1_; (try clear hb); (try clear hb2); (try clear hk); (try clear hi)))
   go_ret
   exact ⟨by first | rfl | (simp [errW_none, errW_some] <;> rfl) | (simp [*, errW_none, errW_some] <;> rfl), by repeat (first | (with_reducible first | exact HB.out | apply below_alloc | apply pw_below_drewN | apply below_drew1 | refine below_set ?_ GE299.out) | exact HB.out)⟩
  ·
   rw [if_neg c7] at H
   have c7b0 : (t301 == 0) = false := beq_eq_false_iff_ne.mpr c7
   have c7b1 : (t301 != 0) = true := bne_iff_ne.mpr c7
   obtain rfl := Option.some.inj H
   go_enter Try.func16, Try.ntmps16
   go_wp2_with (first | ((with_reducible refine gate_dst (N := 3) rfl ?_); refine box_event ?hg (N := 3) ?hd (cs := #[.slice A0_0 l0_0.length c0_0]) (t := 24) ?hr ?_; (case hd => rfl); (case hg => rfl); (case hr => first | (go_simp; done) | (go_simp; rfl)); intro gb299 hg w16 hbox hb; have n0_ := Aside0.mk (below_step (by repeat (first | (with_reducible first | exact HB.out | apply below_alloc | apply pw_below_drewN | apply below_drew1) | exact HB.out)) hb); have n1_ := Aside0.mk (hbox); have n2_ := Aside0.mk ((by rw [hg]; exact (below_size (by repeat (first | (with_reducible first | exact HB.out | apply below_alloc | apply pw_below_drewN | apply below_drew1) | exact HB.out))) : w.heap.size ≤ gb299)); have n3_ := Aside0.mk ((by rw [hg]; exact (below_size (by repeat (first | (with_reducible first | exact HB.out | apply below_alloc | apply pw_below_drewN | apply below_drew1) | exact HB.out))) : w.heap.size ≤ gb299)); clear HB; have HB := n0_; have BK299 := n1_; have GW299 := n2_; have GE299 := n3_; clear n0_ n1_ n2_ n3_; clear hb hbox hg; have hcz17_0 : w16.cell? ⟨gb299, 0, none⟩ = some (.slice A0_0 l0_0.length c0_0) := (blk_cell BK299.out 0).trans rfl; have hfz17_0 := blk_frozen BK299.out 0) | ((with_reducible refine gate_callee (f := 37) rfl ?_); refine goesL_ (some 10) rfl rfl Try.func37 (by kernel_rfl) rfl #[.agg #[.slice A0_0 l0_0.length c0_0], .slice A1 l1.length c1, .slice A2 l2.length c2] rfl (by (try simp only [List.map_toArray, List.map_cons, List.map_nil]); first | done | rfl | (simp only [List.length_drop, List.length_take]; rfl)) ?_; (with_reducible refine (tensilelaw05_Thin.calls k _ _ l0_0 _ _ l1 _ _ l2 true _ ?side1 ?side2 ?side3 ?side4 ?side5 ?side6 A4.out).mono ?_); (case side1 => repeat (first | exact (Kd.C_below HR0_0.out HB.out) | (with_reducible refine Kd.C_alloc ?_ _) | (with_reducible refine Kd.C_drewN ?_ _) | (with_reducible refine Kd.C_drew ?_))); (case side2 => exact HC0_0.out); (case side3 => repeat (first | exact (Kd.C_below HR1.out HB.out) | (with_reducible refine Kd.C_alloc ?_ _) | (with_reducible refine Kd.C_drewN ?_ _) | (with_reducible refine Kd.C_drew ?_))); (case side4 => exact HC1.out); (case side5 => repeat (first | exact (Kd.C_below HR2.out HB.out) | (with_reducible refine Kd.C_alloc ?_ _) | (with_reducible refine Kd.C_drewN ?_ _) | (with_reducible refine Kd.C_drew ?_))); (case side6 => exact HC2.out); rintro e w18 ⟨rfl, hb⟩; refine ⟨_, rfl, ?_⟩; have n0_ := Aside0.mk (blk_below (g := gb299) (o := .cells #[.slice A0_0 l0_0.length c0_0] 24 (0, 0)) (by (with_reducible repeat (first | refine blk_drewN ?_ _ | refine blk_drew ?_ | refine blk_alloc ?_ _)); exact BK299.out) hb); have n1_ := Aside0.mk (below_step (by repeat (first | (with_reducible first | exact HB.out | apply below_alloc | apply pw_below_drewN | apply below_drew1 | refine below_set ?_ GE299.out) | exact HB.out)) hb); clear BK299; clear HB; have BK299 := n0_; have HB := n1_; clear n0_ n1_; (try clear hb); (try clear hb2); (try clear hk); (try clear hi); have hcz19_0 : w18.cell? ⟨gb299, 0, none⟩ = some (.slice A0_0 l0_0.length c0_0) := (blk_cell BK299.out 0).trans rfl; have hfz19_0 := blk_frozen BK299.out 0) | (go_at_call 49; (with_reducible refine (tensilelaw05_fault.calls k _ _ l0_0 _ _ l1 t301 _ ?side1 ?side2 ?side3 ?side4 A6.out).mono ?_); (case side1 => repeat (first | exact (Kd.C_below HR0_0.out HB.out) | (with_reducible refine Kd.C_alloc ?_ _) | (with_reducible refine Kd.C_drewN ?_ _) | (with_reducible refine Kd.C_drew ?_))); (case side2 => exact HC0_0.out); (case side3 => repeat (first | exact (Kd.C_below HR1.out HB.out) | (with_reducible refine Kd.C_alloc ?_ _) | (with_reducible refine Kd.C_drewN ?_ _) | (with_reducible refine Kd.C_drew ?_))); (case side4 => exact HC1.out); rintro e w20 ⟨rfl, hb⟩; have n0_ := Aside0.mk (blk_below (g := gb299) (o := .cells #[.slice A0_0 l0_0.length c0_0] 24 (0, 0)) (by (with_reducible repeat (first | refine blk_drewN ?_ _ | refine blk_drew ?_ | refine blk_alloc ?_ _)); exact BK299.out) hb); have n1_ := Aside0.mk (below_step (by repeat (first | (with_reducible first | exact HB.out | apply below_alloc | apply pw_below_drewN | apply below_drew1 | refine below_set ?_ GE299.out) | exact HB.out)) hb); clear BK299; clear HB; have BK299 := n0_; have HB := n1_; clear n0_ n1_; (try clear hb); (try clear hb2); (try clear hk); (try clear hi)))
   go_ret
   exact ⟨by first | rfl | (simp [errW_none, errW_some] <;> rfl) | (simp [*, errW_none, errW_some] <;> rfl), by repeat (first | (with_reducible first | exact HB.out | apply below_alloc | apply pw_below_drewN | apply below_drew1 | refine below_set ?_ GE299.out) | exact HB.out)⟩
 ·
  replace c5 := Bool.eq_false_iff.mpr c5
  subst c5
  have H1 : (some false) = some r := by rw [if_neg (show ¬ (false = true) by decide)] at H; exact H
  clear H
  have H := H1
  clear H1
  obtain rfl := Option.some.inj H
  go_enter Try.func16, Try.ntmps16
  go_wp2_with (first | ((with_reducible refine gate_dst (N := 3) rfl ?_); refine box_event ?hg (N := 3) ?hd (cs := #[.slice A0_0 l0_0.length c0_0]) (t := 24) ?hr ?_; (case hd => rfl); (case hg => rfl); (case hr => first | (go_simp; done) | (go_simp; rfl)); intro gb299 hg w21 hbox hb; have n0_ := Aside0.mk (below_step (by repeat (first | (with_reducible first | exact HB.out | apply below_alloc | apply pw_below_drewN | apply below_drew1) | exact HB.out)) hb); have n1_ := Aside0.mk (hbox); have n2_ := Aside0.mk ((by rw [hg]; exact (below_size (by repeat (first | (with_reducible first | exact HB.out | apply below_alloc | apply pw_below_drewN | apply below_drew1) | exact HB.out))) : w.heap.size ≤ gb299)); have n3_ := Aside0.mk ((by rw [hg]; exact (below_size (by repeat (first | (with_reducible first | exact HB.out | apply below_alloc | apply pw_below_drewN | apply below_drew1) | exact HB.out))) : w.heap.size ≤ gb299)); clear HB; have HB := n0_; have BK299 := n1_; have GW299 := n2_; have GE299 := n3_; clear n0_ n1_ n2_ n3_; clear hb hbox hg; have hcz22_0 : w21.cell? ⟨gb299, 0, none⟩ = some (.slice A0_0 l0_0.length c0_0) := (blk_cell BK299.out 0).trans rfl; have hfz22_0 := blk_frozen BK299.out 0) | ((with_reducible refine gate_callee (f := 37) rfl ?_); refine goesL_ (some 10) rfl rfl Try.func37 (by kernel_rfl) rfl #[.agg #[.slice A0_0 l0_0.length c0_0], .slice A1 l1.length c1, .slice A2 l2.length c2] rfl (by (try simp only [List.map_toArray, List.map_cons, List.map_nil]); first | done | rfl | (simp only [List.length_drop, List.length_take]; rfl)) ?_; (with_reducible refine (tensilelaw05_Thin.calls k _ _ l0_0 _ _ l1 _ _ l2 false _ ?side1 ?side2 ?side3 ?side4 ?side5 ?side6 A4.out).mono ?_); (case side1 => repeat (first | exact (Kd.C_below HR0_0.out HB.out) | (with_reducible refine Kd.C_alloc ?_ _) | (with_reducible refine Kd.C_drewN ?_ _) | (with_reducible refine Kd.C_drew ?_))); (case side2 => exact HC0_0.out); (case side3 => repeat (first | exact (Kd.C_below HR1.out HB.out) | (with_reducible refine Kd.C_alloc ?_ _) | (with_reducible refine Kd.C_drewN ?_ _) | (with_reducible refine Kd.C_drew ?_))); (case side4 => exact HC1.out); (case side5 => repeat (first | exact (Kd.C_below HR2.out HB.out) | (with_reducible refine Kd.C_alloc ?_ _) | (with_reducible refine Kd.C_drewN ?_ _) | (with_reducible refine Kd.C_drew ?_))); (case side6 => exact HC2.out); rintro e w23 ⟨rfl, hb⟩; refine ⟨_, rfl, ?_⟩; have n0_ := Aside0.mk (blk_below (g := gb299) (o := .cells #[.slice A0_0 l0_0.length c0_0] 24 (0, 0)) (by (with_reducible repeat (first | refine blk_drewN ?_ _ | refine blk_drew ?_ | refine blk_alloc ?_ _)); exact BK299.out) hb); have n1_ := Aside0.mk (below_step (by repeat (first | (with_reducible first | exact HB.out | apply below_alloc | apply pw_below_drewN | apply below_drew1 | refine below_set ?_ GE299.out) | exact HB.out)) hb); clear BK299; clear HB; have BK299 := n0_; have HB := n1_; clear n0_ n1_; (try clear hb); (try clear hb2); (try clear hk); (try clear hi)))
  go_ret
  exact ⟨by first | rfl | (simp [errW_none, errW_some] <;> rfl) | (simp [*, errW_none, errW_some] <;> rfl), by repeat (first | (with_reducible first | exact HB.out | apply below_alloc | apply pw_below_drewN | apply below_drew1 | refine below_set ?_ GE299.out) | exact HB.out)⟩

end Go.Proofs.Ytdagijgoegkphaa.P

namespace Go.Proofs.Ytdagijgoegkphaa.P
open Go.RowKit
theorem field540 (x y : Int) (W : World) : (Instr.field 54 (.agg #[.int .i64 x, .int .i64 y]) 0).run Try.prog W = .ok (.int .i64 x) W := by
  have p0 := Hand.part3 #[.int .i64 x, .int .i64 y] 0 (.int .i64 x) rfl
  unfold Instr.field
  simp only [Sem.run_bind, run_underlying Try.underlying54 W, Result.andThen_ok]
  exact p0 W
theorem field541 (x y : Int) (W : World) : (Instr.field 54 (.agg #[.int .i64 x, .int .i64 y]) 1).run Try.prog W = .ok (.int .i64 y) W := by
  have p0 := Hand.part3 #[.int .i64 x, .int .i64 y] 1 (.int .i64 y) rfl
  unfold Instr.field
  simp only [Sem.run_bind, run_underlying Try.underlying54 W, Result.andThen_ok]
  exact p0 W
end Go.Proofs.Ytdagijgoegkphaa.P

namespace Go.Proofs.Ytdagijgoegkphaa.P
open Go.RowKit Go.Proofs.YtdagijgoegkphaaW.PrintWords Go.Proofs.YtdagijgoegkphaaW.PrintLast Go.Proofs.YtdagijgoegkphaaW.PrintMore
attribute [local go_sem] field540 field541 Hand.field470 Hand.field471
attribute [local go_sem] max2_int min2_int max_two min_two max_three min_three max_four min_four   -- for this text's walks alone

/-! ### tensilelaw05_CreepEnds: function 13 -/
def tensilelaw05_CreepEnds.f (k : Nat) (l0_0 : List (S54)) (l1 : List (S81)) (l2 : List (S56)) : Option (Bool) := (tensilelaw05_ready.f k l0_0 l1 l2).bind fun t304 => (if t304 = true then ((tensilelaw05_Material.f k l0_0).bind fun t306 => ((tensilelaw05_Runs.f k l1).bind fun t309 => ((tensilelaw05_Plan.f k l2).bind fun t312 => ((creep_Stretch.f t306 t309 t312).bind fun bt315 => ((tensilelaw05_Material.f k l0_0).bind fun t319 => ((tensilelaw05_Runs.f k l1).bind fun t322 => ((tensilelaw05_Plan.f k l2).bind fun t325 => ((creep_Shows.f t319 t322 t325 false).bind fun bt328 => ((tensilelaw05_Material.f k l0_0).bind fun t332 => ((tensilelaw05_Runs.f k l1).bind fun t335 => ((tensilelaw05_Plan.f k l2).bind fun t338 => ((creep_Shows.f t332 t335 t338 true).bind fun bt341 => (if bt315.2.2 = 0 then ((tensilelaw05_Material.f k l0_0).bind fun t346 => ((tensilelaw05_Runs.f k l1).bind fun t349 => ((tensilelaw05_list.f bt328.1).bind fun t352 => ((creep_Allows.f t346 t349 t352).bind fun bt355 => ((tensilelaw05_Material.f k l0_0).bind fun t357 => ((tensilelaw05_Runs.f k l1).bind fun t360 => ((tensilelaw05_list.f bt341.1).bind fun t363 => ((creep_Allows.f t357 t360 t363).bind fun bt366 => (if bt328.2 = 0 then (if bt341.2 = 0 then (if bt355.2 = 0 then (if bt366.2 = 0 then (if bt355.1 = true then (if bt366.1 = true then ((tensileref05_Stretch.f k l2 bt328.1).bind fun bt368 => (if bt368.1 = bt315.1 then ((tensileref05_Stretch.f k l2 bt341.1).bind fun bt370 => (if bt370.2 = bt315.2.1 then ((tensilelaw05_awake.f).bind fun t372 => (some t372)) else (none))) else (none))) else (none)) else (none)) else (none)) else (none)) else (none)) else (none)))))))))) else (if bt315.2.2 = 9 then (if bt328.2 = bt315.2.2 then (if bt341.2 = bt315.2.2 then ((tensilelaw05_awake.f).bind fun t345 => (some t345)) else (none)) else (none)) else (none))))))))))))))) else ((tensilelaw05_awake.f).bind fun t305 => (some t305)))
def tensilelaw05_CreepEnds.T10 : Bool × List (List Nat × List Nat) := (true, [([], []), ([0], [0]), ([1], [1]), ([2], [2]), ([3, 2], [2, 3]), ([2, 4], [2, 4]), ([5, 2], [5]), ([6], [6]), ([7, 6], [6, 7]), ([6, 8], [6, 8]), ([9, 6], [9]), ([10], [10]), ([11, 10], [10, 11]), ([10, 12], [10, 12]), ([13, 10], [13]), ([14], [14]), ([14, 15], [14, 15]), ([16, 14], [16]), ([17], [17]), ([17, 18], [17, 18]), ([19, 17], [19]), ([20], [20]), ([20], [20]), ([21, 22, 20, 20], [20, 21, 22]), ([23, 20], [20, 23]), ([20], [20]), ([25, 20], [20, 25]), ([24, 26, 20], [20, 24, 26]), ([20, 27], [20, 27]), ([28, 23], [28]), ([29], [29]), ([29], [29]), ([30, 31, 29, 29], [29, 30, 31]), ([32, 29], [29, 32]), ([29], [29]), ([34, 29], [29, 34]), ([33, 35, 29], [29, 33, 35]), ([29, 36], [29, 36]), ([37, 32], [37]), ([38, 38], [38]), ([38, 39], [38, 39]), ([40, 39, 0, 1, 2, 3, 4, 5, 6, 7, 8, 9, 10, 11, 12, 13, 14, 15, 16, 17, 18, 19, 20, 21, 22, 23, 24, 25, 26, 27, 28, 29, 30, 31, 32, 33, 34, 35, 36, 37, 38, 39, 40], [40])])
def tensilelaw05_CreepEnds.B10 : List Nat := [0, 1, 3, 7, 15, 31, 63, 127, 255, 511, 1023, 2047, 4095, 8191, 16383, 32767, 65535, 131071, 262143, 524287, 1048575, 2097151, 2097151, 8388607, 16777215, 2097151, 35651583, 134217727, 268435455, 536870911, 1073741823, 1073741823, 4294967295, 8589934591, 1073741823, 18253611007, 68719476735, 137438953471, 274877906943, 549755813887, 1099511627775, 2199023255551]
theorem tensilelaw05_CreepEnds.tab10 : rtab .any (opsOf Try.f13 10) = tensilelaw05_CreepEnds.T10 := by kernel_rfl
theorem tensilelaw05_CreepEnds.bits10 : waitsOk tensilelaw05_CreepEnds.T10.2 tensilelaw05_CreepEnds.B10 = true := by kernel_rfl
set_option maxHeartbeats 8000000 in
set_option maxRecDepth 100000 in
theorem tensilelaw05_CreepEnds.calls (k : Nat) (A0_0 : Option Addr) (c0_0 : Nat) (l0_0 : List (S54)) (A1 : Option Addr) (c1 : Nat) (l1 : List (S81)) (A2 : Option Addr) (c2 : Nat) (l2 : List (S56)) (r : Bool) (w : World) (hr0_0 : Kd.C k54 w A0_0 l0_0.length l0_0) (hc0_0 : l0_0.length ≤ c0_0) (hr1 : Kd.C k81 w A1 l1.length l1) (hc1 : l1.length ≤ c1) (hr2 : Kd.C k56 w A2 l2.length l2) (hc2 : l2.length ≤ c2) (h : tensilelaw05_CreepEnds.f k l0_0 l1 l2 = some r) :
  Calls Try.prog 13 #[.agg #[.slice A0_0 l0_0.length c0_0], .slice A1 l1.length c1, .slice A2 l2.length c2] w fun e w' => e = .returned (.bool r) ∧ Below w.heap.size w w' := by
 have hu24 := Try.underlying24
 have hu47 := Try.underlying47
 have HR0_0 := Aside0.mk hr0_0
 have HC0_0 := Aside0.mk hc0_0
 clear hr0_0 hc0_0
 have HR1 := Aside0.mk hr1
 have HC1 := Aside0.mk hc1
 clear hr1 hc1
 have HR2 := Aside0.mk hr2
 have HC2 := Aside0.mk hc2
 clear hr2 hc2
 have HB := Aside0.mk (Below.refl w.heap.size w)
 have H : ((tensilelaw05_ready.f k l0_0 l1 l2).bind fun t304 => (if t304 = true then ((tensilelaw05_Material.f k l0_0).bind fun t306 => ((tensilelaw05_Runs.f k l1).bind fun t309 => ((tensilelaw05_Plan.f k l2).bind fun t312 => ((creep_Stretch.f t306 t309 t312).bind fun bt315 => ((tensilelaw05_Material.f k l0_0).bind fun t319 => ((tensilelaw05_Runs.f k l1).bind fun t322 => ((tensilelaw05_Plan.f k l2).bind fun t325 => ((creep_Shows.f t319 t322 t325 false).bind fun bt328 => ((tensilelaw05_Material.f k l0_0).bind fun t332 => ((tensilelaw05_Runs.f k l1).bind fun t335 => ((tensilelaw05_Plan.f k l2).bind fun t338 => ((creep_Shows.f t332 t335 t338 true).bind fun bt341 => (if bt315.2.2 = 0 then ((tensilelaw05_Material.f k l0_0).bind fun t346 => ((tensilelaw05_Runs.f k l1).bind fun t349 => ((tensilelaw05_list.f bt328.1).bind fun t352 => ((creep_Allows.f t346 t349 t352).bind fun bt355 => ((tensilelaw05_Material.f k l0_0).bind fun t357 => ((tensilelaw05_Runs.f k l1).bind fun t360 => ((tensilelaw05_list.f bt341.1).bind fun t363 => ((creep_Allows.f t357 t360 t363).bind fun bt366 => (if bt328.2 = 0 then (if bt341.2 = 0 then (if bt355.2 = 0 then (if bt366.2 = 0 then (if bt355.1 = true then (if bt366.1 = true then ((tensileref05_Stretch.f k l2 bt328.1).bind fun bt368 => (if bt368.1 = bt315.1 then ((tensileref05_Stretch.f k l2 bt341.1).bind fun bt370 => (if bt370.2 = bt315.2.1 then ((tensilelaw05_awake.f).bind fun t372 => (some t372)) else (none))) else (none))) else (none)) else (none)) else (none)) else (none)) else (none)) else (none)))))))))) else (if bt315.2.2 = 9 then (if bt328.2 = bt315.2.2 then (if bt341.2 = bt315.2.2 then ((tensilelaw05_awake.f).bind fun t345 => (some t345)) else (none)) else (none)) else (none))))))))))))))) else ((tensilelaw05_awake.f).bind fun t305 => (some t305)))) = some r := h
 clear h
 replace H := Option.bind_eq_some_iff.mp H
 obtain ⟨t304, A40, H⟩ := H
 replace H : (if t304 = true then ((tensilelaw05_Material.f k l0_0).bind fun t306 => ((tensilelaw05_Runs.f k l1).bind fun t309 => ((tensilelaw05_Plan.f k l2).bind fun t312 => ((creep_Stretch.f t306 t309 t312).bind fun bt315 => ((tensilelaw05_Material.f k l0_0).bind fun t319 => ((tensilelaw05_Runs.f k l1).bind fun t322 => ((tensilelaw05_Plan.f k l2).bind fun t325 => ((creep_Shows.f t319 t322 t325 false).bind fun bt328 => ((tensilelaw05_Material.f k l0_0).bind fun t332 => ((tensilelaw05_Runs.f k l1).bind fun t335 => ((tensilelaw05_Plan.f k l2).bind fun t338 => ((creep_Shows.f t332 t335 t338 true).bind fun bt341 => (if bt315.2.2 = 0 then ((tensilelaw05_Material.f k l0_0).bind fun t346 => ((tensilelaw05_Runs.f k l1).bind fun t349 => ((tensilelaw05_list.f bt328.1).bind fun t352 => ((creep_Allows.f t346 t349 t352).bind fun bt355 => ((tensilelaw05_Material.f k l0_0).bind fun t357 => ((tensilelaw05_Runs.f k l1).bind fun t360 => ((tensilelaw05_list.f bt341.1).bind fun t363 => ((creep_Allows.f t357 t360 t363).bind fun bt366 => (if bt328.2 = 0 then (if bt341.2 = 0 then (if bt355.2 = 0 then (if bt366.2 = 0 then (if bt355.1 = true then (if bt366.1 = true then ((tensileref05_Stretch.f k l2 bt328.1).bind fun bt368 => (if bt368.1 = bt315.1 then ((tensileref05_Stretch.f k l2 bt341.1).bind fun bt370 => (if bt370.2 = bt315.2.1 then ((tensilelaw05_awake.f).bind fun t372 => (some t372)) else (none))) else (none))) else (none)) else (none)) else (none)) else (none)) else (none)) else (none)))))))))) else (if bt315.2.2 = 9 then (if bt328.2 = bt315.2.2 then (if bt341.2 = bt315.2.2 then ((tensilelaw05_awake.f).bind fun t345 => (some t345)) else (none)) else (none)) else (none))))))))))))))) else ((tensilelaw05_awake.f).bind fun t305 => (some t305))) = some r := H
 have A4 := Aside0.mk A40
 clear A40
 by_cases c5 : t304 = true
 ·
  subst c5
  have H1 : ((tensilelaw05_Material.f k l0_0).bind fun t306 => ((tensilelaw05_Runs.f k l1).bind fun t309 => ((tensilelaw05_Plan.f k l2).bind fun t312 => ((creep_Stretch.f t306 t309 t312).bind fun bt315 => ((tensilelaw05_Material.f k l0_0).bind fun t319 => ((tensilelaw05_Runs.f k l1).bind fun t322 => ((tensilelaw05_Plan.f k l2).bind fun t325 => ((creep_Shows.f t319 t322 t325 false).bind fun bt328 => ((tensilelaw05_Material.f k l0_0).bind fun t332 => ((tensilelaw05_Runs.f k l1).bind fun t335 => ((tensilelaw05_Plan.f k l2).bind fun t338 => ((creep_Shows.f t332 t335 t338 true).bind fun bt341 => (if bt315.2.2 = 0 then ((tensilelaw05_Material.f k l0_0).bind fun t346 => ((tensilelaw05_Runs.f k l1).bind fun t349 => ((tensilelaw05_list.f bt328.1).bind fun t352 => ((creep_Allows.f t346 t349 t352).bind fun bt355 => ((tensilelaw05_Material.f k l0_0).bind fun t357 => ((tensilelaw05_Runs.f k l1).bind fun t360 => ((tensilelaw05_list.f bt341.1).bind fun t363 => ((creep_Allows.f t357 t360 t363).bind fun bt366 => (if bt328.2 = 0 then (if bt341.2 = 0 then (if bt355.2 = 0 then (if bt366.2 = 0 then (if bt355.1 = true then (if bt366.1 = true then ((tensileref05_Stretch.f k l2 bt328.1).bind fun bt368 => (if bt368.1 = bt315.1 then ((tensileref05_Stretch.f k l2 bt341.1).bind fun bt370 => (if bt370.2 = bt315.2.1 then ((tensilelaw05_awake.f).bind fun t372 => (some t372)) else (none))) else (none))) else (none)) else (none)) else (none)) else (none)) else (none)) else (none)))))))))) else (if bt315.2.2 = 9 then (if bt328.2 = bt315.2.2 then (if bt341.2 = bt315.2.2 then ((tensilelaw05_awake.f).bind fun t345 => (some t345)) else (none)) else (none)) else (none))))))))))))))) = some r := by rw [if_pos rfl] at H; exact H
  clear H
  have H := H1
  clear H1
  replace H := Option.bind_eq_some_iff.mp H
  obtain ⟨t306, A60, H⟩ := H
  replace H : ((tensilelaw05_Runs.f k l1).bind fun t309 => ((tensilelaw05_Plan.f k l2).bind fun t312 => ((creep_Stretch.f t306 t309 t312).bind fun bt315 => ((tensilelaw05_Material.f k l0_0).bind fun t319 => ((tensilelaw05_Runs.f k l1).bind fun t322 => ((tensilelaw05_Plan.f k l2).bind fun t325 => ((creep_Shows.f t319 t322 t325 false).bind fun bt328 => ((tensilelaw05_Material.f k l0_0).bind fun t332 => ((tensilelaw05_Runs.f k l1).bind fun t335 => ((tensilelaw05_Plan.f k l2).bind fun t338 => ((creep_Shows.f t332 t335 t338 true).bind fun bt341 => (if bt315.2.2 = 0 then ((tensilelaw05_Material.f k l0_0).bind fun t346 => ((tensilelaw05_Runs.f k l1).bind fun t349 => ((tensilelaw05_list.f bt328.1).bind fun t352 => ((creep_Allows.f t346 t349 t352).bind fun bt355 => ((tensilelaw05_Material.f k l0_0).bind fun t357 => ((tensilelaw05_Runs.f k l1).bind fun t360 => ((tensilelaw05_list.f bt341.1).bind fun t363 => ((creep_Allows.f t357 t360 t363).bind fun bt366 => (if bt328.2 = 0 then (if bt341.2 = 0 then (if bt355.2 = 0 then (if bt366.2 = 0 then (if bt355.1 = true then (if bt366.1 = true then ((tensileref05_Stretch.f k l2 bt328.1).bind fun bt368 => (if bt368.1 = bt315.1 then ((tensileref05_Stretch.f k l2 bt341.1).bind fun bt370 => (if bt370.2 = bt315.2.1 then ((tensilelaw05_awake.f).bind fun t372 => (some t372)) else (none))) else (none))) else (none)) else (none)) else (none)) else (none)) else (none)) else (none)))))))))) else (if bt315.2.2 = 9 then (if bt328.2 = bt315.2.2 then (if bt341.2 = bt315.2.2 then ((tensilelaw05_awake.f).bind fun t345 => (some t345)) else (none)) else (none)) else (none)))))))))))))) = some r := H
  have A6 := Aside0.mk A60
  clear A60
  replace H := Option.bind_eq_some_iff.mp H
  obtain ⟨t309, A70, H⟩ := H
  replace H : ((tensilelaw05_Plan.f k l2).bind fun t312 => ((creep_Stretch.f t306 t309 t312).bind fun bt315 => ((tensilelaw05_Material.f k l0_0).bind fun t319 => ((tensilelaw05_Runs.f k l1).bind fun t322 => ((tensilelaw05_Plan.f k l2).bind fun t325 => ((creep_Shows.f t319 t322 t325 false).bind fun bt328 => ((tensilelaw05_Material.f k l0_0).bind fun t332 => ((tensilelaw05_Runs.f k l1).bind fun t335 => ((tensilelaw05_Plan.f k l2).bind fun t338 => ((creep_Shows.f t332 t335 t338 true).bind fun bt341 => (if bt315.2.2 = 0 then ((tensilelaw05_Material.f k l0_0).bind fun t346 => ((tensilelaw05_Runs.f k l1).bind fun t349 => ((tensilelaw05_list.f bt328.1).bind fun t352 => ((creep_Allows.f t346 t349 t352).bind fun bt355 => ((tensilelaw05_Material.f k l0_0).bind fun t357 => ((tensilelaw05_Runs.f k l1).bind fun t360 => ((tensilelaw05_list.f bt341.1).bind fun t363 => ((creep_Allows.f t357 t360 t363).bind fun bt366 => (if bt328.2 = 0 then (if bt341.2 = 0 then (if bt355.2 = 0 then (if bt366.2 = 0 then (if bt355.1 = true then (if bt366.1 = true then ((tensileref05_Stretch.f k l2 bt328.1).bind fun bt368 => (if bt368.1 = bt315.1 then ((tensileref05_Stretch.f k l2 bt341.1).bind fun bt370 => (if bt370.2 = bt315.2.1 then ((tensilelaw05_awake.f).bind fun t372 => (some t372)) else (none))) else (none))) else (none)) else (none)) else (none)) else (none)) else (none)) else (none)))))))))) else (if bt315.2.2 = 9 then (if bt328.2 = bt315.2.2 then (if bt341.2 = bt315.2.2 then ((tensilelaw05_awake.f).bind fun t345 => (some t345)) else (none)) else (none)) else (none))))))))))))) = some r := H
  have A7 := Aside0.mk A70
  clear A70
  replace H := Option.bind_eq_some_iff.mp H
  obtain ⟨t312, A80, H⟩ := H
  replace H : ((creep_Stretch.f t306 t309 t312).bind fun bt315 => ((tensilelaw05_Material.f k l0_0).bind fun t319 => ((tensilelaw05_Runs.f k l1).bind fun t322 => ((tensilelaw05_Plan.f k l2).bind fun t325 => ((creep_Shows.f t319 t322 t325 false).bind fun bt328 => ((tensilelaw05_Material.f k l0_0).bind fun t332 => ((tensilelaw05_Runs.f k l1).bind fun t335 => ((tensilelaw05_Plan.f k l2).bind fun t338 => ((creep_Shows.f t332 t335 t338 true).bind fun bt341 => (if bt315.2.2 = 0 then ((tensilelaw05_Material.f k l0_0).bind fun t346 => ((tensilelaw05_Runs.f k l1).bind fun t349 => ((tensilelaw05_list.f bt328.1).bind fun t352 => ((creep_Allows.f t346 t349 t352).bind fun bt355 => ((tensilelaw05_Material.f k l0_0).bind fun t357 => ((tensilelaw05_Runs.f k l1).bind fun t360 => ((tensilelaw05_list.f bt341.1).bind fun t363 => ((creep_Allows.f t357 t360 t363).bind fun bt366 => (if bt328.2 = 0 then (if bt341.2 = 0 then (if bt355.2 = 0 then (if bt366.2 = 0 then (if bt355.1 = true then (if bt366.1 = true then ((tensileref05_Stretch.f k l2 bt328.1).bind fun bt368 => (if bt368.1 = bt315.1 then ((tensileref05_Stretch.f k l2 bt341.1).bind fun bt370 => (if bt370.2 = bt315.2.1 then ((tensilelaw05_awake.f).bind fun t372 => (some t372)) else (none))) else (none))) else (none)) else (none)) else (none)) else (none)) else (none)) else (none)))))))))) else (if bt315.2.2 = 9 then (if bt328.2 = bt315.2.2 then (if bt341.2 = bt315.2.2 then ((tensilelaw05_awake.f).bind fun t345 => (some t345)) else (none)) else (none)) else (none)))))))))))) = some r := H
  have A8 := Aside0.mk A80
  clear A80
  replace H := Option.bind_eq_some_iff.mp H
  obtain ⟨⟨t315, t316, t317⟩, A90, H⟩ := H
  replace H : ((tensilelaw05_Material.f k l0_0).bind fun t319 => ((tensilelaw05_Runs.f k l1).bind fun t322 => ((tensilelaw05_Plan.f k l2).bind fun t325 => ((creep_Shows.f t319 t322 t325 false).bind fun bt328 => ((tensilelaw05_Material.f k l0_0).bind fun t332 => ((tensilelaw05_Runs.f k l1).bind fun t335 => ((tensilelaw05_Plan.f k l2).bind fun t338 => ((creep_Shows.f t332 t335 t338 true).bind fun bt341 => (if t317 = 0 then ((tensilelaw05_Material.f k l0_0).bind fun t346 => ((tensilelaw05_Runs.f k l1).bind fun t349 => ((tensilelaw05_list.f bt328.1).bind fun t352 => ((creep_Allows.f t346 t349 t352).bind fun bt355 => ((tensilelaw05_Material.f k l0_0).bind fun t357 => ((tensilelaw05_Runs.f k l1).bind fun t360 => ((tensilelaw05_list.f bt341.1).bind fun t363 => ((creep_Allows.f t357 t360 t363).bind fun bt366 => (if bt328.2 = 0 then (if bt341.2 = 0 then (if bt355.2 = 0 then (if bt366.2 = 0 then (if bt355.1 = true then (if bt366.1 = true then ((tensileref05_Stretch.f k l2 bt328.1).bind fun bt368 => (if bt368.1 = t315 then ((tensileref05_Stretch.f k l2 bt341.1).bind fun bt370 => (if bt370.2 = t316 then ((tensilelaw05_awake.f).bind fun t372 => (some t372)) else (none))) else (none))) else (none)) else (none)) else (none)) else (none)) else (none)) else (none)))))))))) else (if t317 = 9 then (if bt328.2 = t317 then (if bt341.2 = t317 then ((tensilelaw05_awake.f).bind fun t345 => (some t345)) else (none)) else (none)) else (none))))))))))) = some r := H
  have A9 := Aside0.mk A90
  clear A90
  replace H := Option.bind_eq_some_iff.mp H
  obtain ⟨t319, A100, H⟩ := H
  replace H : ((tensilelaw05_Runs.f k l1).bind fun t322 => ((tensilelaw05_Plan.f k l2).bind fun t325 => ((creep_Shows.f t319 t322 t325 false).bind fun bt328 => ((tensilelaw05_Material.f k l0_0).bind fun t332 => ((tensilelaw05_Runs.f k l1).bind fun t335 => ((tensilelaw05_Plan.f k l2).bind fun t338 => ((creep_Shows.f t332 t335 t338 true).bind fun bt341 => (if t317 = 0 then ((tensilelaw05_Material.f k l0_0).bind fun t346 => ((tensilelaw05_Runs.f k l1).bind fun t349 => ((tensilelaw05_list.f bt328.1).bind fun t352 => ((creep_Allows.f t346 t349 t352).bind fun bt355 => ((tensilelaw05_Material.f k l0_0).bind fun t357 => ((tensilelaw05_Runs.f k l1).bind fun t360 => ((tensilelaw05_list.f bt341.1).bind fun t363 => ((creep_Allows.f t357 t360 t363).bind fun bt366 => (if bt328.2 = 0 then (if bt341.2 = 0 then (if bt355.2 = 0 then (if bt366.2 = 0 then (if bt355.1 = true then (if bt366.1 = true then ((tensileref05_Stretch.f k l2 bt328.1).bind fun bt368 => (if bt368.1 = t315 then ((tensileref05_Stretch.f k l2 bt341.1).bind fun bt370 => (if bt370.2 = t316 then ((tensilelaw05_awake.f).bind fun t372 => (some t372)) else (none))) else (none))) else (none)) else (none)) else (none)) else (none)) else (none)) else (none)))))))))) else (if t317 = 9 then (if bt328.2 = t317 then (if bt341.2 = t317 then ((tensilelaw05_awake.f).bind fun t345 => (some t345)) else (none)) else (none)) else (none)))))))))) = some r := H
  have A10 := Aside0.mk A100
  clear A100
  replace H := Option.bind_eq_some_iff.mp H
  obtain ⟨t322, A110, H⟩ := H
  replace H : ((tensilelaw05_Plan.f k l2).bind fun t325 => ((creep_Shows.f t319 t322 t325 false).bind fun bt328 => ((tensilelaw05_Material.f k l0_0).bind fun t332 => ((tensilelaw05_Runs.f k l1).bind fun t335 => ((tensilelaw05_Plan.f k l2).bind fun t338 => ((creep_Shows.f t332 t335 t338 true).bind fun bt341 => (if t317 = 0 then ((tensilelaw05_Material.f k l0_0).bind fun t346 => ((tensilelaw05_Runs.f k l1).bind fun t349 => ((tensilelaw05_list.f bt328.1).bind fun t352 => ((creep_Allows.f t346 t349 t352).bind fun bt355 => ((tensilelaw05_Material.f k l0_0).bind fun t357 => ((tensilelaw05_Runs.f k l1).bind fun t360 => ((tensilelaw05_list.f bt341.1).bind fun t363 => ((creep_Allows.f t357 t360 t363).bind fun bt366 => (if bt328.2 = 0 then (if bt341.2 = 0 then (if bt355.2 = 0 then (if bt366.2 = 0 then (if bt355.1 = true then (if bt366.1 = true then ((tensileref05_Stretch.f k l2 bt328.1).bind fun bt368 => (if bt368.1 = t315 then ((tensileref05_Stretch.f k l2 bt341.1).bind fun bt370 => (if bt370.2 = t316 then ((tensilelaw05_awake.f).bind fun t372 => (some t372)) else (none))) else (none))) else (none)) else (none)) else (none)) else (none)) else (none)) else (none)))))))))) else (if t317 = 9 then (if bt328.2 = t317 then (if bt341.2 = t317 then ((tensilelaw05_awake.f).bind fun t345 => (some t345)) else (none)) else (none)) else (none))))))))) = some r := H
  have A11 := Aside0.mk A110
  clear A110
  replace H := Option.bind_eq_some_iff.mp H
  obtain ⟨t325, A120, H⟩ := H
  replace H : ((creep_Shows.f t319 t322 t325 false).bind fun bt328 => ((tensilelaw05_Material.f k l0_0).bind fun t332 => ((tensilelaw05_Runs.f k l1).bind fun t335 => ((tensilelaw05_Plan.f k l2).bind fun t338 => ((creep_Shows.f t332 t335 t338 true).bind fun bt341 => (if t317 = 0 then ((tensilelaw05_Material.f k l0_0).bind fun t346 => ((tensilelaw05_Runs.f k l1).bind fun t349 => ((tensilelaw05_list.f bt328.1).bind fun t352 => ((creep_Allows.f t346 t349 t352).bind fun bt355 => ((tensilelaw05_Material.f k l0_0).bind fun t357 => ((tensilelaw05_Runs.f k l1).bind fun t360 => ((tensilelaw05_list.f bt341.1).bind fun t363 => ((creep_Allows.f t357 t360 t363).bind fun bt366 => (if bt328.2 = 0 then (if bt341.2 = 0 then (if bt355.2 = 0 then (if bt366.2 = 0 then (if bt355.1 = true then (if bt366.1 = true then ((tensileref05_Stretch.f k l2 bt328.1).bind fun bt368 => (if bt368.1 = t315 then ((tensileref05_Stretch.f k l2 bt341.1).bind fun bt370 => (if bt370.2 = t316 then ((tensilelaw05_awake.f).bind fun t372 => (some t372)) else (none))) else (none))) else (none)) else (none)) else (none)) else (none)) else (none)) else (none)))))))))) else (if t317 = 9 then (if bt328.2 = t317 then (if bt341.2 = t317 then ((tensilelaw05_awake.f).bind fun t345 => (some t345)) else (none)) else (none)) else (none)))))))) = some r := H
  have A12 := Aside0.mk A120
  clear A120
  replace H := Option.bind_eq_some_iff.mp H
  obtain ⟨⟨t328, t331⟩, A130, H⟩ := H
  replace H : ((tensilelaw05_Material.f k l0_0).bind fun t332 => ((tensilelaw05_Runs.f k l1).bind fun t335 => ((tensilelaw05_Plan.f k l2).bind fun t338 => ((creep_Shows.f t332 t335 t338 true).bind fun bt341 => (if t317 = 0 then ((tensilelaw05_Material.f k l0_0).bind fun t346 => ((tensilelaw05_Runs.f k l1).bind fun t349 => ((tensilelaw05_list.f t328).bind fun t352 => ((creep_Allows.f t346 t349 t352).bind fun bt355 => ((tensilelaw05_Material.f k l0_0).bind fun t357 => ((tensilelaw05_Runs.f k l1).bind fun t360 => ((tensilelaw05_list.f bt341.1).bind fun t363 => ((creep_Allows.f t357 t360 t363).bind fun bt366 => (if t331 = 0 then (if bt341.2 = 0 then (if bt355.2 = 0 then (if bt366.2 = 0 then (if bt355.1 = true then (if bt366.1 = true then ((tensileref05_Stretch.f k l2 t328).bind fun bt368 => (if bt368.1 = t315 then ((tensileref05_Stretch.f k l2 bt341.1).bind fun bt370 => (if bt370.2 = t316 then ((tensilelaw05_awake.f).bind fun t372 => (some t372)) else (none))) else (none))) else (none)) else (none)) else (none)) else (none)) else (none)) else (none)))))))))) else (if t317 = 9 then (if t331 = t317 then (if bt341.2 = t317 then ((tensilelaw05_awake.f).bind fun t345 => (some t345)) else (none)) else (none)) else (none))))))) = some r := H
  have A13 := Aside0.mk A130
  clear A130
  replace H := Option.bind_eq_some_iff.mp H
  obtain ⟨t332, A140, H⟩ := H
  replace H : ((tensilelaw05_Runs.f k l1).bind fun t335 => ((tensilelaw05_Plan.f k l2).bind fun t338 => ((creep_Shows.f t332 t335 t338 true).bind fun bt341 => (if t317 = 0 then ((tensilelaw05_Material.f k l0_0).bind fun t346 => ((tensilelaw05_Runs.f k l1).bind fun t349 => ((tensilelaw05_list.f t328).bind fun t352 => ((creep_Allows.f t346 t349 t352).bind fun bt355 => ((tensilelaw05_Material.f k l0_0).bind fun t357 => ((tensilelaw05_Runs.f k l1).bind fun t360 => ((tensilelaw05_list.f bt341.1).bind fun t363 => ((creep_Allows.f t357 t360 t363).bind fun bt366 => (if t331 = 0 then (if bt341.2 = 0 then (if bt355.2 = 0 then (if bt366.2 = 0 then (if bt355.1 = true then (if bt366.1 = true then ((tensileref05_Stretch.f k l2 t328).bind fun bt368 => (if bt368.1 = t315 then ((tensileref05_Stretch.f k l2 bt341.1).bind fun bt370 => (if bt370.2 = t316 then ((tensilelaw05_awake.f).bind fun t372 => (some t372)) else (none))) else (none))) else (none)) else (none)) else (none)) else (none)) else (none)) else (none)))))))))) else (if t317 = 9 then (if t331 = t317 then (if bt341.2 = t317 then ((tensilelaw05_awake.f).bind fun t345 => (some t345)) else (none)) else (none)) else (none)))))) = some r := H
  have A14 := Aside0.mk A140
  clear A140
  replace H := Option.bind_eq_some_iff.mp H
  obtain ⟨t335, A150, H⟩ := H
  replace H : ((tensilelaw05_Plan.f k l2).bind fun t338 => ((creep_Shows.f t332 t335 t338 true).bind fun bt341 => (if t317 = 0 then ((tensilelaw05_Material.f k l0_0).bind fun t346 => ((tensilelaw05_Runs.f k l1).bind fun t349 => ((tensilelaw05_list.f t328).bind fun t352 => ((creep_Allows.f t346 t349 t352).bind fun bt355 => ((tensilelaw05_Material.f k l0_0).bind fun t357 => ((tensilelaw05_Runs.f k l1).bind fun t360 => ((tensilelaw05_list.f bt341.1).bind fun t363 => ((creep_Allows.f t357 t360 t363).bind fun bt366 => (if t331 = 0 then (if bt341.2 = 0 then (if bt355.2 = 0 then (if bt366.2 = 0 then (if bt355.1 = true then (if bt366.1 = true then ((tensileref05_Stretch.f k l2 t328).bind fun bt368 => (if bt368.1 = t315 then ((tensileref05_Stretch.f k l2 bt341.1).bind fun bt370 => (if bt370.2 = t316 then ((tensilelaw05_awake.f).bind fun t372 => (some t372)) else (none))) else (none))) else (none)) else (none)) else (none)) else (none)) else (none)) else (none)))))))))) else (if t317 = 9 then (if t331 = t317 then (if bt341.2 = t317 then ((tensilelaw05_awake.f).bind fun t345 => (some t345)) else (none)) else (none)) else (none))))) = some r := H
  have A15 := Aside0.mk A150
  clear A150
  replace H := Option.bind_eq_some_iff.mp H
  obtain ⟨t338, A160, H⟩ := H
  replace H : ((creep_Shows.f t332 t335 t338 true).bind fun bt341 => (if t317 = 0 then ((tensilelaw05_Material.f k l0_0).bind fun t346 => ((tensilelaw05_Runs.f k l1).bind fun t349 => ((tensilelaw05_list.f t328).bind fun t352 => ((creep_Allows.f t346 t349 t352).bind fun bt355 => ((tensilelaw05_Material.f k l0_0).bind fun t357 => ((tensilelaw05_Runs.f k l1).bind fun t360 => ((tensilelaw05_list.f bt341.1).bind fun t363 => ((creep_Allows.f t357 t360 t363).bind fun bt366 => (if t331 = 0 then (if bt341.2 = 0 then (if bt355.2 = 0 then (if bt366.2 = 0 then (if bt355.1 = true then (if bt366.1 = true then ((tensileref05_Stretch.f k l2 t328).bind fun bt368 => (if bt368.1 = t315 then ((tensileref05_Stretch.f k l2 bt341.1).bind fun bt370 => (if bt370.2 = t316 then ((tensilelaw05_awake.f).bind fun t372 => (some t372)) else (none))) else (none))) else (none)) else (none)) else (none)) else (none)) else (none)) else (none)))))))))) else (if t317 = 9 then (if t331 = t317 then (if bt341.2 = t317 then ((tensilelaw05_awake.f).bind fun t345 => (some t345)) else (none)) else (none)) else (none)))) = some r := H
  have A16 := Aside0.mk A160
  clear A160
  replace H := Option.bind_eq_some_iff.mp H
  obtain ⟨⟨t341, t344⟩, A170, H⟩ := H
  replace H : (if t317 = 0 then ((tensilelaw05_Material.f k l0_0).bind fun t346 => ((tensilelaw05_Runs.f k l1).bind fun t349 => ((tensilelaw05_list.f t328).bind fun t352 => ((creep_Allows.f t346 t349 t352).bind fun bt355 => ((tensilelaw05_Material.f k l0_0).bind fun t357 => ((tensilelaw05_Runs.f k l1).bind fun t360 => ((tensilelaw05_list.f t341).bind fun t363 => ((creep_Allows.f t357 t360 t363).bind fun bt366 => (if t331 = 0 then (if t344 = 0 then (if bt355.2 = 0 then (if bt366.2 = 0 then (if bt355.1 = true then (if bt366.1 = true then ((tensileref05_Stretch.f k l2 t328).bind fun bt368 => (if bt368.1 = t315 then ((tensileref05_Stretch.f k l2 t341).bind fun bt370 => (if bt370.2 = t316 then ((tensilelaw05_awake.f).bind fun t372 => (some t372)) else (none))) else (none))) else (none)) else (none)) else (none)) else (none)) else (none)) else (none)))))))))) else (if t317 = 9 then (if t331 = t317 then (if t344 = t317 then ((tensilelaw05_awake.f).bind fun t345 => (some t345)) else (none)) else (none)) else (none))) = some r := H
  have A17 := Aside0.mk A170
  clear A170
  by_cases c18 : t317 = 0
  ·
   rw [if_pos c18] at H
   have c18b0 : (t317 == 0) = true := beq_iff_eq.mpr c18
   have c18b1 : (t317 != 0) = false := bne_eq_false_iff_eq.mpr c18
   clear c18
   replace H := Option.bind_eq_some_iff.mp H
   obtain ⟨t346, A190, H⟩ := H
   replace H : ((tensilelaw05_Runs.f k l1).bind fun t349 => ((tensilelaw05_list.f t328).bind fun t352 => ((creep_Allows.f t346 t349 t352).bind fun bt355 => ((tensilelaw05_Material.f k l0_0).bind fun t357 => ((tensilelaw05_Runs.f k l1).bind fun t360 => ((tensilelaw05_list.f t341).bind fun t363 => ((creep_Allows.f t357 t360 t363).bind fun bt366 => (if t331 = 0 then (if t344 = 0 then (if bt355.2 = 0 then (if bt366.2 = 0 then (if bt355.1 = true then (if bt366.1 = true then ((tensileref05_Stretch.f k l2 t328).bind fun bt368 => (if bt368.1 = t315 then ((tensileref05_Stretch.f k l2 t341).bind fun bt370 => (if bt370.2 = t316 then ((tensilelaw05_awake.f).bind fun t372 => (some t372)) else (none))) else (none))) else (none)) else (none)) else (none)) else (none)) else (none)) else (none))))))))) = some r := H
   have A19 := Aside0.mk A190
   clear A190
   replace H := Option.bind_eq_some_iff.mp H
   obtain ⟨t349, A200, H⟩ := H
   replace H : ((tensilelaw05_list.f t328).bind fun t352 => ((creep_Allows.f t346 t349 t352).bind fun bt355 => ((tensilelaw05_Material.f k l0_0).bind fun t357 => ((tensilelaw05_Runs.f k l1).bind fun t360 => ((tensilelaw05_list.f t341).bind fun t363 => ((creep_Allows.f t357 t360 t363).bind fun bt366 => (if t331 = 0 then (if t344 = 0 then (if bt355.2 = 0 then (if bt366.2 = 0 then (if bt355.1 = true then (if bt366.1 = true then ((tensileref05_Stretch.f k l2 t328).bind fun bt368 => (if bt368.1 = t315 then ((tensileref05_Stretch.f k l2 t341).bind fun bt370 => (if bt370.2 = t316 then ((tensilelaw05_awake.f).bind fun t372 => (some t372)) else (none))) else (none))) else (none)) else (none)) else (none)) else (none)) else (none)) else (none)))))))) = some r := H
   have A20 := Aside0.mk A200
   clear A200
   replace H := Option.bind_eq_some_iff.mp H
   obtain ⟨t352, A210, H⟩ := H
   replace H : ((creep_Allows.f t346 t349 t352).bind fun bt355 => ((tensilelaw05_Material.f k l0_0).bind fun t357 => ((tensilelaw05_Runs.f k l1).bind fun t360 => ((tensilelaw05_list.f t341).bind fun t363 => ((creep_Allows.f t357 t360 t363).bind fun bt366 => (if t331 = 0 then (if t344 = 0 then (if bt355.2 = 0 then (if bt366.2 = 0 then (if bt355.1 = true then (if bt366.1 = true then ((tensileref05_Stretch.f k l2 t328).bind fun bt368 => (if bt368.1 = t315 then ((tensileref05_Stretch.f k l2 t341).bind fun bt370 => (if bt370.2 = t316 then ((tensilelaw05_awake.f).bind fun t372 => (some t372)) else (none))) else (none))) else (none)) else (none)) else (none)) else (none)) else (none)) else (none))))))) = some r := H
   have A21 := Aside0.mk A210
   clear A210
   replace H := Option.bind_eq_some_iff.mp H
   obtain ⟨⟨t355, t356⟩, A220, H⟩ := H
   replace H : ((tensilelaw05_Material.f k l0_0).bind fun t357 => ((tensilelaw05_Runs.f k l1).bind fun t360 => ((tensilelaw05_list.f t341).bind fun t363 => ((creep_Allows.f t357 t360 t363).bind fun bt366 => (if t331 = 0 then (if t344 = 0 then (if t356 = 0 then (if bt366.2 = 0 then (if t355 = true then (if bt366.1 = true then ((tensileref05_Stretch.f k l2 t328).bind fun bt368 => (if bt368.1 = t315 then ((tensileref05_Stretch.f k l2 t341).bind fun bt370 => (if bt370.2 = t316 then ((tensilelaw05_awake.f).bind fun t372 => (some t372)) else (none))) else (none))) else (none)) else (none)) else (none)) else (none)) else (none)) else (none)))))) = some r := H
   have A22 := Aside0.mk A220
   clear A220
   replace H := Option.bind_eq_some_iff.mp H
   obtain ⟨t357, A230, H⟩ := H
   replace H : ((tensilelaw05_Runs.f k l1).bind fun t360 => ((tensilelaw05_list.f t341).bind fun t363 => ((creep_Allows.f t357 t360 t363).bind fun bt366 => (if t331 = 0 then (if t344 = 0 then (if t356 = 0 then (if bt366.2 = 0 then (if t355 = true then (if bt366.1 = true then ((tensileref05_Stretch.f k l2 t328).bind fun bt368 => (if bt368.1 = t315 then ((tensileref05_Stretch.f k l2 t341).bind fun bt370 => (if bt370.2 = t316 then ((tensilelaw05_awake.f).bind fun t372 => (some t372)) else (none))) else (none))) else (none)) else (none)) else (none)) else (none)) else (none)) else (none))))) = some r := H
   have A23 := Aside0.mk A230
   clear A230
   replace H := Option.bind_eq_some_iff.mp H
   obtain ⟨t360, A240, H⟩ := H
   replace H : ((tensilelaw05_list.f t341).bind fun t363 => ((creep_Allows.f t357 t360 t363).bind fun bt366 => (if t331 = 0 then (if t344 = 0 then (if t356 = 0 then (if bt366.2 = 0 then (if t355 = true then (if bt366.1 = true then ((tensileref05_Stretch.f k l2 t328).bind fun bt368 => (if bt368.1 = t315 then ((tensileref05_Stretch.f k l2 t341).bind fun bt370 => (if bt370.2 = t316 then ((tensilelaw05_awake.f).bind fun t372 => (some t372)) else (none))) else (none))) else (none)) else (none)) else (none)) else (none)) else (none)) else (none)))) = some r := H
   have A24 := Aside0.mk A240
   clear A240
   replace H := Option.bind_eq_some_iff.mp H
   obtain ⟨t363, A250, H⟩ := H
   replace H : ((creep_Allows.f t357 t360 t363).bind fun bt366 => (if t331 = 0 then (if t344 = 0 then (if t356 = 0 then (if bt366.2 = 0 then (if t355 = true then (if bt366.1 = true then ((tensileref05_Stretch.f k l2 t328).bind fun bt368 => (if bt368.1 = t315 then ((tensileref05_Stretch.f k l2 t341).bind fun bt370 => (if bt370.2 = t316 then ((tensilelaw05_awake.f).bind fun t372 => (some t372)) else (none))) else (none))) else (none)) else (none)) else (none)) else (none)) else (none)) else (none))) = some r := H
   have A25 := Aside0.mk A250
   clear A250
   replace H := Option.bind_eq_some_iff.mp H
   obtain ⟨⟨t366, t367⟩, A260, H⟩ := H
   replace H : (if t331 = 0 then (if t344 = 0 then (if t356 = 0 then (if t367 = 0 then (if t355 = true then (if t366 = true then ((tensileref05_Stretch.f k l2 t328).bind fun bt368 => (if bt368.1 = t315 then ((tensileref05_Stretch.f k l2 t341).bind fun bt370 => (if bt370.2 = t316 then ((tensilelaw05_awake.f).bind fun t372 => (some t372)) else (none))) else (none))) else (none)) else (none)) else (none)) else (none)) else (none)) else (none)) = some r := H
   have A26 := Aside0.mk A260
   clear A260
   by_cases c27 : t331 = 0
   ·
    rw [if_pos c27] at H
    have c27b0 : (t331 == 0) = true := beq_iff_eq.mpr c27
    have c27b1 : (t331 != 0) = false := bne_eq_false_iff_eq.mpr c27
    clear c27
    by_cases c28 : t344 = 0
    ·
     rw [if_pos c28] at H
     have c28b0 : (t344 == 0) = true := beq_iff_eq.mpr c28
     have c28b1 : (t344 != 0) = false := bne_eq_false_iff_eq.mpr c28
     clear c28
     by_cases c29 : t356 = 0
     ·
      rw [if_pos c29] at H
      have c29b0 : (t356 == 0) = true := beq_iff_eq.mpr c29
      have c29b1 : (t356 != 0) = false := bne_eq_false_iff_eq.mpr c29
      clear c29
      by_cases c30 : t367 = 0
      ·
       rw [if_pos c30] at H
       have c30b0 : (t367 == 0) = true := beq_iff_eq.mpr c30
       have c30b1 : (t367 != 0) = false := bne_eq_false_iff_eq.mpr c30
       clear c30
       by_cases c31 : t355 = true
       ·
        subst c31
        have H1 : (if t366 = true then ((tensileref05_Stretch.f k l2 t328).bind fun bt368 => (if bt368.1 = t315 then ((tensileref05_Stretch.f k l2 t341).bind fun bt370 => (if bt370.2 = t316 then ((tensilelaw05_awake.f).bind fun t372 => (some t372)) else (none))) else (none))) else (none)) = some r := by rw [if_pos rfl] at H; exact H
        clear H
        have H := H1
        clear H1
        by_cases c32 : t366 = true
        ·
         subst c32
         have H1 : ((tensileref05_Stretch.f k l2 t328).bind fun bt368 => (if bt368.1 = t315 then ((tensileref05_Stretch.f k l2 t341).bind fun bt370 => (if bt370.2 = t316 then ((tensilelaw05_awake.f).bind fun t372 => (some t372)) else (none))) else (none))) = some r := by rw [if_pos rfl] at H; exact H
         clear H
         have H := H1
         clear H1
         replace H := Option.bind_eq_some_iff.mp H
         obtain ⟨⟨t368, t369⟩, A330, H⟩ := H
         replace H : (if t368 = t315 then ((tensileref05_Stretch.f k l2 t341).bind fun bt370 => (if bt370.2 = t316 then ((tensilelaw05_awake.f).bind fun t372 => (some t372)) else (none))) else (none)) = some r := H
         have A33 := Aside0.mk A330
         clear A330
         by_cases c34 : t368 = t315
         ·
          rw [if_pos c34] at H
          have c34b0 : (t368 == t315) = true := beq_iff_eq.mpr c34
          have c34b1 : (t368 != t315) = false := bne_eq_false_iff_eq.mpr c34
          clear c34
          replace H := Option.bind_eq_some_iff.mp H
          obtain ⟨⟨t370, t371⟩, A350, H⟩ := H
          replace H : (if t371 = t316 then ((tensilelaw05_awake.f).bind fun t372 => (some t372)) else (none)) = some r := H
          have A35 := Aside0.mk A350
          clear A350
          by_cases c36 : t371 = t316
          ·
           rw [if_pos c36] at H
           have c36b0 : (t371 == t316) = true := beq_iff_eq.mpr c36
           have c36b1 : (t371 != t316) = false := bne_eq_false_iff_eq.mpr c36
           clear c36
           replace H := Option.bind_eq_some_iff.mp H
           obtain ⟨t372, A370, H⟩ := H
           replace H : (some t372) = some r := H
           have A37 := Aside0.mk A370
           clear A370
           obtain rfl := Option.some.inj H
           go_enter Try.func13, Try.ntmps13
           try go_wp2_with (first | ((with_reducible refine gate_dst (N := 3) rfl ?_); refine box_event ?hg (N := 3) ?hd (cs := #[.slice A0_0 l0_0.length c0_0]) (t := 24) ?hr ?_; (case hd => rfl); (case hg => rfl); (case hr => first | (go_simp; done) | (go_simp; rfl)); intro gb303 hg w38 hbox hb; have n0_ := Aside0.mk (below_step (by repeat (first | (with_reducible first | exact HB.out | apply below_alloc | apply pw_below_drewN | apply below_drew1) | exact HB.out)) hb); have n1_ := Aside0.mk (hbox); have n2_ := Aside0.mk ((by rw [hg]; exact (below_size (by repeat (first | (with_reducible first | exact HB.out | apply below_alloc | apply pw_below_drewN | apply below_drew1) | exact HB.out))) : w.heap.size ≤ gb303)); have n3_ := Aside0.mk ((by rw [hg]; exact (below_size (by repeat (first | (with_reducible first | exact HB.out | apply below_alloc | apply pw_below_drewN | apply below_drew1) | exact HB.out))) : w.heap.size ≤ gb303)); clear HB; have HB := n0_; have BK303 := n1_; have GW303 := n2_; have GE303 := n3_; clear n0_ n1_ n2_ n3_; clear hb hbox hg; have hcz39_0 : w38.cell? ⟨gb303, 0, none⟩ = some (.slice A0_0 l0_0.length c0_0) := (blk_cell BK303.out 0).trans rfl; have hfz39_0 := blk_frozen BK303.out 0) | ((with_reducible refine gate_callee (f := 16) rfl ?_); refine goesL_ (some 20) rfl rfl Try.func16 (by kernel_rfl) rfl #[.agg #[.slice A0_0 l0_0.length c0_0], .slice A1 l1.length c1, .slice A2 l2.length c2] rfl (by (try simp only [List.map_toArray, List.map_cons, List.map_nil]); first | done | rfl | (simp only [List.length_drop, List.length_take]; rfl)) ?_; (with_reducible refine (tensilelaw05_ready.calls k _ _ l0_0 _ _ l1 _ _ l2 true _ ?side1 ?side2 ?side3 ?side4 ?side5 ?side6 A4.out).mono ?_); (case side1 => repeat (first | exact (Kd.C_below HR0_0.out HB.out) | (with_reducible refine Kd.C_alloc ?_ _) | (with_reducible refine Kd.C_drewN ?_ _) | (with_reducible refine Kd.C_drew ?_))); (case side2 => exact HC0_0.out); (case side3 => repeat (first | exact (Kd.C_below HR1.out HB.out) | (with_reducible refine Kd.C_alloc ?_ _) | (with_reducible refine Kd.C_drewN ?_ _) | (with_reducible refine Kd.C_drew ?_))); (case side4 => exact HC1.out); (case side5 => repeat (first | exact (Kd.C_below HR2.out HB.out) | (with_reducible refine Kd.C_alloc ?_ _) | (with_reducible refine Kd.C_drewN ?_ _) | (with_reducible refine Kd.C_drew ?_))); (case side6 => exact HC2.out); rintro e w40 ⟨rfl, hb⟩; refine ⟨_, rfl, ?_⟩; have n0_ := Aside0.mk (blk_below (g := gb303) (o := .cells #[.slice A0_0 l0_0.length c0_0] 24 (0, 0)) (by (with_reducible repeat (first | refine blk_drewN ?_ _ | refine blk_drew ?_ | refine blk_alloc ?_ _)); exact BK303.out) hb); have n1_ := Aside0.mk (below_step (by repeat (first | (with_reducible first | exact HB.out | apply below_alloc | apply pw_below_drewN | apply below_drew1 | refine below_set ?_ GE303.out) | exact HB.out)) hb); clear BK303; clear HB; have BK303 := n0_; have HB := n1_; clear n0_ n1_; (try clear hb); (try clear hb2); (try clear hk); (try clear hi); have hcz41_0 : w40.cell? ⟨gb303, 0, none⟩ = some (.slice A0_0 l0_0.length c0_0) := (blk_cell BK303.out 0).trans rfl; have hfz41_0 := blk_frozen BK303.out 0) | ((with_reducible refine gate_callee (f := 21) rfl ?_); refine goesL_ (some 25) rfl rfl Try.func21 (by kernel_rfl) rfl #[.agg #[.slice A0_0 l0_0.length c0_0]] rfl (by (try simp only [List.map_toArray, List.map_cons, List.map_nil]); first | done | rfl | (simp only [List.length_drop, List.length_take]; rfl)) ?_; (with_reducible refine (tensilelaw05_Material.calls k _ _ l0_0 t306 _ ?side1 ?side2 A6.out).mono ?_); (case side1 => repeat (first | exact (Kd.C_below HR0_0.out HB.out) | (with_reducible refine Kd.C_alloc ?_ _) | (with_reducible refine Kd.C_drewN ?_ _) | (with_reducible refine Kd.C_drew ?_))); (case side2 => exact HC0_0.out); rintro e w42 ⟨v307, rfl, ho0, hb⟩; refine ⟨_, rfl, ?_⟩; have n0_ := Aside0.mk (Kd.R_lower ho0 (below_size (by repeat (first | (with_reducible first | exact HB.out | apply below_alloc | apply pw_below_drewN | apply below_drew1 | refine below_set ?_ GE303.out) | exact HB.out)))); have n1_ := Aside0.mk (blk_below (g := gb303) (o := .cells #[.slice A0_0 l0_0.length c0_0] 24 (0, 0)) (by (with_reducible repeat (first | refine blk_drewN ?_ _ | refine blk_drew ?_ | refine blk_alloc ?_ _)); exact BK303.out) hb); have n2_ := Aside0.mk (below_step (by repeat (first | (with_reducible first | exact HB.out | apply below_alloc | apply pw_below_drewN | apply below_drew1 | refine below_set ?_ GE303.out) | exact HB.out)) hb); clear BK303; clear HB; have HO308 := n0_; have BK303 := n1_; have HB := n2_; clear n0_ n1_ n2_; (try clear hb); (try clear hb2); (try clear hk); (try clear hi); (try clear ho0)) | ((with_reducible refine gate_callee (f := 22) rfl ?_); refine goesL_ (some 27) rfl rfl Try.func22 (by kernel_rfl) rfl #[.slice A1 l1.length c1] rfl (by (try simp only [List.map_toArray, List.map_cons, List.map_nil]); first | done | rfl | (simp only [List.length_drop, List.length_take]; rfl)) ?_; (with_reducible refine (tensilelaw05_Runs.calls k _ _ l1 t309 _ ?side1 ?side2 A7.out).mono ?_); (case side1 => repeat (first | exact (Kd.C_below HR1.out HB.out) | (with_reducible refine Kd.C_alloc ?_ _) | (with_reducible refine Kd.C_drewN ?_ _) | (with_reducible refine Kd.C_drew ?_))); (case side2 => exact HC1.out); rintro e w43 ⟨v310, rfl, ho0, hb⟩; refine ⟨_, rfl, ?_⟩; have n0_ := Aside0.mk (Kd.R_below (by (with_reducible repeat (first | apply Kd.R_alloc | apply Kd.R_drewN | apply Kd.R_drew)); exact HO308.out) hb); have n1_ := Aside0.mk (Kd.S_lower ho0 (below_size (by repeat (first | (with_reducible first | exact HB.out | apply below_alloc | apply pw_below_drewN | apply below_drew1 | refine below_set ?_ GE303.out) | exact HB.out)))); have n2_ := Aside0.mk (blk_below (g := gb303) (o := .cells #[.slice A0_0 l0_0.length c0_0] 24 (0, 0)) (by (with_reducible repeat (first | refine blk_drewN ?_ _ | refine blk_drew ?_ | refine blk_alloc ?_ _)); exact BK303.out) hb); have n3_ := Aside0.mk (below_step (by repeat (first | (with_reducible first | exact HB.out | apply below_alloc | apply pw_below_drewN | apply below_drew1 | refine below_set ?_ GE303.out) | exact HB.out)) hb); clear HO308; clear BK303; clear HB; have HO308 := n0_; have HO311 := n1_; have BK303 := n2_; have HB := n3_; clear n0_ n1_ n2_ n3_; (try clear hb); (try clear hb2); (try clear hk); (try clear hi); (try clear ho0)) | ((with_reducible refine gate_callee (f := 26) rfl ?_); refine goesL_ (some 29) rfl rfl Try.func26 (by kernel_rfl) rfl #[.slice A2 l2.length c2] rfl (by (try simp only [List.map_toArray, List.map_cons, List.map_nil]); first | done | rfl | (simp only [List.length_drop, List.length_take]; rfl)) ?_; (with_reducible refine (tensilelaw05_Plan.calls k _ _ l2 t312 _ ?side1 ?side2 A8.out).mono ?_); (case side1 => repeat (first | exact (Kd.C_below HR2.out HB.out) | (with_reducible refine Kd.C_alloc ?_ _) | (with_reducible refine Kd.C_drewN ?_ _) | (with_reducible refine Kd.C_drew ?_))); (case side2 => exact HC2.out); rintro e w44 ⟨v313, rfl, ho0, hb⟩; refine ⟨_, rfl, ?_⟩; have n0_ := Aside0.mk (Kd.R_below (by (with_reducible repeat (first | apply Kd.R_alloc | apply Kd.R_drewN | apply Kd.R_drew)); exact HO308.out) hb); have n1_ := Aside0.mk (Kd.S_elder' (by (with_reducible repeat (first | apply Kd.S_alloc | apply Kd.S_drewN | apply Kd.S_drew)); exact HO311.out) (Kd.R_base ho0) hb); have n2_ := Aside0.mk (Kd.R_lower ho0 (below_size (by repeat (first | (with_reducible first | exact HB.out | apply below_alloc | apply pw_below_drewN | apply below_drew1 | refine below_set ?_ GE303.out) | exact HB.out)))); have n3_ := Aside0.mk (blk_below (g := gb303) (o := .cells #[.slice A0_0 l0_0.length c0_0] 24 (0, 0)) (by (with_reducible repeat (first | refine blk_drewN ?_ _ | refine blk_drew ?_ | refine blk_alloc ?_ _)); exact BK303.out) hb); have n4_ := Aside0.mk (below_step (by repeat (first | (with_reducible first | exact HB.out | apply below_alloc | apply pw_below_drewN | apply below_drew1 | refine below_set ?_ GE303.out) | exact HB.out)) hb); clear HO308; clear HO311; clear BK303; clear HB; have HO308 := n0_; have HO311 := n1_; have HO314 := n2_; have BK303 := n3_; have HB := n4_; clear n0_ n1_ n2_ n3_ n4_; (try clear hb); (try clear hb2); (try clear hk); (try clear hi); (try clear ho0); obtain ⟨Ao45, co45, eo45⟩ := Kd.R_slice HO308.out; subst eo45; obtain ⟨Ao46, co46, eo46⟩ := Kd.S_slice HO311.out; subst eo46; obtain ⟨Ao47, co47, eo47⟩ := Kd.R_slice HO314.out; subst eo47) | ((with_reducible refine gate_callee (f := 25) rfl ?_); refine goesL_ (some 30) rfl rfl Try.func25 (by kernel_rfl) rfl #[.agg #[.slice Ao45 t306.length co45], .slice Ao46 t309.length co46, .slice Ao47 t312.length co47] rfl (by (try simp only [List.map_toArray, List.map_cons, List.map_nil]); first | done | rfl | (simp only [List.length_drop, List.length_take]; rfl)) ?_; (with_reducible refine (creep_Stretch.calls _ _ t306 _ _ t309 _ _ t312 t315 t316 t317 _ ?side1 ?side2 ?side3 ?side4 ?side5 ?side6 A9.out).mono ?_); (case side1 => repeat (first | exact (Kd.R_reads' HO308.out).2.2 | (with_reducible refine Kd.C_alloc ?_ _) | (with_reducible refine Kd.C_drewN ?_ _) | (with_reducible refine Kd.C_drew ?_))); (case side2 => exact (Kd.R_reads' HO308.out).2.1); (case side3 => repeat (first | exact (Kd.S_reads' HO311.out).2.2 | (with_reducible refine Kd.C_alloc ?_ _) | (with_reducible refine Kd.C_drewN ?_ _) | (with_reducible refine Kd.C_drew ?_))); (case side4 => exact (Kd.S_reads' HO311.out).2.1); (case side5 => repeat (first | exact (Kd.R_reads' HO314.out).2.2 | (with_reducible refine Kd.C_alloc ?_ _) | (with_reducible refine Kd.C_drewN ?_ _) | (with_reducible refine Kd.C_drew ?_))); (case side6 => exact (Kd.R_reads' HO314.out).2.1); rintro e w48 ⟨rfl, hb⟩; refine ⟨_, rfl, ?_⟩; have n0_ := Aside0.mk (Kd.R_below (by (with_reducible repeat (first | apply Kd.R_alloc | apply Kd.R_drewN | apply Kd.R_drew)); exact HO308.out) hb); have n1_ := Aside0.mk (Kd.S_below (by (with_reducible repeat (first | apply Kd.S_alloc | apply Kd.S_drewN | apply Kd.S_drew)); exact HO311.out) hb); have n2_ := Aside0.mk (Kd.R_below (by (with_reducible repeat (first | apply Kd.R_alloc | apply Kd.R_drewN | apply Kd.R_drew)); exact HO314.out) hb); have n3_ := Aside0.mk (blk_below (g := gb303) (o := .cells #[.slice A0_0 l0_0.length c0_0] 24 (0, 0)) (by (with_reducible repeat (first | refine blk_drewN ?_ _ | refine blk_drew ?_ | refine blk_alloc ?_ _)); exact BK303.out) hb); have n4_ := Aside0.mk (below_step (by repeat (first | (with_reducible first | exact HB.out | apply below_alloc | apply pw_below_drewN | apply below_drew1 | refine below_set ?_ GE303.out) | exact HB.out)) hb); clear HO308; clear HO311; clear HO314; clear BK303; clear HB; have HO308 := n0_; have HO311 := n1_; have HO314 := n2_; have BK303 := n3_; have HB := n4_; clear n0_ n1_ n2_ n3_ n4_; (try clear hb); (try clear hb2); (try clear hk); (try clear hi)) | ((with_reducible refine gate_dst (N := 7) rfl ?_); refine box_event ?hg (N := 7) ?hd (cs := #[.int .i64 0, .int .i64 0]) (t := 47) ?hr ?_; (case hd => rfl); (case hg => rfl); (case hr => first | (go_simp; done) | (go_simp; rfl)); intro gb318 hg w49 hbox hb; have n0_ := Aside0.mk (Kd.R_below (Kd.R_elderB (by (with_reducible repeat (first | apply Kd.R_alloc | apply Kd.R_drewN | apply Kd.R_drew)); exact HO308.out) gb318 (Nat.le_of_eq hg.symm)) hb); have n1_ := Aside0.mk (Kd.S_below (by (with_reducible repeat (first | apply Kd.S_alloc | apply Kd.S_drewN | apply Kd.S_drew)); exact HO311.out) hb); have n2_ := Aside0.mk (Kd.R_below (by (with_reducible repeat (first | apply Kd.R_alloc | apply Kd.R_drewN | apply Kd.R_drew)); exact HO314.out) hb); have n3_ := Aside0.mk (blk_below (g := gb303) (o := .cells #[.slice A0_0 l0_0.length c0_0] 24 (0, 0)) (by (with_reducible repeat (first | refine blk_drewN ?_ _ | refine blk_drew ?_ | refine blk_alloc ?_ _)); exact BK303.out) hb); have n4_ := Aside0.mk (below_step (by repeat (first | (with_reducible first | exact HB.out | apply below_alloc | apply pw_below_drewN | apply below_drew1 | refine below_set ?_ GE303.out) | exact HB.out)) hb); have n5_ := Aside0.mk (hbox); have n6_ := Aside0.mk ((by rw [hg]; exact (below_size (by repeat (first | (with_reducible first | exact HB.out | apply below_alloc | apply pw_below_drewN | apply below_drew1 | refine below_set ?_ GE303.out) | exact HB.out))) : w.heap.size ≤ gb318)); have n7_ := Aside0.mk ((by rw [hg]; exact (below_size (by repeat (first | (with_reducible first | exact HB.out | apply below_alloc | apply pw_below_drewN | apply below_drew1 | refine below_set ?_ GE303.out) | exact HB.out))) : w.heap.size ≤ gb318)); have n8_ := Aside0.mk ((by rw [hg]; exact Nat.ne_of_lt (blk_lt (g := gb303) (o := .cells #[.slice A0_0 l0_0.length c0_0] 24 (0, 0)) (by (with_reducible repeat (first | refine blk_drewN ?_ _ | refine blk_drew ?_ | refine blk_alloc ?_ _)); exact BK303.out)) : gb303 ≠ gb318)); have n9_ := Aside0.mk ((by rw [hg]; exact Nat.ne_of_gt (blk_lt (g := gb303) (o := .cells #[.slice A0_0 l0_0.length c0_0] 24 (0, 0)) (by (with_reducible repeat (first | refine blk_drewN ?_ _ | refine blk_drew ?_ | refine blk_alloc ?_ _)); exact BK303.out)) : gb318 ≠ gb303)); clear HO308; clear HO311; clear HO314; clear BK303; clear HB; have HO308 := n0_; have HO311 := n1_; have HO314 := n2_; have BK303 := n3_; have HB := n4_; have BK318 := n5_; have GW318 := n6_; have GE318 := n7_; have NB303_318 := n8_; have NB318_303 := n9_; clear n0_ n1_ n2_ n3_ n4_ n5_ n6_ n7_ n8_ n9_; clear hb hbox hg; have hnb50 := NB318_303.out; have hnc50 := NB303_318.out; have hcz51_0 : w49.cell? ⟨gb318, 0, none⟩ = some (.int .i64 0) := (blk_cell BK318.out 0).trans rfl; have hcz51_1 : w49.cell? ⟨gb318, 1, none⟩ = some (.int .i64 0) := (blk_cell BK318.out 1).trans rfl; have hfz51_0 := blk_frozen BK318.out 0; have hfz51_1 := blk_frozen BK318.out 1; have hcz52_0 : w49.cell? ⟨gb303, 0, none⟩ = some (.slice A0_0 l0_0.length c0_0) := (blk_cell BK303.out 0).trans rfl; have hfz52_0 := blk_frozen BK303.out 0) | ((with_reducible refine gate_callee (f := 21) rfl ?_); refine goesL_ (some 35) rfl rfl Try.func21 (by kernel_rfl) rfl #[.agg #[.slice A0_0 l0_0.length c0_0]] rfl (by (try simp only [List.map_toArray, List.map_cons, List.map_nil]); first | done | rfl | (simp only [List.length_drop, List.length_take]; rfl)) ?_; (with_reducible refine (tensilelaw05_Material.calls k _ _ l0_0 t319 _ ?side1 ?side2 A10.out).mono ?_); (case side1 => exact Kd.C_below HR0_0.out (by repeat (first | (with_reducible first | exact HB.out | apply below_alloc | apply pw_below_drewN | apply below_drew1 | refine below_set ?_ GE303.out | refine below_set ?_ GE318.out) | exact HB.out))); (case side2 => exact HC0_0.out); rintro e w53 ⟨v320, rfl, ho0, hb⟩; refine ⟨_, rfl, ?_⟩; have n0_ := Aside0.mk (Kd.R_elder' (by (with_reducible repeat (first | apply Kd.R_alloc | apply Kd.R_drewN | apply Kd.R_drew)); exact (Kd.R_mono (Kd.R_far (p := ⟨gb318, 1, none⟩) (Kd.R_far (p := ⟨gb318, 0, none⟩) (Kd.R_mono HO308.out (fun k_ hk => (⟨hk, hk.2⟩ : _ ∧ k_ ≠ gb318))) (fun _ hk => hk.2) (.int .i64 t315)) (fun _ hk => hk.2) (.int .i64 t316)) (fun _ h_ => h_.1))) (Kd.R_base ho0) hb); have n1_ := Aside0.mk (Kd.S_below (by (with_reducible repeat (first | apply Kd.S_alloc | apply Kd.S_drewN | apply Kd.S_drew)); exact (Kd.S_mono (Kd.S_far (p := ⟨gb318, 1, none⟩) (Kd.S_far (p := ⟨gb318, 0, none⟩) (Kd.S_types HO311.out BK318.out (by decide)) (fun _ hk => hk.2) (.int .i64 t315)) (fun _ hk => hk.2) (.int .i64 t316)) (fun _ h_ => h_.1))) hb); have n2_ := Aside0.mk (Kd.R_below (by (with_reducible repeat (first | apply Kd.R_alloc | apply Kd.R_drewN | apply Kd.R_drew)); exact (Kd.R_mono (Kd.R_far (p := ⟨gb318, 1, none⟩) (Kd.R_far (p := ⟨gb318, 0, none⟩) (Kd.R_types HO314.out BK318.out (by decide)) (fun _ hk => hk.2) (.int .i64 t315)) (fun _ hk => hk.2) (.int .i64 t316)) (fun _ h_ => h_.1))) hb); have n3_ := Aside0.mk (Kd.R_lower (Kd.R_newB (Kd.R_new' ho0 (Kd.R_lt (by (with_reducible repeat (first | apply Kd.R_alloc | apply Kd.R_drewN | apply Kd.R_drew)); exact (Kd.R_mono (Kd.R_far (p := ⟨gb318, 1, none⟩) (Kd.R_far (p := ⟨gb318, 0, none⟩) (Kd.R_mono HO308.out (fun k_ hk => (⟨hk, hk.2⟩ : _ ∧ k_ ≠ gb318))) (fun _ hk => hk.2) (.int .i64 t315)) (fun _ hk => hk.2) (.int .i64 t316)) (fun _ h_ => h_.1))))) (g := gb318) (o := .cells #[.int .i64 t315, .int .i64 t316] 47 (0, 0)) (by (with_reducible repeat (first | refine blk_drewN ?_ _ | refine blk_drew ?_ | refine blk_alloc ?_ _)); refine blk_put (cs := #[.int .i64 t315, .int .i64 0]) ?_ 1 _ rfl; (with_reducible repeat (first | refine blk_drewN ?_ _ | refine blk_drew ?_ | refine blk_alloc ?_ _)); refine blk_put (cs := #[.int .i64 0, .int .i64 0]) ?_ 0 _ rfl; (with_reducible repeat (first | refine blk_drewN ?_ _ | refine blk_drew ?_ | refine blk_alloc ?_ _)); exact BK318.out)) (below_size (by repeat (first | (with_reducible first | exact HB.out | apply below_alloc | apply pw_below_drewN | apply below_drew1 | refine below_set ?_ GE303.out | refine below_set ?_ GE318.out) | exact HB.out)))); have n4_ := Aside0.mk (blk_below (g := gb303) (o := .cells #[.slice A0_0 l0_0.length c0_0] 24 (0, 0)) (by (with_reducible repeat (first | refine blk_drewN ?_ _ | refine blk_drew ?_ | refine blk_alloc ?_ _)); refine blk_far ?_ NB303_318.out _; (with_reducible repeat (first | refine blk_drewN ?_ _ | refine blk_drew ?_ | refine blk_alloc ?_ _)); refine blk_far ?_ NB303_318.out _; (with_reducible repeat (first | refine blk_drewN ?_ _ | refine blk_drew ?_ | refine blk_alloc ?_ _)); exact BK303.out) hb); have n5_ := Aside0.mk (blk_below (g := gb318) (o := .cells #[.int .i64 t315, .int .i64 t316] 47 (0, 0)) (by (with_reducible repeat (first | refine blk_drewN ?_ _ | refine blk_drew ?_ | refine blk_alloc ?_ _)); refine blk_put (cs := #[.int .i64 t315, .int .i64 0]) ?_ 1 _ rfl; (with_reducible repeat (first | refine blk_drewN ?_ _ | refine blk_drew ?_ | refine blk_alloc ?_ _)); refine blk_put (cs := #[.int .i64 0, .int .i64 0]) ?_ 0 _ rfl; (with_reducible repeat (first | refine blk_drewN ?_ _ | refine blk_drew ?_ | refine blk_alloc ?_ _)); exact BK318.out) hb); have n6_ := Aside0.mk (below_step (by repeat (first | (with_reducible first | exact HB.out | apply below_alloc | apply pw_below_drewN | apply below_drew1 | refine below_set ?_ GE303.out | refine below_set ?_ GE318.out) | exact HB.out)) hb); clear HO308; clear HO311; clear HO314; clear BK303; clear BK318; clear HB; have HO308 := n0_; have HO311 := n1_; have HO314 := n2_; have HO321 := n3_; have BK303 := n4_; have BK318 := n5_; have HB := n6_; clear n0_ n1_ n2_ n3_ n4_ n5_ n6_; (try clear hb); (try clear hb2); (try clear hk); (try clear hi); (try clear ho0)) | ((with_reducible refine gate_callee (f := 22) rfl ?_); refine goesL_ (some 37) rfl rfl Try.func22 (by kernel_rfl) rfl #[.slice A1 l1.length c1] rfl (by (try simp only [List.map_toArray, List.map_cons, List.map_nil]); first | done | rfl | (simp only [List.length_drop, List.length_take]; rfl)) ?_; (with_reducible refine (tensilelaw05_Runs.calls k _ _ l1 t322 _ ?side1 ?side2 A11.out).mono ?_); (case side1 => repeat (first | exact (Kd.C_below HR1.out HB.out) | (with_reducible refine Kd.C_alloc ?_ _) | (with_reducible refine Kd.C_drewN ?_ _) | (with_reducible refine Kd.C_drew ?_))); (case side2 => exact HC1.out); rintro e w54 ⟨v323, rfl, ho0, hb⟩; refine ⟨_, rfl, ?_⟩; have n0_ := Aside0.mk (Kd.R_below (by (with_reducible repeat (first | apply Kd.R_alloc | apply Kd.R_drewN | apply Kd.R_drew)); exact HO308.out) hb); have n1_ := Aside0.mk (Kd.S_elder' (by (with_reducible repeat (first | apply Kd.S_alloc | apply Kd.S_drewN | apply Kd.S_drew)); exact HO311.out) (Kd.S_base ho0) hb); have n2_ := Aside0.mk (Kd.R_below (by (with_reducible repeat (first | apply Kd.R_alloc | apply Kd.R_drewN | apply Kd.R_drew)); exact HO314.out) hb); have n3_ := Aside0.mk (Kd.R_below (by (with_reducible repeat (first | apply Kd.R_alloc | apply Kd.R_drewN | apply Kd.R_drew)); exact HO321.out) hb); have n4_ := Aside0.mk (Kd.S_lower (Kd.S_new' (Kd.S_new' ho0 (Kd.S_lt (by (with_reducible repeat (first | apply Kd.S_alloc | apply Kd.S_drewN | apply Kd.S_drew)); exact HO311.out))) (Kd.R_lt (by (with_reducible repeat (first | apply Kd.R_alloc | apply Kd.R_drewN | apply Kd.R_drew)); exact HO314.out))) (below_size (by repeat (first | (with_reducible first | exact HB.out | apply below_alloc | apply pw_below_drewN | apply below_drew1 | refine below_set ?_ GE303.out | refine below_set ?_ GE318.out) | exact HB.out)))); have n5_ := Aside0.mk (blk_below (g := gb303) (o := .cells #[.slice A0_0 l0_0.length c0_0] 24 (0, 0)) (by (with_reducible repeat (first | refine blk_drewN ?_ _ | refine blk_drew ?_ | refine blk_alloc ?_ _)); exact BK303.out) hb); have n6_ := Aside0.mk (blk_below (g := gb318) (o := .cells #[.int .i64 t315, .int .i64 t316] 47 (0, 0)) (by (with_reducible repeat (first | refine blk_drewN ?_ _ | refine blk_drew ?_ | refine blk_alloc ?_ _)); exact BK318.out) hb); have n7_ := Aside0.mk (below_step (by repeat (first | (with_reducible first | exact HB.out | apply below_alloc | apply pw_below_drewN | apply below_drew1 | refine below_set ?_ GE303.out | refine below_set ?_ GE318.out) | exact HB.out)) hb); clear HO308; clear HO311; clear HO314; clear HO321; clear BK303; clear BK318; clear HB; have HO308 := n0_; have HO311 := n1_; have HO314 := n2_; have HO321 := n3_; have HO324 := n4_; have BK303 := n5_; have BK318 := n6_; have HB := n7_; clear n0_ n1_ n2_ n3_ n4_ n5_ n6_ n7_; (try clear hb); (try clear hb2); (try clear hk); (try clear hi); (try clear ho0)) | ((with_reducible refine gate_callee (f := 26) rfl ?_); refine goesL_ (some 39) rfl rfl Try.func26 (by kernel_rfl) rfl #[.slice A2 l2.length c2] rfl (by (try simp only [List.map_toArray, List.map_cons, List.map_nil]); first | done | rfl | (simp only [List.length_drop, List.length_take]; rfl)) ?_; (with_reducible refine (tensilelaw05_Plan.calls k _ _ l2 t325 _ ?side1 ?side2 A12.out).mono ?_); (case side1 => repeat (first | exact (Kd.C_below HR2.out HB.out) | (with_reducible refine Kd.C_alloc ?_ _) | (with_reducible refine Kd.C_drewN ?_ _) | (with_reducible refine Kd.C_drew ?_))); (case side2 => exact HC2.out); rintro e w55 ⟨v326, rfl, ho0, hb⟩; refine ⟨_, rfl, ?_⟩; have n0_ := Aside0.mk (Kd.R_below (by (with_reducible repeat (first | apply Kd.R_alloc | apply Kd.R_drewN | apply Kd.R_drew)); exact HO308.out) hb); have n1_ := Aside0.mk (Kd.S_elder' (by (with_reducible repeat (first | apply Kd.S_alloc | apply Kd.S_drewN | apply Kd.S_drew)); exact HO311.out) (Kd.R_base ho0) hb); have n2_ := Aside0.mk (Kd.R_elder' (by (with_reducible repeat (first | apply Kd.R_alloc | apply Kd.R_drewN | apply Kd.R_drew)); exact HO314.out) (Kd.R_base ho0) hb); have n3_ := Aside0.mk (Kd.R_below (by (with_reducible repeat (first | apply Kd.R_alloc | apply Kd.R_drewN | apply Kd.R_drew)); exact HO321.out) hb); have n4_ := Aside0.mk (Kd.S_elder' (by (with_reducible repeat (first | apply Kd.S_alloc | apply Kd.S_drewN | apply Kd.S_drew)); exact HO324.out) (Kd.R_base ho0) hb); have n5_ := Aside0.mk (Kd.R_lower (Kd.R_new' ho0 (Kd.R_lt (by (with_reducible repeat (first | apply Kd.R_alloc | apply Kd.R_drewN | apply Kd.R_drew)); exact HO314.out))) (below_size (by repeat (first | (with_reducible first | exact HB.out | apply below_alloc | apply pw_below_drewN | apply below_drew1 | refine below_set ?_ GE303.out | refine below_set ?_ GE318.out) | exact HB.out)))); have n6_ := Aside0.mk (blk_below (g := gb303) (o := .cells #[.slice A0_0 l0_0.length c0_0] 24 (0, 0)) (by (with_reducible repeat (first | refine blk_drewN ?_ _ | refine blk_drew ?_ | refine blk_alloc ?_ _)); exact BK303.out) hb); have n7_ := Aside0.mk (blk_below (g := gb318) (o := .cells #[.int .i64 t315, .int .i64 t316] 47 (0, 0)) (by (with_reducible repeat (first | refine blk_drewN ?_ _ | refine blk_drew ?_ | refine blk_alloc ?_ _)); exact BK318.out) hb); have n8_ := Aside0.mk (below_step (by repeat (first | (with_reducible first | exact HB.out | apply below_alloc | apply pw_below_drewN | apply below_drew1 | refine below_set ?_ GE303.out | refine below_set ?_ GE318.out) | exact HB.out)) hb); clear HO308; clear HO311; clear HO314; clear HO321; clear HO324; clear BK303; clear BK318; clear HB; have HO308 := n0_; have HO311 := n1_; have HO314 := n2_; have HO321 := n3_; have HO324 := n4_; have HO327 := n5_; have BK303 := n6_; have BK318 := n7_; have HB := n8_; clear n0_ n1_ n2_ n3_ n4_ n5_ n6_ n7_ n8_; (try clear hb); (try clear hb2); (try clear hk); (try clear hi); (try clear ho0); obtain ⟨Ao56, co56, eo56⟩ := Kd.R_slice HO321.out; subst eo56; obtain ⟨Ao57, co57, eo57⟩ := Kd.S_slice HO324.out; subst eo57; obtain ⟨Ao58, co58, eo58⟩ := Kd.R_slice HO327.out; subst eo58) | ((with_reducible refine gate_callee (f := 35) rfl ?_); refine goesL_ (some 40) rfl rfl Try.func35 (by kernel_rfl) rfl #[.agg #[.slice Ao56 t319.length co56], .slice Ao57 t322.length co57, .slice Ao58 t325.length co58, .bool false] rfl (by (try simp only [List.map_toArray, List.map_cons, List.map_nil]); first | done | rfl | (simp only [List.length_drop, List.length_take]; rfl)) ?_; (with_reducible refine (creep_Shows.calls _ _ t319 _ _ t322 _ _ t325 false t328 t331 _ ?side1 ?side2 ?side3 ?side4 ?side5 ?side6 A13.out).mono ?_); (case side1 => repeat (first | exact (Kd.R_reads' HO321.out).2.2 | (with_reducible refine Kd.C_alloc ?_ _) | (with_reducible refine Kd.C_drewN ?_ _) | (with_reducible refine Kd.C_drew ?_))); (case side2 => exact (Kd.R_reads' HO321.out).2.1); (case side3 => repeat (first | exact (Kd.S_reads' HO324.out).2.2 | (with_reducible refine Kd.C_alloc ?_ _) | (with_reducible refine Kd.C_drewN ?_ _) | (with_reducible refine Kd.C_drew ?_))); (case side4 => exact (Kd.S_reads' HO324.out).2.1); (case side5 => repeat (first | exact (Kd.R_reads' HO327.out).2.2 | (with_reducible refine Kd.C_alloc ?_ _) | (with_reducible refine Kd.C_drewN ?_ _) | (with_reducible refine Kd.C_drew ?_))); (case side6 => exact (Kd.R_reads' HO327.out).2.1); rintro e w59 ⟨v329, rfl, ho0, hb⟩; refine ⟨_, rfl, ?_⟩; have n0_ := Aside0.mk (Kd.R_below (by (with_reducible repeat (first | apply Kd.R_alloc | apply Kd.R_drewN | apply Kd.R_drew)); exact HO308.out) hb); have n1_ := Aside0.mk (Kd.S_below (by (with_reducible repeat (first | apply Kd.S_alloc | apply Kd.S_drewN | apply Kd.S_drew)); exact HO311.out) hb); have n2_ := Aside0.mk (Kd.R_below (by (with_reducible repeat (first | apply Kd.R_alloc | apply Kd.R_drewN | apply Kd.R_drew)); exact HO314.out) hb); have n3_ := Aside0.mk (Kd.R_below (by (with_reducible repeat (first | apply Kd.R_alloc | apply Kd.R_drewN | apply Kd.R_drew)); exact HO321.out) hb); have n4_ := Aside0.mk (Kd.S_below (by (with_reducible repeat (first | apply Kd.S_alloc | apply Kd.S_drewN | apply Kd.S_drew)); exact HO324.out) hb); have n5_ := Aside0.mk (Kd.R_below (by (with_reducible repeat (first | apply Kd.R_alloc | apply Kd.R_drewN | apply Kd.R_drew)); exact HO327.out) hb); have n6_ := Aside0.mk (Kd.R_lower ho0 (below_size (by repeat (first | (with_reducible first | exact HB.out | apply below_alloc | apply pw_below_drewN | apply below_drew1 | refine below_set ?_ GE303.out | refine below_set ?_ GE318.out) | exact HB.out)))); have n7_ := Aside0.mk (blk_below (g := gb303) (o := .cells #[.slice A0_0 l0_0.length c0_0] 24 (0, 0)) (by (with_reducible repeat (first | refine blk_drewN ?_ _ | refine blk_drew ?_ | refine blk_alloc ?_ _)); exact BK303.out) hb); have n8_ := Aside0.mk (blk_below (g := gb318) (o := .cells #[.int .i64 t315, .int .i64 t316] 47 (0, 0)) (by (with_reducible repeat (first | refine blk_drewN ?_ _ | refine blk_drew ?_ | refine blk_alloc ?_ _)); exact BK318.out) hb); have n9_ := Aside0.mk (below_step (by repeat (first | (with_reducible first | exact HB.out | apply below_alloc | apply pw_below_drewN | apply below_drew1 | refine below_set ?_ GE303.out | refine below_set ?_ GE318.out) | exact HB.out)) hb); clear HO308; clear HO311; clear HO314; clear HO321; clear HO324; clear HO327; clear BK303; clear BK318; clear HB; have HO308 := n0_; have HO311 := n1_; have HO314 := n2_; have HO321 := n3_; have HO324 := n4_; have HO327 := n5_; have HO330 := n6_; have BK303 := n7_; have BK318 := n8_; have HB := n9_; clear n0_ n1_ n2_ n3_ n4_ n5_ n6_ n7_ n8_ n9_; (try clear hb); (try clear hb2); (try clear hk); (try clear hi); (try clear ho0); have hcz60_0 : w59.cell? ⟨gb303, 0, none⟩ = some (.slice A0_0 l0_0.length c0_0) := (blk_cell BK303.out 0).trans rfl; have hfz60_0 := blk_frozen BK303.out 0) | ((with_reducible refine gate_callee (f := 21) rfl ?_); refine goesL_ (some 45) rfl rfl Try.func21 (by kernel_rfl) rfl #[.agg #[.slice A0_0 l0_0.length c0_0]] rfl (by (try simp only [List.map_toArray, List.map_cons, List.map_nil]); first | done | rfl | (simp only [List.length_drop, List.length_take]; rfl)) ?_; (with_reducible refine (tensilelaw05_Material.calls k _ _ l0_0 t332 _ ?side1 ?side2 A14.out).mono ?_); (case side1 => repeat (first | exact (Kd.C_below HR0_0.out HB.out) | (with_reducible refine Kd.C_alloc ?_ _) | (with_reducible refine Kd.C_drewN ?_ _) | (with_reducible refine Kd.C_drew ?_))); (case side2 => exact HC0_0.out); rintro e w61 ⟨v333, rfl, ho0, hb⟩; refine ⟨_, rfl, ?_⟩; have n0_ := Aside0.mk (Kd.R_elder' (by (with_reducible repeat (first | apply Kd.R_alloc | apply Kd.R_drewN | apply Kd.R_drew)); exact HO308.out) (Kd.R_base ho0) hb); have n1_ := Aside0.mk (Kd.S_below (by (with_reducible repeat (first | apply Kd.S_alloc | apply Kd.S_drewN | apply Kd.S_drew)); exact HO311.out) hb); have n2_ := Aside0.mk (Kd.R_below (by (with_reducible repeat (first | apply Kd.R_alloc | apply Kd.R_drewN | apply Kd.R_drew)); exact HO314.out) hb); have n3_ := Aside0.mk (Kd.R_elder' (by (with_reducible repeat (first | apply Kd.R_alloc | apply Kd.R_drewN | apply Kd.R_drew)); exact HO321.out) (Kd.R_base ho0) hb); have n4_ := Aside0.mk (Kd.S_below (by (with_reducible repeat (first | apply Kd.S_alloc | apply Kd.S_drewN | apply Kd.S_drew)); exact HO324.out) hb); have n5_ := Aside0.mk (Kd.R_below (by (with_reducible repeat (first | apply Kd.R_alloc | apply Kd.R_drewN | apply Kd.R_drew)); exact HO327.out) hb); have n6_ := Aside0.mk (Kd.R_below (by (with_reducible repeat (first | apply Kd.R_alloc | apply Kd.R_drewN | apply Kd.R_drew)); exact HO330.out) hb); have n7_ := Aside0.mk (Kd.R_lower (Kd.R_newB (Kd.R_new' (Kd.R_new' ho0 (Kd.R_lt (by (with_reducible repeat (first | apply Kd.R_alloc | apply Kd.R_drewN | apply Kd.R_drew)); exact HO308.out))) (Kd.R_lt (by (with_reducible repeat (first | apply Kd.R_alloc | apply Kd.R_drewN | apply Kd.R_drew)); exact HO321.out))) (g := gb318) (o := .cells #[.int .i64 t315, .int .i64 t316] 47 (0, 0)) (by (with_reducible repeat (first | refine blk_drewN ?_ _ | refine blk_drew ?_ | refine blk_alloc ?_ _)); exact BK318.out)) (below_size (by repeat (first | (with_reducible first | exact HB.out | apply below_alloc | apply pw_below_drewN | apply below_drew1 | refine below_set ?_ GE303.out | refine below_set ?_ GE318.out) | exact HB.out)))); have n8_ := Aside0.mk (blk_below (g := gb303) (o := .cells #[.slice A0_0 l0_0.length c0_0] 24 (0, 0)) (by (with_reducible repeat (first | refine blk_drewN ?_ _ | refine blk_drew ?_ | refine blk_alloc ?_ _)); exact BK303.out) hb); have n9_ := Aside0.mk (blk_below (g := gb318) (o := .cells #[.int .i64 t315, .int .i64 t316] 47 (0, 0)) (by (with_reducible repeat (first | refine blk_drewN ?_ _ | refine blk_drew ?_ | refine blk_alloc ?_ _)); exact BK318.out) hb); have n10_ := Aside0.mk (below_step (by repeat (first | (with_reducible first | exact HB.out | apply below_alloc | apply pw_below_drewN | apply below_drew1 | refine below_set ?_ GE303.out | refine below_set ?_ GE318.out) | exact HB.out)) hb); clear HO308; clear HO311; clear HO314; clear HO321; clear HO324; clear HO327; clear HO330; clear BK303; clear BK318; clear HB; have HO308 := n0_; have HO311 := n1_; have HO314 := n2_; have HO321 := n3_; have HO324 := n4_; have HO327 := n5_; have HO330 := n6_; have HO334 := n7_; have BK303 := n8_; have BK318 := n9_; have HB := n10_; clear n0_ n1_ n2_ n3_ n4_ n5_ n6_ n7_ n8_ n9_ n10_; (try clear hb); (try clear hb2); (try clear hk); (try clear hi); (try clear ho0)) | ((with_reducible refine gate_callee (f := 22) rfl ?_); refine goesL_ (some 47) rfl rfl Try.func22 (by kernel_rfl) rfl #[.slice A1 l1.length c1] rfl (by (try simp only [List.map_toArray, List.map_cons, List.map_nil]); first | done | rfl | (simp only [List.length_drop, List.length_take]; rfl)) ?_; (with_reducible refine (tensilelaw05_Runs.calls k _ _ l1 t335 _ ?side1 ?side2 A15.out).mono ?_); (case side1 => repeat (first | exact (Kd.C_below HR1.out HB.out) | (with_reducible refine Kd.C_alloc ?_ _) | (with_reducible refine Kd.C_drewN ?_ _) | (with_reducible refine Kd.C_drew ?_))); (case side2 => exact HC1.out); rintro e w62 ⟨v336, rfl, ho0, hb⟩; refine ⟨_, rfl, ?_⟩; have n0_ := Aside0.mk (Kd.R_below (by (with_reducible repeat (first | apply Kd.R_alloc | apply Kd.R_drewN | apply Kd.R_drew)); exact HO308.out) hb); have n1_ := Aside0.mk (Kd.S_elder' (by (with_reducible repeat (first | apply Kd.S_alloc | apply Kd.S_drewN | apply Kd.S_drew)); exact HO311.out) (Kd.S_base ho0) hb); have n2_ := Aside0.mk (Kd.R_below (by (with_reducible repeat (first | apply Kd.R_alloc | apply Kd.R_drewN | apply Kd.R_drew)); exact HO314.out) hb); have n3_ := Aside0.mk (Kd.R_below (by (with_reducible repeat (first | apply Kd.R_alloc | apply Kd.R_drewN | apply Kd.R_drew)); exact HO321.out) hb); have n4_ := Aside0.mk (Kd.S_elder' (by (with_reducible repeat (first | apply Kd.S_alloc | apply Kd.S_drewN | apply Kd.S_drew)); exact HO324.out) (Kd.S_base ho0) hb); have n5_ := Aside0.mk (Kd.R_below (by (with_reducible repeat (first | apply Kd.R_alloc | apply Kd.R_drewN | apply Kd.R_drew)); exact HO327.out) hb); have n6_ := Aside0.mk (Kd.R_below (by (with_reducible repeat (first | apply Kd.R_alloc | apply Kd.R_drewN | apply Kd.R_drew)); exact HO330.out) hb); have n7_ := Aside0.mk (Kd.R_below (by (with_reducible repeat (first | apply Kd.R_alloc | apply Kd.R_drewN | apply Kd.R_drew)); exact HO334.out) hb); have n8_ := Aside0.mk (Kd.S_lower (Kd.S_new' (Kd.S_new' (Kd.S_new' (Kd.S_new' ho0 (Kd.S_lt (by (with_reducible repeat (first | apply Kd.S_alloc | apply Kd.S_drewN | apply Kd.S_drew)); exact HO311.out))) (Kd.R_lt (by (with_reducible repeat (first | apply Kd.R_alloc | apply Kd.R_drewN | apply Kd.R_drew)); exact HO314.out))) (Kd.S_lt (by (with_reducible repeat (first | apply Kd.S_alloc | apply Kd.S_drewN | apply Kd.S_drew)); exact HO324.out))) (Kd.R_lt (by (with_reducible repeat (first | apply Kd.R_alloc | apply Kd.R_drewN | apply Kd.R_drew)); exact HO327.out))) (below_size (by repeat (first | (with_reducible first | exact HB.out | apply below_alloc | apply pw_below_drewN | apply below_drew1 | refine below_set ?_ GE303.out | refine below_set ?_ GE318.out) | exact HB.out)))); have n9_ := Aside0.mk (blk_below (g := gb303) (o := .cells #[.slice A0_0 l0_0.length c0_0] 24 (0, 0)) (by (with_reducible repeat (first | refine blk_drewN ?_ _ | refine blk_drew ?_ | refine blk_alloc ?_ _)); exact BK303.out) hb); have n10_ := Aside0.mk (blk_below (g := gb318) (o := .cells #[.int .i64 t315, .int .i64 t316] 47 (0, 0)) (by (with_reducible repeat (first | refine blk_drewN ?_ _ | refine blk_drew ?_ | refine blk_alloc ?_ _)); exact BK318.out) hb); have n11_ := Aside0.mk (below_step (by repeat (first | (with_reducible first | exact HB.out | apply below_alloc | apply pw_below_drewN | apply below_drew1 | refine below_set ?_ GE303.out | refine below_set ?_ GE318.out) | exact HB.out)) hb); clear HO308; clear HO311; clear HO314; clear HO321; clear HO324; clear HO327; clear HO330; clear HO334; clear BK303; clear BK318; clear HB; have HO308 := n0_; have HO311 := n1_; have HO314 := n2_; have HO321 := n3_; have HO324 := n4_; have HO327 := n5_; have HO330 := n6_; have HO334 := n7_; have HO337 := n8_; have BK303 := n9_; have BK318 := n10_; have HB := n11_; clear n0_ n1_ n2_ n3_ n4_ n5_ n6_ n7_ n8_ n9_ n10_ n11_; (try clear hb); (try clear hb2); (try clear hk); (try clear hi); (try clear ho0)) | ((with_reducible refine gate_callee (f := 26) rfl ?_); refine goesL_ (some 49) rfl rfl Try.func26 (by kernel_rfl) rfl #[.slice A2 l2.length c2] rfl (by (try simp only [List.map_toArray, List.map_cons, List.map_nil]); first | done | rfl | (simp only [List.length_drop, List.length_take]; rfl)) ?_; (with_reducible refine (tensilelaw05_Plan.calls k _ _ l2 t338 _ ?side1 ?side2 A16.out).mono ?_); (case side1 => repeat (first | exact (Kd.C_below HR2.out HB.out) | (with_reducible refine Kd.C_alloc ?_ _) | (with_reducible refine Kd.C_drewN ?_ _) | (with_reducible refine Kd.C_drew ?_))); (case side2 => exact HC2.out); rintro e w63 ⟨v339, rfl, ho0, hb⟩; refine ⟨_, rfl, ?_⟩; have n0_ := Aside0.mk (Kd.R_below (by (with_reducible repeat (first | apply Kd.R_alloc | apply Kd.R_drewN | apply Kd.R_drew)); exact HO308.out) hb); have n1_ := Aside0.mk (Kd.S_elder' (by (with_reducible repeat (first | apply Kd.S_alloc | apply Kd.S_drewN | apply Kd.S_drew)); exact HO311.out) (Kd.R_base ho0) hb); have n2_ := Aside0.mk (Kd.R_elder' (by (with_reducible repeat (first | apply Kd.R_alloc | apply Kd.R_drewN | apply Kd.R_drew)); exact HO314.out) (Kd.R_base ho0) hb); have n3_ := Aside0.mk (Kd.R_below (by (with_reducible repeat (first | apply Kd.R_alloc | apply Kd.R_drewN | apply Kd.R_drew)); exact HO321.out) hb); have n4_ := Aside0.mk (Kd.S_elder' (by (with_reducible repeat (first | apply Kd.S_alloc | apply Kd.S_drewN | apply Kd.S_drew)); exact HO324.out) (Kd.R_base ho0) hb); have n5_ := Aside0.mk (Kd.R_elder' (by (with_reducible repeat (first | apply Kd.R_alloc | apply Kd.R_drewN | apply Kd.R_drew)); exact HO327.out) (Kd.R_base ho0) hb); have n6_ := Aside0.mk (Kd.R_below (by (with_reducible repeat (first | apply Kd.R_alloc | apply Kd.R_drewN | apply Kd.R_drew)); exact HO330.out) hb); have n7_ := Aside0.mk (Kd.R_below (by (with_reducible repeat (first | apply Kd.R_alloc | apply Kd.R_drewN | apply Kd.R_drew)); exact HO334.out) hb); have n8_ := Aside0.mk (Kd.S_elder' (by (with_reducible repeat (first | apply Kd.S_alloc | apply Kd.S_drewN | apply Kd.S_drew)); exact HO337.out) (Kd.R_base ho0) hb); have n9_ := Aside0.mk (Kd.R_lower (Kd.R_new' (Kd.R_new' ho0 (Kd.R_lt (by (with_reducible repeat (first | apply Kd.R_alloc | apply Kd.R_drewN | apply Kd.R_drew)); exact HO314.out))) (Kd.R_lt (by (with_reducible repeat (first | apply Kd.R_alloc | apply Kd.R_drewN | apply Kd.R_drew)); exact HO327.out))) (below_size (by repeat (first | (with_reducible first | exact HB.out | apply below_alloc | apply pw_below_drewN | apply below_drew1 | refine below_set ?_ GE303.out | refine below_set ?_ GE318.out) | exact HB.out)))); have n10_ := Aside0.mk (blk_below (g := gb303) (o := .cells #[.slice A0_0 l0_0.length c0_0] 24 (0, 0)) (by (with_reducible repeat (first | refine blk_drewN ?_ _ | refine blk_drew ?_ | refine blk_alloc ?_ _)); exact BK303.out) hb); have n11_ := Aside0.mk (blk_below (g := gb318) (o := .cells #[.int .i64 t315, .int .i64 t316] 47 (0, 0)) (by (with_reducible repeat (first | refine blk_drewN ?_ _ | refine blk_drew ?_ | refine blk_alloc ?_ _)); exact BK318.out) hb); have n12_ := Aside0.mk (below_step (by repeat (first | (with_reducible first | exact HB.out | apply below_alloc | apply pw_below_drewN | apply below_drew1 | refine below_set ?_ GE303.out | refine below_set ?_ GE318.out) | exact HB.out)) hb); clear HO308; clear HO311; clear HO314; clear HO321; clear HO324; clear HO327; clear HO330; clear HO334; clear HO337; clear BK303; clear BK318; clear HB; have HO308 := n0_; have HO311 := n1_; have HO314 := n2_; have HO321 := n3_; have HO324 := n4_; have HO327 := n5_; have HO330 := n6_; have HO334 := n7_; have HO337 := n8_; have HO340 := n9_; have BK303 := n10_; have BK318 := n11_; have HB := n12_; clear n0_ n1_ n2_ n3_ n4_ n5_ n6_ n7_ n8_ n9_ n10_ n11_ n12_; (try clear hb); (try clear hb2); (try clear hk); (try clear hi); (try clear ho0); obtain ⟨Ao64, co64, eo64⟩ := Kd.R_slice HO334.out; subst eo64; obtain ⟨Ao65, co65, eo65⟩ := Kd.S_slice HO337.out; subst eo65; obtain ⟨Ao66, co66, eo66⟩ := Kd.R_slice HO340.out; subst eo66) | ((with_reducible refine gate_callee (f := 35) rfl ?_); refine goesL_ (some 50) rfl rfl Try.func35 (by kernel_rfl) rfl #[.agg #[.slice Ao64 t332.length co64], .slice Ao65 t335.length co65, .slice Ao66 t338.length co66, .bool true] rfl (by (try simp only [List.map_toArray, List.map_cons, List.map_nil]); first | done | rfl | (simp only [List.length_drop, List.length_take]; rfl)) ?_; (with_reducible refine (creep_Shows.calls _ _ t332 _ _ t335 _ _ t338 true t341 t344 _ ?side1 ?side2 ?side3 ?side4 ?side5 ?side6 A17.out).mono ?_); (case side1 => repeat (first | exact (Kd.R_reads' HO334.out).2.2 | (with_reducible refine Kd.C_alloc ?_ _) | (with_reducible refine Kd.C_drewN ?_ _) | (with_reducible refine Kd.C_drew ?_))); (case side2 => exact (Kd.R_reads' HO334.out).2.1); (case side3 => repeat (first | exact (Kd.S_reads' HO337.out).2.2 | (with_reducible refine Kd.C_alloc ?_ _) | (with_reducible refine Kd.C_drewN ?_ _) | (with_reducible refine Kd.C_drew ?_))); (case side4 => exact (Kd.S_reads' HO337.out).2.1); (case side5 => repeat (first | exact (Kd.R_reads' HO340.out).2.2 | (with_reducible refine Kd.C_alloc ?_ _) | (with_reducible refine Kd.C_drewN ?_ _) | (with_reducible refine Kd.C_drew ?_))); (case side6 => exact (Kd.R_reads' HO340.out).2.1); rintro e w67 ⟨v342, rfl, ho0, hb⟩; refine ⟨_, rfl, ?_⟩; have n0_ := Aside0.mk (Kd.R_below (by (with_reducible repeat (first | apply Kd.R_alloc | apply Kd.R_drewN | apply Kd.R_drew)); exact HO308.out) hb); have n1_ := Aside0.mk (Kd.S_below (by (with_reducible repeat (first | apply Kd.S_alloc | apply Kd.S_drewN | apply Kd.S_drew)); exact HO311.out) hb); have n2_ := Aside0.mk (Kd.R_below (by (with_reducible repeat (first | apply Kd.R_alloc | apply Kd.R_drewN | apply Kd.R_drew)); exact HO314.out) hb); have n3_ := Aside0.mk (Kd.R_below (by (with_reducible repeat (first | apply Kd.R_alloc | apply Kd.R_drewN | apply Kd.R_drew)); exact HO321.out) hb); have n4_ := Aside0.mk (Kd.S_below (by (with_reducible repeat (first | apply Kd.S_alloc | apply Kd.S_drewN | apply Kd.S_drew)); exact HO324.out) hb); have n5_ := Aside0.mk (Kd.R_below (by (with_reducible repeat (first | apply Kd.R_alloc | apply Kd.R_drewN | apply Kd.R_drew)); exact HO327.out) hb); have n6_ := Aside0.mk (Kd.R_elder' (by (with_reducible repeat (first | apply Kd.R_alloc | apply Kd.R_drewN | apply Kd.R_drew)); exact HO330.out) (Kd.R_base ho0) hb); have n7_ := Aside0.mk (Kd.R_below (by (with_reducible repeat (first | apply Kd.R_alloc | apply Kd.R_drewN | apply Kd.R_drew)); exact HO334.out) hb); have n8_ := Aside0.mk (Kd.S_below (by (with_reducible repeat (first | apply Kd.S_alloc | apply Kd.S_drewN | apply Kd.S_drew)); exact HO337.out) hb); have n9_ := Aside0.mk (Kd.R_below (by (with_reducible repeat (first | apply Kd.R_alloc | apply Kd.R_drewN | apply Kd.R_drew)); exact HO340.out) hb); have n10_ := Aside0.mk (Kd.R_lower (Kd.R_new' ho0 (Kd.R_lt (by (with_reducible repeat (first | apply Kd.R_alloc | apply Kd.R_drewN | apply Kd.R_drew)); exact HO330.out))) (below_size (by repeat (first | (with_reducible first | exact HB.out | apply below_alloc | apply pw_below_drewN | apply below_drew1 | refine below_set ?_ GE303.out | refine below_set ?_ GE318.out) | exact HB.out)))); have n11_ := Aside0.mk (blk_below (g := gb303) (o := .cells #[.slice A0_0 l0_0.length c0_0] 24 (0, 0)) (by (with_reducible repeat (first | refine blk_drewN ?_ _ | refine blk_drew ?_ | refine blk_alloc ?_ _)); exact BK303.out) hb); have n12_ := Aside0.mk (blk_below (g := gb318) (o := .cells #[.int .i64 t315, .int .i64 t316] 47 (0, 0)) (by (with_reducible repeat (first | refine blk_drewN ?_ _ | refine blk_drew ?_ | refine blk_alloc ?_ _)); exact BK318.out) hb); have n13_ := Aside0.mk (below_step (by repeat (first | (with_reducible first | exact HB.out | apply below_alloc | apply pw_below_drewN | apply below_drew1 | refine below_set ?_ GE303.out | refine below_set ?_ GE318.out) | exact HB.out)) hb); clear HO308; clear HO311; clear HO314; clear HO321; clear HO324; clear HO327; clear HO330; clear HO334; clear HO337; clear HO340; clear BK303; clear BK318; clear HB; have HO308 := n0_; have HO311 := n1_; have HO314 := n2_; have HO321 := n3_; have HO324 := n4_; have HO327 := n5_; have HO330 := n6_; have HO334 := n7_; have HO337 := n8_; have HO340 := n9_; have HO343 := n10_; have BK303 := n11_; have BK318 := n12_; have HB := n13_; clear n0_ n1_ n2_ n3_ n4_ n5_ n6_ n7_ n8_ n9_ n10_ n11_ n12_ n13_; (try clear hb); (try clear hb2); (try clear hk); (try clear hi); (try clear ho0); have hcz68_0 : w67.cell? ⟨gb303, 0, none⟩ = some (.slice A0_0 l0_0.length c0_0) := (blk_cell BK303.out 0).trans rfl; have hfz68_0 := blk_frozen BK303.out 0) | ((with_reducible refine gate_callee (f := 21) rfl ?_); refine goesL_ (some 72) rfl rfl Try.func21 (by kernel_rfl) rfl #[.agg #[.slice A0_0 l0_0.length c0_0]] rfl (by (try simp only [List.map_toArray, List.map_cons, List.map_nil]); first | done | rfl | (simp only [List.length_drop, List.length_take]; rfl)) ?_; (with_reducible refine (tensilelaw05_Material.calls k _ _ l0_0 t346 _ ?side1 ?side2 A19.out).mono ?_); (case side1 => repeat (first | exact (Kd.C_below HR0_0.out HB.out) | (with_reducible refine Kd.C_alloc ?_ _) | (with_reducible refine Kd.C_drewN ?_ _) | (with_reducible refine Kd.C_drew ?_))); (case side2 => exact HC0_0.out); rintro e w69 ⟨v347, rfl, ho0, hb⟩; refine ⟨_, rfl, ?_⟩; have n0_ := Aside0.mk (Kd.R_elder' (by (with_reducible repeat (first | apply Kd.R_alloc | apply Kd.R_drewN | apply Kd.R_drew)); exact HO308.out) (Kd.R_base ho0) hb); have n1_ := Aside0.mk (Kd.S_below (by (with_reducible repeat (first | apply Kd.S_alloc | apply Kd.S_drewN | apply Kd.S_drew)); exact HO311.out) hb); have n2_ := Aside0.mk (Kd.R_below (by (with_reducible repeat (first | apply Kd.R_alloc | apply Kd.R_drewN | apply Kd.R_drew)); exact HO314.out) hb); have n3_ := Aside0.mk (Kd.R_elder' (by (with_reducible repeat (first | apply Kd.R_alloc | apply Kd.R_drewN | apply Kd.R_drew)); exact HO321.out) (Kd.R_base ho0) hb); have n4_ := Aside0.mk (Kd.S_below (by (with_reducible repeat (first | apply Kd.S_alloc | apply Kd.S_drewN | apply Kd.S_drew)); exact HO324.out) hb); have n5_ := Aside0.mk (Kd.R_below (by (with_reducible repeat (first | apply Kd.R_alloc | apply Kd.R_drewN | apply Kd.R_drew)); exact HO327.out) hb); have n6_ := Aside0.mk (Kd.R_below (by (with_reducible repeat (first | apply Kd.R_alloc | apply Kd.R_drewN | apply Kd.R_drew)); exact HO330.out) hb); have n7_ := Aside0.mk (Kd.R_elder' (by (with_reducible repeat (first | apply Kd.R_alloc | apply Kd.R_drewN | apply Kd.R_drew)); exact HO334.out) (Kd.R_base ho0) hb); have n8_ := Aside0.mk (Kd.S_below (by (with_reducible repeat (first | apply Kd.S_alloc | apply Kd.S_drewN | apply Kd.S_drew)); exact HO337.out) hb); have n9_ := Aside0.mk (Kd.R_below (by (with_reducible repeat (first | apply Kd.R_alloc | apply Kd.R_drewN | apply Kd.R_drew)); exact HO340.out) hb); have n10_ := Aside0.mk (Kd.R_below (by (with_reducible repeat (first | apply Kd.R_alloc | apply Kd.R_drewN | apply Kd.R_drew)); exact HO343.out) hb); have n11_ := Aside0.mk (Kd.R_lower (Kd.R_newB (Kd.R_new' (Kd.R_new' (Kd.R_new' ho0 (Kd.R_lt (by (with_reducible repeat (first | apply Kd.R_alloc | apply Kd.R_drewN | apply Kd.R_drew)); exact HO308.out))) (Kd.R_lt (by (with_reducible repeat (first | apply Kd.R_alloc | apply Kd.R_drewN | apply Kd.R_drew)); exact HO321.out))) (Kd.R_lt (by (with_reducible repeat (first | apply Kd.R_alloc | apply Kd.R_drewN | apply Kd.R_drew)); exact HO334.out))) (g := gb318) (o := .cells #[.int .i64 t315, .int .i64 t316] 47 (0, 0)) (by (with_reducible repeat (first | refine blk_drewN ?_ _ | refine blk_drew ?_ | refine blk_alloc ?_ _)); exact BK318.out)) (below_size (by repeat (first | (with_reducible first | exact HB.out | apply below_alloc | apply pw_below_drewN | apply below_drew1 | refine below_set ?_ GE303.out | refine below_set ?_ GE318.out) | exact HB.out)))); have n12_ := Aside0.mk (blk_below (g := gb303) (o := .cells #[.slice A0_0 l0_0.length c0_0] 24 (0, 0)) (by (with_reducible repeat (first | refine blk_drewN ?_ _ | refine blk_drew ?_ | refine blk_alloc ?_ _)); exact BK303.out) hb); have n13_ := Aside0.mk (blk_below (g := gb318) (o := .cells #[.int .i64 t315, .int .i64 t316] 47 (0, 0)) (by (with_reducible repeat (first | refine blk_drewN ?_ _ | refine blk_drew ?_ | refine blk_alloc ?_ _)); exact BK318.out) hb); have n14_ := Aside0.mk (below_step (by repeat (first | (with_reducible first | exact HB.out | apply below_alloc | apply pw_below_drewN | apply below_drew1 | refine below_set ?_ GE303.out | refine below_set ?_ GE318.out) | exact HB.out)) hb); clear HO308; clear HO311; clear HO314; clear HO321; clear HO324; clear HO327; clear HO330; clear HO334; clear HO337; clear HO340; clear HO343; clear BK303; clear BK318; clear HB; have HO308 := n0_; have HO311 := n1_; have HO314 := n2_; have HO321 := n3_; have HO324 := n4_; have HO327 := n5_; have HO330 := n6_; have HO334 := n7_; have HO337 := n8_; have HO340 := n9_; have HO343 := n10_; have HO348 := n11_; have BK303 := n12_; have BK318 := n13_; have HB := n14_; clear n0_ n1_ n2_ n3_ n4_ n5_ n6_ n7_ n8_ n9_ n10_ n11_ n12_ n13_ n14_; (try clear hb); (try clear hb2); (try clear hk); (try clear hi); (try clear ho0)) | ((with_reducible refine gate_callee (f := 22) rfl ?_); refine goesL_ (some 74) rfl rfl Try.func22 (by kernel_rfl) rfl #[.slice A1 l1.length c1] rfl (by (try simp only [List.map_toArray, List.map_cons, List.map_nil]); first | done | rfl | (simp only [List.length_drop, List.length_take]; rfl)) ?_; (with_reducible refine (tensilelaw05_Runs.calls k _ _ l1 t349 _ ?side1 ?side2 A20.out).mono ?_); (case side1 => repeat (first | exact (Kd.C_below HR1.out HB.out) | (with_reducible refine Kd.C_alloc ?_ _) | (with_reducible refine Kd.C_drewN ?_ _) | (with_reducible refine Kd.C_drew ?_))); (case side2 => exact HC1.out); rintro e w70 ⟨v350, rfl, ho0, hb⟩; refine ⟨_, rfl, ?_⟩; have n0_ := Aside0.mk (Kd.R_below (by (with_reducible repeat (first | apply Kd.R_alloc | apply Kd.R_drewN | apply Kd.R_drew)); exact HO308.out) hb); have n1_ := Aside0.mk (Kd.S_elder' (by (with_reducible repeat (first | apply Kd.S_alloc | apply Kd.S_drewN | apply Kd.S_drew)); exact HO311.out) (Kd.S_base ho0) hb); have n2_ := Aside0.mk (Kd.R_below (by (with_reducible repeat (first | apply Kd.R_alloc | apply Kd.R_drewN | apply Kd.R_drew)); exact HO314.out) hb); have n3_ := Aside0.mk (Kd.R_below (by (with_reducible repeat (first | apply Kd.R_alloc | apply Kd.R_drewN | apply Kd.R_drew)); exact HO321.out) hb); have n4_ := Aside0.mk (Kd.S_elder' (by (with_reducible repeat (first | apply Kd.S_alloc | apply Kd.S_drewN | apply Kd.S_drew)); exact HO324.out) (Kd.S_base ho0) hb); have n5_ := Aside0.mk (Kd.R_below (by (with_reducible repeat (first | apply Kd.R_alloc | apply Kd.R_drewN | apply Kd.R_drew)); exact HO327.out) hb); have n6_ := Aside0.mk (Kd.R_below (by (with_reducible repeat (first | apply Kd.R_alloc | apply Kd.R_drewN | apply Kd.R_drew)); exact HO330.out) hb); have n7_ := Aside0.mk (Kd.R_below (by (with_reducible repeat (first | apply Kd.R_alloc | apply Kd.R_drewN | apply Kd.R_drew)); exact HO334.out) hb); have n8_ := Aside0.mk (Kd.S_elder' (by (with_reducible repeat (first | apply Kd.S_alloc | apply Kd.S_drewN | apply Kd.S_drew)); exact HO337.out) (Kd.S_base ho0) hb); have n9_ := Aside0.mk (Kd.R_below (by (with_reducible repeat (first | apply Kd.R_alloc | apply Kd.R_drewN | apply Kd.R_drew)); exact HO340.out) hb); have n10_ := Aside0.mk (Kd.R_below (by (with_reducible repeat (first | apply Kd.R_alloc | apply Kd.R_drewN | apply Kd.R_drew)); exact HO343.out) hb); have n11_ := Aside0.mk (Kd.R_below (by (with_reducible repeat (first | apply Kd.R_alloc | apply Kd.R_drewN | apply Kd.R_drew)); exact HO348.out) hb); have n12_ := Aside0.mk (Kd.S_lower (Kd.S_new' (Kd.S_new' (Kd.S_new' (Kd.S_new' (Kd.S_new' (Kd.S_new' ho0 (Kd.S_lt (by (with_reducible repeat (first | apply Kd.S_alloc | apply Kd.S_drewN | apply Kd.S_drew)); exact HO311.out))) (Kd.R_lt (by (with_reducible repeat (first | apply Kd.R_alloc | apply Kd.R_drewN | apply Kd.R_drew)); exact HO314.out))) (Kd.S_lt (by (with_reducible repeat (first | apply Kd.S_alloc | apply Kd.S_drewN | apply Kd.S_drew)); exact HO324.out))) (Kd.R_lt (by (with_reducible repeat (first | apply Kd.R_alloc | apply Kd.R_drewN | apply Kd.R_drew)); exact HO327.out))) (Kd.S_lt (by (with_reducible repeat (first | apply Kd.S_alloc | apply Kd.S_drewN | apply Kd.S_drew)); exact HO337.out))) (Kd.R_lt (by (with_reducible repeat (first | apply Kd.R_alloc | apply Kd.R_drewN | apply Kd.R_drew)); exact HO340.out))) (below_size (by repeat (first | (with_reducible first | exact HB.out | apply below_alloc | apply pw_below_drewN | apply below_drew1 | refine below_set ?_ GE303.out | refine below_set ?_ GE318.out) | exact HB.out)))); have n13_ := Aside0.mk (blk_below (g := gb303) (o := .cells #[.slice A0_0 l0_0.length c0_0] 24 (0, 0)) (by (with_reducible repeat (first | refine blk_drewN ?_ _ | refine blk_drew ?_ | refine blk_alloc ?_ _)); exact BK303.out) hb); have n14_ := Aside0.mk (blk_below (g := gb318) (o := .cells #[.int .i64 t315, .int .i64 t316] 47 (0, 0)) (by (with_reducible repeat (first | refine blk_drewN ?_ _ | refine blk_drew ?_ | refine blk_alloc ?_ _)); exact BK318.out) hb); have n15_ := Aside0.mk (below_step (by repeat (first | (with_reducible first | exact HB.out | apply below_alloc | apply pw_below_drewN | apply below_drew1 | refine below_set ?_ GE303.out | refine below_set ?_ GE318.out) | exact HB.out)) hb); clear HO308; clear HO311; clear HO314; clear HO321; clear HO324; clear HO327; clear HO330; clear HO334; clear HO337; clear HO340; clear HO343; clear HO348; clear BK303; clear BK318; clear HB; have HO308 := n0_; have HO311 := n1_; have HO314 := n2_; have HO321 := n3_; have HO324 := n4_; have HO327 := n5_; have HO330 := n6_; have HO334 := n7_; have HO337 := n8_; have HO340 := n9_; have HO343 := n10_; have HO348 := n11_; have HO351 := n12_; have BK303 := n13_; have BK318 := n14_; have HB := n15_; clear n0_ n1_ n2_ n3_ n4_ n5_ n6_ n7_ n8_ n9_ n10_ n11_ n12_ n13_ n14_ n15_; (try clear hb); (try clear hb2); (try clear hk); (try clear hi); (try clear ho0); obtain ⟨Ao71, co71, eo71⟩ := Kd.R_slice HO330.out; subst eo71) | ((with_reducible refine gate_callee (f := 23) rfl ?_); refine goesL_ (some 76) rfl rfl Try.func23 (by kernel_rfl) rfl #[.slice Ao71 t328.length co71] rfl (by (try simp only [List.map_toArray, List.map_cons, List.map_nil]); first | done | rfl | (simp only [List.length_drop, List.length_take]; rfl)) ?_; (with_reducible refine (tensilelaw05_list.calls _ _ t328 t352 _ ?side1 ?side2 A21.out).mono ?_); (case side1 => repeat (first | exact (Kd.R_reads' HO330.out).2.2 | (with_reducible refine Kd.C_alloc ?_ _) | (with_reducible refine Kd.C_drewN ?_ _) | (with_reducible refine Kd.C_drew ?_))); (case side2 => exact (Kd.R_reads' HO330.out).2.1); rintro e w72 ⟨v353, rfl, ho0, hb⟩; refine ⟨_, rfl, ?_⟩; have n0_ := Aside0.mk (Kd.R_below (by (with_reducible repeat (first | apply Kd.R_alloc | apply Kd.R_drewN | apply Kd.R_drew)); exact HO308.out) hb); have n1_ := Aside0.mk (Kd.S_below (by (with_reducible repeat (first | apply Kd.S_alloc | apply Kd.S_drewN | apply Kd.S_drew)); exact HO311.out) hb); have n2_ := Aside0.mk (Kd.R_below (by (with_reducible repeat (first | apply Kd.R_alloc | apply Kd.R_drewN | apply Kd.R_drew)); exact HO314.out) hb); have n3_ := Aside0.mk (Kd.R_below (by (with_reducible repeat (first | apply Kd.R_alloc | apply Kd.R_drewN | apply Kd.R_drew)); exact HO321.out) hb); have n4_ := Aside0.mk (Kd.S_below (by (with_reducible repeat (first | apply Kd.S_alloc | apply Kd.S_drewN | apply Kd.S_drew)); exact HO324.out) hb); have n5_ := Aside0.mk (Kd.R_below (by (with_reducible repeat (first | apply Kd.R_alloc | apply Kd.R_drewN | apply Kd.R_drew)); exact HO327.out) hb); have n6_ := Aside0.mk (Kd.R_elder' (by (with_reducible repeat (first | apply Kd.R_alloc | apply Kd.R_drewN | apply Kd.R_drew)); exact HO330.out) (Kd.R_base ho0) hb); have n7_ := Aside0.mk (Kd.R_below (by (with_reducible repeat (first | apply Kd.R_alloc | apply Kd.R_drewN | apply Kd.R_drew)); exact HO334.out) hb); have n8_ := Aside0.mk (Kd.S_below (by (with_reducible repeat (first | apply Kd.S_alloc | apply Kd.S_drewN | apply Kd.S_drew)); exact HO337.out) hb); have n9_ := Aside0.mk (Kd.R_below (by (with_reducible repeat (first | apply Kd.R_alloc | apply Kd.R_drewN | apply Kd.R_drew)); exact HO340.out) hb); have n10_ := Aside0.mk (Kd.R_elder' (by (with_reducible repeat (first | apply Kd.R_alloc | apply Kd.R_drewN | apply Kd.R_drew)); exact HO343.out) (Kd.R_base ho0) hb); have n11_ := Aside0.mk (Kd.R_below (by (with_reducible repeat (first | apply Kd.R_alloc | apply Kd.R_drewN | apply Kd.R_drew)); exact HO348.out) hb); have n12_ := Aside0.mk (Kd.S_below (by (with_reducible repeat (first | apply Kd.S_alloc | apply Kd.S_drewN | apply Kd.S_drew)); exact HO351.out) hb); have n13_ := Aside0.mk (Kd.R_lower (Kd.R_new' (Kd.R_new' ho0 (Kd.R_lt (by (with_reducible repeat (first | apply Kd.R_alloc | apply Kd.R_drewN | apply Kd.R_drew)); exact HO330.out))) (Kd.R_lt (by (with_reducible repeat (first | apply Kd.R_alloc | apply Kd.R_drewN | apply Kd.R_drew)); exact HO343.out))) (below_size (by repeat (first | (with_reducible first | exact HB.out | apply below_alloc | apply pw_below_drewN | apply below_drew1 | refine below_set ?_ GE303.out | refine below_set ?_ GE318.out) | exact HB.out)))); have n14_ := Aside0.mk (blk_below (g := gb303) (o := .cells #[.slice A0_0 l0_0.length c0_0] 24 (0, 0)) (by (with_reducible repeat (first | refine blk_drewN ?_ _ | refine blk_drew ?_ | refine blk_alloc ?_ _)); exact BK303.out) hb); have n15_ := Aside0.mk (blk_below (g := gb318) (o := .cells #[.int .i64 t315, .int .i64 t316] 47 (0, 0)) (by (with_reducible repeat (first | refine blk_drewN ?_ _ | refine blk_drew ?_ | refine blk_alloc ?_ _)); exact BK318.out) hb); have n16_ := Aside0.mk (below_step (by repeat (first | (with_reducible first | exact HB.out | apply below_alloc | apply pw_below_drewN | apply below_drew1 | refine below_set ?_ GE303.out | refine below_set ?_ GE318.out) | exact HB.out)) hb); clear HO308; clear HO311; clear HO314; clear HO321; clear HO324; clear HO327; clear HO330; clear HO334; clear HO337; clear HO340; clear HO343; clear HO348; clear HO351; clear BK303; clear BK318; clear HB; have HO308 := n0_; have HO311 := n1_; have HO314 := n2_; have HO321 := n3_; have HO324 := n4_; have HO327 := n5_; have HO330 := n6_; have HO334 := n7_; have HO337 := n8_; have HO340 := n9_; have HO343 := n10_; have HO348 := n11_; have HO351 := n12_; have HO354 := n13_; have BK303 := n14_; have BK318 := n15_; have HB := n16_; clear n0_ n1_ n2_ n3_ n4_ n5_ n6_ n7_ n8_ n9_ n10_ n11_ n12_ n13_ n14_ n15_ n16_; (try clear hb); (try clear hb2); (try clear hk); (try clear hi); (try clear ho0); obtain ⟨Ao73, co73, eo73⟩ := Kd.R_slice HO348.out; subst eo73; obtain ⟨Ao74, co74, eo74⟩ := Kd.S_slice HO351.out; subst eo74; obtain ⟨Ao75, co75, eo75⟩ := Kd.R_slice HO354.out; subst eo75) | ((with_reducible refine gate_callee (f := 20) rfl ?_); refine goesL_ (some 77) rfl rfl Try.func20 (by kernel_rfl) rfl #[.agg #[.slice Ao73 t346.length co73], .slice Ao74 t349.length co74, .slice Ao75 t352.length co75] rfl (by (try simp only [List.map_toArray, List.map_cons, List.map_nil]); first | done | rfl | (simp only [List.length_drop, List.length_take]; rfl)) ?_; (with_reducible refine (creep_Allows.calls _ _ t346 _ _ t349 _ _ t352 true t356 _ ?side1 ?side2 ?side3 ?side4 ?side5 ?side6 A22.out).mono ?_); (case side1 => repeat (first | exact (Kd.R_reads' HO348.out).2.2 | (with_reducible refine Kd.C_alloc ?_ _) | (with_reducible refine Kd.C_drewN ?_ _) | (with_reducible refine Kd.C_drew ?_))); (case side2 => exact (Kd.R_reads' HO348.out).2.1); (case side3 => repeat (first | exact (Kd.S_reads' HO351.out).2.2 | (with_reducible refine Kd.C_alloc ?_ _) | (with_reducible refine Kd.C_drewN ?_ _) | (with_reducible refine Kd.C_drew ?_))); (case side4 => exact (Kd.S_reads' HO351.out).2.1); (case side5 => repeat (first | exact (Kd.R_reads' HO354.out).2.2 | (with_reducible refine Kd.C_alloc ?_ _) | (with_reducible refine Kd.C_drewN ?_ _) | (with_reducible refine Kd.C_drew ?_))); (case side6 => exact (Kd.R_reads' HO354.out).2.1); rintro e w76 ⟨rfl, hb⟩; refine ⟨_, rfl, ?_⟩; have n0_ := Aside0.mk (Kd.R_below (by (with_reducible repeat (first | apply Kd.R_alloc | apply Kd.R_drewN | apply Kd.R_drew)); exact HO308.out) hb); have n1_ := Aside0.mk (Kd.S_below (by (with_reducible repeat (first | apply Kd.S_alloc | apply Kd.S_drewN | apply Kd.S_drew)); exact HO311.out) hb); have n2_ := Aside0.mk (Kd.R_below (by (with_reducible repeat (first | apply Kd.R_alloc | apply Kd.R_drewN | apply Kd.R_drew)); exact HO314.out) hb); have n3_ := Aside0.mk (Kd.R_below (by (with_reducible repeat (first | apply Kd.R_alloc | apply Kd.R_drewN | apply Kd.R_drew)); exact HO321.out) hb); have n4_ := Aside0.mk (Kd.S_below (by (with_reducible repeat (first | apply Kd.S_alloc | apply Kd.S_drewN | apply Kd.S_drew)); exact HO324.out) hb); have n5_ := Aside0.mk (Kd.R_below (by (with_reducible repeat (first | apply Kd.R_alloc | apply Kd.R_drewN | apply Kd.R_drew)); exact HO327.out) hb); have n6_ := Aside0.mk (Kd.R_below (by (with_reducible repeat (first | apply Kd.R_alloc | apply Kd.R_drewN | apply Kd.R_drew)); exact HO330.out) hb); have n7_ := Aside0.mk (Kd.R_below (by (with_reducible repeat (first | apply Kd.R_alloc | apply Kd.R_drewN | apply Kd.R_drew)); exact HO334.out) hb); have n8_ := Aside0.mk (Kd.S_below (by (with_reducible repeat (first | apply Kd.S_alloc | apply Kd.S_drewN | apply Kd.S_drew)); exact HO337.out) hb); have n9_ := Aside0.mk (Kd.R_below (by (with_reducible repeat (first | apply Kd.R_alloc | apply Kd.R_drewN | apply Kd.R_drew)); exact HO340.out) hb); have n10_ := Aside0.mk (Kd.R_below (by (with_reducible repeat (first | apply Kd.R_alloc | apply Kd.R_drewN | apply Kd.R_drew)); exact HO343.out) hb); have n11_ := Aside0.mk (Kd.R_below (by (with_reducible repeat (first | apply Kd.R_alloc | apply Kd.R_drewN | apply Kd.R_drew)); exact HO348.out) hb); have n12_ := Aside0.mk (Kd.S_below (by (with_reducible repeat (first | apply Kd.S_alloc | apply Kd.S_drewN | apply Kd.S_drew)); exact HO351.out) hb); have n13_ := Aside0.mk (Kd.R_below (by (with_reducible repeat (first | apply Kd.R_alloc | apply Kd.R_drewN | apply Kd.R_drew)); exact HO354.out) hb); have n14_ := Aside0.mk (blk_below (g := gb303) (o := .cells #[.slice A0_0 l0_0.length c0_0] 24 (0, 0)) (by (with_reducible repeat (first | refine blk_drewN ?_ _ | refine blk_drew ?_ | refine blk_alloc ?_ _)); exact BK303.out) hb); have n15_ := Aside0.mk (blk_below (g := gb318) (o := .cells #[.int .i64 t315, .int .i64 t316] 47 (0, 0)) (by (with_reducible repeat (first | refine blk_drewN ?_ _ | refine blk_drew ?_ | refine blk_alloc ?_ _)); exact BK318.out) hb); have n16_ := Aside0.mk (below_step (by repeat (first | (with_reducible first | exact HB.out | apply below_alloc | apply pw_below_drewN | apply below_drew1 | refine below_set ?_ GE303.out | refine below_set ?_ GE318.out) | exact HB.out)) hb); clear HO308; clear HO311; clear HO314; clear HO321; clear HO324; clear HO327; clear HO330; clear HO334; clear HO337; clear HO340; clear HO343; clear HO348; clear HO351; clear HO354; clear BK303; clear BK318; clear HB; have HO308 := n0_; have HO311 := n1_; have HO314 := n2_; have HO321 := n3_; have HO324 := n4_; have HO327 := n5_; have HO330 := n6_; have HO334 := n7_; have HO337 := n8_; have HO340 := n9_; have HO343 := n10_; have HO348 := n11_; have HO351 := n12_; have HO354 := n13_; have BK303 := n14_; have BK318 := n15_; have HB := n16_; clear n0_ n1_ n2_ n3_ n4_ n5_ n6_ n7_ n8_ n9_ n10_ n11_ n12_ n13_ n14_ n15_ n16_; (try clear hb); (try clear hb2); (try clear hk); (try clear hi); have hcz77_0 : w76.cell? ⟨gb303, 0, none⟩ = some (.slice A0_0 l0_0.length c0_0) := (blk_cell BK303.out 0).trans rfl; have hfz77_0 := blk_frozen BK303.out 0) | ((with_reducible refine gate_callee (f := 21) rfl ?_); refine goesL_ (some 82) rfl rfl Try.func21 (by kernel_rfl) rfl #[.agg #[.slice A0_0 l0_0.length c0_0]] rfl (by (try simp only [List.map_toArray, List.map_cons, List.map_nil]); first | done | rfl | (simp only [List.length_drop, List.length_take]; rfl)) ?_; (with_reducible refine (tensilelaw05_Material.calls k _ _ l0_0 t357 _ ?side1 ?side2 A23.out).mono ?_); (case side1 => repeat (first | exact (Kd.C_below HR0_0.out HB.out) | (with_reducible refine Kd.C_alloc ?_ _) | (with_reducible refine Kd.C_drewN ?_ _) | (with_reducible refine Kd.C_drew ?_))); (case side2 => exact HC0_0.out); rintro e w78 ⟨v358, rfl, ho0, hb⟩; refine ⟨_, rfl, ?_⟩; have n0_ := Aside0.mk (Kd.R_elder' (by (with_reducible repeat (first | apply Kd.R_alloc | apply Kd.R_drewN | apply Kd.R_drew)); exact HO308.out) (Kd.R_base ho0) hb); have n1_ := Aside0.mk (Kd.S_below (by (with_reducible repeat (first | apply Kd.S_alloc | apply Kd.S_drewN | apply Kd.S_drew)); exact HO311.out) hb); have n2_ := Aside0.mk (Kd.R_below (by (with_reducible repeat (first | apply Kd.R_alloc | apply Kd.R_drewN | apply Kd.R_drew)); exact HO314.out) hb); have n3_ := Aside0.mk (Kd.R_elder' (by (with_reducible repeat (first | apply Kd.R_alloc | apply Kd.R_drewN | apply Kd.R_drew)); exact HO321.out) (Kd.R_base ho0) hb); have n4_ := Aside0.mk (Kd.S_below (by (with_reducible repeat (first | apply Kd.S_alloc | apply Kd.S_drewN | apply Kd.S_drew)); exact HO324.out) hb); have n5_ := Aside0.mk (Kd.R_below (by (with_reducible repeat (first | apply Kd.R_alloc | apply Kd.R_drewN | apply Kd.R_drew)); exact HO327.out) hb); have n6_ := Aside0.mk (Kd.R_below (by (with_reducible repeat (first | apply Kd.R_alloc | apply Kd.R_drewN | apply Kd.R_drew)); exact HO330.out) hb); have n7_ := Aside0.mk (Kd.R_elder' (by (with_reducible repeat (first | apply Kd.R_alloc | apply Kd.R_drewN | apply Kd.R_drew)); exact HO334.out) (Kd.R_base ho0) hb); have n8_ := Aside0.mk (Kd.S_below (by (with_reducible repeat (first | apply Kd.S_alloc | apply Kd.S_drewN | apply Kd.S_drew)); exact HO337.out) hb); have n9_ := Aside0.mk (Kd.R_below (by (with_reducible repeat (first | apply Kd.R_alloc | apply Kd.R_drewN | apply Kd.R_drew)); exact HO340.out) hb); have n10_ := Aside0.mk (Kd.R_below (by (with_reducible repeat (first | apply Kd.R_alloc | apply Kd.R_drewN | apply Kd.R_drew)); exact HO343.out) hb); have n11_ := Aside0.mk (Kd.R_elder' (by (with_reducible repeat (first | apply Kd.R_alloc | apply Kd.R_drewN | apply Kd.R_drew)); exact HO348.out) (Kd.R_base ho0) hb); have n12_ := Aside0.mk (Kd.S_below (by (with_reducible repeat (first | apply Kd.S_alloc | apply Kd.S_drewN | apply Kd.S_drew)); exact HO351.out) hb); have n13_ := Aside0.mk (Kd.R_below (by (with_reducible repeat (first | apply Kd.R_alloc | apply Kd.R_drewN | apply Kd.R_drew)); exact HO354.out) hb); have n14_ := Aside0.mk (Kd.R_lower (Kd.R_newB (Kd.R_new' (Kd.R_new' (Kd.R_new' (Kd.R_new' ho0 (Kd.R_lt (by (with_reducible repeat (first | apply Kd.R_alloc | apply Kd.R_drewN | apply Kd.R_drew)); exact HO308.out))) (Kd.R_lt (by (with_reducible repeat (first | apply Kd.R_alloc | apply Kd.R_drewN | apply Kd.R_drew)); exact HO321.out))) (Kd.R_lt (by (with_reducible repeat (first | apply Kd.R_alloc | apply Kd.R_drewN | apply Kd.R_drew)); exact HO334.out))) (Kd.R_lt (by (with_reducible repeat (first | apply Kd.R_alloc | apply Kd.R_drewN | apply Kd.R_drew)); exact HO348.out))) (g := gb318) (o := .cells #[.int .i64 t315, .int .i64 t316] 47 (0, 0)) (by (with_reducible repeat (first | refine blk_drewN ?_ _ | refine blk_drew ?_ | refine blk_alloc ?_ _)); exact BK318.out)) (below_size (by repeat (first | (with_reducible first | exact HB.out | apply below_alloc | apply pw_below_drewN | apply below_drew1 | refine below_set ?_ GE303.out | refine below_set ?_ GE318.out) | exact HB.out)))); have n15_ := Aside0.mk (blk_below (g := gb303) (o := .cells #[.slice A0_0 l0_0.length c0_0] 24 (0, 0)) (by (with_reducible repeat (first | refine blk_drewN ?_ _ | refine blk_drew ?_ | refine blk_alloc ?_ _)); exact BK303.out) hb); have n16_ := Aside0.mk (blk_below (g := gb318) (o := .cells #[.int .i64 t315, .int .i64 t316] 47 (0, 0)) (by (with_reducible repeat (first | refine blk_drewN ?_ _ | refine blk_drew ?_ | refine blk_alloc ?_ _)); exact BK318.out) hb); have n17_ := Aside0.mk (below_step (by repeat (first | (with_reducible first | exact HB.out | apply below_alloc | apply pw_below_drewN | apply below_drew1 | refine below_set ?_ GE303.out | refine below_set ?_ GE318.out) | exact HB.out)) hb); clear HO308; clear HO311; clear HO314; clear HO321; clear HO324; clear HO327; clear HO330; clear HO334; clear HO337; clear HO340; clear HO343; clear HO348; clear HO351; clear HO354; clear BK303; clear BK318; clear HB; have HO308 := n0_; have HO311 := n1_; have HO314 := n2_; have HO321 := n3_; have HO324 := n4_; have HO327 := n5_; have HO330 := n6_; have HO334 := n7_; have HO337 := n8_; have HO340 := n9_; have HO343 := n10_; have HO348 := n11_; have HO351 := n12_; have HO354 := n13_; have HO359 := n14_; have BK303 := n15_; have BK318 := n16_; have HB := n17_; clear n0_ n1_ n2_ n3_ n4_ n5_ n6_ n7_ n8_ n9_ n10_ n11_ n12_ n13_ n14_ n15_ n16_ n17_; (try clear hb); (try clear hb2); (try clear hk); (try clear hi); (try clear ho0)) | ((with_reducible refine gate_callee (f := 22) rfl ?_); refine goesL_ (some 84) rfl rfl Try.func22 (by kernel_rfl) rfl #[.slice A1 l1.length c1] rfl (by (try simp only [List.map_toArray, List.map_cons, List.map_nil]); first | done | rfl | (simp only [List.length_drop, List.length_take]; rfl)) ?_; (with_reducible refine (tensilelaw05_Runs.calls k _ _ l1 t360 _ ?side1 ?side2 A24.out).mono ?_); (case side1 => repeat (first | exact (Kd.C_below HR1.out HB.out) | (with_reducible refine Kd.C_alloc ?_ _) | (with_reducible refine Kd.C_drewN ?_ _) | (with_reducible refine Kd.C_drew ?_))); (case side2 => exact HC1.out); rintro e w79 ⟨v361, rfl, ho0, hb⟩; refine ⟨_, rfl, ?_⟩; have n0_ := Aside0.mk (Kd.R_below (by (with_reducible repeat (first | apply Kd.R_alloc | apply Kd.R_drewN | apply Kd.R_drew)); exact HO308.out) hb); have n1_ := Aside0.mk (Kd.S_elder' (by (with_reducible repeat (first | apply Kd.S_alloc | apply Kd.S_drewN | apply Kd.S_drew)); exact HO311.out) (Kd.S_base ho0) hb); have n2_ := Aside0.mk (Kd.R_below (by (with_reducible repeat (first | apply Kd.R_alloc | apply Kd.R_drewN | apply Kd.R_drew)); exact HO314.out) hb); have n3_ := Aside0.mk (Kd.R_below (by (with_reducible repeat (first | apply Kd.R_alloc | apply Kd.R_drewN | apply Kd.R_drew)); exact HO321.out) hb); have n4_ := Aside0.mk (Kd.S_elder' (by (with_reducible repeat (first | apply Kd.S_alloc | apply Kd.S_drewN | apply Kd.S_drew)); exact HO324.out) (Kd.S_base ho0) hb); have n5_ := Aside0.mk (Kd.R_below (by (with_reducible repeat (first | apply Kd.R_alloc | apply Kd.R_drewN | apply Kd.R_drew)); exact HO327.out) hb); have n6_ := Aside0.mk (Kd.R_below (by (with_reducible repeat (first | apply Kd.R_alloc | apply Kd.R_drewN | apply Kd.R_drew)); exact HO330.out) hb); have n7_ := Aside0.mk (Kd.R_below (by (with_reducible repeat (first | apply Kd.R_alloc | apply Kd.R_drewN | apply Kd.R_drew)); exact HO334.out) hb); have n8_ := Aside0.mk (Kd.S_elder' (by (with_reducible repeat (first | apply Kd.S_alloc | apply Kd.S_drewN | apply Kd.S_drew)); exact HO337.out) (Kd.S_base ho0) hb); have n9_ := Aside0.mk (Kd.R_below (by (with_reducible repeat (first | apply Kd.R_alloc | apply Kd.R_drewN | apply Kd.R_drew)); exact HO340.out) hb); have n10_ := Aside0.mk (Kd.R_below (by (with_reducible repeat (first | apply Kd.R_alloc | apply Kd.R_drewN | apply Kd.R_drew)); exact HO343.out) hb); have n11_ := Aside0.mk (Kd.R_below (by (with_reducible repeat (first | apply Kd.R_alloc | apply Kd.R_drewN | apply Kd.R_drew)); exact HO348.out) hb); have n12_ := Aside0.mk (Kd.S_elder' (by (with_reducible repeat (first | apply Kd.S_alloc | apply Kd.S_drewN | apply Kd.S_drew)); exact HO351.out) (Kd.S_base ho0) hb); have n13_ := Aside0.mk (Kd.R_below (by (with_reducible repeat (first | apply Kd.R_alloc | apply Kd.R_drewN | apply Kd.R_drew)); exact HO354.out) hb); have n14_ := Aside0.mk (Kd.R_below (by (with_reducible repeat (first | apply Kd.R_alloc | apply Kd.R_drewN | apply Kd.R_drew)); exact HO359.out) hb); have n15_ := Aside0.mk (Kd.S_lower (Kd.S_new' (Kd.S_new' (Kd.S_new' (Kd.S_new' (Kd.S_new' (Kd.S_new' (Kd.S_new' ho0 (Kd.S_lt (by (with_reducible repeat (first | apply Kd.S_alloc | apply Kd.S_drewN | apply Kd.S_drew)); exact HO311.out))) (Kd.R_lt (by (with_reducible repeat (first | apply Kd.R_alloc | apply Kd.R_drewN | apply Kd.R_drew)); exact HO314.out))) (Kd.S_lt (by (with_reducible repeat (first | apply Kd.S_alloc | apply Kd.S_drewN | apply Kd.S_drew)); exact HO324.out))) (Kd.R_lt (by (with_reducible repeat (first | apply Kd.R_alloc | apply Kd.R_drewN | apply Kd.R_drew)); exact HO327.out))) (Kd.S_lt (by (with_reducible repeat (first | apply Kd.S_alloc | apply Kd.S_drewN | apply Kd.S_drew)); exact HO337.out))) (Kd.R_lt (by (with_reducible repeat (first | apply Kd.R_alloc | apply Kd.R_drewN | apply Kd.R_drew)); exact HO340.out))) (Kd.S_lt (by (with_reducible repeat (first | apply Kd.S_alloc | apply Kd.S_drewN | apply Kd.S_drew)); exact HO351.out))) (below_size (by repeat (first | (with_reducible first | exact HB.out | apply below_alloc | apply pw_below_drewN | apply below_drew1 | refine below_set ?_ GE303.out | refine below_set ?_ GE318.out) | exact HB.out)))); have n16_ := Aside0.mk (blk_below (g := gb303) (o := .cells #[.slice A0_0 l0_0.length c0_0] 24 (0, 0)) (by (with_reducible repeat (first | refine blk_drewN ?_ _ | refine blk_drew ?_ | refine blk_alloc ?_ _)); exact BK303.out) hb); have n17_ := Aside0.mk (blk_below (g := gb318) (o := .cells #[.int .i64 t315, .int .i64 t316] 47 (0, 0)) (by (with_reducible repeat (first | refine blk_drewN ?_ _ | refine blk_drew ?_ | refine blk_alloc ?_ _)); exact BK318.out) hb); have n18_ := Aside0.mk (below_step (by repeat (first | (with_reducible first | exact HB.out | apply below_alloc | apply pw_below_drewN | apply below_drew1 | refine below_set ?_ GE303.out | refine below_set ?_ GE318.out) | exact HB.out)) hb); clear HO308; clear HO311; clear HO314; clear HO321; clear HO324; clear HO327; clear HO330; clear HO334; clear HO337; clear HO340; clear HO343; clear HO348; clear HO351; clear HO354; clear HO359; clear BK303; clear BK318; clear HB; have HO308 := n0_; have HO311 := n1_; have HO314 := n2_; have HO321 := n3_; have HO324 := n4_; have HO327 := n5_; have HO330 := n6_; have HO334 := n7_; have HO337 := n8_; have HO340 := n9_; have HO343 := n10_; have HO348 := n11_; have HO351 := n12_; have HO354 := n13_; have HO359 := n14_; have HO362 := n15_; have BK303 := n16_; have BK318 := n17_; have HB := n18_; clear n0_ n1_ n2_ n3_ n4_ n5_ n6_ n7_ n8_ n9_ n10_ n11_ n12_ n13_ n14_ n15_ n16_ n17_ n18_; (try clear hb); (try clear hb2); (try clear hk); (try clear hi); (try clear ho0); obtain ⟨Ao80, co80, eo80⟩ := Kd.R_slice HO343.out; subst eo80) | ((with_reducible refine gate_callee (f := 23) rfl ?_); refine goesL_ (some 86) rfl rfl Try.func23 (by kernel_rfl) rfl #[.slice Ao80 t341.length co80] rfl (by (try simp only [List.map_toArray, List.map_cons, List.map_nil]); first | done | rfl | (simp only [List.length_drop, List.length_take]; rfl)) ?_; (with_reducible refine (tensilelaw05_list.calls _ _ t341 t363 _ ?side1 ?side2 A25.out).mono ?_); (case side1 => repeat (first | exact (Kd.R_reads' HO343.out).2.2 | (with_reducible refine Kd.C_alloc ?_ _) | (with_reducible refine Kd.C_drewN ?_ _) | (with_reducible refine Kd.C_drew ?_))); (case side2 => exact (Kd.R_reads' HO343.out).2.1); rintro e w81 ⟨v364, rfl, ho0, hb⟩; refine ⟨_, rfl, ?_⟩; have n0_ := Aside0.mk (Kd.R_below (by (with_reducible repeat (first | apply Kd.R_alloc | apply Kd.R_drewN | apply Kd.R_drew)); exact HO308.out) hb); have n1_ := Aside0.mk (Kd.S_below (by (with_reducible repeat (first | apply Kd.S_alloc | apply Kd.S_drewN | apply Kd.S_drew)); exact HO311.out) hb); have n2_ := Aside0.mk (Kd.R_below (by (with_reducible repeat (first | apply Kd.R_alloc | apply Kd.R_drewN | apply Kd.R_drew)); exact HO314.out) hb); have n3_ := Aside0.mk (Kd.R_below (by (with_reducible repeat (first | apply Kd.R_alloc | apply Kd.R_drewN | apply Kd.R_drew)); exact HO321.out) hb); have n4_ := Aside0.mk (Kd.S_below (by (with_reducible repeat (first | apply Kd.S_alloc | apply Kd.S_drewN | apply Kd.S_drew)); exact HO324.out) hb); have n5_ := Aside0.mk (Kd.R_below (by (with_reducible repeat (first | apply Kd.R_alloc | apply Kd.R_drewN | apply Kd.R_drew)); exact HO327.out) hb); have n6_ := Aside0.mk (Kd.R_elder' (by (with_reducible repeat (first | apply Kd.R_alloc | apply Kd.R_drewN | apply Kd.R_drew)); exact HO330.out) (Kd.R_base ho0) hb); have n7_ := Aside0.mk (Kd.R_below (by (with_reducible repeat (first | apply Kd.R_alloc | apply Kd.R_drewN | apply Kd.R_drew)); exact HO334.out) hb); have n8_ := Aside0.mk (Kd.S_below (by (with_reducible repeat (first | apply Kd.S_alloc | apply Kd.S_drewN | apply Kd.S_drew)); exact HO337.out) hb); have n9_ := Aside0.mk (Kd.R_below (by (with_reducible repeat (first | apply Kd.R_alloc | apply Kd.R_drewN | apply Kd.R_drew)); exact HO340.out) hb); have n10_ := Aside0.mk (Kd.R_elder' (by (with_reducible repeat (first | apply Kd.R_alloc | apply Kd.R_drewN | apply Kd.R_drew)); exact HO343.out) (Kd.R_base ho0) hb); have n11_ := Aside0.mk (Kd.R_below (by (with_reducible repeat (first | apply Kd.R_alloc | apply Kd.R_drewN | apply Kd.R_drew)); exact HO348.out) hb); have n12_ := Aside0.mk (Kd.S_below (by (with_reducible repeat (first | apply Kd.S_alloc | apply Kd.S_drewN | apply Kd.S_drew)); exact HO351.out) hb); have n13_ := Aside0.mk (Kd.R_elder' (by (with_reducible repeat (first | apply Kd.R_alloc | apply Kd.R_drewN | apply Kd.R_drew)); exact HO354.out) (Kd.R_base ho0) hb); have n14_ := Aside0.mk (Kd.R_below (by (with_reducible repeat (first | apply Kd.R_alloc | apply Kd.R_drewN | apply Kd.R_drew)); exact HO359.out) hb); have n15_ := Aside0.mk (Kd.S_below (by (with_reducible repeat (first | apply Kd.S_alloc | apply Kd.S_drewN | apply Kd.S_drew)); exact HO362.out) hb); have n16_ := Aside0.mk (Kd.R_lower (Kd.R_new' (Kd.R_new' (Kd.R_new' ho0 (Kd.R_lt (by (with_reducible repeat (first | apply Kd.R_alloc | apply Kd.R_drewN | apply Kd.R_drew)); exact HO330.out))) (Kd.R_lt (by (with_reducible repeat (first | apply Kd.R_alloc | apply Kd.R_drewN | apply Kd.R_drew)); exact HO343.out))) (Kd.R_lt (by (with_reducible repeat (first | apply Kd.R_alloc | apply Kd.R_drewN | apply Kd.R_drew)); exact HO354.out))) (below_size (by repeat (first | (with_reducible first | exact HB.out | apply below_alloc | apply pw_below_drewN | apply below_drew1 | refine below_set ?_ GE303.out | refine below_set ?_ GE318.out) | exact HB.out)))); have n17_ := Aside0.mk (blk_below (g := gb303) (o := .cells #[.slice A0_0 l0_0.length c0_0] 24 (0, 0)) (by (with_reducible repeat (first | refine blk_drewN ?_ _ | refine blk_drew ?_ | refine blk_alloc ?_ _)); exact BK303.out) hb); have n18_ := Aside0.mk (blk_below (g := gb318) (o := .cells #[.int .i64 t315, .int .i64 t316] 47 (0, 0)) (by (with_reducible repeat (first | refine blk_drewN ?_ _ | refine blk_drew ?_ | refine blk_alloc ?_ _)); exact BK318.out) hb); have n19_ := Aside0.mk (below_step (by repeat (first | (with_reducible first | exact HB.out | apply below_alloc | apply pw_below_drewN | apply below_drew1 | refine below_set ?_ GE303.out | refine below_set ?_ GE318.out) | exact HB.out)) hb); clear HO308; clear HO311; clear HO314; clear HO321; clear HO324; clear HO327; clear HO330; clear HO334; clear HO337; clear HO340; clear HO343; clear HO348; clear HO351; clear HO354; clear HO359; clear HO362; clear BK303; clear BK318; clear HB; have HO308 := n0_; have HO311 := n1_; have HO314 := n2_; have HO321 := n3_; have HO324 := n4_; have HO327 := n5_; have HO330 := n6_; have HO334 := n7_; have HO337 := n8_; have HO340 := n9_; have HO343 := n10_; have HO348 := n11_; have HO351 := n12_; have HO354 := n13_; have HO359 := n14_; have HO362 := n15_; have HO365 := n16_; have BK303 := n17_; have BK318 := n18_; have HB := n19_; clear n0_ n1_ n2_ n3_ n4_ n5_ n6_ n7_ n8_ n9_ n10_ n11_ n12_ n13_ n14_ n15_ n16_ n17_ n18_ n19_; (try clear hb); (try clear hb2); (try clear hk); (try clear hi); (try clear ho0); obtain ⟨Ao82, co82, eo82⟩ := Kd.R_slice HO359.out; subst eo82; obtain ⟨Ao83, co83, eo83⟩ := Kd.S_slice HO362.out; subst eo83; obtain ⟨Ao84, co84, eo84⟩ := Kd.R_slice HO365.out; subst eo84) | ((with_reducible refine gate_callee (f := 20) rfl ?_); refine goesL_ (some 87) rfl rfl Try.func20 (by kernel_rfl) rfl #[.agg #[.slice Ao82 t357.length co82], .slice Ao83 t360.length co83, .slice Ao84 t363.length co84] rfl (by (try simp only [List.map_toArray, List.map_cons, List.map_nil]); first | done | rfl | (simp only [List.length_drop, List.length_take]; rfl)) ?_; (with_reducible refine (creep_Allows.calls _ _ t357 _ _ t360 _ _ t363 true t367 _ ?side1 ?side2 ?side3 ?side4 ?side5 ?side6 A26.out).mono ?_); (case side1 => repeat (first | exact (Kd.R_reads' HO359.out).2.2 | (with_reducible refine Kd.C_alloc ?_ _) | (with_reducible refine Kd.C_drewN ?_ _) | (with_reducible refine Kd.C_drew ?_))); (case side2 => exact (Kd.R_reads' HO359.out).2.1); (case side3 => repeat (first | exact (Kd.S_reads' HO362.out).2.2 | (with_reducible refine Kd.C_alloc ?_ _) | (with_reducible refine Kd.C_drewN ?_ _) | (with_reducible refine Kd.C_drew ?_))); (case side4 => exact (Kd.S_reads' HO362.out).2.1); (case side5 => repeat (first | exact (Kd.R_reads' HO365.out).2.2 | (with_reducible refine Kd.C_alloc ?_ _) | (with_reducible refine Kd.C_drewN ?_ _) | (with_reducible refine Kd.C_drew ?_))); (case side6 => exact (Kd.R_reads' HO365.out).2.1); rintro e w85 ⟨rfl, hb⟩; refine ⟨_, rfl, ?_⟩; have n0_ := Aside0.mk (Kd.R_below (by (with_reducible repeat (first | apply Kd.R_alloc | apply Kd.R_drewN | apply Kd.R_drew)); exact HO308.out) hb); have n1_ := Aside0.mk (Kd.S_below (by (with_reducible repeat (first | apply Kd.S_alloc | apply Kd.S_drewN | apply Kd.S_drew)); exact HO311.out) hb); have n2_ := Aside0.mk (Kd.R_below (by (with_reducible repeat (first | apply Kd.R_alloc | apply Kd.R_drewN | apply Kd.R_drew)); exact HO314.out) hb); have n3_ := Aside0.mk (Kd.R_below (by (with_reducible repeat (first | apply Kd.R_alloc | apply Kd.R_drewN | apply Kd.R_drew)); exact HO321.out) hb); have n4_ := Aside0.mk (Kd.S_below (by (with_reducible repeat (first | apply Kd.S_alloc | apply Kd.S_drewN | apply Kd.S_drew)); exact HO324.out) hb); have n5_ := Aside0.mk (Kd.R_below (by (with_reducible repeat (first | apply Kd.R_alloc | apply Kd.R_drewN | apply Kd.R_drew)); exact HO327.out) hb); have n6_ := Aside0.mk (Kd.R_below (by (with_reducible repeat (first | apply Kd.R_alloc | apply Kd.R_drewN | apply Kd.R_drew)); exact HO330.out) hb); have n7_ := Aside0.mk (Kd.R_below (by (with_reducible repeat (first | apply Kd.R_alloc | apply Kd.R_drewN | apply Kd.R_drew)); exact HO334.out) hb); have n8_ := Aside0.mk (Kd.S_below (by (with_reducible repeat (first | apply Kd.S_alloc | apply Kd.S_drewN | apply Kd.S_drew)); exact HO337.out) hb); have n9_ := Aside0.mk (Kd.R_below (by (with_reducible repeat (first | apply Kd.R_alloc | apply Kd.R_drewN | apply Kd.R_drew)); exact HO340.out) hb); have n10_ := Aside0.mk (Kd.R_below (by (with_reducible repeat (first | apply Kd.R_alloc | apply Kd.R_drewN | apply Kd.R_drew)); exact HO343.out) hb); have n11_ := Aside0.mk (Kd.R_below (by (with_reducible repeat (first | apply Kd.R_alloc | apply Kd.R_drewN | apply Kd.R_drew)); exact HO348.out) hb); have n12_ := Aside0.mk (Kd.S_below (by (with_reducible repeat (first | apply Kd.S_alloc | apply Kd.S_drewN | apply Kd.S_drew)); exact HO351.out) hb); have n13_ := Aside0.mk (Kd.R_below (by (with_reducible repeat (first | apply Kd.R_alloc | apply Kd.R_drewN | apply Kd.R_drew)); exact HO354.out) hb); have n14_ := Aside0.mk (Kd.R_below (by (with_reducible repeat (first | apply Kd.R_alloc | apply Kd.R_drewN | apply Kd.R_drew)); exact HO359.out) hb); have n15_ := Aside0.mk (Kd.S_below (by (with_reducible repeat (first | apply Kd.S_alloc | apply Kd.S_drewN | apply Kd.S_drew)); exact HO362.out) hb); have n16_ := Aside0.mk (Kd.R_below (by (with_reducible repeat (first | apply Kd.R_alloc | apply Kd.R_drewN | apply Kd.R_drew)); exact HO365.out) hb); have n17_ := Aside0.mk (blk_below (g := gb303) (o := .cells #[.slice A0_0 l0_0.length c0_0] 24 (0, 0)) (by (with_reducible repeat (first | refine blk_drewN ?_ _ | refine blk_drew ?_ | refine blk_alloc ?_ _)); exact BK303.out) hb); have n18_ := Aside0.mk (blk_below (g := gb318) (o := .cells #[.int .i64 t315, .int .i64 t316] 47 (0, 0)) (by (with_reducible repeat (first | refine blk_drewN ?_ _ | refine blk_drew ?_ | refine blk_alloc ?_ _)); exact BK318.out) hb); have n19_ := Aside0.mk (below_step (by repeat (first | (with_reducible first | exact HB.out | apply below_alloc | apply pw_below_drewN | apply below_drew1 | refine below_set ?_ GE303.out | refine below_set ?_ GE318.out) | exact HB.out)) hb); clear HO308; clear HO311; clear HO314; clear HO321; clear HO324; clear HO327; clear HO330; clear HO334; clear HO337; clear HO340; clear HO343; clear HO348; clear HO351; clear HO354; clear HO359; clear HO362; clear HO365; clear BK303; clear BK318; clear HB; have HO308 := n0_; have HO311 := n1_; have HO314 := n2_; have HO321 := n3_; have HO324 := n4_; have HO327 := n5_; have HO330 := n6_; have HO334 := n7_; have HO337 := n8_; have HO340 := n9_; have HO343 := n10_; have HO348 := n11_; have HO351 := n12_; have HO354 := n13_; have HO359 := n14_; have HO362 := n15_; have HO365 := n16_; have BK303 := n17_; have BK318 := n18_; have HB := n19_; clear n0_ n1_ n2_ n3_ n4_ n5_ n6_ n7_ n8_ n9_ n10_ n11_ n12_ n13_ n14_ n15_ n16_ n17_ n18_ n19_; (try clear hb); (try clear hb2); (try clear hk); (try clear hi)))
           have n0_ := Aside0.mk (Kd.R_drew HO308.out)
           have n1_ := Aside0.mk (Kd.S_drew HO311.out)
           have n2_ := Aside0.mk (Kd.R_drew HO314.out)
           have n3_ := Aside0.mk (Kd.R_drew HO321.out)
           have n4_ := Aside0.mk (Kd.S_drew HO324.out)
           have n5_ := Aside0.mk (Kd.R_drew HO327.out)
           have n6_ := Aside0.mk (Kd.R_drew HO330.out)
           have n7_ := Aside0.mk (Kd.R_drew HO334.out)
           have n8_ := Aside0.mk (Kd.S_drew HO337.out)
           have n9_ := Aside0.mk (Kd.R_drew HO340.out)
           have n10_ := Aside0.mk (Kd.R_drew HO343.out)
           have n11_ := Aside0.mk (Kd.R_drew HO348.out)
           have n12_ := Aside0.mk (Kd.S_drew HO351.out)
           have n13_ := Aside0.mk (Kd.R_drew HO354.out)
           have n14_ := Aside0.mk (Kd.R_drew HO359.out)
           have n15_ := Aside0.mk (Kd.S_drew HO362.out)
           have n16_ := Aside0.mk (Kd.R_drew HO365.out)
           have n17_ := Aside0.mk (blk_drew BK303.out)
           have n18_ := Aside0.mk (blk_drew BK318.out)
           have n19_ := Aside0.mk (below_drew1 HB.out)
           clear HO308
           clear HO311
           clear HO314
           clear HO321
           clear HO324
           clear HO327
           clear HO330
           clear HO334
           clear HO337
           clear HO340
           clear HO343
           clear HO348
           clear HO351
           clear HO354
           clear HO359
           clear HO362
           clear HO365
           clear BK303
           clear BK318
           clear HB
           have HO308 := n0_
           have HO311 := n1_
           have HO314 := n2_
           have HO321 := n3_
           have HO324 := n4_
           have HO327 := n5_
           have HO330 := n6_
           have HO334 := n7_
           have HO337 := n8_
           have HO340 := n9_
           have HO343 := n10_
           have HO348 := n11_
           have HO351 := n12_
           have HO354 := n13_
           have HO359 := n14_
           have HO362 := n15_
           have HO365 := n16_
           have BK303 := n17_
           have BK318 := n18_
           have HB := n19_
           clear n0_ n1_ n2_ n3_ n4_ n5_ n6_ n7_ n8_ n9_ n10_ n11_ n12_ n13_ n14_ n15_ n16_ n17_ n18_ n19_
           refine start_ (n := 42) (S := fun w' => w'.cell? ⟨gb318, 0, none⟩ = some (.int .i64 t315) ∧ w'.cell? ⟨gb318, 1, none⟩ = some (.int .i64 t316)) (ds := []) #[false, false, false, false, false, false, false, false, false, false, false, false, false, false, false, false, false, false, false, false, false, false, false, false, false, false, false, false, false, false, false, false, false, false, false, false, false, false, false, false, false, false] (by kernel_rfl) rfl rfl ⟨(blk_cell BK318.out 0).trans rfl, (blk_cell BK318.out 1).trans rfl⟩ (fun hHeld => ?_); refine with_tabW tensilelaw05_CreepEnds.tab10 tensilelaw05_CreepEnds.bits10 (fun HT_ HW_ => ?_)
           generalize w85.drew = w86 at HO308 HO311 HO314 HO321 HO324 HO327 HO330 HO334 HO337 HO340 HO343 HO348 HO351 HO354 HO359 HO362 HO365 BK303 BK318 HB hHeld ⊢
           refine pure_ (i := 0) (N := some 90) (v := ?_) (a' := ?_) #[true, false, false, false, false, false, false, false, false, false, false, false, false, false, false, false, false, false, false, false, false, false, false, false, false, false, false, false, false, false, false, false, false, false, false, false, false, false, false, false, false, false] rfl rfl (any_of HT_.out (by kernel_rfl)) (fun _ _ _ h => h) (Or.inl ⟨by rfl, ?_⟩) ?_ ?_
           rotate_left
           ·
            intro w'
            go_simp
            with_reducible rfl
           rotate_left
           ·
            simp only [Act.put, List.setIfInBounds_toArray, List.set_cons_zero, List.set_cons_succ, i64_w, i32_w]
            rfl
           refine pure_ (i := 1) (N := some 91) (v := ?_) (a' := ?_) #[true, true, false, false, false, false, false, false, false, false, false, false, false, false, false, false, false, false, false, false, false, false, false, false, false, false, false, false, false, false, false, false, false, false, false, false, false, false, false, false, false, false] rfl rfl (any_of HT_.out (by kernel_rfl)) (fun _ _ _ h => h) (Or.inl ⟨by rfl, ?_⟩) ?_ ?_
           rotate_left
           ·
            intro w'
            go_simp
            with_reducible rfl
           rotate_left
           ·
            simp only [Act.put, List.setIfInBounds_toArray, List.set_cons_zero, List.set_cons_succ, i64_w, i32_w]
            rfl
           refine pure_ (i := 2) (N := some 92) (v := ?_) (a' := ?_) #[true, true, true, false, false, false, false, false, false, false, false, false, false, false, false, false, false, false, false, false, false, false, false, false, false, false, false, false, false, false, false, false, false, false, false, false, false, false, false, false, false, false] rfl rfl (any_of HT_.out (by kernel_rfl)) (fun _ _ _ h => h) (Or.inl ⟨by rfl, ?_⟩) ?_ ?_
           rotate_left
           ·
            intro w'
            go_simp
            with_reducible rfl
           rotate_left
           ·
            simp only [Act.put, List.setIfInBounds_toArray, List.set_cons_zero, List.set_cons_succ, i64_w, i32_w]
            rfl
           refine pure_ (i := 3) (N := some 93) (v := ?_) (a' := ?_) #[true, true, true, true, false, false, false, false, false, false, false, false, false, false, false, false, false, false, false, false, false, false, false, false, false, false, false, false, false, false, false, false, false, false, false, false, false, false, false, false, false, false] rfl rfl (any_of HT_.out (by kernel_rfl)) (fun _ _ _ h => h) (Or.inl ⟨by rfl, ?_⟩) ?_ ?_
           rotate_left
           ·
            intro w'
            go_simp
            with_reducible rfl
           rotate_left
           ·
            simp only [Act.put, List.setIfInBounds_toArray, List.set_cons_zero, List.set_cons_succ, i64_w, i32_w]
            rfl
           refine pure_ (i := 4) (N := some 94) (v := ?_) (a' := ?_) #[true, true, true, true, true, false, false, false, false, false, false, false, false, false, false, false, false, false, false, false, false, false, false, false, false, false, false, false, false, false, false, false, false, false, false, false, false, false, false, false, false, false] rfl rfl (any_of HT_.out (by kernel_rfl)) (fun _ _ _ h => h) (Or.inl ⟨by rfl, ?_⟩) ?_ ?_
           rotate_left
           ·
            intro w'
            go_simp
            with_reducible rfl
           rotate_left
           ·
            simp only [Act.put, List.setIfInBounds_toArray, List.set_cons_zero, List.set_cons_succ, i64_w, i32_w]
            rfl
           refine pure_ (i := 5) (N := some 95) (v := ?_) (a' := ?_) #[true, true, true, true, true, true, false, false, false, false, false, false, false, false, false, false, false, false, false, false, false, false, false, false, false, false, false, false, false, false, false, false, false, false, false, false, false, false, false, false, false, false] rfl rfl (any_of HT_.out (by kernel_rfl)) (fun _ _ _ h => h) (Or.inl ⟨by rfl, ?_⟩) ?_ ?_
           rotate_left
           ·
            intro w'
            go_simp
            with_reducible rfl
           rotate_left
           ·
            simp only [Act.put, List.setIfInBounds_toArray, List.set_cons_zero, List.set_cons_succ, i64_w, i32_w]
            rfl
           refine pure_ (i := 6) (N := some 96) (v := ?_) (a' := ?_) #[true, true, true, true, true, true, true, false, false, false, false, false, false, false, false, false, false, false, false, false, false, false, false, false, false, false, false, false, false, false, false, false, false, false, false, false, false, false, false, false, false, false] rfl rfl (any_of HT_.out (by kernel_rfl)) (fun _ _ _ h => h) (Or.inl ⟨by rfl, ?_⟩) ?_ ?_
           rotate_left
           ·
            intro w'
            go_simp
            with_reducible rfl
           rotate_left
           ·
            simp only [Act.put, List.setIfInBounds_toArray, List.set_cons_zero, List.set_cons_succ, i64_w, i32_w]
            rfl
           refine pure_ (i := 7) (N := some 97) (v := ?_) (a' := ?_) #[true, true, true, true, true, true, true, true, false, false, false, false, false, false, false, false, false, false, false, false, false, false, false, false, false, false, false, false, false, false, false, false, false, false, false, false, false, false, false, false, false, false] rfl rfl (any_of HT_.out (by kernel_rfl)) (fun _ _ _ h => h) (Or.inl ⟨by rfl, ?_⟩) ?_ ?_
           rotate_left
           ·
            intro w'
            go_simp
            with_reducible rfl
           rotate_left
           ·
            simp only [Act.put, List.setIfInBounds_toArray, List.set_cons_zero, List.set_cons_succ, i64_w, i32_w]
            rfl
           refine pure_ (i := 8) (N := some 98) (v := ?_) (a' := ?_) #[true, true, true, true, true, true, true, true, true, false, false, false, false, false, false, false, false, false, false, false, false, false, false, false, false, false, false, false, false, false, false, false, false, false, false, false, false, false, false, false, false, false] rfl rfl (any_of HT_.out (by kernel_rfl)) (fun _ _ _ h => h) (Or.inl ⟨by rfl, ?_⟩) ?_ ?_
           rotate_left
           ·
            intro w'
            go_simp
            with_reducible rfl
           rotate_left
           ·
            simp only [Act.put, List.setIfInBounds_toArray, List.set_cons_zero, List.set_cons_succ, i64_w, i32_w]
            rfl
           refine pure_ (i := 9) (N := some 99) (v := ?_) (a' := ?_) #[true, true, true, true, true, true, true, true, true, true, false, false, false, false, false, false, false, false, false, false, false, false, false, false, false, false, false, false, false, false, false, false, false, false, false, false, false, false, false, false, false, false] rfl rfl (any_of HT_.out (by kernel_rfl)) (fun _ _ _ h => h) (Or.inl ⟨by rfl, ?_⟩) ?_ ?_
           rotate_left
           ·
            intro w'
            go_simp
            with_reducible rfl
           rotate_left
           ·
            simp only [Act.put, List.setIfInBounds_toArray, List.set_cons_zero, List.set_cons_succ, i64_w, i32_w]
            rfl
           refine pure_ (i := 10) (N := some 100) (v := ?_) (a' := ?_) #[true, true, true, true, true, true, true, true, true, true, true, false, false, false, false, false, false, false, false, false, false, false, false, false, false, false, false, false, false, false, false, false, false, false, false, false, false, false, false, false, false, false] rfl rfl (any_of HT_.out (by kernel_rfl)) (fun _ _ _ h => h) (Or.inl ⟨by rfl, ?_⟩) ?_ ?_
           rotate_left
           ·
            intro w'
            go_simp
            with_reducible rfl
           rotate_left
           ·
            simp only [Act.put, List.setIfInBounds_toArray, List.set_cons_zero, List.set_cons_succ, i64_w, i32_w]
            rfl
           refine pure_ (i := 11) (N := some 101) (v := ?_) (a' := ?_) #[true, true, true, true, true, true, true, true, true, true, true, true, false, false, false, false, false, false, false, false, false, false, false, false, false, false, false, false, false, false, false, false, false, false, false, false, false, false, false, false, false, false] rfl rfl (any_of HT_.out (by kernel_rfl)) (fun _ _ _ h => h) (Or.inl ⟨by rfl, ?_⟩) ?_ ?_
           rotate_left
           ·
            intro w'
            go_simp
            with_reducible rfl
           rotate_left
           ·
            simp only [Act.put, List.setIfInBounds_toArray, List.set_cons_zero, List.set_cons_succ, i64_w, i32_w]
            rfl
           refine pure_ (i := 12) (N := some 102) (v := ?_) (a' := ?_) #[true, true, true, true, true, true, true, true, true, true, true, true, true, false, false, false, false, false, false, false, false, false, false, false, false, false, false, false, false, false, false, false, false, false, false, false, false, false, false, false, false, false] rfl rfl (any_of HT_.out (by kernel_rfl)) (fun _ _ _ h => h) (Or.inl ⟨by rfl, ?_⟩) ?_ ?_
           rotate_left
           ·
            intro w'
            go_simp
            with_reducible rfl
           rotate_left
           ·
            simp only [Act.put, List.setIfInBounds_toArray, List.set_cons_zero, List.set_cons_succ, i64_w, i32_w]
            rfl
           refine pure_ (i := 13) (N := some 103) (v := ?_) (a' := ?_) #[true, true, true, true, true, true, true, true, true, true, true, true, true, true, false, false, false, false, false, false, false, false, false, false, false, false, false, false, false, false, false, false, false, false, false, false, false, false, false, false, false, false] rfl rfl (any_of HT_.out (by kernel_rfl)) (fun _ _ _ h => h) (Or.inl ⟨by rfl, ?_⟩) ?_ ?_
           rotate_left
           ·
            intro w'
            go_simp
            with_reducible rfl
           rotate_left
           ·
            simp only [Act.put, List.setIfInBounds_toArray, List.set_cons_zero, List.set_cons_succ, i64_w, i32_w]
            rfl
           refine pure_ (i := 14) (N := some 104) (v := ?_) (a' := ?_) #[true, true, true, true, true, true, true, true, true, true, true, true, true, true, true, false, false, false, false, false, false, false, false, false, false, false, false, false, false, false, false, false, false, false, false, false, false, false, false, false, false, false] rfl rfl (any_of HT_.out (by kernel_rfl)) (fun _ _ _ h => h) (Or.inl ⟨by rfl, ?_⟩) ?_ ?_
           rotate_left
           ·
            intro w'
            go_simp
            with_reducible rfl
           rotate_left
           ·
            simp only [Act.put, List.setIfInBounds_toArray, List.set_cons_zero, List.set_cons_succ, i64_w, i32_w]
            rfl
           refine pure_ (i := 15) (N := some 105) (v := ?_) (a' := ?_) #[true, true, true, true, true, true, true, true, true, true, true, true, true, true, true, true, false, false, false, false, false, false, false, false, false, false, false, false, false, false, false, false, false, false, false, false, false, false, false, false, false, false] rfl rfl (any_of HT_.out (by kernel_rfl)) (fun _ _ _ h => h) (Or.inl ⟨by rfl, ?_⟩) ?_ ?_
           rotate_left
           ·
            intro w'
            go_simp
            with_reducible rfl
           rotate_left
           ·
            simp only [Act.put, List.setIfInBounds_toArray, List.set_cons_zero, List.set_cons_succ, i64_w, i32_w]
            rfl
           refine pure_ (i := 16) (N := some 106) (v := ?_) (a' := ?_) #[true, true, true, true, true, true, true, true, true, true, true, true, true, true, true, true, true, false, false, false, false, false, false, false, false, false, false, false, false, false, false, false, false, false, false, false, false, false, false, false, false, false] rfl rfl (any_of HT_.out (by kernel_rfl)) (fun _ _ _ h => h) (Or.inl ⟨by rfl, ?_⟩) ?_ ?_
           rotate_left
           ·
            intro w'
            go_simp
            with_reducible rfl
           rotate_left
           ·
            simp only [Act.put, List.setIfInBounds_toArray, List.set_cons_zero, List.set_cons_succ, i64_w, i32_w]
            rfl
           refine pure_ (i := 17) (N := some 107) (v := ?_) (a' := ?_) #[true, true, true, true, true, true, true, true, true, true, true, true, true, true, true, true, true, true, false, false, false, false, false, false, false, false, false, false, false, false, false, false, false, false, false, false, false, false, false, false, false, false] rfl rfl (any_of HT_.out (by kernel_rfl)) (fun _ _ _ h => h) (Or.inl ⟨by rfl, ?_⟩) ?_ ?_
           rotate_left
           ·
            intro w'
            go_simp
            with_reducible rfl
           rotate_left
           ·
            simp only [Act.put, List.setIfInBounds_toArray, List.set_cons_zero, List.set_cons_succ, i64_w, i32_w]
            rfl
           refine pure_ (i := 18) (N := some 108) (v := ?_) (a' := ?_) #[true, true, true, true, true, true, true, true, true, true, true, true, true, true, true, true, true, true, true, false, false, false, false, false, false, false, false, false, false, false, false, false, false, false, false, false, false, false, false, false, false, false] rfl rfl (any_of HT_.out (by kernel_rfl)) (fun _ _ _ h => h) (Or.inl ⟨by rfl, ?_⟩) ?_ ?_
           rotate_left
           ·
            intro w'
            go_simp
            with_reducible rfl
           rotate_left
           ·
            simp only [Act.put, List.setIfInBounds_toArray, List.set_cons_zero, List.set_cons_succ, i64_w, i32_w]
            rfl
           refine pure_ (i := 19) (N := some 109) (v := ?_) (a' := ?_) #[true, true, true, true, true, true, true, true, true, true, true, true, true, true, true, true, true, true, true, true, false, false, false, false, false, false, false, false, false, false, false, false, false, false, false, false, false, false, false, false, false, false] rfl rfl (any_of HT_.out (by kernel_rfl)) (fun _ _ _ h => h) (Or.inl ⟨by rfl, ?_⟩) ?_ ?_
           rotate_left
           ·
            intro w'
            go_simp
            with_reducible rfl
           rotate_left
           ·
            simp only [Act.put, List.setIfInBounds_toArray, List.set_cons_zero, List.set_cons_succ, i64_w, i32_w]
            rfl
           refine pure_ (i := 20) (N := some 110) (v := ?_) (a' := ?_) #[true, true, true, true, true, true, true, true, true, true, true, true, true, true, true, true, true, true, true, true, true, false, false, false, false, false, false, false, false, false, false, false, false, false, false, false, false, false, false, false, false, false] rfl rfl (any_of HT_.out (by kernel_rfl)) (fun _ _ _ h => h) (Or.inl ⟨by rfl, ?_⟩) ?_ ?_
           rotate_left
           ·
            intro w'
            go_simp
            with_reducible rfl
           rotate_left
           ·
            simp only [Act.put, List.setIfInBounds_toArray, List.set_cons_zero, List.set_cons_succ, i64_w, i32_w]
            rfl
           refine pure_ (i := 21) (N := some 111) (v := ?_) (a' := ?_) #[true, true, true, true, true, true, true, true, true, true, true, true, true, true, true, true, true, true, true, true, true, true, false, false, false, false, false, false, false, false, false, false, false, false, false, false, false, false, false, false, false, false] rfl rfl (any_of HT_.out (by kernel_rfl)) (fun _ _ _ h => h) (Or.inl ⟨by rfl, ?_⟩) ?_ ?_
           rotate_left
           ·
            intro w'
            go_simp
            with_reducible rfl
           rotate_left
           ·
            simp only [Act.put, List.setIfInBounds_toArray, List.set_cons_zero, List.set_cons_succ, i64_w, i32_w]
            rfl
           refine pure_ (i := 22) (N := some 112) (v := ?_) (a' := ?_) #[true, true, true, true, true, true, true, true, true, true, true, true, true, true, true, true, true, true, true, true, true, true, true, false, false, false, false, false, false, false, false, false, false, false, false, false, false, false, false, false, false, false] rfl rfl (any_of HT_.out (by kernel_rfl)) (fun _ _ _ h => h) (Or.inl ⟨by rfl, ?_⟩) ?_ ?_
           rotate_left
           ·
            intro w'
            go_simp
            with_reducible rfl
           rotate_left
           ·
            simp only [Act.put, List.setIfInBounds_toArray, List.set_cons_zero, List.set_cons_succ, i64_w, i32_w]
            rfl
           refine pure_ (i := 25) (N := some 115) (v := ?_) (a' := ?_) #[true, true, true, true, true, true, true, true, true, true, true, true, true, true, true, true, true, true, true, true, true, true, true, false, false, true, false, false, false, false, false, false, false, false, false, false, false, false, false, false, false, false] rfl rfl (any_of HT_.out (by kernel_rfl)) (fun _ _ _ h => h) (Or.inl ⟨by rfl, ?_⟩) ?_ ?_
           rotate_left
           ·
            intro w'
            go_simp
            with_reducible rfl
           rotate_left
           ·
            simp only [Act.put, List.setIfInBounds_toArray, List.set_cons_zero, List.set_cons_succ, i64_w, i32_w]
            rfl
           refine take_ (i := 26) (N := some 116) (v := ?_) (a' := ?_) #[true, true, true, true, true, true, true, true, true, true, true, true, true, true, true, true, true, true, true, true, true, true, true, false, false, true, true, false, false, false, false, false, false, false, false, false, false, false, false, false, false, false] rfl rfl (take_ofW HT_.out HW_.out (by kernel_rfl)) (fun _ _ _ h => h) (Or.inl ⟨by rfl, ?_⟩) hHeld ?_ ?_
           rotate_left
           ·
            rintro w' ⟨s0, s1⟩
            go_simp
            with_reducible rfl
           rotate_left
           ·
            simp only [Act.put, List.setIfInBounds_toArray, List.set_cons_zero, List.set_cons_succ, i64_w, i32_w]
            rfl
           refine one_ (i := 23) (N := some 113) #[true, true, true, true, true, true, true, true, true, true, true, true, true, true, true, true, true, true, true, true, true, true, true, true, false, true, true, false, false, false, false, false, false, false, false, false, false, false, false, false, false, false] rfl rfl (one_of HT_.out (by kernel_rfl)) (by decide) (fun K hK => ?_)
           refine goes_ Try.func45 (by kernel_rfl) rfl #[.slice A2 l2.length c2, .slice Ao71 t328.length co71] (by rfl) rfl rfl (by (try simp only [List.map_toArray, List.map_cons, List.map_nil]); first | done | rfl | (simp only [List.length_drop, List.length_take]; rfl)) ?_
           with_reducible refine (tensileref05_Stretch.calls k _ _ l2 _ _ t328 t368 t369 _ ?side1 ?side2 ?side3 ?side4 A33.out).mono ?_
           (case side1 => repeat (first | exact (Kd.C_below HR2.out HB.out) | (with_reducible refine Kd.C_alloc ?_ _) | (with_reducible refine Kd.C_drewN ?_ _) | (with_reducible refine Kd.C_drew ?_)))
           (case side2 => exact HC2.out)
           (case side3 => repeat (first | exact (Kd.R_reads' HO330.out).2.2 | (with_reducible refine Kd.C_alloc ?_ _) | (with_reducible refine Kd.C_drewN ?_ _) | (with_reducible refine Kd.C_drew ?_)))
           (case side4 => exact (Kd.R_reads' HO330.out).2.1)
           rintro e w87 ⟨rfl, hb⟩
           refine ⟨_, rfl, ?_⟩
           have n0_ := Aside0.mk (Kd.R_below (by (with_reducible repeat (first | apply Kd.R_alloc | apply Kd.R_drewN | apply Kd.R_drew)); exact HO308.out) hb)
           have n1_ := Aside0.mk (Kd.S_below (by (with_reducible repeat (first | apply Kd.S_alloc | apply Kd.S_drewN | apply Kd.S_drew)); exact HO311.out) hb)
           have n2_ := Aside0.mk (Kd.R_below (by (with_reducible repeat (first | apply Kd.R_alloc | apply Kd.R_drewN | apply Kd.R_drew)); exact HO314.out) hb)
           have n3_ := Aside0.mk (Kd.R_below (by (with_reducible repeat (first | apply Kd.R_alloc | apply Kd.R_drewN | apply Kd.R_drew)); exact HO321.out) hb)
           have n4_ := Aside0.mk (Kd.S_below (by (with_reducible repeat (first | apply Kd.S_alloc | apply Kd.S_drewN | apply Kd.S_drew)); exact HO324.out) hb)
           have n5_ := Aside0.mk (Kd.R_below (by (with_reducible repeat (first | apply Kd.R_alloc | apply Kd.R_drewN | apply Kd.R_drew)); exact HO327.out) hb)
           have n6_ := Aside0.mk (Kd.R_below (by (with_reducible repeat (first | apply Kd.R_alloc | apply Kd.R_drewN | apply Kd.R_drew)); exact HO330.out) hb)
           have n7_ := Aside0.mk (Kd.R_below (by (with_reducible repeat (first | apply Kd.R_alloc | apply Kd.R_drewN | apply Kd.R_drew)); exact HO334.out) hb)
           have n8_ := Aside0.mk (Kd.S_below (by (with_reducible repeat (first | apply Kd.S_alloc | apply Kd.S_drewN | apply Kd.S_drew)); exact HO337.out) hb)
           have n9_ := Aside0.mk (Kd.R_below (by (with_reducible repeat (first | apply Kd.R_alloc | apply Kd.R_drewN | apply Kd.R_drew)); exact HO340.out) hb)
           have n10_ := Aside0.mk (Kd.R_below (by (with_reducible repeat (first | apply Kd.R_alloc | apply Kd.R_drewN | apply Kd.R_drew)); exact HO343.out) hb)
           have n11_ := Aside0.mk (Kd.R_below (by (with_reducible repeat (first | apply Kd.R_alloc | apply Kd.R_drewN | apply Kd.R_drew)); exact HO348.out) hb)
           have n12_ := Aside0.mk (Kd.S_below (by (with_reducible repeat (first | apply Kd.S_alloc | apply Kd.S_drewN | apply Kd.S_drew)); exact HO351.out) hb)
           have n13_ := Aside0.mk (Kd.R_below (by (with_reducible repeat (first | apply Kd.R_alloc | apply Kd.R_drewN | apply Kd.R_drew)); exact HO354.out) hb)
           have n14_ := Aside0.mk (Kd.R_below (by (with_reducible repeat (first | apply Kd.R_alloc | apply Kd.R_drewN | apply Kd.R_drew)); exact HO359.out) hb)
           have n15_ := Aside0.mk (Kd.S_below (by (with_reducible repeat (first | apply Kd.S_alloc | apply Kd.S_drewN | apply Kd.S_drew)); exact HO362.out) hb)
           have n16_ := Aside0.mk (Kd.R_below (by (with_reducible repeat (first | apply Kd.R_alloc | apply Kd.R_drewN | apply Kd.R_drew)); exact HO365.out) hb)
           have n17_ := Aside0.mk (blk_below (g := gb303) (o := .cells #[.slice A0_0 l0_0.length c0_0] 24 (0, 0)) (by (with_reducible repeat (first | refine blk_drewN ?_ _ | refine blk_drew ?_ | refine blk_alloc ?_ _)); exact BK303.out) hb)
           have n18_ := Aside0.mk (blk_below (g := gb318) (o := .cells #[.int .i64 t315, .int .i64 t316] 47 (0, 0)) (by (with_reducible repeat (first | refine blk_drewN ?_ _ | refine blk_drew ?_ | refine blk_alloc ?_ _)); exact BK318.out) hb)
           have n19_ := Aside0.mk (below_step (by repeat (first | (with_reducible first | exact HB.out | apply below_alloc | apply pw_below_drewN | apply below_drew1 | refine below_set ?_ GE303.out | refine below_set ?_ GE318.out) | exact HB.out)) hb)
           clear HO308
           clear HO311
           clear HO314
           clear HO321
           clear HO324
           clear HO327
           clear HO330
           clear HO334
           clear HO337
           clear HO340
           clear HO343
           clear HO348
           clear HO351
           clear HO354
           clear HO359
           clear HO362
           clear HO365
           clear BK303
           clear BK318
           clear HB
           have HO308 := n0_
           have HO311 := n1_
           have HO314 := n2_
           have HO321 := n3_
           have HO324 := n4_
           have HO327 := n5_
           have HO330 := n6_
           have HO334 := n7_
           have HO337 := n8_
           have HO340 := n9_
           have HO343 := n10_
           have HO348 := n11_
           have HO351 := n12_
           have HO354 := n13_
           have HO359 := n14_
           have HO362 := n15_
           have HO365 := n16_
           have BK303 := n17_
           have BK318 := n18_
           have HB := n19_
           clear n0_ n1_ n2_ n3_ n4_ n5_ n6_ n7_ n8_ n9_ n10_ n11_ n12_ n13_ n14_ n15_ n16_ n17_ n18_ n19_
           (try clear hb)
           (try clear hb2)
           (try clear hk)
           (try clear hi)
           refine hK.out _ _ ⟨(blk_cell BK318.out 0).trans rfl, (blk_cell BK318.out 1).trans rfl⟩ (fun hHeld => ?_)
           clear hK K
           refine norm_ (a' := ?_) ?_ ?_
           rotate_left
           ·
            show Act.put _ (some 113) _ = _
            simp only [Act.put, List.setIfInBounds_toArray, List.set_cons_zero, List.set_cons_succ, i64_w, i32_w]
            rfl
           refine pure_ (i := 24) (N := some 114) (v := ?_) (a' := ?_) #[true, true, true, true, true, true, true, true, true, true, true, true, true, true, true, true, true, true, true, true, true, true, true, true, true, true, true, false, false, false, false, false, false, false, false, false, false, false, false, false, false, false] rfl rfl (any_of HT_.out (by kernel_rfl)) (fun _ _ _ h => h) (Or.inl ⟨by rfl, ?_⟩) ?_ ?_
           rotate_left
           ·
            intro w'
            go_simp
            with_reducible rfl
           rotate_left
           ·
            simp only [Act.put, List.setIfInBounds_toArray, List.set_cons_zero, List.set_cons_succ, i64_w, i32_w]
            rfl
           refine pure_ (i := 27) (N := some 117) (v := ?_) (a' := ?_) #[true, true, true, true, true, true, true, true, true, true, true, true, true, true, true, true, true, true, true, true, true, true, true, true, true, true, true, true, false, false, false, false, false, false, false, false, false, false, false, false, false, false] rfl rfl (any_of HT_.out (by kernel_rfl)) (fun _ _ _ h => h) (Or.inl ⟨by rfl, ?_⟩) ?_ ?_
           rotate_left
           ·
            intro w'
            go_simp
            with_reducible rfl
           rotate_left
           ·
            simp only [Act.put, List.setIfInBounds_toArray, List.set_cons_zero, List.set_cons_succ, i64_w, i32_w]
            rfl
           refine pure_ (i := 28) (N := some 118) (v := ?_) (a' := ?_) #[true, true, true, true, true, true, true, true, true, true, true, true, true, true, true, true, true, true, true, true, true, true, true, true, true, true, true, true, true, false, false, false, false, false, false, false, false, false, false, false, false, false] rfl rfl (any_of HT_.out (by kernel_rfl)) (fun _ _ _ h => h) (Or.inl ⟨by rfl, ?_⟩) ?_ ?_
           rotate_left
           ·
            intro w'
            go_simp
            with_reducible rfl
           rotate_left
           ·
            simp only [Act.put, List.setIfInBounds_toArray, List.set_cons_zero, List.set_cons_succ, i64_w, i32_w]
            rfl
           refine pure_ (i := 29) (N := some 119) (v := ?_) (a' := ?_) #[true, true, true, true, true, true, true, true, true, true, true, true, true, true, true, true, true, true, true, true, true, true, true, true, true, true, true, true, true, true, false, false, false, false, false, false, false, false, false, false, false, false] rfl rfl (any_of HT_.out (by kernel_rfl)) (fun _ _ _ h => h) (Or.inl ⟨by rfl, ?_⟩) ?_ ?_
           rotate_left
           ·
            intro w'
            go_simp
            with_reducible rfl
           rotate_left
           ·
            simp only [Act.put, List.setIfInBounds_toArray, List.set_cons_zero, List.set_cons_succ, i64_w, i32_w]
            rfl
           refine pure_ (i := 30) (N := some 120) (v := ?_) (a' := ?_) #[true, true, true, true, true, true, true, true, true, true, true, true, true, true, true, true, true, true, true, true, true, true, true, true, true, true, true, true, true, true, true, false, false, false, false, false, false, false, false, false, false, false] rfl rfl (any_of HT_.out (by kernel_rfl)) (fun _ _ _ h => h) (Or.inl ⟨by rfl, ?_⟩) ?_ ?_
           rotate_left
           ·
            intro w'
            go_simp
            with_reducible rfl
           rotate_left
           ·
            simp only [Act.put, List.setIfInBounds_toArray, List.set_cons_zero, List.set_cons_succ, i64_w, i32_w]
            rfl
           refine pure_ (i := 31) (N := some 121) (v := ?_) (a' := ?_) #[true, true, true, true, true, true, true, true, true, true, true, true, true, true, true, true, true, true, true, true, true, true, true, true, true, true, true, true, true, true, true, true, false, false, false, false, false, false, false, false, false, false] rfl rfl (any_of HT_.out (by kernel_rfl)) (fun _ _ _ h => h) (Or.inl ⟨by rfl, ?_⟩) ?_ ?_
           rotate_left
           ·
            intro w'
            go_simp
            with_reducible rfl
           rotate_left
           ·
            simp only [Act.put, List.setIfInBounds_toArray, List.set_cons_zero, List.set_cons_succ, i64_w, i32_w]
            rfl
           refine pure_ (i := 34) (N := some 124) (v := ?_) (a' := ?_) #[true, true, true, true, true, true, true, true, true, true, true, true, true, true, true, true, true, true, true, true, true, true, true, true, true, true, true, true, true, true, true, true, false, false, true, false, false, false, false, false, false, false] rfl rfl (any_of HT_.out (by kernel_rfl)) (fun _ _ _ h => h) (Or.inl ⟨by rfl, ?_⟩) ?_ ?_
           rotate_left
           ·
            intro w'
            go_simp
            with_reducible rfl
           rotate_left
           ·
            simp only [Act.put, List.setIfInBounds_toArray, List.set_cons_zero, List.set_cons_succ, i64_w, i32_w]
            rfl
           refine take_ (i := 35) (N := some 125) (v := ?_) (a' := ?_) #[true, true, true, true, true, true, true, true, true, true, true, true, true, true, true, true, true, true, true, true, true, true, true, true, true, true, true, true, true, true, true, true, false, false, true, true, false, false, false, false, false, false] rfl rfl (take_ofW HT_.out HW_.out (by kernel_rfl)) (fun _ _ _ h => h) (Or.inl ⟨by rfl, ?_⟩) hHeld ?_ ?_
           rotate_left
           ·
            rintro w' ⟨s0, s1⟩
            go_simp
            with_reducible rfl
           rotate_left
           ·
            simp only [Act.put, List.setIfInBounds_toArray, List.set_cons_zero, List.set_cons_succ, i64_w, i32_w]
            rfl
           refine one_ (i := 32) (N := some 122) #[true, true, true, true, true, true, true, true, true, true, true, true, true, true, true, true, true, true, true, true, true, true, true, true, true, true, true, true, true, true, true, true, true, false, true, true, false, false, false, false, false, false] rfl rfl (one_of HT_.out (by kernel_rfl)) (by decide) (fun K hK => ?_)
           refine goes_ Try.func45 (by kernel_rfl) rfl #[.slice A2 l2.length c2, .slice Ao80 t341.length co80] (by rfl) rfl rfl (by (try simp only [List.map_toArray, List.map_cons, List.map_nil]); first | done | rfl | (simp only [List.length_drop, List.length_take]; rfl)) ?_
           with_reducible refine (tensileref05_Stretch.calls k _ _ l2 _ _ t341 t370 t371 _ ?side1 ?side2 ?side3 ?side4 A35.out).mono ?_
           (case side1 => repeat (first | exact (Kd.C_below HR2.out HB.out) | (with_reducible refine Kd.C_alloc ?_ _) | (with_reducible refine Kd.C_drewN ?_ _) | (with_reducible refine Kd.C_drew ?_)))
           (case side2 => exact HC2.out)
           (case side3 => repeat (first | exact (Kd.R_reads' HO343.out).2.2 | (with_reducible refine Kd.C_alloc ?_ _) | (with_reducible refine Kd.C_drewN ?_ _) | (with_reducible refine Kd.C_drew ?_)))
           (case side4 => exact (Kd.R_reads' HO343.out).2.1)
           rintro e w88 ⟨rfl, hb⟩
           refine ⟨_, rfl, ?_⟩
           have n0_ := Aside0.mk (Kd.R_below (by (with_reducible repeat (first | apply Kd.R_alloc | apply Kd.R_drewN | apply Kd.R_drew)); exact HO308.out) hb)
           have n1_ := Aside0.mk (Kd.S_below (by (with_reducible repeat (first | apply Kd.S_alloc | apply Kd.S_drewN | apply Kd.S_drew)); exact HO311.out) hb)
           have n2_ := Aside0.mk (Kd.R_below (by (with_reducible repeat (first | apply Kd.R_alloc | apply Kd.R_drewN | apply Kd.R_drew)); exact HO314.out) hb)
           have n3_ := Aside0.mk (Kd.R_below (by (with_reducible repeat (first | apply Kd.R_alloc | apply Kd.R_drewN | apply Kd.R_drew)); exact HO321.out) hb)
           have n4_ := Aside0.mk (Kd.S_below (by (with_reducible repeat (first | apply Kd.S_alloc | apply Kd.S_drewN | apply Kd.S_drew)); exact HO324.out) hb)
           have n5_ := Aside0.mk (Kd.R_below (by (with_reducible repeat (first | apply Kd.R_alloc | apply Kd.R_drewN | apply Kd.R_drew)); exact HO327.out) hb)
           have n6_ := Aside0.mk (Kd.R_below (by (with_reducible repeat (first | apply Kd.R_alloc | apply Kd.R_drewN | apply Kd.R_drew)); exact HO330.out) hb)
           have n7_ := Aside0.mk (Kd.R_below (by (with_reducible repeat (first | apply Kd.R_alloc | apply Kd.R_drewN | apply Kd.R_drew)); exact HO334.out) hb)
           have n8_ := Aside0.mk (Kd.S_below (by (with_reducible repeat (first | apply Kd.S_alloc | apply Kd.S_drewN | apply Kd.S_drew)); exact HO337.out) hb)
           have n9_ := Aside0.mk (Kd.R_below (by (with_reducible repeat (first | apply Kd.R_alloc | apply Kd.R_drewN | apply Kd.R_drew)); exact HO340.out) hb)
           have n10_ := Aside0.mk (Kd.R_below (by (with_reducible repeat (first | apply Kd.R_alloc | apply Kd.R_drewN | apply Kd.R_drew)); exact HO343.out) hb)
           have n11_ := Aside0.mk (Kd.R_below (by (with_reducible repeat (first | apply Kd.R_alloc | apply Kd.R_drewN | apply Kd.R_drew)); exact HO348.out) hb)
           have n12_ := Aside0.mk (Kd.S_below (by (with_reducible repeat (first | apply Kd.S_alloc | apply Kd.S_drewN | apply Kd.S_drew)); exact HO351.out) hb)
           have n13_ := Aside0.mk (Kd.R_below (by (with_reducible repeat (first | apply Kd.R_alloc | apply Kd.R_drewN | apply Kd.R_drew)); exact HO354.out) hb)
           have n14_ := Aside0.mk (Kd.R_below (by (with_reducible repeat (first | apply Kd.R_alloc | apply Kd.R_drewN | apply Kd.R_drew)); exact HO359.out) hb)
           have n15_ := Aside0.mk (Kd.S_below (by (with_reducible repeat (first | apply Kd.S_alloc | apply Kd.S_drewN | apply Kd.S_drew)); exact HO362.out) hb)
           have n16_ := Aside0.mk (Kd.R_below (by (with_reducible repeat (first | apply Kd.R_alloc | apply Kd.R_drewN | apply Kd.R_drew)); exact HO365.out) hb)
           have n17_ := Aside0.mk (blk_below (g := gb303) (o := .cells #[.slice A0_0 l0_0.length c0_0] 24 (0, 0)) (by (with_reducible repeat (first | refine blk_drewN ?_ _ | refine blk_drew ?_ | refine blk_alloc ?_ _)); exact BK303.out) hb)
           have n18_ := Aside0.mk (blk_below (g := gb318) (o := .cells #[.int .i64 t315, .int .i64 t316] 47 (0, 0)) (by (with_reducible repeat (first | refine blk_drewN ?_ _ | refine blk_drew ?_ | refine blk_alloc ?_ _)); exact BK318.out) hb)
           have n19_ := Aside0.mk (below_step (by repeat (first | (with_reducible first | exact HB.out | apply below_alloc | apply pw_below_drewN | apply below_drew1 | refine below_set ?_ GE303.out | refine below_set ?_ GE318.out) | exact HB.out)) hb)
           clear HO308
           clear HO311
           clear HO314
           clear HO321
           clear HO324
           clear HO327
           clear HO330
           clear HO334
           clear HO337
           clear HO340
           clear HO343
           clear HO348
           clear HO351
           clear HO354
           clear HO359
           clear HO362
           clear HO365
           clear BK303
           clear BK318
           clear HB
           have HO308 := n0_
           have HO311 := n1_
           have HO314 := n2_
           have HO321 := n3_
           have HO324 := n4_
           have HO327 := n5_
           have HO330 := n6_
           have HO334 := n7_
           have HO337 := n8_
           have HO340 := n9_
           have HO343 := n10_
           have HO348 := n11_
           have HO351 := n12_
           have HO354 := n13_
           have HO359 := n14_
           have HO362 := n15_
           have HO365 := n16_
           have BK303 := n17_
           have BK318 := n18_
           have HB := n19_
           clear n0_ n1_ n2_ n3_ n4_ n5_ n6_ n7_ n8_ n9_ n10_ n11_ n12_ n13_ n14_ n15_ n16_ n17_ n18_ n19_
           (try clear hb)
           (try clear hb2)
           (try clear hk)
           (try clear hi)
           refine hK.out _ _ ⟨(blk_cell BK318.out 0).trans rfl, (blk_cell BK318.out 1).trans rfl⟩ (fun hHeld => ?_)
           clear hK K
           refine norm_ (a' := ?_) ?_ ?_
           rotate_left
           ·
            show Act.put _ (some 122) _ = _
            simp only [Act.put, List.setIfInBounds_toArray, List.set_cons_zero, List.set_cons_succ, i64_w, i32_w]
            rfl
           refine pure_ (i := 33) (N := some 123) (v := ?_) (a' := ?_) #[true, true, true, true, true, true, true, true, true, true, true, true, true, true, true, true, true, true, true, true, true, true, true, true, true, true, true, true, true, true, true, true, true, true, true, true, false, false, false, false, false, false] rfl rfl (any_of HT_.out (by kernel_rfl)) (fun _ _ _ h => h) (Or.inl ⟨by rfl, ?_⟩) ?_ ?_
           rotate_left
           ·
            intro w'
            go_simp
            with_reducible rfl
           rotate_left
           ·
            simp only [Act.put, List.setIfInBounds_toArray, List.set_cons_zero, List.set_cons_succ, i64_w, i32_w]
            rfl
           refine pure_ (i := 36) (N := some 126) (v := ?_) (a' := ?_) #[true, true, true, true, true, true, true, true, true, true, true, true, true, true, true, true, true, true, true, true, true, true, true, true, true, true, true, true, true, true, true, true, true, true, true, true, true, false, false, false, false, false] rfl rfl (any_of HT_.out (by kernel_rfl)) (fun _ _ _ h => h) (Or.inl ⟨by rfl, ?_⟩) ?_ ?_
           rotate_left
           ·
            intro w'
            go_simp
            with_reducible rfl
           rotate_left
           ·
            simp only [Act.put, List.setIfInBounds_toArray, List.set_cons_zero, List.set_cons_succ, i64_w, i32_w]
            rfl
           refine pure_ (i := 37) (N := some 127) (v := ?_) (a' := ?_) #[true, true, true, true, true, true, true, true, true, true, true, true, true, true, true, true, true, true, true, true, true, true, true, true, true, true, true, true, true, true, true, true, true, true, true, true, true, true, false, false, false, false] rfl rfl (any_of HT_.out (by kernel_rfl)) (fun _ _ _ h => h) (Or.inl ⟨by rfl, ?_⟩) ?_ ?_
           rotate_left
           ·
            intro w'
            go_simp
            with_reducible rfl
           rotate_left
           ·
            simp only [Act.put, List.setIfInBounds_toArray, List.set_cons_zero, List.set_cons_succ, i64_w, i32_w]
            rfl
           refine pure_ (i := 38) (N := some 128) (v := ?_) (a' := ?_) #[true, true, true, true, true, true, true, true, true, true, true, true, true, true, true, true, true, true, true, true, true, true, true, true, true, true, true, true, true, true, true, true, true, true, true, true, true, true, true, false, false, false] rfl rfl (any_of HT_.out (by kernel_rfl)) (fun _ _ _ h => h) (Or.inl ⟨by rfl, ?_⟩) ?_ ?_
           rotate_left
           ·
            intro w'
            go_simp
            with_reducible rfl
           rotate_left
           ·
            simp only [Act.put, List.setIfInBounds_toArray, List.set_cons_zero, List.set_cons_succ, i64_w, i32_w]
            rfl
           refine one_ (i := 39) (N := some 129) #[true, true, true, true, true, true, true, true, true, true, true, true, true, true, true, true, true, true, true, true, true, true, true, true, true, true, true, true, true, true, true, true, true, true, true, true, true, true, true, true, false, false] rfl rfl (one_of HT_.out (by kernel_rfl)) (by decide) (fun K hK => ?_)
           refine goes_ Try.func17 (by kernel_rfl) rfl #[] (by rfl) rfl rfl (by (try simp only [List.map_toArray, List.map_cons, List.map_nil]); first | done | rfl | (simp only [List.length_drop, List.length_take]; rfl)) ?_
           with_reducible refine (tensilelaw05_awake.calls  t372 _ A37.out).mono ?_
           rintro e w89 ⟨rfl, hb⟩
           refine ⟨_, rfl, ?_⟩
           have n0_ := Aside0.mk (Kd.R_below (by (with_reducible repeat (first | apply Kd.R_alloc | apply Kd.R_drewN | apply Kd.R_drew)); exact HO308.out) hb)
           have n1_ := Aside0.mk (Kd.S_below (by (with_reducible repeat (first | apply Kd.S_alloc | apply Kd.S_drewN | apply Kd.S_drew)); exact HO311.out) hb)
           have n2_ := Aside0.mk (Kd.R_below (by (with_reducible repeat (first | apply Kd.R_alloc | apply Kd.R_drewN | apply Kd.R_drew)); exact HO314.out) hb)
           have n3_ := Aside0.mk (Kd.R_below (by (with_reducible repeat (first | apply Kd.R_alloc | apply Kd.R_drewN | apply Kd.R_drew)); exact HO321.out) hb)
           have n4_ := Aside0.mk (Kd.S_below (by (with_reducible repeat (first | apply Kd.S_alloc | apply Kd.S_drewN | apply Kd.S_drew)); exact HO324.out) hb)
           have n5_ := Aside0.mk (Kd.R_below (by (with_reducible repeat (first | apply Kd.R_alloc | apply Kd.R_drewN | apply Kd.R_drew)); exact HO327.out) hb)
           have n6_ := Aside0.mk (Kd.R_below (by (with_reducible repeat (first | apply Kd.R_alloc | apply Kd.R_drewN | apply Kd.R_drew)); exact HO330.out) hb)
           have n7_ := Aside0.mk (Kd.R_below (by (with_reducible repeat (first | apply Kd.R_alloc | apply Kd.R_drewN | apply Kd.R_drew)); exact HO334.out) hb)
           have n8_ := Aside0.mk (Kd.S_below (by (with_reducible repeat (first | apply Kd.S_alloc | apply Kd.S_drewN | apply Kd.S_drew)); exact HO337.out) hb)
           have n9_ := Aside0.mk (Kd.R_below (by (with_reducible repeat (first | apply Kd.R_alloc | apply Kd.R_drewN | apply Kd.R_drew)); exact HO340.out) hb)
           have n10_ := Aside0.mk (Kd.R_below (by (with_reducible repeat (first | apply Kd.R_alloc | apply Kd.R_drewN | apply Kd.R_drew)); exact HO343.out) hb)
           have n11_ := Aside0.mk (Kd.R_below (by (with_reducible repeat (first | apply Kd.R_alloc | apply Kd.R_drewN | apply Kd.R_drew)); exact HO348.out) hb)
           have n12_ := Aside0.mk (Kd.S_below (by (with_reducible repeat (first | apply Kd.S_alloc | apply Kd.S_drewN | apply Kd.S_drew)); exact HO351.out) hb)
           have n13_ := Aside0.mk (Kd.R_below (by (with_reducible repeat (first | apply Kd.R_alloc | apply Kd.R_drewN | apply Kd.R_drew)); exact HO354.out) hb)
           have n14_ := Aside0.mk (Kd.R_below (by (with_reducible repeat (first | apply Kd.R_alloc | apply Kd.R_drewN | apply Kd.R_drew)); exact HO359.out) hb)
           have n15_ := Aside0.mk (Kd.S_below (by (with_reducible repeat (first | apply Kd.S_alloc | apply Kd.S_drewN | apply Kd.S_drew)); exact HO362.out) hb)
           have n16_ := Aside0.mk (Kd.R_below (by (with_reducible repeat (first | apply Kd.R_alloc | apply Kd.R_drewN | apply Kd.R_drew)); exact HO365.out) hb)
           have n17_ := Aside0.mk (blk_below (g := gb303) (o := .cells #[.slice A0_0 l0_0.length c0_0] 24 (0, 0)) (by (with_reducible repeat (first | refine blk_drewN ?_ _ | refine blk_drew ?_ | refine blk_alloc ?_ _)); exact BK303.out) hb)
           have n18_ := Aside0.mk (blk_below (g := gb318) (o := .cells #[.int .i64 t315, .int .i64 t316] 47 (0, 0)) (by (with_reducible repeat (first | refine blk_drewN ?_ _ | refine blk_drew ?_ | refine blk_alloc ?_ _)); exact BK318.out) hb)
           have n19_ := Aside0.mk (below_step (by repeat (first | (with_reducible first | exact HB.out | apply below_alloc | apply pw_below_drewN | apply below_drew1 | refine below_set ?_ GE303.out | refine below_set ?_ GE318.out) | exact HB.out)) hb)
           clear HO308
           clear HO311
           clear HO314
           clear HO321
           clear HO324
           clear HO327
           clear HO330
           clear HO334
           clear HO337
           clear HO340
           clear HO343
           clear HO348
           clear HO351
           clear HO354
           clear HO359
           clear HO362
           clear HO365
           clear BK303
           clear BK318
           clear HB
           have HO308 := n0_
           have HO311 := n1_
           have HO314 := n2_
           have HO321 := n3_
           have HO324 := n4_
           have HO327 := n5_
           have HO330 := n6_
           have HO334 := n7_
           have HO337 := n8_
           have HO340 := n9_
           have HO343 := n10_
           have HO348 := n11_
           have HO351 := n12_
           have HO354 := n13_
           have HO359 := n14_
           have HO362 := n15_
           have HO365 := n16_
           have BK303 := n17_
           have BK318 := n18_
           have HB := n19_
           clear n0_ n1_ n2_ n3_ n4_ n5_ n6_ n7_ n8_ n9_ n10_ n11_ n12_ n13_ n14_ n15_ n16_ n17_ n18_ n19_
           (try clear hb)
           (try clear hb2)
           (try clear hk)
           (try clear hi)
           refine hK.out _ _ ⟨(blk_cell BK318.out 0).trans rfl, (blk_cell BK318.out 1).trans rfl⟩ (fun hHeld => ?_)
           clear hK K
           refine norm_ (a' := ?_) ?_ ?_
           rotate_left
           ·
            show Act.put _ (some 129) _ = _
            simp only [Act.put, List.setIfInBounds_toArray, List.set_cons_zero, List.set_cons_succ, i64_w, i32_w]
            rfl
           refine pure_ (i := 40) (N := some 130) (v := ?_) (a' := ?_) #[true, true, true, true, true, true, true, true, true, true, true, true, true, true, true, true, true, true, true, true, true, true, true, true, true, true, true, true, true, true, true, true, true, true, true, true, true, true, true, true, true, false] rfl rfl (any_of HT_.out (by kernel_rfl)) (fun _ _ _ h => h) (Or.inl ⟨by rfl, ?_⟩) ?_ ?_
           rotate_left
           ·
            intro w'
            go_simp
            with_reducible rfl
           rotate_left
           ·
            simp only [Act.put, List.setIfInBounds_toArray, List.set_cons_zero, List.set_cons_succ, i64_w, i32_w]
            rfl
           refine pure_ (i := 41) (N := some 6) (v := ?_) (a' := ?_) #[true, true, true, true, true, true, true, true, true, true, true, true, true, true, true, true, true, true, true, true, true, true, true, true, true, true, true, true, true, true, true, true, true, true, true, true, true, true, true, true, true, true] rfl rfl (any_of HT_.out (by kernel_rfl)) (fun _ _ _ h => h) (Or.inl ⟨by rfl, ?_⟩) ?_ ?_
           rotate_left
           ·
            intro w'
            go_simp
            with_reducible rfl
           rotate_left
           ·
            simp only [Act.put, List.setIfInBounds_toArray, List.set_cons_zero, List.set_cons_succ, i64_w, i32_w]
            rfl
           refine done_ (done_of HT_.out (by kernel_rfl)) ?_
           try go_wp2
           go_ret
           exact ⟨by first | rfl | (simp [errW_none, errW_some] <;> rfl) | (simp [*, errW_none, errW_some] <;> rfl), by repeat (first | (with_reducible first | exact HB.out | apply below_alloc | apply pw_below_drewN | apply below_drew1 | refine below_set ?_ GE303.out | refine below_set ?_ GE318.out) | exact HB.out)⟩
          ·
           rw [if_neg c36] at H
           have c36b0 : (t371 == t316) = false := beq_eq_false_iff_ne.mpr c36
           have c36b1 : (t371 != t316) = true := bne_iff_ne.mpr c36
           exact absurd H (by simp)
         ·
          rw [if_neg c34] at H
          have c34b0 : (t368 == t315) = false := beq_eq_false_iff_ne.mpr c34
          have c34b1 : (t368 != t315) = true := bne_iff_ne.mpr c34
          exact absurd H (by simp)
        ·
         replace c32 := Bool.eq_false_iff.mpr c32
         subst c32
         have H1 : (none) = some r := by rw [if_neg (show ¬ (false = true) by decide)] at H; exact H
         clear H
         have H := H1
         clear H1
         exact absurd H (by simp)
       ·
        replace c31 := Bool.eq_false_iff.mpr c31
        subst c31
        have H1 : (none) = some r := by rw [if_neg (show ¬ (false = true) by decide)] at H; exact H
        clear H
        have H := H1
        clear H1
        exact absurd H (by simp)
      ·
       rw [if_neg c30] at H
       have c30b0 : (t367 == 0) = false := beq_eq_false_iff_ne.mpr c30
       have c30b1 : (t367 != 0) = true := bne_iff_ne.mpr c30
       exact absurd H (by simp)
     ·
      rw [if_neg c29] at H
      have c29b0 : (t356 == 0) = false := beq_eq_false_iff_ne.mpr c29
      have c29b1 : (t356 != 0) = true := bne_iff_ne.mpr c29
      exact absurd H (by simp)
    ·
     rw [if_neg c28] at H
     have c28b0 : (t344 == 0) = false := beq_eq_false_iff_ne.mpr c28
     have c28b1 : (t344 != 0) = true := bne_iff_ne.mpr c28
     exact absurd H (by simp)
   ·
    rw [if_neg c27] at H
    have c27b0 : (t331 == 0) = false := beq_eq_false_iff_ne.mpr c27
    have c27b1 : (t331 != 0) = true := bne_iff_ne.mpr c27
    exact absurd H (by simp)
  ·
   rw [if_neg c18] at H
   have c18b0 : (t317 == 0) = false := beq_eq_false_iff_ne.mpr c18
   have c18b1 : (t317 != 0) = true := bne_iff_ne.mpr c18
   by_cases c90 : t317 = 9
   ·
    rw [if_pos c90] at H
    have c90b0 : (t317 == 9) = true := beq_iff_eq.mpr c90
    have c90b1 : (t317 != 9) = false := bne_eq_false_iff_eq.mpr c90
    clear c90
    by_cases c91 : t331 = t317
    ·
     rw [if_pos c91] at H
     have c91b0 : (t331 == t317) = true := beq_iff_eq.mpr c91
     have c91b1 : (t331 != t317) = false := bne_eq_false_iff_eq.mpr c91
     clear c91
     by_cases c92 : t344 = t317
     ·
      rw [if_pos c92] at H
      have c92b0 : (t344 == t317) = true := beq_iff_eq.mpr c92
      have c92b1 : (t344 != t317) = false := bne_eq_false_iff_eq.mpr c92
      clear c92
      replace H := Option.bind_eq_some_iff.mp H
      obtain ⟨t345, A930, H⟩ := H
      replace H : (some t345) = some r := H
      have A93 := Aside0.mk A930
      clear A930
      obtain rfl := Option.some.inj H
      go_enter Try.func13, Try.ntmps13
      go_wp2_with (first | ((with_reducible refine gate_dst (N := 3) rfl ?_); refine box_event ?hg (N := 3) ?hd (cs := #[.slice A0_0 l0_0.length c0_0]) (t := 24) ?hr ?_; (case hd => rfl); (case hg => rfl); (case hr => first | (go_simp; done) | (go_simp; rfl)); intro gb303 hg w94 hbox hb; have n0_ := Aside0.mk (below_step (by repeat (first | (with_reducible first | exact HB.out | apply below_alloc | apply pw_below_drewN | apply below_drew1) | exact HB.out)) hb); have n1_ := Aside0.mk (hbox); have n2_ := Aside0.mk ((by rw [hg]; exact (below_size (by repeat (first | (with_reducible first | exact HB.out | apply below_alloc | apply pw_below_drewN | apply below_drew1) | exact HB.out))) : w.heap.size ≤ gb303)); have n3_ := Aside0.mk ((by rw [hg]; exact (below_size (by repeat (first | (with_reducible first | exact HB.out | apply below_alloc | apply pw_below_drewN | apply below_drew1) | exact HB.out))) : w.heap.size ≤ gb303)); clear HB; have HB := n0_; have BK303 := n1_; have GW303 := n2_; have GE303 := n3_; clear n0_ n1_ n2_ n3_; clear hb hbox hg; have hcz95_0 : w94.cell? ⟨gb303, 0, none⟩ = some (.slice A0_0 l0_0.length c0_0) := (blk_cell BK303.out 0).trans rfl; have hfz95_0 := blk_frozen BK303.out 0) | ((with_reducible refine gate_callee (f := 16) rfl ?_); refine goesL_ (some 20) rfl rfl Try.func16 (by kernel_rfl) rfl #[.agg #[.slice A0_0 l0_0.length c0_0], .slice A1 l1.length c1, .slice A2 l2.length c2] rfl (by (try simp only [List.map_toArray, List.map_cons, List.map_nil]); first | done | rfl | (simp only [List.length_drop, List.length_take]; rfl)) ?_; (with_reducible refine (tensilelaw05_ready.calls k _ _ l0_0 _ _ l1 _ _ l2 true _ ?side1 ?side2 ?side3 ?side4 ?side5 ?side6 A4.out).mono ?_); (case side1 => repeat (first | exact (Kd.C_below HR0_0.out HB.out) | (with_reducible refine Kd.C_alloc ?_ _) | (with_reducible refine Kd.C_drewN ?_ _) | (with_reducible refine Kd.C_drew ?_))); (case side2 => exact HC0_0.out); (case side3 => repeat (first | exact (Kd.C_below HR1.out HB.out) | (with_reducible refine Kd.C_alloc ?_ _) | (with_reducible refine Kd.C_drewN ?_ _) | (with_reducible refine Kd.C_drew ?_))); (case side4 => exact HC1.out); (case side5 => repeat (first | exact (Kd.C_below HR2.out HB.out) | (with_reducible refine Kd.C_alloc ?_ _) | (with_reducible refine Kd.C_drewN ?_ _) | (with_reducible refine Kd.C_drew ?_))); (case side6 => exact HC2.out); rintro e w96 ⟨rfl, hb⟩; refine ⟨_, rfl, ?_⟩; have n0_ := Aside0.mk (blk_below (g := gb303) (o := .cells #[.slice A0_0 l0_0.length c0_0] 24 (0, 0)) (by (with_reducible repeat (first | refine blk_drewN ?_ _ | refine blk_drew ?_ | refine blk_alloc ?_ _)); exact BK303.out) hb); have n1_ := Aside0.mk (below_step (by repeat (first | (with_reducible first | exact HB.out | apply below_alloc | apply pw_below_drewN | apply below_drew1 | refine below_set ?_ GE303.out) | exact HB.out)) hb); clear BK303; clear HB; have BK303 := n0_; have HB := n1_; clear n0_ n1_; (try clear hb); (try clear hb2); (try clear hk); (try clear hi); have hcz97_0 : w96.cell? ⟨gb303, 0, none⟩ = some (.slice A0_0 l0_0.length c0_0) := (blk_cell BK303.out 0).trans rfl; have hfz97_0 := blk_frozen BK303.out 0) | ((with_reducible refine gate_callee (f := 21) rfl ?_); refine goesL_ (some 25) rfl rfl Try.func21 (by kernel_rfl) rfl #[.agg #[.slice A0_0 l0_0.length c0_0]] rfl (by (try simp only [List.map_toArray, List.map_cons, List.map_nil]); first | done | rfl | (simp only [List.length_drop, List.length_take]; rfl)) ?_; (with_reducible refine (tensilelaw05_Material.calls k _ _ l0_0 t306 _ ?side1 ?side2 A6.out).mono ?_); (case side1 => repeat (first | exact (Kd.C_below HR0_0.out HB.out) | (with_reducible refine Kd.C_alloc ?_ _) | (with_reducible refine Kd.C_drewN ?_ _) | (with_reducible refine Kd.C_drew ?_))); (case side2 => exact HC0_0.out); rintro e w98 ⟨v307, rfl, ho0, hb⟩; refine ⟨_, rfl, ?_⟩; have n0_ := Aside0.mk (Kd.R_lower ho0 (below_size (by repeat (first | (with_reducible first | exact HB.out | apply below_alloc | apply pw_below_drewN | apply below_drew1 | refine below_set ?_ GE303.out) | exact HB.out)))); have n1_ := Aside0.mk (blk_below (g := gb303) (o := .cells #[.slice A0_0 l0_0.length c0_0] 24 (0, 0)) (by (with_reducible repeat (first | refine blk_drewN ?_ _ | refine blk_drew ?_ | refine blk_alloc ?_ _)); exact BK303.out) hb); have n2_ := Aside0.mk (below_step (by repeat (first | (with_reducible first | exact HB.out | apply below_alloc | apply pw_below_drewN | apply below_drew1 | refine below_set ?_ GE303.out) | exact HB.out)) hb); clear BK303; clear HB; have HO308 := n0_; have BK303 := n1_; have HB := n2_; clear n0_ n1_ n2_; (try clear hb); (try clear hb2); (try clear hk); (try clear hi); (try clear ho0)) | ((with_reducible refine gate_callee (f := 22) rfl ?_); refine goesL_ (some 27) rfl rfl Try.func22 (by kernel_rfl) rfl #[.slice A1 l1.length c1] rfl (by (try simp only [List.map_toArray, List.map_cons, List.map_nil]); first | done | rfl | (simp only [List.length_drop, List.length_take]; rfl)) ?_; (with_reducible refine (tensilelaw05_Runs.calls k _ _ l1 t309 _ ?side1 ?side2 A7.out).mono ?_); (case side1 => repeat (first | exact (Kd.C_below HR1.out HB.out) | (with_reducible refine Kd.C_alloc ?_ _) | (with_reducible refine Kd.C_drewN ?_ _) | (with_reducible refine Kd.C_drew ?_))); (case side2 => exact HC1.out); rintro e w99 ⟨v310, rfl, ho0, hb⟩; refine ⟨_, rfl, ?_⟩; have n0_ := Aside0.mk (Kd.R_below (by (with_reducible repeat (first | apply Kd.R_alloc | apply Kd.R_drewN | apply Kd.R_drew)); exact HO308.out) hb); have n1_ := Aside0.mk (Kd.S_lower ho0 (below_size (by repeat (first | (with_reducible first | exact HB.out | apply below_alloc | apply pw_below_drewN | apply below_drew1 | refine below_set ?_ GE303.out) | exact HB.out)))); have n2_ := Aside0.mk (blk_below (g := gb303) (o := .cells #[.slice A0_0 l0_0.length c0_0] 24 (0, 0)) (by (with_reducible repeat (first | refine blk_drewN ?_ _ | refine blk_drew ?_ | refine blk_alloc ?_ _)); exact BK303.out) hb); have n3_ := Aside0.mk (below_step (by repeat (first | (with_reducible first | exact HB.out | apply below_alloc | apply pw_below_drewN | apply below_drew1 | refine below_set ?_ GE303.out) | exact HB.out)) hb); clear HO308; clear BK303; clear HB; have HO308 := n0_; have HO311 := n1_; have BK303 := n2_; have HB := n3_; clear n0_ n1_ n2_ n3_; (try clear hb); (try clear hb2); (try clear hk); (try clear hi); (try clear ho0)) | ((with_reducible refine gate_callee (f := 26) rfl ?_); refine goesL_ (some 29) rfl rfl Try.func26 (by kernel_rfl) rfl #[.slice A2 l2.length c2] rfl (by (try simp only [List.map_toArray, List.map_cons, List.map_nil]); first | done | rfl | (simp only [List.length_drop, List.length_take]; rfl)) ?_; (with_reducible refine (tensilelaw05_Plan.calls k _ _ l2 t312 _ ?side1 ?side2 A8.out).mono ?_); (case side1 => repeat (first | exact (Kd.C_below HR2.out HB.out) | (with_reducible refine Kd.C_alloc ?_ _) | (with_reducible refine Kd.C_drewN ?_ _) | (with_reducible refine Kd.C_drew ?_))); (case side2 => exact HC2.out); rintro e w100 ⟨v313, rfl, ho0, hb⟩; refine ⟨_, rfl, ?_⟩; have n0_ := Aside0.mk (Kd.R_below (by (with_reducible repeat (first | apply Kd.R_alloc | apply Kd.R_drewN | apply Kd.R_drew)); exact HO308.out) hb); have n1_ := Aside0.mk (Kd.S_elder' (by (with_reducible repeat (first | apply Kd.S_alloc | apply Kd.S_drewN | apply Kd.S_drew)); exact HO311.out) (Kd.R_base ho0) hb); have n2_ := Aside0.mk (Kd.R_lower ho0 (below_size (by repeat (first | (with_reducible first | exact HB.out | apply below_alloc | apply pw_below_drewN | apply below_drew1 | refine below_set ?_ GE303.out) | exact HB.out)))); have n3_ := Aside0.mk (blk_below (g := gb303) (o := .cells #[.slice A0_0 l0_0.length c0_0] 24 (0, 0)) (by (with_reducible repeat (first | refine blk_drewN ?_ _ | refine blk_drew ?_ | refine blk_alloc ?_ _)); exact BK303.out) hb); have n4_ := Aside0.mk (below_step (by repeat (first | (with_reducible first | exact HB.out | apply below_alloc | apply pw_below_drewN | apply below_drew1 | refine below_set ?_ GE303.out) | exact HB.out)) hb); clear HO308; clear HO311; clear BK303; clear HB; have HO308 := n0_; have HO311 := n1_; have HO314 := n2_; have BK303 := n3_; have HB := n4_; clear n0_ n1_ n2_ n3_ n4_; (try clear hb); (try clear hb2); (try clear hk); (try clear hi); (try clear ho0); obtain ⟨Ao101, co101, eo101⟩ := Kd.R_slice HO308.out; subst eo101; obtain ⟨Ao102, co102, eo102⟩ := Kd.S_slice HO311.out; subst eo102; obtain ⟨Ao103, co103, eo103⟩ := Kd.R_slice HO314.out; subst eo103) | ((with_reducible refine gate_callee (f := 25) rfl ?_); refine goesL_ (some 30) rfl rfl Try.func25 (by kernel_rfl) rfl #[.agg #[.slice Ao101 t306.length co101], .slice Ao102 t309.length co102, .slice Ao103 t312.length co103] rfl (by (try simp only [List.map_toArray, List.map_cons, List.map_nil]); first | done | rfl | (simp only [List.length_drop, List.length_take]; rfl)) ?_; (with_reducible refine (creep_Stretch.calls _ _ t306 _ _ t309 _ _ t312 t315 t316 t317 _ ?side1 ?side2 ?side3 ?side4 ?side5 ?side6 A9.out).mono ?_); (case side1 => repeat (first | exact (Kd.R_reads' HO308.out).2.2 | (with_reducible refine Kd.C_alloc ?_ _) | (with_reducible refine Kd.C_drewN ?_ _) | (with_reducible refine Kd.C_drew ?_))); (case side2 => exact (Kd.R_reads' HO308.out).2.1); (case side3 => repeat (first | exact (Kd.S_reads' HO311.out).2.2 | (with_reducible refine Kd.C_alloc ?_ _) | (with_reducible refine Kd.C_drewN ?_ _) | (with_reducible refine Kd.C_drew ?_))); (case side4 => exact (Kd.S_reads' HO311.out).2.1); (case side5 => repeat (first | exact (Kd.R_reads' HO314.out).2.2 | (with_reducible refine Kd.C_alloc ?_ _) | (with_reducible refine Kd.C_drewN ?_ _) | (with_reducible refine Kd.C_drew ?_))); (case side6 => exact (Kd.R_reads' HO314.out).2.1); rintro e w104 ⟨rfl, hb⟩; refine ⟨_, rfl, ?_⟩; have n0_ := Aside0.mk (Kd.R_below (by (with_reducible repeat (first | apply Kd.R_alloc | apply Kd.R_drewN | apply Kd.R_drew)); exact HO308.out) hb); have n1_ := Aside0.mk (Kd.S_below (by (with_reducible repeat (first | apply Kd.S_alloc | apply Kd.S_drewN | apply Kd.S_drew)); exact HO311.out) hb); have n2_ := Aside0.mk (Kd.R_below (by (with_reducible repeat (first | apply Kd.R_alloc | apply Kd.R_drewN | apply Kd.R_drew)); exact HO314.out) hb); have n3_ := Aside0.mk (blk_below (g := gb303) (o := .cells #[.slice A0_0 l0_0.length c0_0] 24 (0, 0)) (by (with_reducible repeat (first | refine blk_drewN ?_ _ | refine blk_drew ?_ | refine blk_alloc ?_ _)); exact BK303.out) hb); have n4_ := Aside0.mk (below_step (by repeat (first | (with_reducible first | exact HB.out | apply below_alloc | apply pw_below_drewN | apply below_drew1 | refine below_set ?_ GE303.out) | exact HB.out)) hb); clear HO308; clear HO311; clear HO314; clear BK303; clear HB; have HO308 := n0_; have HO311 := n1_; have HO314 := n2_; have BK303 := n3_; have HB := n4_; clear n0_ n1_ n2_ n3_ n4_; (try clear hb); (try clear hb2); (try clear hk); (try clear hi)) | ((with_reducible refine gate_dst (N := 7) rfl ?_); refine box_event ?hg (N := 7) ?hd (cs := #[.int .i64 0, .int .i64 0]) (t := 47) ?hr ?_; (case hd => rfl); (case hg => rfl); (case hr => first | (go_simp; done) | (go_simp; rfl)); intro gb318 hg w105 hbox hb; have n0_ := Aside0.mk (Kd.R_below (Kd.R_elderB (by (with_reducible repeat (first | apply Kd.R_alloc | apply Kd.R_drewN | apply Kd.R_drew)); exact HO308.out) gb318 (Nat.le_of_eq hg.symm)) hb); have n1_ := Aside0.mk (Kd.S_below (by (with_reducible repeat (first | apply Kd.S_alloc | apply Kd.S_drewN | apply Kd.S_drew)); exact HO311.out) hb); have n2_ := Aside0.mk (Kd.R_below (by (with_reducible repeat (first | apply Kd.R_alloc | apply Kd.R_drewN | apply Kd.R_drew)); exact HO314.out) hb); have n3_ := Aside0.mk (blk_below (g := gb303) (o := .cells #[.slice A0_0 l0_0.length c0_0] 24 (0, 0)) (by (with_reducible repeat (first | refine blk_drewN ?_ _ | refine blk_drew ?_ | refine blk_alloc ?_ _)); exact BK303.out) hb); have n4_ := Aside0.mk (below_step (by repeat (first | (with_reducible first | exact HB.out | apply below_alloc | apply pw_below_drewN | apply below_drew1 | refine below_set ?_ GE303.out) | exact HB.out)) hb); have n5_ := Aside0.mk (hbox); have n6_ := Aside0.mk ((by rw [hg]; exact (below_size (by repeat (first | (with_reducible first | exact HB.out | apply below_alloc | apply pw_below_drewN | apply below_drew1 | refine below_set ?_ GE303.out) | exact HB.out))) : w.heap.size ≤ gb318)); have n7_ := Aside0.mk ((by rw [hg]; exact (below_size (by repeat (first | (with_reducible first | exact HB.out | apply below_alloc | apply pw_below_drewN | apply below_drew1 | refine below_set ?_ GE303.out) | exact HB.out))) : w.heap.size ≤ gb318)); have n8_ := Aside0.mk ((by rw [hg]; exact Nat.ne_of_lt (blk_lt (g := gb303) (o := .cells #[.slice A0_0 l0_0.length c0_0] 24 (0, 0)) (by (with_reducible repeat (first | refine blk_drewN ?_ _ | refine blk_drew ?_ | refine blk_alloc ?_ _)); exact BK303.out)) : gb303 ≠ gb318)); have n9_ := Aside0.mk ((by rw [hg]; exact Nat.ne_of_gt (blk_lt (g := gb303) (o := .cells #[.slice A0_0 l0_0.length c0_0] 24 (0, 0)) (by (with_reducible repeat (first | refine blk_drewN ?_ _ | refine blk_drew ?_ | refine blk_alloc ?_ _)); exact BK303.out)) : gb318 ≠ gb303)); clear HO308; clear HO311; clear HO314; clear BK303; clear HB; have HO308 := n0_; have HO311 := n1_; have HO314 := n2_; have BK303 := n3_; have HB := n4_; have BK318 := n5_; have GW318 := n6_; have GE318 := n7_; have NB303_318 := n8_; have NB318_303 := n9_; clear n0_ n1_ n2_ n3_ n4_ n5_ n6_ n7_ n8_ n9_; clear hb hbox hg; have hnb106 := NB318_303.out; have hnc106 := NB303_318.out; have hcz107_0 : w105.cell? ⟨gb318, 0, none⟩ = some (.int .i64 0) := (blk_cell BK318.out 0).trans rfl; have hcz107_1 : w105.cell? ⟨gb318, 1, none⟩ = some (.int .i64 0) := (blk_cell BK318.out 1).trans rfl; have hfz107_0 := blk_frozen BK318.out 0; have hfz107_1 := blk_frozen BK318.out 1; have hcz108_0 : w105.cell? ⟨gb303, 0, none⟩ = some (.slice A0_0 l0_0.length c0_0) := (blk_cell BK303.out 0).trans rfl; have hfz108_0 := blk_frozen BK303.out 0) | ((with_reducible refine gate_callee (f := 21) rfl ?_); refine goesL_ (some 35) rfl rfl Try.func21 (by kernel_rfl) rfl #[.agg #[.slice A0_0 l0_0.length c0_0]] rfl (by (try simp only [List.map_toArray, List.map_cons, List.map_nil]); first | done | rfl | (simp only [List.length_drop, List.length_take]; rfl)) ?_; (with_reducible refine (tensilelaw05_Material.calls k _ _ l0_0 t319 _ ?side1 ?side2 A10.out).mono ?_); (case side1 => exact Kd.C_below HR0_0.out (by repeat (first | (with_reducible first | exact HB.out | apply below_alloc | apply pw_below_drewN | apply below_drew1 | refine below_set ?_ GE303.out | refine below_set ?_ GE318.out) | exact HB.out))); (case side2 => exact HC0_0.out); rintro e w109 ⟨v320, rfl, ho0, hb⟩; refine ⟨_, rfl, ?_⟩; have n0_ := Aside0.mk (Kd.R_elder' (by (with_reducible repeat (first | apply Kd.R_alloc | apply Kd.R_drewN | apply Kd.R_drew)); exact (Kd.R_mono (Kd.R_far (p := ⟨gb318, 1, none⟩) (Kd.R_far (p := ⟨gb318, 0, none⟩) (Kd.R_mono HO308.out (fun k_ hk => (⟨hk, hk.2⟩ : _ ∧ k_ ≠ gb318))) (fun _ hk => hk.2) (.int .i64 t315)) (fun _ hk => hk.2) (.int .i64 t316)) (fun _ h_ => h_.1))) (Kd.R_base ho0) hb); have n1_ := Aside0.mk (Kd.S_below (by (with_reducible repeat (first | apply Kd.S_alloc | apply Kd.S_drewN | apply Kd.S_drew)); exact (Kd.S_mono (Kd.S_far (p := ⟨gb318, 1, none⟩) (Kd.S_far (p := ⟨gb318, 0, none⟩) (Kd.S_types HO311.out BK318.out (by decide)) (fun _ hk => hk.2) (.int .i64 t315)) (fun _ hk => hk.2) (.int .i64 t316)) (fun _ h_ => h_.1))) hb); have n2_ := Aside0.mk (Kd.R_below (by (with_reducible repeat (first | apply Kd.R_alloc | apply Kd.R_drewN | apply Kd.R_drew)); exact (Kd.R_mono (Kd.R_far (p := ⟨gb318, 1, none⟩) (Kd.R_far (p := ⟨gb318, 0, none⟩) (Kd.R_types HO314.out BK318.out (by decide)) (fun _ hk => hk.2) (.int .i64 t315)) (fun _ hk => hk.2) (.int .i64 t316)) (fun _ h_ => h_.1))) hb); have n3_ := Aside0.mk (Kd.R_lower (Kd.R_newB (Kd.R_new' ho0 (Kd.R_lt (by (with_reducible repeat (first | apply Kd.R_alloc | apply Kd.R_drewN | apply Kd.R_drew)); exact (Kd.R_mono (Kd.R_far (p := ⟨gb318, 1, none⟩) (Kd.R_far (p := ⟨gb318, 0, none⟩) (Kd.R_mono HO308.out (fun k_ hk => (⟨hk, hk.2⟩ : _ ∧ k_ ≠ gb318))) (fun _ hk => hk.2) (.int .i64 t315)) (fun _ hk => hk.2) (.int .i64 t316)) (fun _ h_ => h_.1))))) (g := gb318) (o := .cells #[.int .i64 t315, .int .i64 t316] 47 (0, 0)) (by (with_reducible repeat (first | refine blk_drewN ?_ _ | refine blk_drew ?_ | refine blk_alloc ?_ _)); refine blk_put (cs := #[.int .i64 t315, .int .i64 0]) ?_ 1 _ rfl; (with_reducible repeat (first | refine blk_drewN ?_ _ | refine blk_drew ?_ | refine blk_alloc ?_ _)); refine blk_put (cs := #[.int .i64 0, .int .i64 0]) ?_ 0 _ rfl; (with_reducible repeat (first | refine blk_drewN ?_ _ | refine blk_drew ?_ | refine blk_alloc ?_ _)); exact BK318.out)) (below_size (by repeat (first | (with_reducible first | exact HB.out | apply below_alloc | apply pw_below_drewN | apply below_drew1 | refine below_set ?_ GE303.out | refine below_set ?_ GE318.out) | exact HB.out)))); have n4_ := Aside0.mk (blk_below (g := gb303) (o := .cells #[.slice A0_0 l0_0.length c0_0] 24 (0, 0)) (by (with_reducible repeat (first | refine blk_drewN ?_ _ | refine blk_drew ?_ | refine blk_alloc ?_ _)); refine blk_far ?_ NB303_318.out _; (with_reducible repeat (first | refine blk_drewN ?_ _ | refine blk_drew ?_ | refine blk_alloc ?_ _)); refine blk_far ?_ NB303_318.out _; (with_reducible repeat (first | refine blk_drewN ?_ _ | refine blk_drew ?_ | refine blk_alloc ?_ _)); exact BK303.out) hb); have n5_ := Aside0.mk (blk_below (g := gb318) (o := .cells #[.int .i64 t315, .int .i64 t316] 47 (0, 0)) (by (with_reducible repeat (first | refine blk_drewN ?_ _ | refine blk_drew ?_ | refine blk_alloc ?_ _)); refine blk_put (cs := #[.int .i64 t315, .int .i64 0]) ?_ 1 _ rfl; (with_reducible repeat (first | refine blk_drewN ?_ _ | refine blk_drew ?_ | refine blk_alloc ?_ _)); refine blk_put (cs := #[.int .i64 0, .int .i64 0]) ?_ 0 _ rfl; (with_reducible repeat (first | refine blk_drewN ?_ _ | refine blk_drew ?_ | refine blk_alloc ?_ _)); exact BK318.out) hb); have n6_ := Aside0.mk (below_step (by repeat (first | (with_reducible first | exact HB.out | apply below_alloc | apply pw_below_drewN | apply below_drew1 | refine below_set ?_ GE303.out | refine below_set ?_ GE318.out) | exact HB.out)) hb); clear HO308; clear HO311; clear HO314; clear BK303; clear BK318; clear HB; have HO308 := n0_; have HO311 := n1_; have HO314 := n2_; have HO321 := n3_; have BK303 := n4_; have BK318 := n5_; have HB := n6_; clear n0_ n1_ n2_ n3_ n4_ n5_ n6_; (try clear hb); (try clear hb2); (try clear hk); (try clear hi); (try clear ho0)) | ((with_reducible refine gate_callee (f := 22) rfl ?_); refine goesL_ (some 37) rfl rfl Try.func22 (by kernel_rfl) rfl #[.slice A1 l1.length c1] rfl (by (try simp only [List.map_toArray, List.map_cons, List.map_nil]); first | done | rfl | (simp only [List.length_drop, List.length_take]; rfl)) ?_; (with_reducible refine (tensilelaw05_Runs.calls k _ _ l1 t322 _ ?side1 ?side2 A11.out).mono ?_); (case side1 => repeat (first | exact (Kd.C_below HR1.out HB.out) | (with_reducible refine Kd.C_alloc ?_ _) | (with_reducible refine Kd.C_drewN ?_ _) | (with_reducible refine Kd.C_drew ?_))); (case side2 => exact HC1.out); rintro e w110 ⟨v323, rfl, ho0, hb⟩; refine ⟨_, rfl, ?_⟩; have n0_ := Aside0.mk (Kd.R_below (by (with_reducible repeat (first | apply Kd.R_alloc | apply Kd.R_drewN | apply Kd.R_drew)); exact HO308.out) hb); have n1_ := Aside0.mk (Kd.S_elder' (by (with_reducible repeat (first | apply Kd.S_alloc | apply Kd.S_drewN | apply Kd.S_drew)); exact HO311.out) (Kd.S_base ho0) hb); have n2_ := Aside0.mk (Kd.R_below (by (with_reducible repeat (first | apply Kd.R_alloc | apply Kd.R_drewN | apply Kd.R_drew)); exact HO314.out) hb); have n3_ := Aside0.mk (Kd.R_below (by (with_reducible repeat (first | apply Kd.R_alloc | apply Kd.R_drewN | apply Kd.R_drew)); exact HO321.out) hb); have n4_ := Aside0.mk (Kd.S_lower (Kd.S_new' (Kd.S_new' ho0 (Kd.S_lt (by (with_reducible repeat (first | apply Kd.S_alloc | apply Kd.S_drewN | apply Kd.S_drew)); exact HO311.out))) (Kd.R_lt (by (with_reducible repeat (first | apply Kd.R_alloc | apply Kd.R_drewN | apply Kd.R_drew)); exact HO314.out))) (below_size (by repeat (first | (with_reducible first | exact HB.out | apply below_alloc | apply pw_below_drewN | apply below_drew1 | refine below_set ?_ GE303.out | refine below_set ?_ GE318.out) | exact HB.out)))); have n5_ := Aside0.mk (blk_below (g := gb303) (o := .cells #[.slice A0_0 l0_0.length c0_0] 24 (0, 0)) (by (with_reducible repeat (first | refine blk_drewN ?_ _ | refine blk_drew ?_ | refine blk_alloc ?_ _)); exact BK303.out) hb); have n6_ := Aside0.mk (blk_below (g := gb318) (o := .cells #[.int .i64 t315, .int .i64 t316] 47 (0, 0)) (by (with_reducible repeat (first | refine blk_drewN ?_ _ | refine blk_drew ?_ | refine blk_alloc ?_ _)); exact BK318.out) hb); have n7_ := Aside0.mk (below_step (by repeat (first | (with_reducible first | exact HB.out | apply below_alloc | apply pw_below_drewN | apply below_drew1 | refine below_set ?_ GE303.out | refine below_set ?_ GE318.out) | exact HB.out)) hb); clear HO308; clear HO311; clear HO314; clear HO321; clear BK303; clear BK318; clear HB; have HO308 := n0_; have HO311 := n1_; have HO314 := n2_; have HO321 := n3_; have HO324 := n4_; have BK303 := n5_; have BK318 := n6_; have HB := n7_; clear n0_ n1_ n2_ n3_ n4_ n5_ n6_ n7_; (try clear hb); (try clear hb2); (try clear hk); (try clear hi); (try clear ho0)) | ((with_reducible refine gate_callee (f := 26) rfl ?_); refine goesL_ (some 39) rfl rfl Try.func26 (by kernel_rfl) rfl #[.slice A2 l2.length c2] rfl (by (try simp only [List.map_toArray, List.map_cons, List.map_nil]); first | done | rfl | (simp only [List.length_drop, List.length_take]; rfl)) ?_; (with_reducible refine (tensilelaw05_Plan.calls k _ _ l2 t325 _ ?side1 ?side2 A12.out).mono ?_); (case side1 => repeat (first | exact (Kd.C_below HR2.out HB.out) | (with_reducible refine Kd.C_alloc ?_ _) | (with_reducible refine Kd.C_drewN ?_ _) | (with_reducible refine Kd.C_drew ?_))); (case side2 => exact HC2.out); rintro e w111 ⟨v326, rfl, ho0, hb⟩; refine ⟨_, rfl, ?_⟩; have n0_ := Aside0.mk (Kd.R_below (by (with_reducible repeat (first | apply Kd.R_alloc | apply Kd.R_drewN | apply Kd.R_drew)); exact HO308.out) hb); have n1_ := Aside0.mk (Kd.S_elder' (by (with_reducible repeat (first | apply Kd.S_alloc | apply Kd.S_drewN | apply Kd.S_drew)); exact HO311.out) (Kd.R_base ho0) hb); have n2_ := Aside0.mk (Kd.R_elder' (by (with_reducible repeat (first | apply Kd.R_alloc | apply Kd.R_drewN | apply Kd.R_drew)); exact HO314.out) (Kd.R_base ho0) hb); have n3_ := Aside0.mk (Kd.R_below (by (with_reducible repeat (first | apply Kd.R_alloc | apply Kd.R_drewN | apply Kd.R_drew)); exact HO321.out) hb); have n4_ := Aside0.mk (Kd.S_elder' (by (with_reducible repeat (first | apply Kd.S_alloc | apply Kd.S_drewN | apply Kd.S_drew)); exact HO324.out) (Kd.R_base ho0) hb); have n5_ := Aside0.mk (Kd.R_lower (Kd.R_new' ho0 (Kd.R_lt (by (with_reducible repeat (first | apply Kd.R_alloc | apply Kd.R_drewN | apply Kd.R_drew)); exact HO314.out))) (below_size (by repeat (first | (with_reducible first | exact HB.out | apply below_alloc | apply pw_below_drewN | apply below_drew1 | refine below_set ?_ GE303.out | refine below_set ?_ GE318.out) | exact HB.out)))); have n6_ := Aside0.mk (blk_below (g := gb303) (o := .cells #[.slice A0_0 l0_0.length c0_0] 24 (0, 0)) (by (with_reducible repeat (first | refine blk_drewN ?_ _ | refine blk_drew ?_ | refine blk_alloc ?_ _)); exact BK303.out) hb); have n7_ := Aside0.mk (blk_below (g := gb318) (o := .cells #[.int .i64 t315, .int .i64 t316] 47 (0, 0)) (by (with_reducible repeat (first | refine blk_drewN ?_ _ | refine blk_drew ?_ | refine blk_alloc ?_ _)); exact BK318.out) hb); have n8_ := Aside0.mk (below_step (by repeat (first | (with_reducible first | exact HB.out | apply below_alloc | apply pw_below_drewN | apply below_drew1 | refine below_set ?_ GE303.out | refine below_set ?_ GE318.out) | exact HB.out)) hb); clear HO308; clear HO311; clear HO314; clear HO321; clear HO324; clear BK303; clear BK318; clear HB; have HO308 := n0_; have HO311 := n1_; have HO314 := n2_; have HO321 := n3_; have HO324 := n4_; have HO327 := n5_; have BK303 := n6_; have BK318 := n7_; have HB := n8_; clear n0_ n1_ n2_ n3_ n4_ n5_ n6_ n7_ n8_; (try clear hb); (try clear hb2); (try clear hk); (try clear hi); (try clear ho0); obtain ⟨Ao112, co112, eo112⟩ := Kd.R_slice HO321.out; subst eo112; obtain ⟨Ao113, co113, eo113⟩ := Kd.S_slice HO324.out; subst eo113; obtain ⟨Ao114, co114, eo114⟩ := Kd.R_slice HO327.out; subst eo114) | ((with_reducible refine gate_callee (f := 35) rfl ?_); refine goesL_ (some 40) rfl rfl Try.func35 (by kernel_rfl) rfl #[.agg #[.slice Ao112 t319.length co112], .slice Ao113 t322.length co113, .slice Ao114 t325.length co114, .bool false] rfl (by (try simp only [List.map_toArray, List.map_cons, List.map_nil]); first | done | rfl | (simp only [List.length_drop, List.length_take]; rfl)) ?_; (with_reducible refine (creep_Shows.calls _ _ t319 _ _ t322 _ _ t325 false t328 t331 _ ?side1 ?side2 ?side3 ?side4 ?side5 ?side6 A13.out).mono ?_); (case side1 => repeat (first | exact (Kd.R_reads' HO321.out).2.2 | (with_reducible refine Kd.C_alloc ?_ _) | (with_reducible refine Kd.C_drewN ?_ _) | (with_reducible refine Kd.C_drew ?_))); (case side2 => exact (Kd.R_reads' HO321.out).2.1); (case side3 => repeat (first | exact (Kd.S_reads' HO324.out).2.2 | (with_reducible refine Kd.C_alloc ?_ _) | (with_reducible refine Kd.C_drewN ?_ _) | (with_reducible refine Kd.C_drew ?_))); (case side4 => exact (Kd.S_reads' HO324.out).2.1); (case side5 => repeat (first | exact (Kd.R_reads' HO327.out).2.2 | (with_reducible refine Kd.C_alloc ?_ _) | (with_reducible refine Kd.C_drewN ?_ _) | (with_reducible refine Kd.C_drew ?_))); (case side6 => exact (Kd.R_reads' HO327.out).2.1); rintro e w115 ⟨v329, rfl, ho0, hb⟩; refine ⟨_, rfl, ?_⟩; have n0_ := Aside0.mk (Kd.R_below (by (with_reducible repeat (first | apply Kd.R_alloc | apply Kd.R_drewN | apply Kd.R_drew)); exact HO308.out) hb); have n1_ := Aside0.mk (Kd.S_below (by (with_reducible repeat (first | apply Kd.S_alloc | apply Kd.S_drewN | apply Kd.S_drew)); exact HO311.out) hb); have n2_ := Aside0.mk (Kd.R_below (by (with_reducible repeat (first | apply Kd.R_alloc | apply Kd.R_drewN | apply Kd.R_drew)); exact HO314.out) hb); have n3_ := Aside0.mk (Kd.R_below (by (with_reducible repeat (first | apply Kd.R_alloc | apply Kd.R_drewN | apply Kd.R_drew)); exact HO321.out) hb); have n4_ := Aside0.mk (Kd.S_below (by (with_reducible repeat (first | apply Kd.S_alloc | apply Kd.S_drewN | apply Kd.S_drew)); exact HO324.out) hb); have n5_ := Aside0.mk (Kd.R_below (by (with_reducible repeat (first | apply Kd.R_alloc | apply Kd.R_drewN | apply Kd.R_drew)); exact HO327.out) hb); have n6_ := Aside0.mk (Kd.R_lower ho0 (below_size (by repeat (first | (with_reducible first | exact HB.out | apply below_alloc | apply pw_below_drewN | apply below_drew1 | refine below_set ?_ GE303.out | refine below_set ?_ GE318.out) | exact HB.out)))); have n7_ := Aside0.mk (blk_below (g := gb303) (o := .cells #[.slice A0_0 l0_0.length c0_0] 24 (0, 0)) (by (with_reducible repeat (first | refine blk_drewN ?_ _ | refine blk_drew ?_ | refine blk_alloc ?_ _)); exact BK303.out) hb); have n8_ := Aside0.mk (blk_below (g := gb318) (o := .cells #[.int .i64 t315, .int .i64 t316] 47 (0, 0)) (by (with_reducible repeat (first | refine blk_drewN ?_ _ | refine blk_drew ?_ | refine blk_alloc ?_ _)); exact BK318.out) hb); have n9_ := Aside0.mk (below_step (by repeat (first | (with_reducible first | exact HB.out | apply below_alloc | apply pw_below_drewN | apply below_drew1 | refine below_set ?_ GE303.out | refine below_set ?_ GE318.out) | exact HB.out)) hb); clear HO308; clear HO311; clear HO314; clear HO321; clear HO324; clear HO327; clear BK303; clear BK318; clear HB; have HO308 := n0_; have HO311 := n1_; have HO314 := n2_; have HO321 := n3_; have HO324 := n4_; have HO327 := n5_; have HO330 := n6_; have BK303 := n7_; have BK318 := n8_; have HB := n9_; clear n0_ n1_ n2_ n3_ n4_ n5_ n6_ n7_ n8_ n9_; (try clear hb); (try clear hb2); (try clear hk); (try clear hi); (try clear ho0); have hcz116_0 : w115.cell? ⟨gb303, 0, none⟩ = some (.slice A0_0 l0_0.length c0_0) := (blk_cell BK303.out 0).trans rfl; have hfz116_0 := blk_frozen BK303.out 0) | ((with_reducible refine gate_callee (f := 21) rfl ?_); refine goesL_ (some 45) rfl rfl Try.func21 (by kernel_rfl) rfl #[.agg #[.slice A0_0 l0_0.length c0_0]] rfl (by (try simp only [List.map_toArray, List.map_cons, List.map_nil]); first | done | rfl | (simp only [List.length_drop, List.length_take]; rfl)) ?_; (with_reducible refine (tensilelaw05_Material.calls k _ _ l0_0 t332 _ ?side1 ?side2 A14.out).mono ?_); (case side1 => repeat (first | exact (Kd.C_below HR0_0.out HB.out) | (with_reducible refine Kd.C_alloc ?_ _) | (with_reducible refine Kd.C_drewN ?_ _) | (with_reducible refine Kd.C_drew ?_))); (case side2 => exact HC0_0.out); rintro e w117 ⟨v333, rfl, ho0, hb⟩; refine ⟨_, rfl, ?_⟩; have n0_ := Aside0.mk (Kd.R_elder' (by (with_reducible repeat (first | apply Kd.R_alloc | apply Kd.R_drewN | apply Kd.R_drew)); exact HO308.out) (Kd.R_base ho0) hb); have n1_ := Aside0.mk (Kd.S_below (by (with_reducible repeat (first | apply Kd.S_alloc | apply Kd.S_drewN | apply Kd.S_drew)); exact HO311.out) hb); have n2_ := Aside0.mk (Kd.R_below (by (with_reducible repeat (first | apply Kd.R_alloc | apply Kd.R_drewN | apply Kd.R_drew)); exact HO314.out) hb); have n3_ := Aside0.mk (Kd.R_elder' (by (with_reducible repeat (first | apply Kd.R_alloc | apply Kd.R_drewN | apply Kd.R_drew)); exact HO321.out) (Kd.R_base ho0) hb); have n4_ := Aside0.mk (Kd.S_below (by (with_reducible repeat (first | apply Kd.S_alloc | apply Kd.S_drewN | apply Kd.S_drew)); exact HO324.out) hb); have n5_ := Aside0.mk (Kd.R_below (by (with_reducible repeat (first | apply Kd.R_alloc | apply Kd.R_drewN | apply Kd.R_drew)); exact HO327.out) hb); have n6_ := Aside0.mk (Kd.R_below (by (with_reducible repeat (first | apply Kd.R_alloc | apply Kd.R_drewN | apply Kd.R_drew)); exact HO330.out) hb); have n7_ := Aside0.mk (Kd.R_lower (Kd.R_newB (Kd.R_new' (Kd.R_new' ho0 (Kd.R_lt (by (with_reducible repeat (first | apply Kd.R_alloc | apply Kd.R_drewN | apply Kd.R_drew)); exact HO308.out))) (Kd.R_lt (by (with_reducible repeat (first | apply Kd.R_alloc | apply Kd.R_drewN | apply Kd.R_drew)); exact HO321.out))) (g := gb318) (o := .cells #[.int .i64 t315, .int .i64 t316] 47 (0, 0)) (by (with_reducible repeat (first | refine blk_drewN ?_ _ | refine blk_drew ?_ | refine blk_alloc ?_ _)); exact BK318.out)) (below_size (by repeat (first | (with_reducible first | exact HB.out | apply below_alloc | apply pw_below_drewN | apply below_drew1 | refine below_set ?_ GE303.out | refine below_set ?_ GE318.out) | exact HB.out)))); have n8_ := Aside0.mk (blk_below (g := gb303) (o := .cells #[.slice A0_0 l0_0.length c0_0] 24 (0, 0)) (by (with_reducible repeat (first | refine blk_drewN ?_ _ | refine blk_drew ?_ | refine blk_alloc ?_ _)); exact BK303.out) hb); have n9_ := Aside0.mk (blk_below (g := gb318) (o := .cells #[.int .i64 t315, .int .i64 t316] 47 (0, 0)) (by (with_reducible repeat (first | refine blk_drewN ?_ _ | refine blk_drew ?_ | refine blk_alloc ?_ _)); exact BK318.out) hb); have n10_ := Aside0.mk (below_step (by repeat (first | (with_reducible first | exact HB.out | apply below_alloc | apply pw_below_drewN | apply below_drew1 | refine below_set ?_ GE303.out | refine below_set ?_ GE318.out) | exact HB.out)) hb); clear HO308; clear HO311; clear HO314; clear HO321; clear HO324; clear HO327; clear HO330; clear BK303; clear BK318; clear HB; have HO308 := n0_; have HO311 := n1_; have HO314 := n2_; have HO321 := n3_; have HO324 := n4_; have HO327 := n5_; have HO330 := n6_; have HO334 := n7_; have BK303 := n8_; have BK318 := n9_; have HB := n10_; clear n0_ n1_ n2_ n3_ n4_ n5_ n6_ n7_ n8_ n9_ n10_; (try clear hb); (try clear hb2); (try clear hk); (try clear hi); (try clear ho0)) | ((with_reducible refine gate_callee (f := 22) rfl ?_); refine goesL_ (some 47) rfl rfl Try.func22 (by kernel_rfl) rfl #[.slice A1 l1.length c1] rfl (by (try simp only [List.map_toArray, List.map_cons, List.map_nil]); first | done | rfl | (simp only [List.length_drop, List.length_take]; rfl)) ?_; (with_reducible refine (tensilelaw05_Runs.calls k _ _ l1 t335 _ ?side1 ?side2 A15.out).mono ?_); (case side1 => repeat (first | exact (Kd.C_below HR1.out HB.out) | (with_reducible refine Kd.C_alloc ?_ _) | (with_reducible refine Kd.C_drewN ?_ _) | (with_reducible refine Kd.C_drew ?_))); (case side2 => exact HC1.out); rintro e w118 ⟨v336, rfl, ho0, hb⟩; refine ⟨_, rfl, ?_⟩; have n0_ := Aside0.mk (Kd.R_below (by (with_reducible repeat (first | apply Kd.R_alloc | apply Kd.R_drewN | apply Kd.R_drew)); exact HO308.out) hb); have n1_ := Aside0.mk (Kd.S_elder' (by (with_reducible repeat (first | apply Kd.S_alloc | apply Kd.S_drewN | apply Kd.S_drew)); exact HO311.out) (Kd.S_base ho0) hb); have n2_ := Aside0.mk (Kd.R_below (by (with_reducible repeat (first | apply Kd.R_alloc | apply Kd.R_drewN | apply Kd.R_drew)); exact HO314.out) hb); have n3_ := Aside0.mk (Kd.R_below (by (with_reducible repeat (first | apply Kd.R_alloc | apply Kd.R_drewN | apply Kd.R_drew)); exact HO321.out) hb); have n4_ := Aside0.mk (Kd.S_elder' (by (with_reducible repeat (first | apply Kd.S_alloc | apply Kd.S_drewN | apply Kd.S_drew)); exact HO324.out) (Kd.S_base ho0) hb); have n5_ := Aside0.mk (Kd.R_below (by (with_reducible repeat (first | apply Kd.R_alloc | apply Kd.R_drewN | apply Kd.R_drew)); exact HO327.out) hb); have n6_ := Aside0.mk (Kd.R_below (by (with_reducible repeat (first | apply Kd.R_alloc | apply Kd.R_drewN | apply Kd.R_drew)); exact HO330.out) hb); have n7_ := Aside0.mk (Kd.R_below (by (with_reducible repeat (first | apply Kd.R_alloc | apply Kd.R_drewN | apply Kd.R_drew)); exact HO334.out) hb); have n8_ := Aside0.mk (Kd.S_lower (Kd.S_new' (Kd.S_new' (Kd.S_new' (Kd.S_new' ho0 (Kd.S_lt (by (with_reducible repeat (first | apply Kd.S_alloc | apply Kd.S_drewN | apply Kd.S_drew)); exact HO311.out))) (Kd.R_lt (by (with_reducible repeat (first | apply Kd.R_alloc | apply Kd.R_drewN | apply Kd.R_drew)); exact HO314.out))) (Kd.S_lt (by (with_reducible repeat (first | apply Kd.S_alloc | apply Kd.S_drewN | apply Kd.S_drew)); exact HO324.out))) (Kd.R_lt (by (with_reducible repeat (first | apply Kd.R_alloc | apply Kd.R_drewN | apply Kd.R_drew)); exact HO327.out))) (below_size (by repeat (first | (with_reducible first | exact HB.out | apply below_alloc | apply pw_below_drewN | apply below_drew1 | refine below_set ?_ GE303.out | refine below_set ?_ GE318.out) | exact HB.out)))); have n9_ := Aside0.mk (blk_below (g := gb303) (o := .cells #[.slice A0_0 l0_0.length c0_0] 24 (0, 0)) (by (with_reducible repeat (first | refine blk_drewN ?_ _ | refine blk_drew ?_ | refine blk_alloc ?_ _)); exact BK303.out) hb); have n10_ := Aside0.mk (blk_below (g := gb318) (o := .cells #[.int .i64 t315, .int .i64 t316] 47 (0, 0)) (by (with_reducible repeat (first | refine blk_drewN ?_ _ | refine blk_drew ?_ | refine blk_alloc ?_ _)); exact BK318.out) hb); have n11_ := Aside0.mk (below_step (by repeat (first | (with_reducible first | exact HB.out | apply below_alloc | apply pw_below_drewN | apply below_drew1 | refine below_set ?_ GE303.out | refine below_set ?_ GE318.out) | exact HB.out)) hb); clear HO308; clear HO311; clear HO314; clear HO321; clear HO324; clear HO327; clear HO330; clear HO334; clear BK303; clear BK318; clear HB; have HO308 := n0_; have HO311 := n1_; have HO314 := n2_; have HO321 := n3_; have HO324 := n4_; have HO327 := n5_; have HO330 := n6_; have HO334 := n7_; have HO337 := n8_; have BK303 := n9_; have BK318 := n10_; have HB := n11_; clear n0_ n1_ n2_ n3_ n4_ n5_ n6_ n7_ n8_ n9_ n10_ n11_; (try clear hb); (try clear hb2); (try clear hk); (try clear hi); (try clear ho0)) | ((with_reducible refine gate_callee (f := 26) rfl ?_); refine goesL_ (some 49) rfl rfl Try.func26 (by kernel_rfl) rfl #[.slice A2 l2.length c2] rfl (by (try simp only [List.map_toArray, List.map_cons, List.map_nil]); first | done | rfl | (simp only [List.length_drop, List.length_take]; rfl)) ?_; (with_reducible refine (tensilelaw05_Plan.calls k _ _ l2 t338 _ ?side1 ?side2 A16.out).mono ?_); (case side1 => repeat (first | exact (Kd.C_below HR2.out HB.out) | (with_reducible refine Kd.C_alloc ?_ _) | (with_reducible refine Kd.C_drewN ?_ _) | (with_reducible refine Kd.C_drew ?_))); (case side2 => exact HC2.out); rintro e w119 ⟨v339, rfl, ho0, hb⟩; refine ⟨_, rfl, ?_⟩; have n0_ := Aside0.mk (Kd.R_below (by (with_reducible repeat (first | apply Kd.R_alloc | apply Kd.R_drewN | apply Kd.R_drew)); exact HO308.out) hb); have n1_ := Aside0.mk (Kd.S_elder' (by (with_reducible repeat (first | apply Kd.S_alloc | apply Kd.S_drewN | apply Kd.S_drew)); exact HO311.out) (Kd.R_base ho0) hb); have n2_ := Aside0.mk (Kd.R_elder' (by (with_reducible repeat (first | apply Kd.R_alloc | apply Kd.R_drewN | apply Kd.R_drew)); exact HO314.out) (Kd.R_base ho0) hb); have n3_ := Aside0.mk (Kd.R_below (by (with_reducible repeat (first | apply Kd.R_alloc | apply Kd.R_drewN | apply Kd.R_drew)); exact HO321.out) hb); have n4_ := Aside0.mk (Kd.S_elder' (by (with_reducible repeat (first | apply Kd.S_alloc | apply Kd.S_drewN | apply Kd.S_drew)); exact HO324.out) (Kd.R_base ho0) hb); have n5_ := Aside0.mk (Kd.R_elder' (by (with_reducible repeat (first | apply Kd.R_alloc | apply Kd.R_drewN | apply Kd.R_drew)); exact HO327.out) (Kd.R_base ho0) hb); have n6_ := Aside0.mk (Kd.R_below (by (with_reducible repeat (first | apply Kd.R_alloc | apply Kd.R_drewN | apply Kd.R_drew)); exact HO330.out) hb); have n7_ := Aside0.mk (Kd.R_below (by (with_reducible repeat (first | apply Kd.R_alloc | apply Kd.R_drewN | apply Kd.R_drew)); exact HO334.out) hb); have n8_ := Aside0.mk (Kd.S_elder' (by (with_reducible repeat (first | apply Kd.S_alloc | apply Kd.S_drewN | apply Kd.S_drew)); exact HO337.out) (Kd.R_base ho0) hb); have n9_ := Aside0.mk (Kd.R_lower (Kd.R_new' (Kd.R_new' ho0 (Kd.R_lt (by (with_reducible repeat (first | apply Kd.R_alloc | apply Kd.R_drewN | apply Kd.R_drew)); exact HO314.out))) (Kd.R_lt (by (with_reducible repeat (first | apply Kd.R_alloc | apply Kd.R_drewN | apply Kd.R_drew)); exact HO327.out))) (below_size (by repeat (first | (with_reducible first | exact HB.out | apply below_alloc | apply pw_below_drewN | apply below_drew1 | refine below_set ?_ GE303.out | refine below_set ?_ GE318.out) | exact HB.out)))); have n10_ := Aside0.mk (blk_below (g := gb303) (o := .cells #[.slice A0_0 l0_0.length c0_0] 24 (0, 0)) (by (with_reducible repeat (first | refine blk_drewN ?_ _ | refine blk_drew ?_ | refine blk_alloc ?_ _)); exact BK303.out) hb); have n11_ := Aside0.mk (blk_below (g := gb318) (o := .cells #[.int .i64 t315, .int .i64 t316] 47 (0, 0)) (by (with_reducible repeat (first | refine blk_drewN ?_ _ | refine blk_drew ?_ | refine blk_alloc ?_ _)); exact BK318.out) hb); have n12_ := Aside0.mk (below_step (by repeat (first | (with_reducible first | exact HB.out | apply below_alloc | apply pw_below_drewN | apply below_drew1 | refine below_set ?_ GE303.out | refine below_set ?_ GE318.out) | exact HB.out)) hb); clear HO308; clear HO311; clear HO314; clear HO321; clear HO324; clear HO327; clear HO330; clear HO334; clear HO337; clear BK303; clear BK318; clear HB; have HO308 := n0_; have HO311 := n1_; have HO314 := n2_; have HO321 := n3_; have HO324 := n4_; have HO327 := n5_; have HO330 := n6_; have HO334 := n7_; have HO337 := n8_; have HO340 := n9_; have BK303 := n10_; have BK318 := n11_; have HB := n12_; clear n0_ n1_ n2_ n3_ n4_ n5_ n6_ n7_ n8_ n9_ n10_ n11_ n12_; (try clear hb); (try clear hb2); (try clear hk); (try clear hi); (try clear ho0); obtain ⟨Ao120, co120, eo120⟩ := Kd.R_slice HO334.out; subst eo120; obtain ⟨Ao121, co121, eo121⟩ := Kd.S_slice HO337.out; subst eo121; obtain ⟨Ao122, co122, eo122⟩ := Kd.R_slice HO340.out; subst eo122) | ((with_reducible refine gate_callee (f := 35) rfl ?_); refine goesL_ (some 50) rfl rfl Try.func35 (by kernel_rfl) rfl #[.agg #[.slice Ao120 t332.length co120], .slice Ao121 t335.length co121, .slice Ao122 t338.length co122, .bool true] rfl (by (try simp only [List.map_toArray, List.map_cons, List.map_nil]); first | done | rfl | (simp only [List.length_drop, List.length_take]; rfl)) ?_; (with_reducible refine (creep_Shows.calls _ _ t332 _ _ t335 _ _ t338 true t341 t344 _ ?side1 ?side2 ?side3 ?side4 ?side5 ?side6 A17.out).mono ?_); (case side1 => repeat (first | exact (Kd.R_reads' HO334.out).2.2 | (with_reducible refine Kd.C_alloc ?_ _) | (with_reducible refine Kd.C_drewN ?_ _) | (with_reducible refine Kd.C_drew ?_))); (case side2 => exact (Kd.R_reads' HO334.out).2.1); (case side3 => repeat (first | exact (Kd.S_reads' HO337.out).2.2 | (with_reducible refine Kd.C_alloc ?_ _) | (with_reducible refine Kd.C_drewN ?_ _) | (with_reducible refine Kd.C_drew ?_))); (case side4 => exact (Kd.S_reads' HO337.out).2.1); (case side5 => repeat (first | exact (Kd.R_reads' HO340.out).2.2 | (with_reducible refine Kd.C_alloc ?_ _) | (with_reducible refine Kd.C_drewN ?_ _) | (with_reducible refine Kd.C_drew ?_))); (case side6 => exact (Kd.R_reads' HO340.out).2.1); rintro e w123 ⟨v342, rfl, ho0, hb⟩; refine ⟨_, rfl, ?_⟩; have n0_ := Aside0.mk (Kd.R_below (by (with_reducible repeat (first | apply Kd.R_alloc | apply Kd.R_drewN | apply Kd.R_drew)); exact HO308.out) hb); have n1_ := Aside0.mk (Kd.S_below (by (with_reducible repeat (first | apply Kd.S_alloc | apply Kd.S_drewN | apply Kd.S_drew)); exact HO311.out) hb); have n2_ := Aside0.mk (Kd.R_below (by (with_reducible repeat (first | apply Kd.R_alloc | apply Kd.R_drewN | apply Kd.R_drew)); exact HO314.out) hb); have n3_ := Aside0.mk (Kd.R_below (by (with_reducible repeat (first | apply Kd.R_alloc | apply Kd.R_drewN | apply Kd.R_drew)); exact HO321.out) hb); have n4_ := Aside0.mk (Kd.S_below (by (with_reducible repeat (first | apply Kd.S_alloc | apply Kd.S_drewN | apply Kd.S_drew)); exact HO324.out) hb); have n5_ := Aside0.mk (Kd.R_below (by (with_reducible repeat (first | apply Kd.R_alloc | apply Kd.R_drewN | apply Kd.R_drew)); exact HO327.out) hb); have n6_ := Aside0.mk (Kd.R_elder' (by (with_reducible repeat (first | apply Kd.R_alloc | apply Kd.R_drewN | apply Kd.R_drew)); exact HO330.out) (Kd.R_base ho0) hb); have n7_ := Aside0.mk (Kd.R_below (by (with_reducible repeat (first | apply Kd.R_alloc | apply Kd.R_drewN | apply Kd.R_drew)); exact HO334.out) hb); have n8_ := Aside0.mk (Kd.S_below (by (with_reducible repeat (first | apply Kd.S_alloc | apply Kd.S_drewN | apply Kd.S_drew)); exact HO337.out) hb); have n9_ := Aside0.mk (Kd.R_below (by (with_reducible repeat (first | apply Kd.R_alloc | apply Kd.R_drewN | apply Kd.R_drew)); exact HO340.out) hb); have n10_ := Aside0.mk (Kd.R_lower (Kd.R_new' ho0 (Kd.R_lt (by (with_reducible repeat (first | apply Kd.R_alloc | apply Kd.R_drewN | apply Kd.R_drew)); exact HO330.out))) (below_size (by repeat (first | (with_reducible first | exact HB.out | apply below_alloc | apply pw_below_drewN | apply below_drew1 | refine below_set ?_ GE303.out | refine below_set ?_ GE318.out) | exact HB.out)))); have n11_ := Aside0.mk (blk_below (g := gb303) (o := .cells #[.slice A0_0 l0_0.length c0_0] 24 (0, 0)) (by (with_reducible repeat (first | refine blk_drewN ?_ _ | refine blk_drew ?_ | refine blk_alloc ?_ _)); exact BK303.out) hb); have n12_ := Aside0.mk (blk_below (g := gb318) (o := .cells #[.int .i64 t315, .int .i64 t316] 47 (0, 0)) (by (with_reducible repeat (first | refine blk_drewN ?_ _ | refine blk_drew ?_ | refine blk_alloc ?_ _)); exact BK318.out) hb); have n13_ := Aside0.mk (below_step (by repeat (first | (with_reducible first | exact HB.out | apply below_alloc | apply pw_below_drewN | apply below_drew1 | refine below_set ?_ GE303.out | refine below_set ?_ GE318.out) | exact HB.out)) hb); clear HO308; clear HO311; clear HO314; clear HO321; clear HO324; clear HO327; clear HO330; clear HO334; clear HO337; clear HO340; clear BK303; clear BK318; clear HB; have HO308 := n0_; have HO311 := n1_; have HO314 := n2_; have HO321 := n3_; have HO324 := n4_; have HO327 := n5_; have HO330 := n6_; have HO334 := n7_; have HO337 := n8_; have HO340 := n9_; have HO343 := n10_; have BK303 := n11_; have BK318 := n12_; have HB := n13_; clear n0_ n1_ n2_ n3_ n4_ n5_ n6_ n7_ n8_ n9_ n10_ n11_ n12_ n13_; (try clear hb); (try clear hb2); (try clear hk); (try clear hi); (try clear ho0)) | (go_at_call 17; (with_reducible refine (tensilelaw05_awake.calls  t345 _ A93.out).mono ?_); rintro e w124 ⟨rfl, hb⟩; have n0_ := Aside0.mk (Kd.R_below (by (with_reducible repeat (first | apply Kd.R_alloc | apply Kd.R_drewN | apply Kd.R_drew)); exact HO308.out) hb); have n1_ := Aside0.mk (Kd.S_below (by (with_reducible repeat (first | apply Kd.S_alloc | apply Kd.S_drewN | apply Kd.S_drew)); exact HO311.out) hb); have n2_ := Aside0.mk (Kd.R_below (by (with_reducible repeat (first | apply Kd.R_alloc | apply Kd.R_drewN | apply Kd.R_drew)); exact HO314.out) hb); have n3_ := Aside0.mk (Kd.R_below (by (with_reducible repeat (first | apply Kd.R_alloc | apply Kd.R_drewN | apply Kd.R_drew)); exact HO321.out) hb); have n4_ := Aside0.mk (Kd.S_below (by (with_reducible repeat (first | apply Kd.S_alloc | apply Kd.S_drewN | apply Kd.S_drew)); exact HO324.out) hb); have n5_ := Aside0.mk (Kd.R_below (by (with_reducible repeat (first | apply Kd.R_alloc | apply Kd.R_drewN | apply Kd.R_drew)); exact HO327.out) hb); have n6_ := Aside0.mk (Kd.R_below (by (with_reducible repeat (first | apply Kd.R_alloc | apply Kd.R_drewN | apply Kd.R_drew)); exact HO330.out) hb); have n7_ := Aside0.mk (Kd.R_below (by (with_reducible repeat (first | apply Kd.R_alloc | apply Kd.R_drewN | apply Kd.R_drew)); exact HO334.out) hb); have n8_ := Aside0.mk (Kd.S_below (by (with_reducible repeat (first | apply Kd.S_alloc | apply Kd.S_drewN | apply Kd.S_drew)); exact HO337.out) hb); have n9_ := Aside0.mk (Kd.R_below (by (with_reducible repeat (first | apply Kd.R_alloc | apply Kd.R_drewN | apply Kd.R_drew)); exact HO340.out) hb); have n10_ := Aside0.mk (Kd.R_below (by (with_reducible repeat (first | apply Kd.R_alloc | apply Kd.R_drewN | apply Kd.R_drew)); exact HO343.out) hb); have n11_ := Aside0.mk (blk_below (g := gb303) (o := .cells #[.slice A0_0 l0_0.length c0_0] 24 (0, 0)) (by (with_reducible repeat (first | refine blk_drewN ?_ _ | refine blk_drew ?_ | refine blk_alloc ?_ _)); exact BK303.out) hb); have n12_ := Aside0.mk (blk_below (g := gb318) (o := .cells #[.int .i64 t315, .int .i64 t316] 47 (0, 0)) (by (with_reducible repeat (first | refine blk_drewN ?_ _ | refine blk_drew ?_ | refine blk_alloc ?_ _)); exact BK318.out) hb); have n13_ := Aside0.mk (below_step (by repeat (first | (with_reducible first | exact HB.out | apply below_alloc | apply pw_below_drewN | apply below_drew1 | refine below_set ?_ GE303.out | refine below_set ?_ GE318.out) | exact HB.out)) hb); clear HO308; clear HO311; clear HO314; clear HO321; clear HO324; clear HO327; clear HO330; clear HO334; clear HO337; clear HO340; clear HO343; clear BK303; clear BK318; clear HB; have HO308 := n0_; have HO311 := n1_; have HO314 := n2_; have HO321 := n3_; have HO324 := n4_; have HO327 := n5_; have HO330 := n6_; have HO334 := n7_; have HO337 := n8_; have HO340 := n9_; have HO343 := n10_; have BK303 := n11_; have BK318 := n12_; have HB := n13_; clear n0_ n1_ n2_ n3_ n4_ n5_ n6_ n7_ n8_ n9_ n10_ n11_ n12_ n13_; (try clear hb); (try clear hb2); (try clear hk); (try clear hi)))
      go_ret
      exact ⟨by first | rfl | (simp [errW_none, errW_some] <;> rfl) | (simp [*, errW_none, errW_some] <;> rfl), by repeat (first | (with_reducible first | exact HB.out | apply below_alloc | apply pw_below_drewN | apply below_drew1 | refine below_set ?_ GE303.out | refine below_set ?_ GE318.out) | exact HB.out)⟩
     ·
      rw [if_neg c92] at H
      exact absurd H (by simp)
    ·
     rw [if_neg c91] at H
     exact absurd H (by simp)
   ·
    rw [if_neg c90] at H
    exact absurd H (by simp)
 ·
  replace c5 := Bool.eq_false_iff.mpr c5
  subst c5
  have H1 : ((tensilelaw05_awake.f).bind fun t305 => (some t305)) = some r := by rw [if_neg (show ¬ (false = true) by decide)] at H; exact H
  clear H
  have H := H1
  clear H1
  replace H := Option.bind_eq_some_iff.mp H
  obtain ⟨t305, A1250, H⟩ := H
  replace H : (some t305) = some r := H
  have A125 := Aside0.mk A1250
  clear A1250
  obtain rfl := Option.some.inj H
  go_enter Try.func13, Try.ntmps13
  go_wp2_with (first | ((with_reducible refine gate_dst (N := 3) rfl ?_); refine box_event ?hg (N := 3) ?hd (cs := #[.slice A0_0 l0_0.length c0_0]) (t := 24) ?hr ?_; (case hd => rfl); (case hg => rfl); (case hr => first | (go_simp; done) | (go_simp; rfl)); intro gb303 hg w126 hbox hb; have n0_ := Aside0.mk (below_step (by repeat (first | (with_reducible first | exact HB.out | apply below_alloc | apply pw_below_drewN | apply below_drew1) | exact HB.out)) hb); have n1_ := Aside0.mk (hbox); have n2_ := Aside0.mk ((by rw [hg]; exact (below_size (by repeat (first | (with_reducible first | exact HB.out | apply below_alloc | apply pw_below_drewN | apply below_drew1) | exact HB.out))) : w.heap.size ≤ gb303)); have n3_ := Aside0.mk ((by rw [hg]; exact (below_size (by repeat (first | (with_reducible first | exact HB.out | apply below_alloc | apply pw_below_drewN | apply below_drew1) | exact HB.out))) : w.heap.size ≤ gb303)); clear HB; have HB := n0_; have BK303 := n1_; have GW303 := n2_; have GE303 := n3_; clear n0_ n1_ n2_ n3_; clear hb hbox hg; have hcz127_0 : w126.cell? ⟨gb303, 0, none⟩ = some (.slice A0_0 l0_0.length c0_0) := (blk_cell BK303.out 0).trans rfl; have hfz127_0 := blk_frozen BK303.out 0) | ((with_reducible refine gate_callee (f := 16) rfl ?_); refine goesL_ (some 20) rfl rfl Try.func16 (by kernel_rfl) rfl #[.agg #[.slice A0_0 l0_0.length c0_0], .slice A1 l1.length c1, .slice A2 l2.length c2] rfl (by (try simp only [List.map_toArray, List.map_cons, List.map_nil]); first | done | rfl | (simp only [List.length_drop, List.length_take]; rfl)) ?_; (with_reducible refine (tensilelaw05_ready.calls k _ _ l0_0 _ _ l1 _ _ l2 false _ ?side1 ?side2 ?side3 ?side4 ?side5 ?side6 A4.out).mono ?_); (case side1 => repeat (first | exact (Kd.C_below HR0_0.out HB.out) | (with_reducible refine Kd.C_alloc ?_ _) | (with_reducible refine Kd.C_drewN ?_ _) | (with_reducible refine Kd.C_drew ?_))); (case side2 => exact HC0_0.out); (case side3 => repeat (first | exact (Kd.C_below HR1.out HB.out) | (with_reducible refine Kd.C_alloc ?_ _) | (with_reducible refine Kd.C_drewN ?_ _) | (with_reducible refine Kd.C_drew ?_))); (case side4 => exact HC1.out); (case side5 => repeat (first | exact (Kd.C_below HR2.out HB.out) | (with_reducible refine Kd.C_alloc ?_ _) | (with_reducible refine Kd.C_drewN ?_ _) | (with_reducible refine Kd.C_drew ?_))); (case side6 => exact HC2.out); rintro e w128 ⟨rfl, hb⟩; refine ⟨_, rfl, ?_⟩; have n0_ := Aside0.mk (blk_below (g := gb303) (o := .cells #[.slice A0_0 l0_0.length c0_0] 24 (0, 0)) (by (with_reducible repeat (first | refine blk_drewN ?_ _ | refine blk_drew ?_ | refine blk_alloc ?_ _)); exact BK303.out) hb); have n1_ := Aside0.mk (below_step (by repeat (first | (with_reducible first | exact HB.out | apply below_alloc | apply pw_below_drewN | apply below_drew1 | refine below_set ?_ GE303.out) | exact HB.out)) hb); clear BK303; clear HB; have BK303 := n0_; have HB := n1_; clear n0_ n1_; (try clear hb); (try clear hb2); (try clear hk); (try clear hi)) | ((with_reducible refine gate_callee (f := 17) rfl ?_); refine goesL_ (some 22) rfl rfl Try.func17 (by kernel_rfl) rfl #[] rfl (by (try simp only [List.map_toArray, List.map_cons, List.map_nil]); first | done | rfl | (simp only [List.length_drop, List.length_take]; rfl)) ?_; (with_reducible refine (tensilelaw05_awake.calls  t305 _ A125.out).mono ?_); rintro e w129 ⟨rfl, hb⟩; refine ⟨_, rfl, ?_⟩; have n0_ := Aside0.mk (blk_below (g := gb303) (o := .cells #[.slice A0_0 l0_0.length c0_0] 24 (0, 0)) (by (with_reducible repeat (first | refine blk_drewN ?_ _ | refine blk_drew ?_ | refine blk_alloc ?_ _)); exact BK303.out) hb); have n1_ := Aside0.mk (below_step (by repeat (first | (with_reducible first | exact HB.out | apply below_alloc | apply pw_below_drewN | apply below_drew1 | refine below_set ?_ GE303.out) | exact HB.out)) hb); clear BK303; clear HB; have BK303 := n0_; have HB := n1_; clear n0_ n1_; (try clear hb); (try clear hb2); (try clear hk); (try clear hi)))
  go_ret
  exact ⟨by first | rfl | (simp [errW_none, errW_some] <;> rfl) | (simp [*, errW_none, errW_some] <;> rfl), by repeat (first | (with_reducible first | exact HB.out | apply below_alloc | apply pw_below_drewN | apply below_drew1 | refine below_set ?_ GE303.out) | exact HB.out)⟩

end Go.Proofs.Ytdagijgoegkphaa.P

namespace Go.Proofs.Ytdagijgoegkphaa.Pure
open Go.RowKit Go.Proofs.YtdagijgoegkphaaW.PrintWords Go.Proofs.YtdagijgoegkphaaW.PrintLast Go.Proofs.YtdagijgoegkphaaW.PrintMore Go.Proofs.Ytdagijgoegkphaa.P
open Hand (Rg Sg Rn Nm Rt)

theorem nm_at (l : List Int) (b : Nat) : ((toNm l).getD b ⟨0⟩).n = l.getD b 0 := by
  unfold toNm
  simp only [List.getD_eq_getElem?_getD, List.getElem?_map]
  cases l[b]? <;> rfl
theorem rg_at (m : List S54) (b : Nat) : (m.map cRg).getD b ⟨0, 0⟩ = cRg (rd_T54 m (b : Int)) := by
  unfold rd_T54
  simp only [List.getD_eq_getElem?_getD, List.getElem?_map, Int.toNat_natCast]
  cases m[b]? <;> rfl
theorem rd_nat (l : List Int) (b : Nat) : rd l (b : Int) = l.getD b 0 := rfl

theorem rd_get (l : List Int) (hl : l.length ≤ 3) (b : Int) (h0 : 0 ≤ b) (h1 : b < l.length) : rd l b = (Hand.rtOf (toNm l)).get b.toNat := by
  obtain ⟨n, rfl⟩ := Int.eq_ofNat_of_zero_le h0
  rw [rd_nat, Int.toNat_natCast]
  unfold Hand.rtOf
  rw [nm_at, nm_at, nm_at]
  match n, (show n < 3 by omega) with
  | 0, _ => rfl
  | 1, _ => rfl
  | 2, _ => rfl

theorem atV_cons (f : Sg → Int) (r : Rt) (s : Sg) (l : List Sg) : Hand.atV f r (s :: l) = r.get s.band.toNat * f s + Hand.atV f r l := rfl
theorem atV_bound (f : Sg → Int) (r : Rt) (hr : r.ok) (hf : ∀ s : Sg, s.ok → 0 ≤ f s ∧ f s ≤ 1000000) : ∀ (l : List Sg), (∀ s ∈ l, s.ok) → 0 ≤ Hand.atV f r l ∧ Hand.atV f r l ≤ 1000000000 * l.length
  | [], _ => by simp [Hand.atV, Hand.sumL]
  | s :: l, h => by
    have h1 := h s (by simp)
    have h2 := atV_bound f r hr hf l (fun x hx => h x (by simp [hx]))
    have h3 := hf s h1
    have h4 := hr s.band.toNat (by have := h1.2.1; have := h1.1; omega)
    have h5 := Hand.mul_bound h4.1 h4.2 h3.1 h3.2
    rw [atV_cons, List.length_cons]
    omega

theorem stretch_l0 (l : List Int) (hl : l.length ≤ 3) (hr : (Hand.rtOf (toNm l)).ok) : ∀ (suf pre : List S56) (k : Nat) (a b : Int), suf.length + 1 ≤ k → (pre ++ suf).length ≤ 12 → (∀ s ∈ suf, Hand.segB l.length (cSg s) = true) →
    0 ≤ a → a ≤ 1000000000 * pre.length → 0 ≤ b → b ≤ 1000000000 * pre.length →
    tensileref05_Stretch.l0 k (pre ++ suf) l (pre.length : Int) a b = some (a + Hand.stLo (Hand.rtOf (toNm l)) (suf.map cSg), b + Hand.stHi (Hand.rtOf (toNm l)) (suf.map cSg)) := by
  intro suf
  induction suf with
  | nil =>
    intro pre k a b hk _ _ _ _ _ _
    obtain ⟨k, rfl⟩ : ∃ m, k = m + 1 := ⟨k - 1, by omega⟩
    rw [tensileref05_Stretch.l0, if_neg (len_nlt pre)]
    simp [Hand.stLo, Hand.stHi, Hand.atV, Hand.sumL]
  | cons s suf ih =>
    intro pre k a b hk hlen hseg ha0 ha1 hb0 hb1
    obtain ⟨k, rfl⟩ : ∃ m, k = m + 1 := ⟨k - 1, by omega⟩
    have hl2 : pre.length + suf.length + 1 ≤ 12 := by simpa [Nat.add_assoc] using hlen
    have hs := hseg s (by simp)
    have hok : (cSg s).ok := Hand.segB_ok hl hs
    have hband : 0 ≤ s.f0 ∧ s.f0 < l.length := by
      unfold Hand.segB at hs
      simp only [Bool.and_eq_true, decide_eq_true_eq] at hs
      have := hs.1
      unfold cSg at this
      dsimp only at this
      omega
    have h4 := hr s.f0.toNat (by omega)
    obtain ⟨_, _, o1, o2, o3, o4⟩ := hok
    have o1' : 0 ≤ s.f1.f0 := o1
    have o2' : s.f1.f0 ≤ 1000000 := o2
    have o3' : 0 ≤ s.f1.f1 := o3
    have o4' : s.f1.f1 ≤ 1000000 := o4
    have m1 := Hand.mul_bound h4.1 h4.2 o1' o2'
    have m2 := Hand.mul_bound h4.1 h4.2 o3' o4'
    rw [tensileref05_Stretch.l0, if_pos (len_lt pre s suf), if_pos (by omega), rd56, if_pos hband.1, if_pos hband.2, rd_get l hl s.f0 hband.1 hband.2]
    obtain ⟨x, hx⟩ : ∃ x, x = (Hand.rtOf (toNm l)).get s.f0.toNat * s.f1.f0 := ⟨_, rfl⟩
    obtain ⟨y, hy⟩ : ∃ y, y = (Hand.rtOf (toNm l)).get s.f0.toNat * s.f1.f1 := ⟨_, rfl⟩
    rw [← hx, ← hy]
    rw [← hx] at m1
    rw [← hy] at m2
    rw [w_succ _ (by omega), w_id (n := x) (by omega) (by omega), w_id (n := y) (by omega) (by omega), w_id (n := a + x) (by omega) (by omega), w_id (n := b + y) (by omega) (by omega)]
    have := ih (pre ++ [s]) k (a + x) (b + y) (by simp at hk; omega) (by simpa using hlen) (fun z hz => hseg z (by simp [hz])) (by omega) (by simp; omega) (by omega) (by simp; omega)
    rw [snoc_len, List.append_assoc] at this
    rw [show pre ++ s :: suf = pre ++ ([s] ++ suf) from rfl, this]
    unfold Hand.stLo Hand.stHi
    rw [List.map_cons, atV_cons, atV_cons]
    show some (a + x + _, b + y + _) = some (a + ((Hand.rtOf (toNm l)).get s.f0.toNat * s.f1.f0 + _), b + ((Hand.rtOf (toNm l)).get s.f0.toNat * s.f1.f1 + _))
    rw [← hx, ← hy, Int.add_assoc, Int.add_assoc]
theorem stretch_f (l : List Int) (hl : l.length ≤ 3) (hr : (Hand.rtOf (toNm l)).ok) (p : List S56) (hp : p.length ≤ 12) (hseg : ∀ s ∈ p, Hand.segB l.length (cSg s) = true) (k : Nat) (hk : p.length + 1 ≤ k) :
    tensileref05_Stretch.f k p l = some (Hand.stLo (Hand.rtOf (toNm l)) (p.map cSg), Hand.stHi (Hand.rtOf (toNm l)) (p.map cSg)) := by
  have := stretch_l0 l hl hr p [] k 0 0 hk hp hseg (by omega) (by simp) (by omega) (by simp)
  rw [Int.zero_add, Int.zero_add] at this
  exact this

theorem allows_l0 (l : List Int) (hl : l.length ≤ 3) (hr : (Hand.rtOf (toNm l)).ok) : ∀ (suf pre : List S81) (k : Nat), suf.length + 15 ≤ k → (pre ++ suf).length ≤ 9 → (∀ x ∈ suf, x.f0.length ≤ 12 ∧ ∀ s ∈ x.f0, Hand.segB l.length (cSg s) = true) →
    tensileref05_Allows.l0 k (pre ++ suf) l (pre.length : Int) = some (Hand.allowedB (suf.map cRn) (Hand.rtOf (toNm l))) := by
  intro suf
  induction suf with
  | nil =>
    intro pre k hk _ _
    obtain ⟨k, rfl⟩ : ∃ m, k = m + 1 := ⟨k - 1, by omega⟩
    rw [tensileref05_Allows.l0, if_neg (len_nlt pre)]
    rfl
  | cons s suf ih =>
    intro pre k hk hlen hx
    obtain ⟨k, rfl⟩ : ∃ m, k = m + 1 := ⟨k - 1, by omega⟩
    have hl2 : pre.length + suf.length + 1 ≤ 9 := by simpa [Nat.add_assoc] using hlen
    obtain ⟨h1, h2⟩ := hx s (by simp)
    rw [tensileref05_Allows.l0, if_pos (len_lt pre s suf), if_pos (by omega), rd81, stretch_f l hl hr s.f0 h1 h2 k (by simp at hk; omega), Option.bind_some]
    have hal : Hand.allowedB ((s :: suf).map cRn) (Hand.rtOf (toNm l)) = (Hand.allowsB (Hand.rtOf (toNm l)) (s.f0.map cSg) s.f1.f0 s.f1.f1 && Hand.allowedB (suf.map cRn) (Hand.rtOf (toNm l))) := rfl
    rw [hal]
    unfold Hand.allowsB
    dsimp only
    by_cases c1 : Hand.stLo (Hand.rtOf (toNm l)) (s.f0.map cSg) > s.f1.f1
    · rw [if_pos c1, decide_eq_false (by omega)]; simp
    rw [if_neg c1, decide_eq_true (show Hand.stLo (Hand.rtOf (toNm l)) (s.f0.map cSg) ≤ s.f1.f1 by omega)]
    by_cases c2 : Hand.stHi (Hand.rtOf (toNm l)) (s.f0.map cSg) < s.f1.f0
    · rw [if_pos c2, decide_eq_false (by omega)]; simp
    rw [if_neg c2, decide_eq_true (show s.f1.f0 ≤ Hand.stHi (Hand.rtOf (toNm l)) (s.f0.map cSg) by omega), w_succ _ (by omega)]
    have := ih (pre ++ [s]) k (by simp at hk; omega) (by simpa using hlen) (fun x h => hx x (by simp [h]))
    rw [snoc_len, List.append_assoc] at this
    rw [show pre ++ s :: suf = pre ++ ([s] ++ suf) from rfl, this]
    rfl

/-- What is right where the error is none. -/
theorem runs_right {m : List S54} {r : List S81} (h : Hand.enterErr (m.map cRg) (r.map cRn) = 0) : ∀ x ∈ r, x.f0.length ≤ 8 ∧ ∀ s ∈ x.f0, Hand.segB m.length (cSg s) = true := by
  obtain ⟨_, _, _, _, h5, h6⟩ := Hand.enter_ok h
  intro x hx
  have h7 := List.all_eq_true.1 h5 (cRn x) (List.mem_map.2 ⟨x, hx, rfl⟩)
  have h8 := List.all_eq_true.1 h6 (cRn x) (List.mem_map.2 ⟨x, hx, rfl⟩)
  unfold Hand.fewB cRn at h7
  unfold Hand.runOk Hand.runB cRn at h8
  simp only [Bool.and_eq_true, decide_eq_true_eq, List.length_map] at h7 h8
  exact ⟨h7, fun s hs => List.all_eq_true.1 h8.2 (cSg s) (List.mem_map.2 ⟨s, hs, rfl⟩)⟩

theorem allows_f {m : List S54} {r : List S81} {l : List Int} (h : Hand.enterErr (m.map cRg) (r.map cRn) = 0) (hl : l.length = m.length) (hr : (Hand.rtOf (toNm l)).ok) (k : Nat) (hk : 30 ≤ k) :
    tensileref05_Allows.f k r l = some (Hand.allowedB (r.map cRn) (Hand.rtOf (toNm l))) := by
  have h1 := (Hand.enter_ok h).1
  have h4 := (Hand.enter_ok h).2.2.2.1
  rw [List.length_map] at h1 h4
  have h2 := runs_right h
  exact allows_l0 l (by omega) hr r [] k (by omega) (by simpa using (by omega : r.length ≤ 9)) (fun x hx => ⟨by have := (h2 x hx).1; omega, by rw [hl]; exact (h2 x hx).2⟩)
end Go.Proofs.Ytdagijgoegkphaa.Pure

namespace Go.Proofs.Ytdagijgoegkphaa.Pure
open Go.RowKit Go.Proofs.YtdagijgoegkphaaW.PrintWords Go.Proofs.YtdagijgoegkphaaW.PrintLast Go.Proofs.YtdagijgoegkphaaW.PrintMore Go.Proofs.Ytdagijgoegkphaa.P
open Hand (Rg Sg Rn Nm Rt)

/-! ### All rates -/
/-- The rates of the first bands. -/
def take (r : Rt) (n : Nat) : List Int := r.list n
theorem take_len (r : Rt) (n : Nat) (h : n ≤ 3) : (r.list n).length = n := by unfold Rt.list; simp; omega
theorem take_succ (r : Rt) (n : Nat) (x : Int) (h : n < 3) : r.list n ++ [x] = (r.set n x).list (n + 1) := by
  unfold Rt.list
  match n, h with
  | 0, _ => rfl
  | 1, _ => rfl
  | 2, _ => rfl
theorem take_rd (r : Rt) (n : Nat) (b : Nat) (h : b < n) (hn : n ≤ 3) : rd (r.list n) (b : Int) = r.get b := by
  rw [rd_nat]
  unfold Rt.list
  match n, b, hn, h with
  | 1, 0, _, _ => rfl
  | 2, 0, _, _ => rfl
  | 2, 1, _, _ => rfl
  | 3, 0, _, _ => rfl
  | 3, 1, _, _ => rfl
  | 3, 2, _, _ => rfl
theorem take_rt (r : Rt) (n : Nat) (hn : n ≤ 3) : ∀ k, k < n → (Hand.rtOf (toNm (r.list n))).get k = r.get k := by
  intro k hk
  have h1 := rd_get (r.list n) (by rw [take_len r n hn]; exact hn) (k : Int) (by omega) (by rw [take_len r n hn]; omega)
  rw [Int.toNat_natCast] at h1
  rw [← h1, take_rd r n k hk hn]

theorem flat_cons {α β : Type} (f : α → List β) (x : α) (l : List α) : (x :: l).flatMap f = f x ++ l.flatMap f := List.flatMap_cons

/-- Valid ranges. -/
def Val (m : List S54) : Prop := m.length ≤ 3 ∧ ∀ s ∈ m, 0 ≤ s.f0 ∧ s.f0 ≤ s.f1 ∧ s.f1 ≤ 1000 ∧ s.f1 - s.f0 ≤ 20

theorem flat_len {α β : Type} (f : α → List β) (c : Nat) : ∀ (l : List α), (∀ x ∈ l, (f x).length ≤ c) → (l.flatMap f).length ≤ l.length * c
  | [], _ => by simp
  | x :: l, h => by
    have h1 := h x (by simp)
    have h2 := flat_len f c l (fun y hy => h y (by simp [hy]))
    rw [List.flatMap_cons, List.length_append, List.length_cons, Nat.add_mul, Nat.one_mul]
    omega

/-- From some rates on: the numbers of rounds. -/
def need : Nat → Nat
  | 0 => 1
  | d + 1 => need d + 25

theorem hiAt_eq (m : List S54) (band : Nat) (h : band < m.length) : Hand.hiAt (m.map cRg) band = (rd_T54 m (band : Int)).f1 := by
  unfold Hand.hiAt rd_T54
  rw [List.getElem?_map, Int.toNat_natCast, List.getD_eq_getElem?_getD, List.getElem?_eq_getElem h]
  rfl
theorem lowAt_eq (m : List S54) (r : Rt) (band : Nat) (h : band < m.length) : Hand.lowAt (m.map cRg) r band = if 0 < band then mx (rd_T54 m (band : Int)).f0 (r.get (band - 1)) else (rd_T54 m (band : Int)).f0 := by
  unfold Hand.lowAt rd_T54
  rw [List.getElem?_map, Int.toNat_natCast, List.getD_eq_getElem?_getD, List.getElem?_eq_getElem h]
  rfl
theorem rd_mem (m : List S54) (band : Nat) (h : band < m.length) : rd_T54 m (band : Int) ∈ m := by
  unfold rd_T54
  rw [Int.toNat_natCast, List.getD_eq_getElem?_getD, List.getElem?_eq_getElem h]
  exact List.getElem_mem h

theorem lsFrom_len (m : List S54) (hv : Val m) : ∀ (d band : Nat) (r : Rt), band + d = m.length → (Hand.lsFrom (m.map cRg) d band r).length ≤ 21 ^ d
  | 0, _, _, _ => by simp [Hand.lsFrom]
  | d + 1, band, r, hb => by
    have hlt : band < m.length := by omega
    have hs := hv.2 _ (rd_mem m band hlt)
    unfold Hand.lsFrom
    rw [hiAt_eq m band hlt, lowAt_eq m r band hlt]
    refine Nat.le_trans (flat_len _ (21 ^ d) _ fun n _ => lsFrom_len m hv d (band + 1) _ (by omega)) ?_
    rw [Hand.upFrom_length, Nat.pow_succ, Nat.mul_comm]
    refine Nat.mul_le_mul_left _ ?_
    have : (rd_T54 m (band : Int)).f0 ≤ (if 0 < band then mx (rd_T54 m (band : Int)).f0 (r.get (band - 1)) else (rd_T54 m (band : Int)).f0) := by
      split
      · unfold mx; split <;> omega
      · exact Int.le_refl _
    omega

theorem get_set_lt (r : Rt) (n : Int) : ∀ (band j : Nat), band < 3 → j < band → (r.set band n).get j = r.get j
  | 0, _, _, h => absurd h (by omega)
  | 1, 0, _, _ => rfl
  | 2, 0, _, _ => rfl
  | 2, 1, _, _ => rfl
  | 1, _ + 1, _, h => absurd h (by omega)
  | 2, _ + 2, _, h => absurd h (by omega)
  | _ + 3, _, h, _ => absurd h (by omega)
theorem val_of {m : List S54} {rs : List Rn} (h : Hand.enterErr (m.map cRg) rs = 0) : Val m := by
  have h1 := (Hand.enter_ok h).1
  rw [List.length_map] at h1
  refine ⟨h1.2, fun s hs => ?_⟩
  have h2 : Hand.matErr (m.map cRg) = 0 := by
    unfold Hand.enterErr at h
    split at h
    · assumption
    · exact h
  unfold Hand.matErr at h2
  split at h2
  · rename_i h3
    have h4 := rateB_low (List.all_eq_true.1 h3.2 (cRg s) (List.mem_map.2 ⟨s, hs, rfl⟩))
    exact h4
  · cases h2
end Go.Proofs.Ytdagijgoegkphaa.Pure

namespace Go.Proofs.Ytdagijgoegkphaa.Pure
open Go.RowKit Go.Proofs.YtdagijgoegkphaaW.PrintWords Go.Proofs.YtdagijgoegkphaaW.PrintLast Go.Proofs.YtdagijgoegkphaaW.PrintMore Go.Proofs.Ytdagijgoegkphaa.P
open Hand (Rg Sg Rn Nm Rt)

theorem get_set_gt (r : Rt) (n : Int) : ∀ (band j : Nat), j < 3 → band < j → (r.set band n).get j = r.get j
  | 0, 1, _, _ => rfl
  | 0, 2, _, _ => rfl
  | 1, 2, _, _ => rfl
  | _, 0, _, h => absurd h (by omega)
  | _ + 1, 1, _, h => absurd h (by omega)
  | _ + 2, 2, _, h => absurd h (by omega)
  | _, _ + 3, h, _ => absurd h (by omega)
theorem lsFrom_rest (ms : List Rg) : ∀ (d band : Nat) (r q : Rt), q ∈ Hand.lsFrom ms d band r → ∀ j, j < 3 → band + d ≤ j → q.get j = r.get j
  | 0, _, r, q, h, j, _, _ => by rw [List.mem_singleton.1 h]
  | d + 1, band, r, q, h, j, h3, hj => by
    obtain ⟨n, _, hq⟩ := List.mem_flatMap.1 h
    rw [lsFrom_rest ms d (band + 1) (r.set band n) q hq j h3 (by omega), get_set_gt r n band j h3 (by omega)]
theorem rt_ext {p q : Rt} (h : ∀ j, j < 3 → p.get j = q.get j) : p = q := by
  obtain ⟨a, b, c⟩ := p
  obtain ⟨x, y, z⟩ := q
  have h0 : a = x := h 0 (by omega)
  have h1 : b = y := h 1 (by omega)
  have h2 : c = z := h 2 (by omega)
  rw [h0, h1, h2]
theorem rt_of_list (ms : List Rg) (hms : ms.length ≤ 3) (q : Rt) (h : q ∈ Hand.lists ms) : Hand.rtOf (toNm (q.list ms.length)) = q := by
  refine rt_ext fun j hj => ?_
  by_cases hjn : j < ms.length
  · exact take_rt q ms.length hms j hjn
  · have h0 : q.get j = 0 := by
      rw [lsFrom_rest ms ms.length 0 ⟨0, 0, 0⟩ q h j hj (by omega)]
      match j, hj with
      | 0, _ => rfl
      | 1, _ => rfl
      | 2, _ => rfl
    rw [h0]
    have hr : ∀ b : Nat, ms.length ≤ b → ((toNm (q.list ms.length)).getD b ⟨0⟩).n = 0 := fun b hb => by
      rw [nm_at, List.getD_eq_getElem?_getD, List.getElem?_eq_none (by rw [take_len q _ hms]; exact hb)]
      rfl
    match j, hj with
    | 0, _ => exact hr 0 (by omega)
    | 1, _ => exact hr 1 (by omega)
    | 2, _ => exact hr 2 (by omega)

theorem lists_rtok {m : List S54} (hv : Val m) (q : Rt) (h : q ∈ Hand.lists (m.map cRg)) : q.ok :=
  Hand.lists_ok (fun x hx => by
    obtain ⟨s, hs, rfl⟩ := List.mem_map.1 hx
    have := hv.2 s hs
    exact ⟨this.1, this.2.2.1⟩) q h

theorem lists_len {m : List S54} (hv : Val m) : (Hand.lists (m.map cRg)).length ≤ 9261 := by
  have := lsFrom_len m hv m.length 0 ⟨0, 0, 0⟩ (by omega)
  have h3 : (21 : Nat) ^ m.length ≤ 21 ^ 3 := Nat.pow_le_pow_right (by omega) hv.1
  unfold Hand.lists
  rw [List.length_map]
  omega
end Go.Proofs.Ytdagijgoegkphaa.Pure

namespace Go.Proofs.Ytdagijgoegkphaa.Pure
open Go.RowKit Go.Proofs.YtdagijgoegkphaaW.PrintWords Go.Proofs.YtdagijgoegkphaaW.PrintLast Go.Proofs.YtdagijgoegkphaaW.PrintMore Go.Proofs.Ytdagijgoegkphaa.P
open Hand (Rg Sg Rn Nm Rt)

theorem ready_f (m : List S54) (r : List S81) (p : List S56) (hf : ∀ s ∈ m, Fits54 s) (k : Nat) (hk : 200 ≤ k) :
    ∃ b, tensilelaw05_ready.f k m r p = some b ∧ (b = true → Small m r p ∧ Hand.enterErr (m.map cRg) (r.map cRn) = 0 ∧ (p.map cSg).all (Hand.segB m.length) = true ∧ p.length ≤ 8) := by
  unfold tensilelaw05_ready.f
  obtain ⟨b, hb, hb2⟩ := thin_f m r p k (by omega)
  rw [hb, Option.bind_some]
  cases b with
  | false => rw [if_neg (by decide)]; exact ⟨false, rfl, fun h => by cases h⟩
  | true =>
    have hs := hb2 rfl
    rw [if_pos rfl, fault_f m r p hs hf k (by omega), Option.bind_some]
    by_cases he : Hand.enterErr (m.map cRg) (r.map cRn) = 0
    case neg => rw [if_neg he]; exact ⟨false, rfl, fun h => by cases h⟩
    have hp := hs.2.2.1
    rw [if_pos he, isPlan_f m hs.1 p (by omega) k (by omega), Option.bind_some]
    refine ⟨_, rfl, fun h => ?_⟩
    simp only [Bool.and_eq_true, decide_eq_true_eq] at h
    exact ⟨hs, he, h.1, h.2⟩

/-! ### What the rates of a material are -/
theorem lsFrom_keep (ms : List Rg) : ∀ (d band : Nat) (r q : Rt), band + d ≤ 3 → q ∈ Hand.lsFrom ms d band r → ∀ j, j < band → q.get j = r.get j
  | 0, _, r, q, _, h, j, _ => by rw [List.mem_singleton.1 h]
  | d + 1, band, r, q, hb, h, j, hj => by
    obtain ⟨n, _, hq⟩ := List.mem_flatMap.1 h
    rw [lsFrom_keep ms d (band + 1) (r.set band n) q (by omega) hq j (by omega), get_set_lt r n band j (by omega) (by omega)]
theorem lsFrom_in (ms : List Rg) : ∀ (d band : Nat) (r q : Rt), band + d ≤ 3 → band + d = ms.length → q ∈ Hand.lsFrom ms d band r → ∀ b, band ≤ b → b < ms.length →
    (ms.getD b ⟨0, 0⟩).lo ≤ q.get b ∧ q.get b ≤ (ms.getD b ⟨0, 0⟩).hi ∧ (0 < b → q.get (b - 1) ≤ q.get b)
  | 0, band, r, q, _, hl, h, b, h1, h2 => by omega
  | d + 1, band, r, q, h3, hl, h, b, h1, h2 => by
    obtain ⟨n, hn, hq⟩ := List.mem_flatMap.1 h
    by_cases e : b = band
    · have hqb : q.get b = n := by rw [lsFrom_keep ms d (band + 1) (r.set band n) q (by omega) hq b (by omega), e, get_set r band (by omega)]
      have hn2 := Hand.mem_upFrom _ _ _ hn
      have hg : ms.getD b ⟨0, 0⟩ = ms[b] := by rw [List.getD_eq_getElem?_getD, List.getElem?_eq_getElem h2]; rfl
      have hlow : (ms[b]).lo ≤ Hand.lowAt ms r band ∧ (0 < band → r.get (band - 1) ≤ Hand.lowAt ms r band) := by
        unfold Hand.lowAt
        rw [← e, List.getElem?_eq_getElem h2]
        dsimp only
        by_cases h0 : 0 < b
        · rw [if_pos h0, hmx]; exact ⟨by unfold mx; split <;> omega, fun _ => by unfold mx; split <;> omega⟩
        · rw [if_neg h0]; exact ⟨Int.le_refl _, fun h => absurd h h0⟩
      have hhi : Hand.hiAt ms band = (ms[b]).hi := by
        unfold Hand.hiAt
        rw [← e, List.getElem?_eq_getElem h2]
      rw [hg, hqb]
      refine ⟨by omega, by omega, fun h0 => ?_⟩
      rw [lsFrom_keep ms d (band + 1) (r.set band n) q (by omega) hq (b - 1) (by omega), get_set_lt r n band (b - 1) (by omega) (by omega), e]
      have := hlow.2 (by omega)
      omega
    · exact lsFrom_in ms d (band + 1) (r.set band n) q (by omega) (by omega) hq b (by omega) h2
theorem lists_in (ms : List Rg) (h3 : ms.length ≤ 3) (q : Rt) (h : q ∈ Hand.lists ms) (b : Nat) (hb : b < ms.length) :
    (ms.getD b ⟨0, 0⟩).lo ≤ q.get b ∧ q.get b ≤ (ms.getD b ⟨0, 0⟩).hi ∧ (0 < b → q.get (b - 1) ≤ q.get b) :=
  lsFrom_in ms ms.length 0 ⟨0, 0, 0⟩ q (by omega) (by omega) h b (Nat.zero_le _) hb
theorem lists_own (ms : List Rg) (h3 : ms.length ≤ 3) (q : Rt) (h : q ∈ Hand.lists ms) : Hand.ownB ms (toNm (q.list ms.length)) = true := by
  unfold Hand.ownB
  rw [toNm_length, take_len q _ h3, decide_eq_true rfl, Bool.true_and, List.all_eq_true]
  intro b hb
  have hb := List.mem_range.1 hb
  obtain ⟨h1, h2, h4⟩ := lists_in ms h3 q h b hb
  have e1 : ((toNm (q.list ms.length)).getD b ⟨0⟩).n = q.get b := by rw [nm_at, ← rd_nat, take_rd q _ b hb h3]
  unfold Hand.okAt
  rw [e1]
  have e2 : 0 < b → ((toNm (q.list ms.length)).getD (b - 1) ⟨0⟩).n = q.get (b - 1) := fun h0 => by rw [nm_at, ← rd_nat, take_rd q _ (b - 1) (by omega) h3]
  rw [decide_eq_true ⟨h1, h2⟩, Bool.true_and]
  by_cases h0 : 0 < b
  · rw [e2 h0, decide_eq_true h0, decide_eq_false (by have := h4 h0; omega)]; rfl
  · rw [decide_eq_false h0]; rfl

/-! ### The ends -/
theorem ends_fold (ps : List Sg) : ∀ (l : List Rt) (a b : Rt), ((l.foldl (Hand.endStep ps) (a, b, false)).1 = a ∨ (l.foldl (Hand.endStep ps) (a, b, false)).1 ∈ l) ∧ ((l.foldl (Hand.endStep ps) (a, b, false)).2.1 = b ∨ (l.foldl (Hand.endStep ps) (a, b, false)).2.1 ∈ l) ∧
    (Hand.stLo (l.foldl (Hand.endStep ps) (a, b, false)).1 ps ≤ Hand.stLo a ps ∧ ∀ q ∈ l, Hand.stLo (l.foldl (Hand.endStep ps) (a, b, false)).1 ps ≤ Hand.stLo q ps) ∧
    (Hand.stHi b ps ≤ Hand.stHi (l.foldl (Hand.endStep ps) (a, b, false)).2.1 ps ∧ ∀ q ∈ l, Hand.stHi q ps ≤ Hand.stHi (l.foldl (Hand.endStep ps) (a, b, false)).2.1 ps)
  | [], a, b => ⟨.inl rfl, .inl rfl, ⟨Int.le_refl _, fun _ h => by cases h⟩, ⟨Int.le_refl _, fun _ h => by cases h⟩⟩
  | x :: l, a, b => by
    rw [List.foldl_cons]
    obtain ⟨a', ha'⟩ : ∃ a', a' = if Hand.stLo x ps < Hand.stLo a ps then x else a := ⟨_, rfl⟩
    obtain ⟨b', hb'⟩ : ∃ b', b' = if Hand.stHi b ps < Hand.stHi x ps then x else b := ⟨_, rfl⟩
    have he : Hand.endStep ps (a, b, false) x = (a', b', false) := by
      unfold Hand.endStep
      rw [ha', hb']
      simp
    rw [he]
    obtain ⟨h1, h2, ⟨h3, h4⟩, h5, h6⟩ := ends_fold ps l a' b'
    have ca : (a' = a ∨ a' = x) ∧ Hand.stLo a' ps ≤ Hand.stLo a ps ∧ Hand.stLo a' ps ≤ Hand.stLo x ps := by
      rw [ha']; split
      · exact ⟨.inr rfl, by omega, Int.le_refl _⟩
      · exact ⟨.inl rfl, Int.le_refl _, by omega⟩
    have cb : (b' = b ∨ b' = x) ∧ Hand.stHi b ps ≤ Hand.stHi b' ps ∧ Hand.stHi x ps ≤ Hand.stHi b' ps := by
      rw [hb']; split
      · exact ⟨.inr rfl, by omega, Int.le_refl _⟩
      · exact ⟨.inl rfl, Int.le_refl _, by omega⟩
    refine ⟨?_, ?_, ⟨by omega, fun q hq => ?_⟩, by omega, fun q hq => ?_⟩
    · rcases h1 with h | h
      · rw [h]; rcases ca.1 with e | e
        · exact .inl e
        · rw [e]; exact .inr (by simp)
      · exact .inr (by simp [h])
    · rcases h2 with h | h
      · rw [h]; rcases cb.1 with e | e
        · exact .inl e
        · rw [e]; exact .inr (by simp)
      · exact .inr (by simp [h])
    · rcases List.mem_cons.1 hq with rfl | hq
      · omega
      · exact h4 q hq
    · rcases List.mem_cons.1 hq with rfl | hq
      · omega
      · exact h6 q hq
theorem ends_spec (ps : List Sg) (l : List Rt) (hl : l ≠ []) : (Hand.endsA ps l).1 ∈ l ∧ (Hand.endsA ps l).2.1 ∈ l ∧ (∀ q ∈ l, Hand.stLo (Hand.endsA ps l).1 ps ≤ Hand.stLo q ps) ∧ ∀ q ∈ l, Hand.stHi q ps ≤ Hand.stHi (Hand.endsA ps l).2.1 ps := by
  cases l with
  | nil => exact absurd rfl hl
  | cons x l =>
    have he : Hand.endsA ps (x :: l) = l.foldl (Hand.endStep ps) (x, x, false) := by
      unfold Hand.endsA
      rw [List.foldl_cons]
      rfl
    rw [he]
    obtain ⟨h1, h2, ⟨h3, h4⟩, h5, h6⟩ := ends_fold ps l x x
    refine ⟨?_, ?_, fun q hq => ?_, fun q hq => ?_⟩
    · rcases h1 with h | h
      · rw [h]; simp
      · simp [h]
    · rcases h2 with h | h
      · rw [h]; simp
      · simp [h]
    · rcases List.mem_cons.1 hq with rfl | hq
      · exact h3
      · exact h4 q hq
    · rcases List.mem_cons.1 hq with rfl | hq
      · exact h5
      · exact h6 q hq

theorem plan_none {m : List S54} {r : List S81} {p : List S56} (hp : Hand.possErr (m.map cRg) (r.map cRn) = 0) (hs : (p.map cSg).all (Hand.segB m.length) = true) (h8 : p.length ≤ 8) : Hand.planErr (m.map cRg) (r.map cRn) (p.map cSg) = 0 := by
  unfold Hand.planErr
  rw [if_pos hp, List.length_map, List.length_map, if_pos ⟨h8, hs⟩]
theorem plan_some {ms : List Rg} {rs : List Rn} {ps : List Sg} (hp : Hand.possErr ms rs ≠ 0) : Hand.planErr ms rs ps = Hand.possErr ms rs := by
  unfold Hand.planErr
  rw [if_neg hp]
theorem poss_cases {ms : List Rg} {rs : List Rn} (he : Hand.enterErr ms rs = 0) : (Hand.possErr ms rs = 0 ∧ Hand.good ms rs ≠ []) ∨ (Hand.possErr ms rs = 9 ∧ Hand.good ms rs = []) := by
  unfold Hand.possErr
  rw [if_pos he]
  by_cases h : Hand.good ms rs = []
  · exact .inr ⟨by rw [if_pos h], h⟩
  · exact .inl ⟨by rw [if_neg h], h⟩
/-- Good rates are allowed. -/
theorem good_allowed {m : List S54} {r : List S81} (he : Hand.enterErr (m.map cRg) (r.map cRn) = 0) {q : Rt} (hq : q ∈ Hand.good (m.map cRg) (r.map cRn)) : Hand.allowsV (m.map cRg) (r.map cRn) (toNm (q.list m.length)) = (true, 0) := by
  have hm := List.mem_filter.1 hq
  have h3 := (val_of he).1
  have h3' : (m.map cRg).length ≤ 3 := by rw [List.length_map]; exact h3
  have h1 := lists_own (m.map cRg) h3' q hm.1
  have h2 := rt_of_list (m.map cRg) h3' q hm.1
  rw [List.length_map] at h1 h2
  unfold Hand.allowsV
  rw [if_pos he, if_pos h1, h2, hm.2]
/-- The stretch of a plan, for good rates. -/
theorem good_stretch {m : List S54} {r : List S81} (he : Hand.enterErr (m.map cRg) (r.map cRn) = 0) {q : Rt} (hq : q ∈ Hand.good (m.map cRg) (r.map cRn)) (p : List S56) (hs : (p.map cSg).all (Hand.segB m.length) = true) (hp : p.length ≤ 12) (k : Nat) (hk : p.length + 1 ≤ k) :
    tensileref05_Stretch.f k p (q.list m.length) = some (Hand.stLo q (p.map cSg), Hand.stHi q (p.map cSg)) := by
  have hm := List.mem_filter.1 hq
  have h3 := (val_of he).1
  have h3' : (m.map cRg).length ≤ 3 := by rw [List.length_map]; exact h3
  have h2 := rt_of_list (m.map cRg) h3' q hm.1
  rw [List.length_map] at h2
  have hl := take_len q m.length h3
  have := stretch_f (q.list m.length) (by rw [hl]; exact h3) (by rw [h2]; exact lists_rtok (val_of he) q hm.1) p hp (fun s h => by rw [hl]; exact List.all_eq_true.1 hs (cSg s) (List.mem_map.2 ⟨s, h, rfl⟩)) k hk
  rw [h2] at this
  exact this
end Go.Proofs.Ytdagijgoegkphaa.Pure

namespace Go.Proofs.Ytdagijgoegkphaa.Pure
open Go.RowKit Go.Proofs.YtdagijgoegkphaaW.PrintWords Go.Proofs.YtdagijgoegkphaaW.PrintLast Go.Proofs.YtdagijgoegkphaaW.PrintMore Go.Proofs.Ytdagijgoegkphaa.P
open Hand (Rg Sg Rn Nm Rt)

theorem awake_fi : tensilelaw05_awake.f = some true := rfl
theorem CreepEnds (m : List S54) (r : List S81) (p : List S56) (hm : ∀ s ∈ m, Fits54 s) (_ : ∀ s ∈ r, Fits81 s) (_ : ∀ s ∈ p, Fits56 s) : ∃ k, tensilelaw05_CreepEnds.f k m r p = some true := by
  refine ⟨300, ?_⟩
  unfold tensilelaw05_CreepEnds.f
  obtain ⟨b, hb, hb2⟩ := ready_f m r p hm 300 (by omega)
  rw [hb, Option.bind_some]
  cases b with
  | false => rw [if_neg (by decide), awake_fi]; rfl
  | true =>
  rw [if_pos rfl]
  obtain ⟨⟨h1, h2, h12, h3⟩, he, hseg, h8⟩ := hb2 rfl
  rw [material_f m (by omega) 300 (by omega), Option.bind_some, runs_f r (by omega) h3 300 (by omega), Option.bind_some, plan_f p (by omega) 300 (by omega), Option.bind_some]
  unfold creep_Stretch.f creep_Shows.f creep_Allows.f tensilelaw05_list.f
  simp only [Option.bind_some, toRg_c, toRn_c, toSg_c]
  rcases poss_cases he with ⟨hp, hg⟩ | ⟨hp, hg⟩
  · have hpl := plan_none hp hseg h8
    obtain ⟨e1, e2, e3, e4⟩ := ends_spec (p.map cSg) (Hand.good (m.map cRg) (r.map cRn)) hg
    have hst : Hand.stretchV (m.map cRg) (r.map cRn) (p.map cSg) = (Hand.stLo (Hand.endsA (p.map cSg) (Hand.good (m.map cRg) (r.map cRn))).1 (p.map cSg), Hand.stHi (Hand.endsA (p.map cSg) (Hand.good (m.map cRg) (r.map cRn))).2.1 (p.map cSg), 0) := by
      unfold Hand.stretchV; rw [if_pos hpl]
    have hsl : Hand.showsV (m.map cRg) (r.map cRn) (p.map cSg) false = ((Hand.endsA (p.map cSg) (Hand.good (m.map cRg) (r.map cRn))).1.list m.length, 0) := by
      unfold Hand.showsV; rw [if_pos hpl, List.length_map]; rfl
    have hsh : Hand.showsV (m.map cRg) (r.map cRn) (p.map cSg) true = ((Hand.endsA (p.map cSg) (Hand.good (m.map cRg) (r.map cRn))).2.1.list m.length, 0) := by
      unfold Hand.showsV; rw [if_pos hpl, List.length_map]; rfl
    have h33 := (val_of he).1
    rw [hst, hsl, hsh]
    dsimp only
    rw [if_pos rfl, if_pos (by rw [take_len _ _ h33]; omega), Option.bind_some, good_allowed he e1, if_pos (by rw [take_len _ _ h33]; omega), Option.bind_some, good_allowed he e2]
    dsimp only
    rw [if_pos rfl, if_pos rfl, if_pos rfl, if_pos rfl, if_pos rfl, if_pos rfl, good_stretch he e1 p hseg h12 300 (by omega), Option.bind_some, if_pos rfl, good_stretch he e2 p hseg h12 300 (by omega), Option.bind_some, if_pos rfl, awake_fi]
    rfl
  · have hpl : Hand.planErr (m.map cRg) (r.map cRn) (p.map cSg) = 9 := by rw [plan_some (by rw [hp]; decide), hp]
    have hst : Hand.stretchV (m.map cRg) (r.map cRn) (p.map cSg) = (0, 0, 9) := by
      unfold Hand.stretchV; rw [if_neg (by rw [hpl]; decide), hpl]
    have hsl : ∀ b, Hand.showsV (m.map cRg) (r.map cRn) (p.map cSg) b = ([], 9) := fun b => by
      unfold Hand.showsV; rw [if_neg (by rw [hpl]; decide), hpl]
    rw [hst, hsl, hsl]
    dsimp only
    rw [if_neg (by decide), if_pos rfl, if_pos rfl, if_pos rfl, awake_fi]
    rfl
end Go.Proofs.Ytdagijgoegkphaa.Pure



namespace Go.Proofs.Ytdagijgoegkphaa.creepEnds
open Go.ChangeShapes Go.WideShapes Go.ChangeAt Go.RowKit Go.Proofs.YtdagijgoegkphaaW.PrintWords
theorem own : ownKnob Try.prog.godebug = none := by kernel_rfl
theorem laidOut : laidOutB Try.prog = true := by kernel_rfl
set_option maxRecDepth 100000 in
theorem lifted (os : Os) (started : os.Started) (H : Type) (enc : TypeId × Value → H) :
    ReturnsInHanded {} Try.checked os 13 .any (Rows.creepEndsSpec.pre6 enc Try.prog Try.f13 Rows.creepEndsRow.domain false) (Rows.creepEndsSpec.post enc Try.prog Try.f13 false true false false) := by
  refine returnsInHanded_of_change_sized (C := Try.checked) own started (by kernel_rfl) Try.func13
    (ChangeSpec.witness6 (enc := enc) (C := Try.checked) false ⟨#[], #[.agg #[.slice none 0 0], .slice none 0 0, .slice none 0 0], []⟩ 8 (by kernel_rfl) (by kernel_rfl) (by kernel_rfl) (by kernel_rfl)) ?_
  intro W base args ds gs before hval0 hW hcnd hsz0 _
  have hval : ∀ (j : Nat) t v, Try.f13.params[j]? = some t → args[j]? = some v → Value.okWide Try.prog W .any base t v := hval0
  have hW' := hW
  obtain ⟨p, q, hA0, hV, rfl, hfz, hnd⟩ := hW
  have hA : DataW.TrodAll enc Try.prog W 0 (fun _ => true) true Try.f13.params.toList args.toList ds p := hA0
  rw [Try.params13] at hA hval
  obtain ⟨v0, vs0, d0, ds0, p0, q0, hargs, rfl, rfl, h0, r0⟩ := trodAll_cons hA
  obtain ⟨v1, vs1, d1, ds1, p1, q1, rfl, rfl, rfl, h1, r1⟩ := trodAll_cons r0
  obtain ⟨v2, vs2, d2, ds2, p2, q2, rfl, rfl, rfl, h2, r2⟩ := trodAll_cons r1
  obtain ⟨rfl, rfl, rfl⟩ := trodAll_nil r2
  obtain rfl : args = #[v0, v1, v2] := by cases args; simp_all
  obtain ⟨rfl, rfl⟩ := trodVars_none hV
  have k0 := h0
  have lt0 : ∀ x ∈ p0, x.block < W.heap.size := by obtain ⟨m, hm⟩ := k0; exact DataW.trod_lt m _ _ _ hm
  obtain ⟨cs0, rfl, _⟩ := okWide_struct Try.underlying24 (hval 0 24 v0 rfl rfl)
  obtain ⟨A0, c0, l0, e0, hc0, hC0, y0⟩ : ∃ (A : Option Addr) (cap : Nat) (l : List P.S54), cs0 = #[.slice A l.length cap] ∧ l.length ≤ cap ∧ Kd.C P.k54 W A l.length l ∧ ∀ s ∈ l, P.Fits54 s := by
    obtain ⟨fuel, hf⟩ := h0
    obtain ⟨A, cap, l, e, h2, h3, h4⟩ := P.open24 hf
    exact ⟨A, cap, l, Array.toList_inj.1 e, h2, h3, h4⟩
  subst e0
  have k1 := h1
  have lt1 : ∀ x ∈ p1, x.block < W.heap.size := by obtain ⟨m, hm⟩ := k1; exact DataW.trod_lt m _ _ _ hm
  obtain ⟨A1, len1, c1, rfl⟩ := okWide_slice Try.underlying25 (hval 1 25 v1 rfl rfl)
  obtain ⟨l1, rfl, hc1, hC1, y1⟩ : ∃ l : List P.S81, len1 = l.length ∧ l.length ≤ c1 ∧ Kd.C P.k81 W A1 l.length l ∧ ∀ s ∈ l, P.Fits81 s := by
    obtain ⟨fuel, hf⟩ := h1
    obtain ⟨A, cap, l, e, h1, h2, h3⟩ := P.open25 hf
    simp [Value.cells] at e
    obtain ⟨rfl, rfl, rfl⟩ := e
    exact ⟨l, rfl, h1, h2, h3⟩
  have k2 := h2
  have lt2 : ∀ x ∈ p2, x.block < W.heap.size := by obtain ⟨m, hm⟩ := k2; exact DataW.trod_lt m _ _ _ hm
  obtain ⟨A2, len2, c2, rfl⟩ := okWide_slice Try.underlying26 (hval 2 26 v2 rfl rfl)
  obtain ⟨l2, rfl, hc2, hC2, y2⟩ : ∃ l : List P.S56, len2 = l.length ∧ l.length ≤ c2 ∧ Kd.C P.k56 W A2 l.length l ∧ ∀ s ∈ l, P.Fits56 s := by
    obtain ⟨fuel, hf⟩ := h2
    obtain ⟨A, cap, l, e, h1, h2, h3⟩ := P.open26 hf
    simp [Value.cells] at e
    obtain ⟨rfl, rfl, rfl⟩ := e
    exact ⟨l, rfl, h1, h2, h3⟩
  clear hA0 hval0 hsz0
  obtain ⟨k, hP⟩ := Pure.CreepEnds l0 l1 l2 y0 y1 y2
  refine (P.tensilelaw05_CreepEnds.calls k A0 c0 l0 A1 c1 l1 A2 c2 l2 true W hC0 hc0 hC1 hc1 hC2 hc2 hP).mono fun e W' ⟨he, bel⟩ => ?_
  subst he
  exact ⟨_, rfl, _, _, _, [], _, [], hW', trodAll_mk1 (shut_bool Try.underlying4 _), (trodAll_cons_mk (Below.trod laidOut (by kernel_rfl) (of_decide_eq_true (by kernel_rfl)) k0 bel lt0) (trodAll_cons_mk (Below.trod laidOut (by kernel_rfl) (of_decide_eq_true (by kernel_rfl)) k1 bel lt1) (trodAll_cons_mk (Below.trod laidOut (by kernel_rfl) (of_decide_eq_true (by kernel_rfl)) k2 bel lt2) trodAll_mk0))), rfl, bel.frame _, fun h => by cases h⟩
theorem over : Rows.creepEndsRow.holds Try.pinned (OpenSpec.ofChange Rows.creepEndsSpec) :=
  OpenClaim.holds_of_wide 13 Try.f13 rfl rfl rfl rfl rfl rfl rfl ⟨rfl, rfl, rfl, rfl, rfl⟩ rfl rfl rfl rfl rfl (by kernel_rfl) Try.func13 (by kernel_rfl)
    (of_decide_eq_true (by kernel_rfl)) (by unfold Func.isWrapper; first | (rw [if_pos (by decide +kernel)]; kernel_rfl) | (rw [if_neg (by decide +kernel)]; exact ⟨rfl, rfl⟩))
    (fun os started H enc _ => lifted os started H enc)
theorem proved : Rows.CreepEndsSaid := over
end Go.Proofs.Ytdagijgoegkphaa.creepEnds
namespace Go.Proofs.Ytdagijgoegkphaa
/-- The row, under a short name, for the claim. -/
theorem creepEnds_holds : Rows.CreepEndsSaid := creepEnds.proved
end Go.Proofs.Ytdagijgoegkphaa
#print axioms Go.Proofs.Ytdagijgoegkphaa.creepEnds_holds
