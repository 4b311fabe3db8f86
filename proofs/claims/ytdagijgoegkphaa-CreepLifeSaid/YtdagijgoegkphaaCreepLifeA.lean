/- The statement CreepLife: whatever the input (its guards are the law's own), the call returns true, and each argument reads as it did. -/
import Derived.Test.YtdagijgoegkphaaC2
import Derived.Test.YtdagijgoegkphaaC3
import Derived.Test.YtdagijgoegkphaaRows
import Derived.WalkKit
import Derived.ProofKit
import Derived.OpenShut
import Derived.ShutString
import Derived.ChangeOld
import Derived.Below
import Derived.SizedLaws
set_option linter.unusedVariables false
set_option linter.unusedSimpArgs false
namespace Go.Proofs.Ytdagijgoegkphaa.P
open Go.RowKit Go.Proofs.YtdagijgoegkphaaW.PrintWords Go.Proofs.YtdagijgoegkphaaW.PrintLast Go.Proofs.YtdagijgoegkphaaW.PrintMore
attribute [local go_sem] max2_int min2_int max_two min_two max_three min_three max_four min_four   -- for this text's walks alone

/-! ### tensilelaw05_ready: function 16 -/
def tensilelaw05_ready.f (k : Nat) (l0_0 : List (S54)) (l1 : List (S81)) (l2 : List (S56)) : Option (Bool) := (tensilelaw05_Thin.f k l0_0 l1 l2).bind fun t300 => (if t300 = true then ((tensilelaw05_fault.f k l0_0 l1).bind fun t301 => (if t301 = 0 then ((tensileref05_IsPlan.f k l0_0 l2).bind fun t302 => (some t302)) else (some false))) else (some false))
set_option maxHeartbeats 8000000 in
set_option maxRecDepth 100000 in
theorem tensilelaw05_ready.calls (k : Nat) (A0_0 : Option Addr) (c0_0 : Nat) (l0_0 : List (S54)) (A1 : Option Addr) (c1 : Nat) (l1 : List (S81)) (A2 : Option Addr) (c2 : Nat) (l2 : List (S56)) (r : Bool) (w : World) (hr0_0 : Kd.C k54 w A0_0 l0_0.length l0_0) (hc0_0 : l0_0.length ≤ c0_0) (hr1 : Kd.C k81 w A1 l1.length l1) (hc1 : l1.length ≤ c1) (hr2 : Kd.C k56 w A2 l2.length l2) (hc2 : l2.length ≤ c2) (h : tensilelaw05_ready.f k l0_0 l1 l2 = some r) :
  Calls Try.prog 16 #[.agg #[.slice A0_0 l0_0.length c0_0], .slice A1 l1.length c1, .slice A2 l2.length c2] w fun e w' => e = .returned (.bool r) ∧ Below w.heap.size w w' := by
 have hu24 := Try.underlying24
 have HR0_0 := Aside0.mk hr0_0
 have HC0_0 := Aside0.mk hc0_0
 clear hr0_0 hc0_0
 have HR1 := Aside0.mk hr1
 have HC1 := Aside0.mk hc1
 clear hr1 hc1
 have HR2 := Aside0.mk hr2
 have HC2 := Aside0.mk hc2
 clear hr2 hc2
 have HB := Aside0.mk (Below.refl w.heap.size w)
 have H : ((tensilelaw05_Thin.f k l0_0 l1 l2).bind fun t300 => (if t300 = true then ((tensilelaw05_fault.f k l0_0 l1).bind fun t301 => (if t301 = 0 then ((tensileref05_IsPlan.f k l0_0 l2).bind fun t302 => (some t302)) else (some false))) else (some false))) = some r := h
 clear h
 replace H := Option.bind_eq_some_iff.mp H
 obtain ⟨t300, A40, H⟩ := H
 replace H : (if t300 = true then ((tensilelaw05_fault.f k l0_0 l1).bind fun t301 => (if t301 = 0 then ((tensileref05_IsPlan.f k l0_0 l2).bind fun t302 => (some t302)) else (some false))) else (some false)) = some r := H
 have A4 := Aside0.mk A40
 clear A40
 by_cases c5 : t300 = true
 ·
  subst c5
  have H1 : ((tensilelaw05_fault.f k l0_0 l1).bind fun t301 => (if t301 = 0 then ((tensileref05_IsPlan.f k l0_0 l2).bind fun t302 => (some t302)) else (some false))) = some r := by rw [if_pos rfl] at H; exact H
  clear H
  have H := H1
  clear H1
  replace H := Option.bind_eq_some_iff.mp H
  obtain ⟨t301, A60, H⟩ := H
  replace H : (if t301 = 0 then ((tensileref05_IsPlan.f k l0_0 l2).bind fun t302 => (some t302)) else (some false)) = some r := H
  have A6 := Aside0.mk A60
  clear A60
  by_cases c7 : t301 = 0
  ·
   rw [if_pos c7] at H
   have c7b0 : (t301 == 0) = true := beq_iff_eq.mpr c7
   have c7b1 : (t301 != 0) = false := bne_eq_false_iff_eq.mpr c7
   clear c7
   replace H := Option.bind_eq_some_iff.mp H
   obtain ⟨t302, A80, H⟩ := H
   replace H : (some t302) = some r := H
   have A8 := Aside0.mk A80
   clear A80
   obtain rfl := Option.some.inj H
   go_enter Try.func16, Try.ntmps16
   go_wp2_with (first | ((with_reducible refine gate_dst (N := 3) rfl ?_); refine box_event ?hg (N := 3) ?hd (cs := #[.slice A0_0 l0_0.length c0_0]) (t := 24) ?hr ?_; (case hd => rfl); (case hg => rfl); (case hr => first | (go_simp; done) | (go_simp; rfl)); intro gb299 hg w9 hbox hb; have n0_ := Aside0.mk (below_step (by repeat (first | (with_reducible first | exact HB.out | apply below_alloc | apply pw_below_drewN | apply below_drew1) | exact HB.out)) hb); have n1_ := Aside0.mk (hbox); have n2_ := Aside0.mk ((by rw [hg]; exact (below_size (by repeat (first | (with_reducible first | exact HB.out | apply below_alloc | apply pw_below_drewN | apply below_drew1) | exact HB.out))) : w.heap.size ≤ gb299)); have n3_ := Aside0.mk ((by rw [hg]; exact (below_size (by repeat (first | (with_reducible first | exact HB.out | apply below_alloc | apply pw_below_drewN | apply below_drew1) | exact HB.out))) : w.heap.size ≤ gb299)); clear HB; have HB := n0_; have BK299 := n1_; have GW299 := n2_; have GE299 := n3_; clear n0_ n1_ n2_ n3_; clear hb hbox hg; have hcz10_0 : w9.cell? ⟨gb299, 0, none⟩ = some (.slice A0_0 l0_0.length c0_0) := (blk_cell BK299.out 0).trans rfl; have hfz10_0 := blk_frozen BK299.out 0) | ((with_reducible refine gate_callee (f := 37) rfl ?_); refine goesL_ (some 10) rfl rfl Try.func37 (by kernel_rfl) rfl #[.agg #[.slice A0_0 l0_0.length c0_0], .slice A1 l1.length c1, .slice A2 l2.length c2] rfl (by (try simp only [List.map_toArray, List.map_cons, List.map_nil]); first | done | rfl | (simp only [List.length_drop, List.length_take]; rfl)) ?_; (with_reducible refine (tensilelaw05_Thin.calls k _ _ l0_0 _ _ l1 _ _ l2 true _ ?side1 ?side2 ?side3 ?side4 ?side5 ?side6 A4.out).mono ?_); (case side1 => repeat (first | exact (Kd.C_below HR0_0.out HB.out) | (with_reducible refine Kd.C_alloc ?_ _) | (with_reducible refine Kd.C_drewN ?_ _) | (with_reducible refine Kd.C_drew ?_))); (case side2 => exact HC0_0.out); (case side3 => repeat (first | exact (Kd.C_below HR1.out HB.out) | (with_reducible refine Kd.C_alloc ?_ _) | (with_reducible refine Kd.C_drewN ?_ _) | (with_reducible refine Kd.C_drew ?_))); (case side4 => exact HC1.out); (case side5 => repeat (first | exact (Kd.C_below HR2.out HB.out) | (with_reducible refine Kd.C_alloc ?_ _) | (with_reducible refine Kd.C_drewN ?_ _) | (with_reducible refine Kd.C_drew ?_))); (case side6 => exact HC2.out); rintro e w11 ⟨rfl, hb⟩; refine ⟨_, rfl, ?_⟩; have n0_ := Aside0.mk (blk_below (g := gb299) (o := .cells #[.slice A0_0 l0_0.length c0_0] 24 (0, 0)) (by (with_reducible repeat (first | refine blk_drewN ?_ _ | refine blk_drew ?_ | refine blk_alloc ?_ _)); exact BK299.out) hb); have n1_ := Aside0.mk (below_step (by repeat (first | (with_reducible first | exact HB.out | apply below_alloc | apply pw_below_drewN | apply below_drew1 | refine below_set ?_ GE299.out) | exact HB.out)) hb); clear BK299; clear HB; have BK299 := n0_; have HB := n1_; clear n0_ n1_; (try clear hb); (try clear hb2); (try clear hk); (try clear hi); have hcz12_0 : w11.cell? ⟨gb299, 0, none⟩ = some (.slice A0_0 l0_0.length c0_0) := (blk_cell BK299.out 0).trans rfl; have hfz12_0 := blk_frozen BK299.out 0) | (go_at_call 49; (with_reducible refine (tensilelaw05_fault.calls k _ _ l0_0 _ _ l1 t301 _ ?side1 ?side2 ?side3 ?side4 A6.out).mono ?_); (case side1 => repeat (first | exact (Kd.C_below HR0_0.out HB.out) | (with_reducible refine Kd.C_alloc ?_ _) | (with_reducible refine Kd.C_drewN ?_ _) | (with_reducible refine Kd.C_drew ?_))); (case side2 => exact HC0_0.out); (case side3 => repeat (first | exact (Kd.C_below HR1.out HB.out) | (with_reducible refine Kd.C_alloc ?_ _) | (with_reducible refine Kd.C_drewN ?_ _) | (with_reducible refine Kd.C_drew ?_))); (case side4 => exact HC1.out); rintro e w13 ⟨rfl, hb⟩; have n0_ := Aside0.mk (blk_below (g := gb299) (o := .cells #[.slice A0_0 l0_0.length c0_0] 24 (0, 0)) (by (with_reducible repeat (first | refine blk_drewN ?_ _ | refine blk_drew ?_ | refine blk_alloc ?_ _)); exact BK299.out) hb); have n1_ := Aside0.mk (below_step (by repeat (first | (with_reducible first | exact HB.out | apply below_alloc | apply pw_below_drewN | apply below_drew1 | refine below_set ?_ GE299.out) | exact HB.out)) hb); clear BK299; clear HB; have BK299 := n0_; have HB := n1_; clear n0_ n1_; (try clear hb); (try clear hb2); (try clear hk); (try clear hi); have hcz14_0 : w13.cell? ⟨gb299, 0, none⟩ = some (.slice A0_0 l0_0.length c0_0) := (blk_cell BK299.out 0).trans rfl; have hfz14_0 := blk_frozen BK299.out 0) | (go_at_call 44; (with_reducible refine (tensileref05_IsPlan.calls k _ _ l0_0 _ _ l2 t302 _ ?side1 ?side2 ?side3 ?side4 A8.out).mono ?_); (case side1 => repeat (first | exact (Kd.C_below HR0_0.out HB.out) | (with_reducible refine Kd.C_alloc ?_ _) | (with_reducible refine Kd.C_drewN ?_ _) | (with_reducible refine Kd.C_drew ?_))); (case side2 => exact HC0_0.out); (case side3 => repeat (first | exact (Kd.C_below HR2.out HB.out) | (with_reducible refine Kd.C_alloc ?_ _) | (with_reducible refine Kd.C_drewN ?_ _) | (with_reducible refine Kd.C_drew ?_))); (case side4 => exact HC2.out); rintro e w15 ⟨rfl, hb⟩; have n0_ := Aside0.mk (blk_below (g := gb299) (o := .cells #[.slice A0_0 l0_0.length c0_0] 24 (0, 0)) (by (with_reducible repeat (first | refine blk_drewN ?_ _ | refine blk_drew ?_ | refine blk_alloc ?_ _)); exact BK299.out) hb); have n1_ := Aside0.mk (below_step (by repeat (first | (with_reducible first | exact HB.out | apply below_alloc | apply pw_below_drewN | apply below_drew1 | refine below_set ?_ GE299.out) | exact HB.out)) hb); clear BK299; clear HB; have BK299 := n0_; have HB := n1_; clear n0_ n1_; (try clear hb); (try clear hb2); (try clear hk); (try clear hi)))
   go_ret
   exact ⟨by first | rfl | (simp [errW_none, errW_some] <;> rfl) | (simp [*, errW_none, errW_some] <;> rfl), by repeat (first | (with_reducible first | exact HB.out | apply below_alloc | apply pw_below_drewN | apply below_drew1 | refine below_set ?_ GE299.out) | exact HB.out)⟩
  ·
   rw [if_neg c7] at H
   have c7b0 : (t301 == 0) = false := beq_eq_false_iff_ne.mpr c7
   have c7b1 : (t301 != 0) = true := bne_iff_ne.mpr c7
   obtain rfl := Option.some.inj H
   go_enter Try.func16, Try.ntmps16
   go_wp2_with (first | ((with_reducible refine gate_dst (N := 3) rfl ?_); refine box_event ?hg (N := 3) ?hd (cs := #[.slice A0_0 l0_0.length c0_0]) (t := 24) ?hr ?_; (case hd => rfl); (case hg => rfl); (case hr => first | (go_simp; done) | (go_simp; rfl)); intro gb299 hg w16 hbox hb; have n0_ := Aside0.mk (below_step (by repeat (first | (with_reducible first | exact HB.out | apply below_alloc | apply pw_below_drewN | apply below_drew1) | exact HB.out)) hb); have n1_ := Aside0.mk (hbox); have n2_ := Aside0.mk ((by rw [hg]; exact (below_size (by repeat (first | (with_reducible first | exact HB.out | apply below_alloc | apply pw_below_drewN | apply below_drew1) | exact HB.out))) : w.heap.size ≤ gb299)); have n3_ := Aside0.mk ((by rw [hg]; exact (below_size (by repeat (first | (with_reducible first | exact HB.out | apply below_alloc | apply pw_below_drewN | apply below_drew1) | exact HB.out))) : w.heap.size ≤ gb299)); clear HB; have HB := n0_; have BK299 := n1_; have GW299 := n2_; have GE299 := n3_; clear n0_ n1_ n2_ n3_; clear hb hbox hg; have hcz17_0 : w16.cell? ⟨gb299, 0, none⟩ = some (.slice A0_0 l0_0.length c0_0) := (blk_cell BK299.out 0).trans rfl; have hfz17_0 := blk_frozen BK299.out 0) | ((with_reducible refine gate_callee (f := 37) rfl ?_); refine goesL_ (some 10) rfl rfl Try.func37 (by kernel_rfl) rfl #[.agg #[.slice A0_0 l0_0.length c0_0], .slice A1 l1.length c1, .slice A2 l2.length c2] rfl (by (try simp only [List.map_toArray, List.map_cons, List.map_nil]); first | done | rfl | (simp only [List.length_drop, List.length_take]; rfl)) ?_; (with_reducible refine (tensilelaw05_Thin.calls k _ _ l0_0 _ _ l1 _ _ l2 true _ ?side1 ?side2 ?side3 ?side4 ?side5 ?side6 A4.out).mono ?_); (case side1 => repeat (first | exact (Kd.C_below HR0_0.out HB.out) | (with_reducible refine Kd.C_alloc ?_ _) | (with_reducible refine Kd.C_drewN ?_ _) | (with_reducible refine Kd.C_drew ?_))); (case side2 => exact HC0_0.out); (case side3 => repeat (first | exact (Kd.C_below HR1.out HB.out) | (with_reducible refine Kd.C_alloc ?_ _) | (with_reducible refine Kd.C_drewN ?_ _) | (with_reducible refine Kd.C_drew ?_))); (case side4 => exact HC1.out); (case side5 => repeat (first | exact (Kd.C_below HR2.out HB.out) | (with_reducible refine Kd.C_alloc ?_ _) | (with_reducible refine Kd.C_drewN ?_ _) | (with_reducible refine Kd.C_drew ?_))); (case side6 => exact HC2.out); rintro e w18 ⟨rfl, hb⟩; refine ⟨_, rfl, ?_⟩; have n0_ := Aside0.mk (blk_below (g := gb299) (o := .cells #[.slice A0_0 l0_0.length c0_0] 24 (0, 0)) (by (with_reducible repeat (first | refine blk_drewN ?_ _ | refine blk_drew ?_ | refine blk_alloc ?_ _)); exact BK299.out) hb); have n1_ := Aside0.mk (below_step (by repeat (first | (with_reducible first | exact HB.out | apply below_alloc | apply pw_below_drewN | apply below_drew1 | refine below_set ?_ GE299.out) | exact HB.out)) hb); clear BK299; clear HB; have BK299 := n0_; have HB := n1_; clear n0_ n1_; (try clear hb); (try clear hb2); (try clear hk); (try clear hi); have hcz19_0 : w18.cell? ⟨gb299, 0, none⟩ = some (.slice A0_0 l0_0.length c0_0) := (blk_cell BK299.out 0).trans rfl; have hfz19_0 := blk_frozen BK299.out 0) | (go_at_call 49; (with_reducible refine (tensilelaw05_fault.calls k _ _ l0_0 _ _ l1 t301 _ ?side1 ?side2 ?side3 ?side4 A6.out).mono ?_); (case side1 => repeat (first | exact (Kd.C_below HR0_0.out HB.out) | (with_reducible refine Kd.C_alloc ?_ _) | (with_reducible refine Kd.C_drewN ?_ _) | (with_reducible refine Kd.C_drew ?_))); (case side2 => exact HC0_0.out); (case side3 => repeat (first | exact (Kd.C_below HR1.out HB.out) | (with_reducible refine Kd.C_alloc ?_ _) | (with_reducible refine Kd.C_drewN ?_ _) | (with_reducible refine Kd.C_drew ?_))); (case side4 => exact HC1.out); rintro e w20 ⟨rfl, hb⟩; have n0_ := Aside0.mk (blk_below (g := gb299) (o := .cells #[.slice A0_0 l0_0.length c0_0] 24 (0, 0)) (by (with_reducible repeat (first | refine blk_drewN ?_ _ | refine blk_drew ?_ | refine blk_alloc ?_ _)); exact BK299.out) hb); have n1_ := Aside0.mk (below_step (by repeat (first | (with_reducible first | exact HB.out | apply below_alloc | apply pw_below_drewN | apply below_drew1 | refine below_set ?_ GE299.out) | exact HB.out)) hb); clear BK299; clear HB; have BK299 := n0_; have HB := n1_; clear n0_ n1_; (try clear hb); (try clear hb2); (try clear hk); (try clear hi)))
   go_ret
   exact ⟨by first | rfl | (simp [errW_none, errW_some] <;> rfl) | (simp [*, errW_none, errW_some] <;> rfl), by repeat (first | (with_reducible first | exact HB.out | apply below_alloc | apply pw_below_drewN | apply below_drew1 | refine below_set ?_ GE299.out) | exact HB.out)⟩
 ·
  replace c5 := Bool.eq_false_iff.mpr c5
  subst c5
  have H1 : (some false) = some r := by rw [if_neg (show ¬ (false = true) by decide)] at H; exact H
  clear H
  have H := H1
  clear H1
  obtain rfl := Option.some.inj H
  go_enter Try.func16, Try.ntmps16
  go_wp2_with (first | ((with_reducible refine gate_dst (N := 3) rfl ?_); refine box_event ?hg (N := 3) ?hd (cs := #[.slice A0_0 l0_0.length c0_0]) (t := 24) ?hr ?_; (case hd => rfl); (case hg => rfl); (case hr => first | (go_simp; done) | (go_simp; rfl)); intro gb299 hg w21 hbox hb; have n0_ := Aside0.mk (below_step (by repeat (first | (with_reducible first | exact HB.out | apply below_alloc | apply pw_below_drewN | apply below_drew1) | exact HB.out)) hb); have n1_ := Aside0.mk (hbox); have n2_ := Aside0.mk ((by rw [hg]; exact (below_size (by repeat (first | (with_reducible first | exact HB.out | apply below_alloc | apply pw_below_drewN | apply below_drew1) | exact HB.out))) : w.heap.size ≤ gb299)); have n3_ := Aside0.mk ((by rw [hg]; exact (below_size (by repeat (first | (with_reducible first | exact HB.out | apply below_alloc | apply pw_below_drewN | apply below_drew1) | exact HB.out))) : w.heap.size ≤ gb299)); clear HB; have HB := n0_; have BK299 := n1_; have GW299 := n2_; have GE299 := n3_; clear n0_ n1_ n2_ n3_; clear hb hbox hg; have hcz22_0 : w21.cell? ⟨gb299, 0, none⟩ = some (.slice A0_0 l0_0.length c0_0) := (blk_cell BK299.out 0).trans rfl; have hfz22_0 := blk_frozen BK299.out 0) | ((with_reducible refine gate_callee (f := 37) rfl ?_); refine goesL_ (some 10) rfl rfl Try.func37 (by kernel_rfl) rfl #[.agg #[.slice A0_0 l0_0.length c0_0], .slice A1 l1.length c1, .slice A2 l2.length c2] rfl (by (try simp only [List.map_toArray, List.map_cons, List.map_nil]); first | done | rfl | (simp only [List.length_drop, List.length_take]; rfl)) ?_; (with_reducible refine (tensilelaw05_Thin.calls k _ _ l0_0 _ _ l1 _ _ l2 false _ ?side1 ?side2 ?side3 ?side4 ?side5 ?side6 A4.out).mono ?_); (case side1 => repeat (first | exact (Kd.C_below HR0_0.out HB.out) | (with_reducible refine Kd.C_alloc ?_ _) | (with_reducible refine Kd.C_drewN ?_ _) | (with_reducible refine Kd.C_drew ?_))); (case side2 => exact HC0_0.out); (case side3 => repeat (first | exact (Kd.C_below HR1.out HB.out) | (with_reducible refine Kd.C_alloc ?_ _) | (with_reducible refine Kd.C_drewN ?_ _) | (with_reducible refine Kd.C_drew ?_))); (case side4 => exact HC1.out); (case side5 => repeat (first | exact (Kd.C_below HR2.out HB.out) | (with_reducible refine Kd.C_alloc ?_ _) | (with_reducible refine Kd.C_drewN ?_ _) | (with_reducible refine Kd.C_drew ?_))); (case side6 => exact HC2.out); rintro e w23 ⟨rfl, hb⟩; refine ⟨_, rfl, ?_⟩; have n0_ := Aside0.mk (blk_below (g := gb299) (o := .cells #[.slice A0_0 l0_0.length c0_0] 24 (0, 0)) (by (with_reducible repeat (first | refine blk_drewN ?_ _ | refine blk_drew ?_ | refine blk_alloc ?_ _)); exact BK299.out) hb); have n1_ := Aside0.mk (below_step (by repeat (first | (with_reducible first | exact HB.out | apply below_alloc | apply pw_below_drewN | apply below_drew1 | refine below_set ?_ GE299.out) | exact HB.out)) hb); clear BK299; clear HB; have BK299 := n0_; have HB := n1_; clear n0_ n1_; (try clear hb); (try clear hb2); (try clear hk); (try clear hi)))
  go_ret
  exact ⟨by first | rfl | (simp [errW_none, errW_some] <;> rfl) | (simp [*, errW_none, errW_some] <;> rfl), by repeat (first | (with_reducible first | exact HB.out | apply below_alloc | apply pw_below_drewN | apply below_drew1 | refine below_set ?_ GE299.out) | exact HB.out)⟩

end Go.Proofs.Ytdagijgoegkphaa.P

namespace Go.Proofs.Ytdagijgoegkphaa.P
open Go.RowKit Go.Proofs.YtdagijgoegkphaaW.PrintWords Go.Proofs.YtdagijgoegkphaaW.PrintLast Go.Proofs.YtdagijgoegkphaaW.PrintMore
attribute [local go_sem] max2_int min2_int max_two min_two max_three min_three max_four min_four   -- for this text's walks alone

/-! ### tensilelaw05_CreepLife: function 10 -/
mutual
def tensilelaw05_CreepLife.j0 : Nat → List (S81) → Int → Int → Bool → List (S54) → Int → Int → Option (Bool)
 | 0, _, _, _, _, _, _, _ => none
 | k + 1, x1, x3, x9, x53, x374000, x386000, x386001 => if x53 = true then ((tensilelaw05_Material.f k x374000).bind fun t387 => ((tensilelaw05_Runs.f k x1).bind fun t390 => ((tensilelaw05_between.f x386001 x386001).bind fun bt393 => ((creep_Stretch.f t387 t390 (([(⟨x9, (⟨bt393.1, bt393.2⟩ : S47)⟩ : S65)] : List (S65)))).bind fun bt398 => (if bt398.2.2 = 0 then (if bt398.1 < (wrap64 (x3)) then (none) else (if x386000 < 0 then (none) else (if x386000 > x386001 then (none) else (tensilelaw05_CreepLife.j1 k x1 x3 x9 x374000 x386000 x386001)))) else (none)))))) else (tensilelaw05_CreepLife.j1 k x1 x3 x9 x374000 x386000 x386001)
def tensilelaw05_CreepLife.j1 : Nat → List (S81) → Int → Int → List (S54) → Int → Int → Option (Bool)
 | 0, _, _, _, _, _, _ => none
 | k + 1, x1, x3, x9, x374000, x386000, x386001 => if (wrap64 (x386000 - 1)) ≥ 0 then (tensilelaw05_CreepLife.j2 k x1 x3 x9 (wrap64 (x386000 - 1)) (decide ((wrap64 (x386000 - 1)) ≤ 1000000)) x374000) else (tensilelaw05_CreepLife.j2 k x1 x3 x9 (wrap64 (x386000 - 1)) false x374000)
def tensilelaw05_CreepLife.j2 : Nat → List (S81) → Int → Int → Int → Bool → List (S54) → Option (Bool)
 | 0, _, _, _, _, _, _ => none
 | k + 1, x1, x3, x9, x14, x99, x374000 => if x99 = true then ((tensilelaw05_Material.f k x374000).bind fun t402 => ((tensilelaw05_Runs.f k x1).bind fun t405 => ((tensilelaw05_between.f x14 x14).bind fun bt408 => ((creep_Stretch.f t402 t405 (([(⟨x9, (⟨bt408.1, bt408.2⟩ : S47)⟩ : S65)] : List (S65)))).bind fun bt413 => (if bt413.2.2 = 0 then (if bt413.2.1 ≥ (wrap64 (x3)) then (none) else ((tensilelaw05_awake.f).bind fun t417 => (some t417))) else (none)))))) else ((tensilelaw05_awake.f).bind fun t418 => (some t418))
end
def tensilelaw05_CreepLife.f (k : Nat) (l0_0 : List (S54)) (l1 : List (S81)) (a2 : Int) (a3 : Int) : Option (Bool) := (tensilelaw05_ready.f k l0_0 l1 ([] : List (S56))).bind fun t374 => (if t374 = true then (if (l0_0.length : Int) = 0 then (none) else ((tensilelaw05_Material.f k l0_0).bind fun t376 => ((tensilelaw05_Runs.f k l1).bind fun t379 => ((creep_Life.f t376 t379 (Int.tmod (wrap64 (a2)) (l0_0.length : Int)) (wrap64 (a3))).bind fun bt382 => (if bt382.2.2 = 0 then (if bt382.2.1 = (-1) then (tensilelaw05_CreepLife.j0 k l1 a3 (Int.tmod (wrap64 (a2)) (l0_0.length : Int)) false l0_0 bt382.1 bt382.2.1) else (tensilelaw05_CreepLife.j0 k l1 a3 (Int.tmod (wrap64 (a2)) (l0_0.length : Int)) (decide (bt382.2.1 ≤ 1000000)) l0_0 bt382.1 bt382.2.1)) else (if bt382.2.2 = 9 then ((tensilelaw05_awake.f).bind fun t386 => (some t386)) else (none))))))) else ((tensilelaw05_awake.f).bind fun t375 => (some t375)))
def tensilelaw05_CreepLife.T8 : Bool × List (List Nat × List Nat) := (true, [([], []), ([0], [0]), ([], []), ([2, 1], [2]), ([], []), ([], []), ([5], [5]), ([], []), ([7], [7]), ([6, 8, 3], [6, 8]), ([4, 9], [4, 9]), ([10], [10]), ([1, 3, 11, 9], [1, 3, 11]), ([12], [12]), ([13], [13]), ([13], [13]), ([], []), ([16, 14, 12, 0, 1, 2, 3, 4, 5, 6, 7, 8, 9, 10, 11, 12, 13, 14, 16], [14, 16]), ([15, 17, 0, 1, 2, 3, 4, 5, 6, 7, 8, 9, 10, 11, 12, 13, 14, 15, 16, 17], [15])])
def tensilelaw05_CreepLife.B8 : List Nat := [0, 1, 0, 7, 0, 0, 32, 0, 128, 495, 1023, 2047, 4095, 8191, 16383, 16383, 0, 98303, 262143]
theorem tensilelaw05_CreepLife.tab8 : rtab .any (opsOf Try.f10 8) = tensilelaw05_CreepLife.T8 := by kernel_rfl
theorem tensilelaw05_CreepLife.bits8 : waitsOk tensilelaw05_CreepLife.T8.2 tensilelaw05_CreepLife.B8 = true := by kernel_rfl
set_option maxHeartbeats 8000000 in
set_option maxRecDepth 100000 in
theorem tensilelaw05_CreepLife.calls (k : Nat) (A0_0 : Option Addr) (c0_0 : Nat) (l0_0 : List (S54)) (A1 : Option Addr) (c1 : Nat) (l1 : List (S81)) (a2 : Int) (a3 : Int) (r : Bool) (w : World) (hr0_0 : Kd.C k54 w A0_0 l0_0.length l0_0) (hc0_0 : l0_0.length ≤ c0_0) (hr1 : Kd.C k81 w A1 l1.length l1) (hc1 : l1.length ≤ c1) (h : tensilelaw05_CreepLife.f k l0_0 l1 a2 a3 = some r) :
  Calls Try.prog 10 #[.agg #[.slice A0_0 l0_0.length c0_0], .slice A1 l1.length c1, .int .u8 a2, .int .u32 a3] w fun e w' => e = .returned (.bool r) ∧ Below w.heap.size w w' := by
 have hu24 := Try.underlying24
 have hu47 := Try.underlying47
 have hu65 := Try.underlying65
 have HR0_0 := Aside0.mk hr0_0
 have HC0_0 := Aside0.mk hc0_0
 clear hr0_0 hc0_0
 have HR1 := Aside0.mk hr1
 have HC1 := Aside0.mk hc1
 clear hr1 hc1
 have HB := Aside0.mk (Below.refl w.heap.size w)
 have H : ((tensilelaw05_ready.f k l0_0 l1 ([] : List (S56))).bind fun t374 => (if t374 = true then (if (l0_0.length : Int) = 0 then (none) else ((tensilelaw05_Material.f k l0_0).bind fun t376 => ((tensilelaw05_Runs.f k l1).bind fun t379 => ((creep_Life.f t376 t379 (Int.tmod (wrap64 (a2)) (l0_0.length : Int)) (wrap64 (a3))).bind fun bt382 => (if bt382.2.2 = 0 then (if bt382.2.1 = (-1) then (tensilelaw05_CreepLife.j0 k l1 a3 (Int.tmod (wrap64 (a2)) (l0_0.length : Int)) false l0_0 bt382.1 bt382.2.1) else (tensilelaw05_CreepLife.j0 k l1 a3 (Int.tmod (wrap64 (a2)) (l0_0.length : Int)) (decide (bt382.2.1 ≤ 1000000)) l0_0 bt382.1 bt382.2.1)) else (if bt382.2.2 = 9 then ((tensilelaw05_awake.f).bind fun t386 => (some t386)) else (none))))))) else ((tensilelaw05_awake.f).bind fun t375 => (some t375)))) = some r := h
 clear h
 replace H := Option.bind_eq_some_iff.mp H
 obtain ⟨t374, A50, H⟩ := H
 replace H : (if t374 = true then (if (l0_0.length : Int) = 0 then (none) else ((tensilelaw05_Material.f k l0_0).bind fun t376 => ((tensilelaw05_Runs.f k l1).bind fun t379 => ((creep_Life.f t376 t379 (Int.tmod (wrap64 (a2)) (l0_0.length : Int)) (wrap64 (a3))).bind fun bt382 => (if bt382.2.2 = 0 then (if bt382.2.1 = (-1) then (tensilelaw05_CreepLife.j0 k l1 a3 (Int.tmod (wrap64 (a2)) (l0_0.length : Int)) false l0_0 bt382.1 bt382.2.1) else (tensilelaw05_CreepLife.j0 k l1 a3 (Int.tmod (wrap64 (a2)) (l0_0.length : Int)) (decide (bt382.2.1 ≤ 1000000)) l0_0 bt382.1 bt382.2.1)) else (if bt382.2.2 = 9 then ((tensilelaw05_awake.f).bind fun t386 => (some t386)) else (none))))))) else ((tensilelaw05_awake.f).bind fun t375 => (some t375))) = some r := H
 have A5 := Aside0.mk A50
 clear A50
 by_cases c6 : t374 = true
 ·
  subst c6
  have H1 : (if (l0_0.length : Int) = 0 then (none) else ((tensilelaw05_Material.f k l0_0).bind fun t376 => ((tensilelaw05_Runs.f k l1).bind fun t379 => ((creep_Life.f t376 t379 (Int.tmod (wrap64 (a2)) (l0_0.length : Int)) (wrap64 (a3))).bind fun bt382 => (if bt382.2.2 = 0 then (if bt382.2.1 = (-1) then (tensilelaw05_CreepLife.j0 k l1 a3 (Int.tmod (wrap64 (a2)) (l0_0.length : Int)) false l0_0 bt382.1 bt382.2.1) else (tensilelaw05_CreepLife.j0 k l1 a3 (Int.tmod (wrap64 (a2)) (l0_0.length : Int)) (decide (bt382.2.1 ≤ 1000000)) l0_0 bt382.1 bt382.2.1)) else (if bt382.2.2 = 9 then ((tensilelaw05_awake.f).bind fun t386 => (some t386)) else (none))))))) = some r := by rw [if_pos rfl] at H; exact H
  clear H
  have H := H1
  clear H1
  by_cases c7 : (l0_0.length : Int) = 0
  ·
   rw [if_pos c7] at H
   exact absurd H (by simp)
  ·
   rw [if_neg c7] at H
   have c7b0 : ((l0_0.length : Int) == 0) = false := beq_eq_false_iff_ne.mpr c7
   have c7b1 : ((l0_0.length : Int) != 0) = true := bne_iff_ne.mpr c7
   have c7b2 : ¬ (l0_0 = []) := fun h_ => c7 (by rw [h_]; rfl)
   replace H := Option.bind_eq_some_iff.mp H
   obtain ⟨t376, A80, H⟩ := H
   replace H : ((tensilelaw05_Runs.f k l1).bind fun t379 => ((creep_Life.f t376 t379 (Int.tmod (wrap64 (a2)) (l0_0.length : Int)) (wrap64 (a3))).bind fun bt382 => (if bt382.2.2 = 0 then (if bt382.2.1 = (-1) then (tensilelaw05_CreepLife.j0 k l1 a3 (Int.tmod (wrap64 (a2)) (l0_0.length : Int)) false l0_0 bt382.1 bt382.2.1) else (tensilelaw05_CreepLife.j0 k l1 a3 (Int.tmod (wrap64 (a2)) (l0_0.length : Int)) (decide (bt382.2.1 ≤ 1000000)) l0_0 bt382.1 bt382.2.1)) else (if bt382.2.2 = 9 then ((tensilelaw05_awake.f).bind fun t386 => (some t386)) else (none))))) = some r := H
   have A8 := Aside0.mk A80
   clear A80
   replace H := Option.bind_eq_some_iff.mp H
   obtain ⟨t379, A90, H⟩ := H
   replace H : ((creep_Life.f t376 t379 (Int.tmod (wrap64 (a2)) (l0_0.length : Int)) (wrap64 (a3))).bind fun bt382 => (if bt382.2.2 = 0 then (if bt382.2.1 = (-1) then (tensilelaw05_CreepLife.j0 k l1 a3 (Int.tmod (wrap64 (a2)) (l0_0.length : Int)) false l0_0 bt382.1 bt382.2.1) else (tensilelaw05_CreepLife.j0 k l1 a3 (Int.tmod (wrap64 (a2)) (l0_0.length : Int)) (decide (bt382.2.1 ≤ 1000000)) l0_0 bt382.1 bt382.2.1)) else (if bt382.2.2 = 9 then ((tensilelaw05_awake.f).bind fun t386 => (some t386)) else (none)))) = some r := H
   have A9 := Aside0.mk A90
   clear A90
   replace H := Option.bind_eq_some_iff.mp H
   obtain ⟨⟨t382, t383, t384⟩, A100, H⟩ := H
   replace H : (if t384 = 0 then (if t383 = (-1) then (tensilelaw05_CreepLife.j0 k l1 a3 (Int.tmod (wrap64 (a2)) (l0_0.length : Int)) false l0_0 t382 t383) else (tensilelaw05_CreepLife.j0 k l1 a3 (Int.tmod (wrap64 (a2)) (l0_0.length : Int)) (decide (t383 ≤ 1000000)) l0_0 t382 t383)) else (if t384 = 9 then ((tensilelaw05_awake.f).bind fun t386 => (some t386)) else (none))) = some r := H
   have A10 := Aside0.mk A100
   clear A100
   by_cases c11 : t384 = 0
   ·
    rw [if_pos c11] at H
    have c11b0 : (t384 == 0) = true := beq_iff_eq.mpr c11
    have c11b1 : (t384 != 0) = false := bne_eq_false_iff_eq.mpr c11
    clear c11
    have HC12 := Aside0.mk H
    clear H
    go_enter Try.func10, Try.ntmps10
    go_upto_region 7 with (first | ((with_reducible refine gate_dst (N := 4) rfl ?_); refine box_event ?hg (N := 4) ?hd (cs := #[.slice A0_0 l0_0.length c0_0]) (t := 24) ?hr ?_; (case hd => rfl); (case hg => rfl); (case hr => first | (go_simp; done) | (go_simp; rfl)); intro gb373 hg w13 hbox hb; have n0_ := Aside0.mk (below_step (by repeat (first | (with_reducible first | exact HB.out | apply below_alloc | apply pw_below_drewN | apply below_drew1) | exact HB.out)) hb); have n1_ := Aside0.mk (hbox); have n2_ := Aside0.mk ((by rw [hg]; exact (below_size (by repeat (first | (with_reducible first | exact HB.out | apply below_alloc | apply pw_below_drewN | apply below_drew1) | exact HB.out))) : w.heap.size ≤ gb373)); have n3_ := Aside0.mk ((by rw [hg]; exact (below_size (by repeat (first | (with_reducible first | exact HB.out | apply below_alloc | apply pw_below_drewN | apply below_drew1) | exact HB.out))) : w.heap.size ≤ gb373)); clear HB; have HB := n0_; have BK373 := n1_; have GW373 := n2_; have GE373 := n3_; clear n0_ n1_ n2_ n3_; clear hb hbox hg; have hcz14_0 : w13.cell? ⟨gb373, 0, none⟩ = some (.slice A0_0 l0_0.length c0_0) := (blk_cell BK373.out 0).trans rfl; have hfz14_0 := blk_frozen BK373.out 0) | ((with_reducible refine gate_callee (f := 16) rfl ?_); refine goesL_ (some 19) rfl rfl Try.func16 (by kernel_rfl) rfl #[.agg #[.slice A0_0 l0_0.length c0_0], .slice A1 l1.length c1, .slice none 0 0] rfl (by (try simp only [List.map_toArray, List.map_cons, List.map_nil]); first | done | rfl | (simp only [List.length_drop, List.length_take]; rfl)) ?_; (refine (tensilelaw05_ready.calls k _ _ l0_0 _ _ l1 _ _ ([] : List (S56)) true _ ?side1 ?side2 ?side3 ?side4 ?side5 ?side6 A5.out).mono ?_); (case side1 => repeat (first | exact (Kd.C_below HR0_0.out HB.out) | (with_reducible refine Kd.C_alloc ?_ _) | (with_reducible refine Kd.C_drewN ?_ _) | (with_reducible refine Kd.C_drew ?_))); (case side2 => exact HC0_0.out); (case side3 => repeat (first | exact (Kd.C_below HR1.out HB.out) | (with_reducible refine Kd.C_alloc ?_ _) | (with_reducible refine Kd.C_drewN ?_ _) | (with_reducible refine Kd.C_drew ?_))); (case side4 => exact HC1.out); (case side5 => exact Kd.C_nil _ _); (case side6 => exact Nat.le_refl _); rintro e w15 ⟨rfl, hb⟩; refine ⟨_, rfl, ?_⟩; have n0_ := Aside0.mk (blk_below (g := gb373) (o := .cells #[.slice A0_0 l0_0.length c0_0] 24 (0, 0)) (by (with_reducible repeat (first | refine blk_drewN ?_ _ | refine blk_drew ?_ | refine blk_alloc ?_ _)); exact BK373.out) hb); have n1_ := Aside0.mk (below_step (by repeat (first | (with_reducible first | exact HB.out | apply below_alloc | apply pw_below_drewN | apply below_drew1 | refine below_set ?_ GE373.out) | exact HB.out)) hb); clear BK373; clear HB; have BK373 := n0_; have HB := n1_; clear n0_ n1_; (try clear hb); (try clear hb2); (try clear hk); (try clear hi); have hcz16_0 : w15.cell? ⟨gb373, 0, none⟩ = some (.slice A0_0 l0_0.length c0_0) := (blk_cell BK373.out 0).trans rfl; have hfz16_0 := blk_frozen BK373.out 0) | ((with_reducible refine gate_callee (f := 21) rfl ?_); refine goesL_ (some 30) rfl rfl Try.func21 (by kernel_rfl) rfl #[.agg #[.slice A0_0 l0_0.length c0_0]] rfl (by (try simp only [List.map_toArray, List.map_cons, List.map_nil]); first | done | rfl | (simp only [List.length_drop, List.length_take]; rfl)) ?_; (with_reducible refine (tensilelaw05_Material.calls k _ _ l0_0 t376 _ ?side1 ?side2 A8.out).mono ?_); (case side1 => repeat (first | exact (Kd.C_below HR0_0.out HB.out) | (with_reducible refine Kd.C_alloc ?_ _) | (with_reducible refine Kd.C_drewN ?_ _) | (with_reducible refine Kd.C_drew ?_))); (case side2 => exact HC0_0.out); rintro e w17 ⟨v377, rfl, ho0, hb⟩; refine ⟨_, rfl, ?_⟩; have n0_ := Aside0.mk (Kd.R_lower ho0 (below_size (by repeat (first | (with_reducible first | exact HB.out | apply below_alloc | apply pw_below_drewN | apply below_drew1 | refine below_set ?_ GE373.out) | exact HB.out)))); have n1_ := Aside0.mk (blk_below (g := gb373) (o := .cells #[.slice A0_0 l0_0.length c0_0] 24 (0, 0)) (by (with_reducible repeat (first | refine blk_drewN ?_ _ | refine blk_drew ?_ | refine blk_alloc ?_ _)); exact BK373.out) hb); have n2_ := Aside0.mk (below_step (by repeat (first | (with_reducible first | exact HB.out | apply below_alloc | apply pw_below_drewN | apply below_drew1 | refine below_set ?_ GE373.out) | exact HB.out)) hb); clear BK373; clear HB; have HO378 := n0_; have BK373 := n1_; have HB := n2_; clear n0_ n1_ n2_; (try clear hb); (try clear hb2); (try clear hk); (try clear hi); (try clear ho0)) | ((with_reducible refine gate_callee (f := 22) rfl ?_); refine goesL_ (some 32) rfl rfl Try.func22 (by kernel_rfl) rfl #[.slice A1 l1.length c1] rfl (by (try simp only [List.map_toArray, List.map_cons, List.map_nil]); first | done | rfl | (simp only [List.length_drop, List.length_take]; rfl)) ?_; (with_reducible refine (tensilelaw05_Runs.calls k _ _ l1 t379 _ ?side1 ?side2 A9.out).mono ?_); (case side1 => repeat (first | exact (Kd.C_below HR1.out HB.out) | (with_reducible refine Kd.C_alloc ?_ _) | (with_reducible refine Kd.C_drewN ?_ _) | (with_reducible refine Kd.C_drew ?_))); (case side2 => exact HC1.out); rintro e w18 ⟨v380, rfl, ho0, hb⟩; refine ⟨_, rfl, ?_⟩; have n0_ := Aside0.mk (Kd.R_below (by (with_reducible repeat (first | apply Kd.R_alloc | apply Kd.R_drewN | apply Kd.R_drew)); exact HO378.out) hb); have n1_ := Aside0.mk (Kd.S_lower ho0 (below_size (by repeat (first | (with_reducible first | exact HB.out | apply below_alloc | apply pw_below_drewN | apply below_drew1 | refine below_set ?_ GE373.out) | exact HB.out)))); have n2_ := Aside0.mk (blk_below (g := gb373) (o := .cells #[.slice A0_0 l0_0.length c0_0] 24 (0, 0)) (by (with_reducible repeat (first | refine blk_drewN ?_ _ | refine blk_drew ?_ | refine blk_alloc ?_ _)); exact BK373.out) hb); have n3_ := Aside0.mk (below_step (by repeat (first | (with_reducible first | exact HB.out | apply below_alloc | apply pw_below_drewN | apply below_drew1 | refine below_set ?_ GE373.out) | exact HB.out)) hb); clear HO378; clear BK373; clear HB; have HO378 := n0_; have HO381 := n1_; have BK373 := n2_; have HB := n3_; clear n0_ n1_ n2_ n3_; (try clear hb); (try clear hb2); (try clear hk); (try clear hi); (try clear ho0); obtain ⟨Ao19, co19, eo19⟩ := Kd.R_slice HO378.out; subst eo19; obtain ⟨Ao20, co20, eo20⟩ := Kd.S_slice HO381.out; subst eo20) | ((with_reducible refine gate_callee (f := 29) rfl ?_); refine goesL_ (some 36) rfl rfl Try.func29 (by kernel_rfl) rfl #[.agg #[.slice Ao19 t376.length co19], .slice Ao20 t379.length co20, .int .i64 (Int.tmod (wrap64 (a2)) (l0_0.length : Int)), .int .i64 (wrap64 (a3))] rfl (by (try simp only [List.map_toArray, List.map_cons, List.map_nil]); first | done | rfl | (simp only [List.length_drop, List.length_take]; rfl)) ?_; (with_reducible refine (creep_Life.calls _ _ t376 _ _ t379 (Int.tmod (wrap64 (a2)) (l0_0.length : Int)) (wrap64 (a3)) t382 t383 t384 _ ?side1 ?side2 ?side3 ?side4 A10.out).mono ?_); (case side1 => repeat (first | exact (Kd.R_reads' HO378.out).2.2 | (with_reducible refine Kd.C_alloc ?_ _) | (with_reducible refine Kd.C_drewN ?_ _) | (with_reducible refine Kd.C_drew ?_))); (case side2 => exact (Kd.R_reads' HO378.out).2.1); (case side3 => repeat (first | exact (Kd.S_reads' HO381.out).2.2 | (with_reducible refine Kd.C_alloc ?_ _) | (with_reducible refine Kd.C_drewN ?_ _) | (with_reducible refine Kd.C_drew ?_))); (case side4 => exact (Kd.S_reads' HO381.out).2.1); rintro e w21 ⟨rfl, hb⟩; refine ⟨_, rfl, ?_⟩; have n0_ := Aside0.mk (Kd.R_below (by (with_reducible repeat (first | apply Kd.R_alloc | apply Kd.R_drewN | apply Kd.R_drew)); exact HO378.out) hb); have n1_ := Aside0.mk (Kd.S_below (by (with_reducible repeat (first | apply Kd.S_alloc | apply Kd.S_drewN | apply Kd.S_drew)); exact HO381.out) hb); have n2_ := Aside0.mk (blk_below (g := gb373) (o := .cells #[.slice A0_0 l0_0.length c0_0] 24 (0, 0)) (by (with_reducible repeat (first | refine blk_drewN ?_ _ | refine blk_drew ?_ | refine blk_alloc ?_ _)); exact BK373.out) hb); have n3_ := Aside0.mk (below_step (by repeat (first | (with_reducible first | exact HB.out | apply below_alloc | apply pw_below_drewN | apply below_drew1 | refine below_set ?_ GE373.out) | exact HB.out)) hb); clear HO378; clear HO381; clear BK373; clear HB; have HO378 := n0_; have HO381 := n1_; have BK373 := n2_; have HB := n3_; clear n0_ n1_ n2_ n3_; (try clear hb); (try clear hb2); (try clear hk); (try clear hi)) | ((with_reducible refine gate_dst (N := 10) rfl ?_); refine box_event ?hg (N := 10) ?hd (cs := #[.int .i64 0, .int .i64 0]) (t := 47) ?hr ?_; (case hd => rfl); (case hg => rfl); (case hr => first | (go_simp; done) | (go_simp; rfl)); intro gb385 hg w22 hbox hb; have n0_ := Aside0.mk (Kd.R_below (Kd.R_elderB (by (with_reducible repeat (first | apply Kd.R_alloc | apply Kd.R_drewN | apply Kd.R_drew)); exact HO378.out) gb385 (Nat.le_of_eq hg.symm)) hb); have n1_ := Aside0.mk (Kd.S_below (by (with_reducible repeat (first | apply Kd.S_alloc | apply Kd.S_drewN | apply Kd.S_drew)); exact HO381.out) hb); have n2_ := Aside0.mk (blk_below (g := gb373) (o := .cells #[.slice A0_0 l0_0.length c0_0] 24 (0, 0)) (by (with_reducible repeat (first | refine blk_drewN ?_ _ | refine blk_drew ?_ | refine blk_alloc ?_ _)); exact BK373.out) hb); have n3_ := Aside0.mk (below_step (by repeat (first | (with_reducible first | exact HB.out | apply below_alloc | apply pw_below_drewN | apply below_drew1 | refine below_set ?_ GE373.out) | exact HB.out)) hb); have n4_ := Aside0.mk (hbox); have n5_ := Aside0.mk ((by rw [hg]; exact (below_size (by repeat (first | (with_reducible first | exact HB.out | apply below_alloc | apply pw_below_drewN | apply below_drew1 | refine below_set ?_ GE373.out) | exact HB.out))) : w.heap.size ≤ gb385)); have n6_ := Aside0.mk ((by rw [hg]; exact (below_size (by repeat (first | (with_reducible first | exact HB.out | apply below_alloc | apply pw_below_drewN | apply below_drew1 | refine below_set ?_ GE373.out) | exact HB.out))) : w.heap.size ≤ gb385)); have n7_ := Aside0.mk ((by rw [hg]; exact Nat.ne_of_lt (blk_lt (g := gb373) (o := .cells #[.slice A0_0 l0_0.length c0_0] 24 (0, 0)) (by (with_reducible repeat (first | refine blk_drewN ?_ _ | refine blk_drew ?_ | refine blk_alloc ?_ _)); exact BK373.out)) : gb373 ≠ gb385)); have n8_ := Aside0.mk ((by rw [hg]; exact Nat.ne_of_gt (blk_lt (g := gb373) (o := .cells #[.slice A0_0 l0_0.length c0_0] 24 (0, 0)) (by (with_reducible repeat (first | refine blk_drewN ?_ _ | refine blk_drew ?_ | refine blk_alloc ?_ _)); exact BK373.out)) : gb385 ≠ gb373)); clear HO378; clear HO381; clear BK373; clear HB; have HO378 := n0_; have HO381 := n1_; have BK373 := n2_; have HB := n3_; have BK385 := n4_; have GW385 := n5_; have GE385 := n6_; have NB373_385 := n7_; have NB385_373 := n8_; clear n0_ n1_ n2_ n3_ n4_ n5_ n6_ n7_ n8_; clear hb hbox hg; have hnb23 := NB385_373.out; have hnc23 := NB373_385.out; have hcz24_0 : w22.cell? ⟨gb385, 0, none⟩ = some (.int .i64 0) := (blk_cell BK385.out 0).trans rfl; have hcz24_1 : w22.cell? ⟨gb385, 1, none⟩ = some (.int .i64 0) := (blk_cell BK385.out 1).trans rfl; have hfz24_0 := blk_frozen BK385.out 0; have hfz24_1 := blk_frozen BK385.out 1))
    (try simp only [Act.put, List.setIfInBounds_toArray, List.set_cons_zero, List.set_cons_succ])
    go_cut [53] (fun v53 wc => ∃ (kq : Nat) (x53_11 : Bool), v53 = .bool x53_11 ∧ Aside0 (tensilelaw05_CreepLife.j0 kq l1 a3 (Int.tmod (wrap64 (a2)) (l0_0.length : Int)) x53_11 l0_0 t382 t383 = some r) ∧ Aside0 (kq ≤ k) ∧ Aside0 (wc.heap[gb373]? = some (.cells #[(.slice A0_0 l0_0.length c0_0)] 24 (0, 0))) ∧ Aside0 (wc.heap[gb385]? = some (.cells #[.int .i64 t382, .int .i64 t383] 47 (0, 0))) ∧ Aside0 (Below w.heap.size w wc))
    case first =>
     have H := HC12.out
     clear HC12
     by_cases c25 : t383 = (-1)
     ·
      rw [if_pos c25] at H
      have c25b0 : (t383 == (-1)) = true := beq_iff_eq.mpr c25
      have c25b1 : (t383 != (-1)) = false := bne_eq_false_iff_eq.mpr c25
      clear c25
      (first | rw [c25b0] | (simp only [i64_w, i32_w]; rw [c25b0]) | skip)
      have H' := Aside0.mk H
      clear H
      have hnb26 := NB385_373.out
      have hnc26 := NB373_385.out
      have hcz27_0 : w22.cell? ⟨gb385, 0, none⟩ = some (.int .i64 0) := (blk_cell BK385.out 0).trans rfl
      have hcz27_1 : w22.cell? ⟨gb385, 1, none⟩ = some (.int .i64 0) := (blk_cell BK385.out 1).trans rfl
      have hfz27_0 := blk_frozen BK385.out 0
      have hfz27_1 := blk_frozen BK385.out 1
      go_wp2
      go_meet
      case rel => exact ⟨_, (false), (by first | rfl | (simp; done) | (simp [*]; done)), H', ⟨by first | omega | exact Nat.le_refl _⟩, ⟨by (with_reducible repeat (first | refine blk_drewN ?_ _ | refine blk_drew ?_ | refine blk_alloc ?_ _)); refine blk_far ?_ NB373_385.out _; (with_reducible repeat (first | refine blk_drewN ?_ _ | refine blk_drew ?_ | refine blk_alloc ?_ _)); refine blk_far ?_ NB373_385.out _; (with_reducible repeat (first | refine blk_drewN ?_ _ | refine blk_drew ?_ | refine blk_alloc ?_ _)); exact BK373.out⟩, ⟨by (with_reducible repeat (first | refine blk_drewN ?_ _ | refine blk_drew ?_ | refine blk_alloc ?_ _)); refine blk_put (cs := #[.int .i64 t382, .int .i64 0]) ?_ 1 _ rfl; (with_reducible repeat (first | refine blk_drewN ?_ _ | refine blk_drew ?_ | refine blk_alloc ?_ _)); refine blk_put (cs := #[.int .i64 0, .int .i64 0]) ?_ 0 _ rfl; (with_reducible repeat (first | refine blk_drewN ?_ _ | refine blk_drew ?_ | refine blk_alloc ?_ _)); exact BK385.out⟩, ⟨by repeat (first | (with_reducible first | exact HB.out | apply below_alloc | apply pw_below_drewN | apply below_drew1 | refine below_set ?_ GE373.out | refine below_set ?_ GE385.out) | exact HB.out)⟩⟩
     ·
      rw [if_neg c25] at H
      have c25b0 : (t383 == (-1)) = false := beq_eq_false_iff_ne.mpr c25
      have c25b1 : (t383 != (-1)) = true := bne_iff_ne.mpr c25
      (first | rw [c25b0] | (simp only [i64_w, i32_w]; rw [c25b0]) | skip)
      have H' := Aside0.mk H
      clear H
      have hnb28 := NB385_373.out
      have hnc28 := NB373_385.out
      have hcz29_0 : w22.cell? ⟨gb385, 0, none⟩ = some (.int .i64 0) := (blk_cell BK385.out 0).trans rfl
      have hcz29_1 : w22.cell? ⟨gb385, 1, none⟩ = some (.int .i64 0) := (blk_cell BK385.out 1).trans rfl
      have hfz29_0 := blk_frozen BK385.out 0
      have hfz29_1 := blk_frozen BK385.out 1
      go_wp2
      go_meet
      case rel => exact ⟨_, (decide (t383 ≤ 1000000)), (by first | rfl | (simp; done) | (simp [*]; done)), H', ⟨by first | omega | exact Nat.le_refl _⟩, ⟨by (with_reducible repeat (first | refine blk_drewN ?_ _ | refine blk_drew ?_ | refine blk_alloc ?_ _)); refine blk_far ?_ NB373_385.out _; (with_reducible repeat (first | refine blk_drewN ?_ _ | refine blk_drew ?_ | refine blk_alloc ?_ _)); refine blk_far ?_ NB373_385.out _; (with_reducible repeat (first | refine blk_drewN ?_ _ | refine blk_drew ?_ | refine blk_alloc ?_ _)); exact BK373.out⟩, ⟨by (with_reducible repeat (first | refine blk_drewN ?_ _ | refine blk_drew ?_ | refine blk_alloc ?_ _)); refine blk_put (cs := #[.int .i64 t382, .int .i64 0]) ?_ 1 _ rfl; (with_reducible repeat (first | refine blk_drewN ?_ _ | refine blk_drew ?_ | refine blk_alloc ?_ _)); refine blk_put (cs := #[.int .i64 0, .int .i64 0]) ?_ 0 _ rfl; (with_reducible repeat (first | refine blk_drewN ?_ _ | refine blk_drew ?_ | refine blk_alloc ?_ _)); exact BK385.out⟩, ⟨by repeat (first | (with_reducible first | exact HB.out | apply below_alloc | apply pw_below_drewN | apply below_drew1 | refine below_set ?_ GE373.out | refine below_set ?_ GE385.out) | exact HB.out)⟩⟩
    case rest =>
     clear HC12
     try clear c1
     try clear c2
     try clear p2
     try clear c6
     try clear p6
     try clear c7
     try clear c7b0
     try clear c7b1
     try clear c7b2
     try clear c10
     try clear c11
     try clear c11b0
     try clear c11b1
     try clear c16
     try clear c21
     try clear c22
     try clear c23
     try clear c25
     try clear c25b0
     try clear c25b1
     try clear c26
     try clear c28
     try clear c29
     try clear hcz14_0
     try clear hcz16_0
     try clear hcz24_0
     try clear hcz24_1
     try clear hcz27_0
     try clear hcz27_1
     try clear hcz29_0
     try clear hcz29_1
     try clear hfz14_0
     try clear hfz16_0
     try clear hfz24_0
     try clear hfz24_1
     try clear hfz27_0
     try clear hfz27_1
     try clear hfz29_0
     try clear hfz29_1
     obtain ⟨kq, x53_11, rfl, HA, HJ11, BK373, BK385, HB⟩ := hcut
     cases kq with
     | zero => exact absurd HA.out (by simp [tensilelaw05_CreepLife.j0])
     | succ kj11 =>
      have H := HA.out
      clear HA
      simp only [tensilelaw05_CreepLife.j0] at H
      have HC30 := Aside0.mk H
      clear H
      go_upto_if 53 with (fail)
      go_cut [] (fun wc => ∃ (kq : Nat), Aside0 (tensilelaw05_CreepLife.j1 kq l1 a3 (Int.tmod (wrap64 (a2)) (l0_0.length : Int)) l0_0 t382 t383 = some r) ∧ Aside0 (kq ≤ kj11) ∧ Aside0 (wc.heap[gb373]? = some (.cells #[(.slice A0_0 l0_0.length c0_0)] 24 (0, 0))) ∧ Aside0 (wc.heap[gb385]? = some (.cells #[.int .i64 t382, .int .i64 t383] 47 (0, 0))) ∧ Aside0 (Below w.heap.size w wc))
      case first =>
       have H := HC30.out
       clear HC30
       by_cases c31 : x53_11 = true
       ·
        subst c31
        have H1 : ((tensilelaw05_Material.f kj11 l0_0).bind fun t387 => ((tensilelaw05_Runs.f kj11 l1).bind fun t390 => ((tensilelaw05_between.f t383 t383).bind fun bt393 => ((creep_Stretch.f t387 t390 (([(⟨(Int.tmod (wrap64 (a2)) (l0_0.length : Int)), (⟨bt393.1, bt393.2⟩ : S47)⟩ : S65)] : List (S65)))).bind fun bt398 => (if bt398.2.2 = 0 then (if bt398.1 < (wrap64 (a3)) then (none) else (if t382 < 0 then (none) else (if t382 > t383 then (none) else (tensilelaw05_CreepLife.j1 kj11 l1 a3 (Int.tmod (wrap64 (a2)) (l0_0.length : Int)) l0_0 t382 t383)))) else (none)))))) = some r := by rw [if_pos rfl] at H; exact H
        clear H
        have H := H1
        clear H1
        replace H := Option.bind_eq_some_iff.mp H
        obtain ⟨t387, A320, H⟩ := H
        replace H : ((tensilelaw05_Runs.f kj11 l1).bind fun t390 => ((tensilelaw05_between.f t383 t383).bind fun bt393 => ((creep_Stretch.f t387 t390 (([(⟨(Int.tmod (wrap64 (a2)) (l0_0.length : Int)), (⟨bt393.1, bt393.2⟩ : S47)⟩ : S65)] : List (S65)))).bind fun bt398 => (if bt398.2.2 = 0 then (if bt398.1 < (wrap64 (a3)) then (none) else (if t382 < 0 then (none) else (if t382 > t383 then (none) else (tensilelaw05_CreepLife.j1 kj11 l1 a3 (Int.tmod (wrap64 (a2)) (l0_0.length : Int)) l0_0 t382 t383)))) else (none))))) = some r := H
        have A32 := Aside0.mk A320
        clear A320
        replace H := Option.bind_eq_some_iff.mp H
        obtain ⟨t390, A330, H⟩ := H
        replace H : ((tensilelaw05_between.f t383 t383).bind fun bt393 => ((creep_Stretch.f t387 t390 (([(⟨(Int.tmod (wrap64 (a2)) (l0_0.length : Int)), (⟨bt393.1, bt393.2⟩ : S47)⟩ : S65)] : List (S65)))).bind fun bt398 => (if bt398.2.2 = 0 then (if bt398.1 < (wrap64 (a3)) then (none) else (if t382 < 0 then (none) else (if t382 > t383 then (none) else (tensilelaw05_CreepLife.j1 kj11 l1 a3 (Int.tmod (wrap64 (a2)) (l0_0.length : Int)) l0_0 t382 t383)))) else (none)))) = some r := H
        have A33 := Aside0.mk A330
        clear A330
        replace H := Option.bind_eq_some_iff.mp H
        obtain ⟨⟨t393, t394⟩, A340, H⟩ := H
        replace H : ((creep_Stretch.f t387 t390 (([(⟨(Int.tmod (wrap64 (a2)) (l0_0.length : Int)), (⟨t393, t394⟩ : S47)⟩ : S65)] : List (S65)))).bind fun bt398 => (if bt398.2.2 = 0 then (if bt398.1 < (wrap64 (a3)) then (none) else (if t382 < 0 then (none) else (if t382 > t383 then (none) else (tensilelaw05_CreepLife.j1 kj11 l1 a3 (Int.tmod (wrap64 (a2)) (l0_0.length : Int)) l0_0 t382 t383)))) else (none))) = some r := H
        have A34 := Aside0.mk A340
        clear A340
        obtain ⟨y395, hy395⟩ : ∃ y_ : List (S65), y_ = (([(⟨(Int.tmod (wrap64 (a2)) (l0_0.length : Int)), (⟨t393, t394⟩ : S47)⟩ : S65)] : List (S65))) := ⟨_, rfl⟩
        replace H : ((creep_Stretch.f t387 t390 y395).bind fun bt398 => (if bt398.2.2 = 0 then (if bt398.1 < (wrap64 (a3)) then (none) else (if t382 < 0 then (none) else (if t382 > t383 then (none) else (tensilelaw05_CreepLife.j1 kj11 l1 a3 (Int.tmod (wrap64 (a2)) (l0_0.length : Int)) l0_0 t382 t383)))) else (none))) = some r := by first | (rw [hy395]; with_reducible exact H) | (have H2_ := (Option.bind_some _ _).symm.trans H; rw [hy395]; with_reducible exact H2_) | (have H2_ := (Option.bind_some _ _).symm.trans H; with_reducible exact H2_) | with_reducible exact H | (rw [hy395]; exact H) | exact H
        have Ny395 := Aside0.mk hy395
        clear hy395
        replace H := Option.bind_eq_some_iff.mp H
        obtain ⟨⟨t398, t399, t400⟩, A350, H⟩ := H
        replace H : (if t400 = 0 then (if t398 < (wrap64 (a3)) then (none) else (if t382 < 0 then (none) else (if t382 > t383 then (none) else (tensilelaw05_CreepLife.j1 kj11 l1 a3 (Int.tmod (wrap64 (a2)) (l0_0.length : Int)) l0_0 t382 t383)))) else (none)) = some r := H
        have A35 := Aside0.mk A350
        clear A350
        by_cases c36 : t400 = 0
        ·
         rw [if_pos c36] at H
         have c36b0 : (t400 == 0) = true := beq_iff_eq.mpr c36
         have c36b1 : (t400 != 0) = false := bne_eq_false_iff_eq.mpr c36
         clear c36
         (first | rw [c36b0] | (simp only [i64_w, i32_w]; rw [c36b0]) | skip)
         by_cases c37 : t398 < (wrap64 (a3))
         ·
          rw [if_pos c37] at H
          exact absurd H (by simp)
         ·
          rw [if_neg c37] at H
          have c37b0 : decide (t398 < (wrap64 (a3))) = false := decide_eq_false c37
          clear c37
          by_cases c38 : t382 < 0
          ·
           rw [if_pos c38] at H
           exact absurd H (by simp)
          ·
           rw [if_neg c38] at H
           have c38b0 : decide (t382 < 0) = false := decide_eq_false c38
           clear c38
           by_cases c39 : t382 > t383
           ·
            rw [if_pos c39] at H
            exact absurd H (by simp)
           ·
            rw [if_neg c39] at H
            have c39b0 : decide (t383 < t382) = false := decide_eq_false c39
            clear c39
            have H' := Aside0.mk H
            clear H
            try go_wp2
            have n0_ := Aside0.mk (blk_drew BK373.out)
            have n1_ := Aside0.mk (blk_drew BK385.out)
            have n2_ := Aside0.mk (below_drew1 HB.out)
            clear BK373
            clear BK385
            clear HB
            have BK373 := n0_
            have BK385 := n1_
            have HB := n2_
            clear n0_ n1_ n2_
            refine start_ (n := 19) (S := fun w' => w'.cell? ⟨gb373, 0, none⟩ = some (.slice A0_0 l0_0.length c0_0) ∧ w'.cell? ⟨gb385, 0, none⟩ = some (.int .i64 t382) ∧ w'.cell? ⟨gb385, 1, none⟩ = some (.int .i64 t383)) (ds := []) #[false, false, false, false, false, false, false, false, false, false, false, false, false, false, false, false, false, false, false] (by kernel_rfl) rfl rfl ⟨(blk_cell BK373.out 0).trans rfl, (blk_cell BK385.out 0).trans rfl, (blk_cell BK385.out 1).trans rfl⟩ (fun hHeld => ?_); refine with_tabW tensilelaw05_CreepLife.tab8 tensilelaw05_CreepLife.bits8 (fun HT_ HW_ => ?_)
            generalize wc.drew = w40 at BK373 BK385 HB hHeld ⊢
            refine pure_ (i := 2) (N := some 57) (v := ?_) (a' := ?_) #[false, false, true, false, false, false, false, false, false, false, false, false, false, false, false, false, false, false, false] rfl rfl (any_of HT_.out (by kernel_rfl)) (fun _ _ _ h => h) (Or.inl ⟨by rfl, ?_⟩) ?_ ?_
            rotate_left
            ·
             intro w'
             go_simp
             with_reducible rfl
            rotate_left
            ·
             simp only [Act.put, List.setIfInBounds_toArray, List.set_cons_zero, List.set_cons_succ, i64_w, i32_w]
             rfl
            refine pure_ (i := 4) (N := some 59) (v := ?_) (a' := ?_) #[false, false, true, false, true, false, false, false, false, false, false, false, false, false, false, false, false, false, false] rfl rfl (any_of HT_.out (by kernel_rfl)) (fun _ _ _ h => h) (Or.inl ⟨by rfl, ?_⟩) ?_ ?_
            rotate_left
            ·
             intro w'
             go_simp
             with_reducible rfl
            rotate_left
            ·
             simp only [Act.put, List.setIfInBounds_toArray, List.set_cons_zero, List.set_cons_succ, i64_w, i32_w]
             rfl
            refine pure_ (i := 5) (N := some 60) (v := ?_) (a' := ?_) #[false, false, true, false, true, true, false, false, false, false, false, false, false, false, false, false, false, false, false] rfl rfl (any_of HT_.out (by kernel_rfl)) (fun _ _ _ h => h) (Or.inl ⟨by rfl, ?_⟩) ?_ ?_
            rotate_left
            ·
             intro w'
             go_simp
             with_reducible rfl
            rotate_left
            ·
             simp only [Act.put, List.setIfInBounds_toArray, List.set_cons_zero, List.set_cons_succ, i64_w, i32_w]
             rfl
            refine pure_ (i := 7) (N := some 62) (v := ?_) (a' := ?_) #[false, false, true, false, true, true, false, true, false, false, false, false, false, false, false, false, false, false, false] rfl rfl (any_of HT_.out (by kernel_rfl)) (fun _ _ _ h => h) (Or.inl ⟨by rfl, ?_⟩) ?_ ?_
            rotate_left
            ·
             intro w'
             go_simp
             with_reducible rfl
            rotate_left
            ·
             simp only [Act.put, List.setIfInBounds_toArray, List.set_cons_zero, List.set_cons_succ, i64_w, i32_w]
             rfl
            refine take_ (i := 0) (N := some 55) (v := ?_) (a' := ?_) #[true, false, true, false, true, true, false, true, false, false, false, false, false, false, false, false, false, false, false] rfl rfl (take_ofW HT_.out HW_.out (by kernel_rfl)) (fun _ _ _ h => h) (Or.inl ⟨by rfl, ?_⟩) hHeld ?_ ?_
            rotate_left
            ·
             rintro w' ⟨s0, s1, s2⟩
             go_simp
             with_reducible rfl
            rotate_left
            ·
             simp only [Act.put, List.setIfInBounds_toArray, List.set_cons_zero, List.set_cons_succ, i64_w, i32_w]
             rfl
            refine take_ (i := 6) (N := some 61) (v := ?_) (a' := ?_) #[true, false, true, false, true, true, true, true, false, false, false, false, false, false, false, false, false, false, false] rfl rfl (take_ofW HT_.out HW_.out (by kernel_rfl)) (fun _ _ _ h => h) (Or.inl ⟨by rfl, ?_⟩) hHeld ?_ ?_
            rotate_left
            ·
             rintro w' ⟨s0, s1, s2⟩
             go_simp
             with_reducible rfl
            rotate_left
            ·
             simp only [Act.put, List.setIfInBounds_toArray, List.set_cons_zero, List.set_cons_succ, i64_w, i32_w]
             rfl
            refine take_ (i := 8) (N := some 63) (v := ?_) (a' := ?_) #[true, false, true, false, true, true, true, true, true, false, false, false, false, false, false, false, false, false, false] rfl rfl (take_ofW HT_.out HW_.out (by kernel_rfl)) (fun _ _ _ h => h) (Or.inl ⟨by rfl, ?_⟩) hHeld ?_ ?_
            rotate_left
            ·
             rintro w' ⟨s0, s1, s2⟩
             go_simp
             with_reducible rfl
            rotate_left
            ·
             simp only [Act.put, List.setIfInBounds_toArray, List.set_cons_zero, List.set_cons_succ, i64_w, i32_w]
             rfl
            refine join_ (σ := Value × Value × Value × Nat) 2 #[true, true, true, true, true, true, true, true, true, true, true, true, true, true, true, true, true, false, false] (fun s_ => [(56, .agg #[s_.1]), (58, s_.2.1), (64, .agg #[.int .i64 t393, .int .i64 t394]), (66, s_.2.2.1), (67, .tuple #[.agg #[.int .i64 t398, .int .i64 t399], .int .i64 t400]), (12, .pointer (some ⟨s_.2.2.2, 0, none⟩)), (65, .agg #[.int .i64 (Int.tmod (wrap64 (a2)) (l0_0.length : Int)), .int .i64 t393, .int .i64 t394]), (54, .tuple #[.agg #[.int .i64 t398, .int .i64 t399], .int .i64 t400]), (68, .agg #[.int .i64 t398, .int .i64 t399]), (69, .int .i64 t400)]) (fun s_ w' => (w'.cell? ⟨gb373, 0, none⟩ = some (.slice A0_0 l0_0.length c0_0) ∧ w'.cell? ⟨gb385, 0, none⟩ = some (.int .i64 t382) ∧ w'.cell? ⟨gb385, 1, none⟩ = some (.int .i64 t383)) ∧ (Kd.R k47 47 w' w.heap.size (fun k_ => k_ ≠ gb385 ∧ k_ ≠ s_.2.2.2) s_.1 t387) ∧ (Kd.S k67 67 w' w.heap.size (fun k_ => some k_ ≠ (s_.2.2.1 : Value).ownBlock) s_.2.1 t390) ∧ (Kd.R k65 65 w' w.heap.size (fun _ => True) s_.2.2.1 y395) ∧ (w'.heap[gb373]? = some (.cells #[.slice A0_0 l0_0.length c0_0] 24 (0, 0))) ∧ (w'.heap[gb385]? = some (.cells #[.int .i64 t382, .int .i64 t383] 47 (0, 0))) ∧ (w'.heap[s_.2.2.2]? = some (.cells #[.int .i64 0, .int .i64 0] 47 (0, 0))) ∧ (w.heap.size ≤ s_.2.2.2) ∧ (w.heap.size ≤ s_.2.2.2) ∧ (gb373 ≠ s_.2.2.2) ∧ (s_.2.2.2 ≠ gb373) ∧ (gb385 ≠ s_.2.2.2) ∧ (s_.2.2.2 ≠ gb385) ∧ (Below w.heap.size w w')) ?_ ?_
            rotate_left
            ·
             intro hJ1_3_9_11_12_16
             refine join_ (σ := Value × Value × Value) 3 #[true, true, true, true, true, true, true, true, true, true, true, true, true, true, true, true, false, false, false] (fun s_ => [(56, .agg #[s_.1]), (58, s_.2.1), (64, .agg #[.int .i64 t393, .int .i64 t394]), (66, s_.2.2), (67, .tuple #[.agg #[.int .i64 t398, .int .i64 t399], .int .i64 t400]), (65, .agg #[.int .i64 (Int.tmod (wrap64 (a2)) (l0_0.length : Int)), .int .i64 t393, .int .i64 t394]), (54, .tuple #[.agg #[.int .i64 t398, .int .i64 t399], .int .i64 t400]), (68, .agg #[.int .i64 t398, .int .i64 t399]), (69, .int .i64 t400)]) (fun s_ w' => (w'.cell? ⟨gb373, 0, none⟩ = some (.slice A0_0 l0_0.length c0_0) ∧ w'.cell? ⟨gb385, 0, none⟩ = some (.int .i64 t382) ∧ w'.cell? ⟨gb385, 1, none⟩ = some (.int .i64 t383)) ∧ (Kd.R k47 47 w' w.heap.size (fun k_ => k_ ≠ gb385) s_.1 t387) ∧ (Kd.S k67 67 w' w.heap.size (fun k_ => some k_ ≠ (s_.2.2 : Value).ownBlock) s_.2.1 t390) ∧ (Kd.R k65 65 w' w.heap.size (fun _ => True) s_.2.2 y395) ∧ (w'.heap[gb373]? = some (.cells #[.slice A0_0 l0_0.length c0_0] 24 (0, 0))) ∧ (w'.heap[gb385]? = some (.cells #[.int .i64 t382, .int .i64 t383] 47 (0, 0))) ∧ (Below w.heap.size w w')) ?_ ?_
             rotate_left
             ·
              intro hJ1_3_9_11_12
              refine join_ (σ := Value × Value × Value × Nat) 6 #[true, true, true, true, true, true, true, true, true, true, true, true, false, false, false, false, true, false, false] (fun s_ => [(56, .agg #[s_.1]), (58, s_.2.1), (64, .agg #[.int .i64 t393, .int .i64 t394]), (66, s_.2.2.1), (12, .pointer (some ⟨s_.2.2.2, 0, none⟩)), (65, .agg #[.int .i64 (Int.tmod (wrap64 (a2)) (l0_0.length : Int)), .int .i64 t393, .int .i64 t394])]) (fun s_ w' => (w'.cell? ⟨gb373, 0, none⟩ = some (.slice A0_0 l0_0.length c0_0) ∧ w'.cell? ⟨gb385, 0, none⟩ = some (.int .i64 t382) ∧ w'.cell? ⟨gb385, 1, none⟩ = some (.int .i64 t383)) ∧ (Kd.R k47 47 w' w.heap.size (fun k_ => k_ ≠ gb385 ∧ k_ ≠ s_.2.2.2) s_.1 t387) ∧ (Kd.S k67 67 w' w.heap.size (fun k_ => some k_ ≠ (s_.2.2.1 : Value).ownBlock) s_.2.1 t390) ∧ (Kd.R k65 65 w' w.heap.size (fun _ => True) s_.2.2.1 y395) ∧ (w'.heap[gb373]? = some (.cells #[.slice A0_0 l0_0.length c0_0] 24 (0, 0))) ∧ (w'.heap[gb385]? = some (.cells #[.int .i64 t382, .int .i64 t383] 47 (0, 0))) ∧ (w'.heap[s_.2.2.2]? = some (.cells #[.int .i64 0, .int .i64 0] 47 (0, 0))) ∧ (w.heap.size ≤ s_.2.2.2) ∧ (w.heap.size ≤ s_.2.2.2) ∧ (gb373 ≠ s_.2.2.2) ∧ (s_.2.2.2 ≠ gb373) ∧ (gb385 ≠ s_.2.2.2) ∧ (s_.2.2.2 ≠ gb385) ∧ (Below w.heap.size w w')) ?_ ?_
              rotate_left
              ·
               intro hJ1_3_9_11_16
               refine join_ (σ := Value × Value × Value) 7 #[true, true, true, true, true, true, true, true, true, true, true, true, false, false, false, false, false, false, false] (fun s_ => [(56, .agg #[s_.1]), (58, s_.2.1), (64, .agg #[.int .i64 t393, .int .i64 t394]), (66, s_.2.2), (65, .agg #[.int .i64 (Int.tmod (wrap64 (a2)) (l0_0.length : Int)), .int .i64 t393, .int .i64 t394])]) (fun s_ w' => (w'.cell? ⟨gb373, 0, none⟩ = some (.slice A0_0 l0_0.length c0_0) ∧ w'.cell? ⟨gb385, 0, none⟩ = some (.int .i64 t382) ∧ w'.cell? ⟨gb385, 1, none⟩ = some (.int .i64 t383)) ∧ (Kd.R k47 47 w' w.heap.size (fun k_ => k_ ≠ gb385) s_.1 t387) ∧ (Kd.S k67 67 w' w.heap.size (fun k_ => some k_ ≠ (s_.2.2 : Value).ownBlock) s_.2.1 t390) ∧ (Kd.R k65 65 w' w.heap.size (fun _ => True) s_.2.2 y395) ∧ (w'.heap[gb373]? = some (.cells #[.slice A0_0 l0_0.length c0_0] 24 (0, 0))) ∧ (w'.heap[gb385]? = some (.cells #[.int .i64 t382, .int .i64 t383] 47 (0, 0))) ∧ (Below w.heap.size w w')) ?_ ?_
               rotate_left
               ·
                intro hJ1_3_9_11
                refine join_ (σ := Value × Value × Nat) 7 #[true, true, true, true, true, true, true, true, true, true, true, false, false, false, false, false, true, false, false] (fun s_ => [(56, .agg #[s_.1]), (58, s_.2.1), (64, .agg #[.int .i64 t393, .int .i64 t394]), (12, .pointer (some ⟨s_.2.2, 0, none⟩)), (65, .agg #[.int .i64 (Int.tmod (wrap64 (a2)) (l0_0.length : Int)), .int .i64 t393, .int .i64 t394])]) (fun s_ w' => (w'.cell? ⟨gb373, 0, none⟩ = some (.slice A0_0 l0_0.length c0_0) ∧ w'.cell? ⟨gb385, 0, none⟩ = some (.int .i64 t382) ∧ w'.cell? ⟨gb385, 1, none⟩ = some (.int .i64 t383)) ∧ (Kd.R k47 47 w' w.heap.size (fun k_ => k_ ≠ gb385 ∧ k_ ≠ s_.2.2) s_.1 t387) ∧ (Kd.S k67 67 w' w.heap.size (fun _ => True) s_.2.1 t390) ∧ (w'.heap[gb373]? = some (.cells #[.slice A0_0 l0_0.length c0_0] 24 (0, 0))) ∧ (w'.heap[gb385]? = some (.cells #[.int .i64 t382, .int .i64 t383] 47 (0, 0))) ∧ (w'.heap[s_.2.2]? = some (.cells #[.int .i64 0, .int .i64 0] 47 (0, 0))) ∧ (w.heap.size ≤ s_.2.2) ∧ (w.heap.size ≤ s_.2.2) ∧ (gb373 ≠ s_.2.2) ∧ (s_.2.2 ≠ gb373) ∧ (gb385 ≠ s_.2.2) ∧ (s_.2.2 ≠ gb385) ∧ (Below w.heap.size w w')) ?_ ?_
                rotate_left
                ·
                 intro hJ1_3_9_16
                 refine join_ (σ := Value × Value) 8 #[true, true, true, true, true, true, true, true, true, true, true, false, false, false, false, false, false, false, false] (fun s_ => [(56, .agg #[s_.1]), (58, s_.2), (64, .agg #[.int .i64 t393, .int .i64 t394]), (65, .agg #[.int .i64 (Int.tmod (wrap64 (a2)) (l0_0.length : Int)), .int .i64 t393, .int .i64 t394])]) (fun s_ w' => (w'.cell? ⟨gb373, 0, none⟩ = some (.slice A0_0 l0_0.length c0_0) ∧ w'.cell? ⟨gb385, 0, none⟩ = some (.int .i64 t382) ∧ w'.cell? ⟨gb385, 1, none⟩ = some (.int .i64 t383)) ∧ (Kd.R k47 47 w' w.heap.size (fun k_ => k_ ≠ gb385) s_.1 t387) ∧ (Kd.S k67 67 w' w.heap.size (fun _ => True) s_.2 t390) ∧ (w'.heap[gb373]? = some (.cells #[.slice A0_0 l0_0.length c0_0] 24 (0, 0))) ∧ (w'.heap[gb385]? = some (.cells #[.int .i64 t382, .int .i64 t383] 47 (0, 0))) ∧ (Below w.heap.size w w')) ?_ ?_
                 rotate_left
                 ·
                  intro hJ1_3_9
                  refine join_ (σ := Value × Value × Nat) 9 #[true, true, true, true, true, true, true, true, true, false, false, false, false, false, false, false, true, false, false] (fun s_ => [(56, .agg #[s_.1]), (58, s_.2.1), (12, .pointer (some ⟨s_.2.2, 0, none⟩))]) (fun s_ w' => (w'.cell? ⟨gb373, 0, none⟩ = some (.slice A0_0 l0_0.length c0_0) ∧ w'.cell? ⟨gb385, 0, none⟩ = some (.int .i64 t382) ∧ w'.cell? ⟨gb385, 1, none⟩ = some (.int .i64 t383)) ∧ (Kd.R k47 47 w' w.heap.size (fun k_ => k_ ≠ gb385 ∧ k_ ≠ s_.2.2) s_.1 t387) ∧ (Kd.S k67 67 w' w.heap.size (fun _ => True) s_.2.1 t390) ∧ (w'.heap[gb373]? = some (.cells #[.slice A0_0 l0_0.length c0_0] 24 (0, 0))) ∧ (w'.heap[gb385]? = some (.cells #[.int .i64 t382, .int .i64 t383] 47 (0, 0))) ∧ (w'.heap[s_.2.2]? = some (.cells #[.int .i64 0, .int .i64 0] 47 (0, 0))) ∧ (w.heap.size ≤ s_.2.2) ∧ (w.heap.size ≤ s_.2.2) ∧ (gb373 ≠ s_.2.2) ∧ (s_.2.2 ≠ gb373) ∧ (gb385 ≠ s_.2.2) ∧ (s_.2.2 ≠ gb385) ∧ (Below w.heap.size w w')) ?_ ?_
                  rotate_left
                  ·
                   intro hJ1_3_16
                   refine join_ (σ := Value × Value) 10 #[true, true, true, true, true, true, true, true, true, false, false, false, false, false, false, false, false, false, false] (fun s_ => [(56, .agg #[s_.1]), (58, s_.2)]) (fun s_ w' => (w'.cell? ⟨gb373, 0, none⟩ = some (.slice A0_0 l0_0.length c0_0) ∧ w'.cell? ⟨gb385, 0, none⟩ = some (.int .i64 t382) ∧ w'.cell? ⟨gb385, 1, none⟩ = some (.int .i64 t383)) ∧ (Kd.R k47 47 w' w.heap.size (fun k_ => k_ ≠ gb385) s_.1 t387) ∧ (Kd.S k67 67 w' w.heap.size (fun _ => True) s_.2 t390) ∧ (w'.heap[gb373]? = some (.cells #[.slice A0_0 l0_0.length c0_0] 24 (0, 0))) ∧ (w'.heap[gb385]? = some (.cells #[.int .i64 t382, .int .i64 t383] 47 (0, 0))) ∧ (Below w.heap.size w w')) ?_ ?_
                   rotate_left
                   ·
                    intro hJ1_3
                    refine join_ (σ := Value × Nat) 10 #[true, true, true, false, true, true, true, true, true, false, false, false, false, false, false, false, true, false, false] (fun s_ => [(56, .agg #[s_.1]), (12, .pointer (some ⟨s_.2, 0, none⟩))]) (fun s_ w' => (w'.cell? ⟨gb373, 0, none⟩ = some (.slice A0_0 l0_0.length c0_0) ∧ w'.cell? ⟨gb385, 0, none⟩ = some (.int .i64 t382) ∧ w'.cell? ⟨gb385, 1, none⟩ = some (.int .i64 t383)) ∧ (Kd.R k47 47 w' w.heap.size (fun k_ => k_ ≠ gb385 ∧ k_ ≠ s_.2) s_.1 t387) ∧ (w'.heap[gb373]? = some (.cells #[.slice A0_0 l0_0.length c0_0] 24 (0, 0))) ∧ (w'.heap[gb385]? = some (.cells #[.int .i64 t382, .int .i64 t383] 47 (0, 0))) ∧ (w'.heap[s_.2]? = some (.cells #[.int .i64 0, .int .i64 0] 47 (0, 0))) ∧ (w.heap.size ≤ s_.2) ∧ (w.heap.size ≤ s_.2) ∧ (gb373 ≠ s_.2) ∧ (s_.2 ≠ gb373) ∧ (gb385 ≠ s_.2) ∧ (s_.2 ≠ gb385) ∧ (Below w.heap.size w w')) ?_ ?_
                    rotate_left
                    ·
                     intro hJ1_16
                     refine join_ (σ := Value) 11 #[true, true, true, false, true, true, true, true, true, false, false, false, false, false, false, false, false, false, false] (fun s_ => [(56, .agg #[s_])]) (fun s_ w' => (w'.cell? ⟨gb373, 0, none⟩ = some (.slice A0_0 l0_0.length c0_0) ∧ w'.cell? ⟨gb385, 0, none⟩ = some (.int .i64 t382) ∧ w'.cell? ⟨gb385, 1, none⟩ = some (.int .i64 t383)) ∧ (Kd.R k47 47 w' w.heap.size (fun k_ => k_ ≠ gb385) s_ t387) ∧ (w'.heap[gb373]? = some (.cells #[.slice A0_0 l0_0.length c0_0] 24 (0, 0))) ∧ (w'.heap[gb385]? = some (.cells #[.int .i64 t382, .int .i64 t383] 47 (0, 0))) ∧ (Below w.heap.size w w')) ?_ ?_
                     rotate_left
                     ·
                      intro hJ1
                      refine join_ (σ := Nat) 11 #[true, false, true, false, true, true, true, true, true, false, false, false, false, false, false, false, true, false, false] (fun s_ => [(12, .pointer (some ⟨s_, 0, none⟩))]) (fun s_ w' => (w'.cell? ⟨gb373, 0, none⟩ = some (.slice A0_0 l0_0.length c0_0) ∧ w'.cell? ⟨gb385, 0, none⟩ = some (.int .i64 t382) ∧ w'.cell? ⟨gb385, 1, none⟩ = some (.int .i64 t383)) ∧ (w'.heap[gb373]? = some (.cells #[.slice A0_0 l0_0.length c0_0] 24 (0, 0))) ∧ (w'.heap[gb385]? = some (.cells #[.int .i64 t382, .int .i64 t383] 47 (0, 0))) ∧ (w'.heap[s_]? = some (.cells #[.int .i64 0, .int .i64 0] 47 (0, 0))) ∧ (w.heap.size ≤ s_) ∧ (w.heap.size ≤ s_) ∧ (gb373 ≠ s_) ∧ (s_ ≠ gb373) ∧ (gb385 ≠ s_) ∧ (s_ ≠ gb385) ∧ (Below w.heap.size w w')) ?_ ?_
                      rotate_left
                      ·
                       intro hJ16
                       refine two_ (i := 1) (j := 16) (Ni := some 56) (Nj := some 12) #[true, true, true, false, true, true, true, true, true, false, false, false, false, false, false, false, false, false, false] #[true, false, true, false, true, true, true, true, true, false, false, false, false, false, false, false, true, false, false] rfl rfl rfl rfl (two_of HT_.out (by kernel_rfl)) (by decide) (by decide) (fun K hK => ?_) (fun K hK => ?_)
                       ·
                        skip
                        refine goes_ Try.func21 (by kernel_rfl) rfl #[.agg #[.slice A0_0 l0_0.length c0_0]] (by rfl) rfl rfl (by (try simp only [List.map_toArray, List.map_cons, List.map_nil]); first | done | rfl | (simp only [List.length_drop, List.length_take]; rfl)) ?_
                        with_reducible refine (tensilelaw05_Material.calls kj11 _ _ l0_0 t387 _ ?side1 ?side2 A32.out).mono ?_
                        (case side1 => repeat (first | exact (Kd.C_below HR0_0.out HB.out) | (with_reducible refine Kd.C_alloc ?_ _) | (with_reducible refine Kd.C_drewN ?_ _) | (with_reducible refine Kd.C_drew ?_)))
                        (case side2 => exact HC0_0.out)
                        rintro e w41 ⟨v388, rfl, ho0, hb⟩
                        refine ⟨_, rfl, ?_⟩
                        have n0_ := Aside0.mk (Kd.R_lower (Kd.R_newB ho0 (g := gb385) (o := .cells #[.int .i64 t382, .int .i64 t383] 47 (0, 0)) (by (with_reducible repeat (first | refine blk_drewN ?_ _ | refine blk_drew ?_ | refine blk_alloc ?_ _)); exact BK385.out)) (below_size (by repeat (first | (with_reducible first | exact HB.out | apply below_alloc | apply pw_below_drewN | apply below_drew1 | refine below_set ?_ GE373.out | refine below_set ?_ GE385.out) | exact HB.out))))
                        have n1_ := Aside0.mk (blk_below (g := gb373) (o := .cells #[.slice A0_0 l0_0.length c0_0] 24 (0, 0)) (by (with_reducible repeat (first | refine blk_drewN ?_ _ | refine blk_drew ?_ | refine blk_alloc ?_ _)); exact BK373.out) hb)
                        have n2_ := Aside0.mk (blk_below (g := gb385) (o := .cells #[.int .i64 t382, .int .i64 t383] 47 (0, 0)) (by (with_reducible repeat (first | refine blk_drewN ?_ _ | refine blk_drew ?_ | refine blk_alloc ?_ _)); exact BK385.out) hb)
                        have n3_ := Aside0.mk (below_step (by repeat (first | (with_reducible first | exact HB.out | apply below_alloc | apply pw_below_drewN | apply below_drew1 | refine below_set ?_ GE373.out | refine below_set ?_ GE385.out) | exact HB.out)) hb)
                        clear BK373
                        clear BK385
                        clear HB
                        have HO389 := n0_
                        have BK373 := n1_
                        have BK385 := n2_
                        have HB := n3_
                        clear n0_ n1_ n2_ n3_
                        (try clear hb)
                        (try clear hb2)
                        (try clear hk)
                        (try clear hi)
                        (try clear ho0)
                        refine hK.out _ _ ⟨(blk_cell BK373.out 0).trans rfl, (blk_cell BK385.out 0).trans rfl, (blk_cell BK385.out 1).trans rfl⟩ (fun hHeld => ?_)
                        clear hK K
                        refine norm_ (a' := ?_) ?_ ?_
                        rotate_left
                        ·
                         show Act.put _ (some 56) _ = _
                         simp only [Act.put, List.setIfInBounds_toArray, List.set_cons_zero, List.set_cons_succ, i64_w, i32_w]
                         rfl
                        exact norm_ (by first | (simp only [putAll, Act.put, List.setIfInBounds_toArray, List.set_cons_zero, List.set_cons_succ]; done) | (simp only [putAll, Act.put, List.setIfInBounds_toArray, List.set_cons_zero, List.set_cons_succ]; rfl)) (hJ1 (v388) _ ⟨hHeld, (by (with_reducible repeat (first | apply Kd.R_alloc | apply Kd.R_drewN | apply Kd.R_drew)); exact Kd.R_mono HO389.out (fun _ hk => hk.2)), (by (with_reducible repeat (first | refine blk_drewN ?_ _ | refine blk_drew ?_ | refine blk_alloc ?_ _)); exact BK373.out), (by (with_reducible repeat (first | refine blk_drewN ?_ _ | refine blk_drew ?_ | refine blk_alloc ?_ _)); exact BK385.out), (by repeat (first | (with_reducible first | exact HB.out | apply below_alloc | apply pw_below_drewN | apply below_drew1 | refine below_set ?_ GE373.out | refine below_set ?_ GE385.out) | exact HB.out))⟩)
                       ·
                        skip
                        refine box_step ?hg (N := 12) ?hd (cs := #[.int .i64 0, .int .i64 0]) (t := 47) ?hr ?_; (case hd => rfl); (case hg => rfl); (case hr => first | (go_simp; done) | (go_simp; rfl))
                        intro gb401 hg w41 hbox hb
                        have n0_ := Aside0.mk (blk_below (g := gb373) (o := .cells #[.slice A0_0 l0_0.length c0_0] 24 (0, 0)) (by (with_reducible repeat (first | refine blk_drewN ?_ _ | refine blk_drew ?_ | refine blk_alloc ?_ _)); exact BK373.out) hb)
                        have n1_ := Aside0.mk (blk_below (g := gb385) (o := .cells #[.int .i64 t382, .int .i64 t383] 47 (0, 0)) (by (with_reducible repeat (first | refine blk_drewN ?_ _ | refine blk_drew ?_ | refine blk_alloc ?_ _)); exact BK385.out) hb)
                        have n2_ := Aside0.mk (below_step (by repeat (first | (with_reducible first | exact HB.out | apply below_alloc | apply pw_below_drewN | apply below_drew1 | refine below_set ?_ GE373.out | refine below_set ?_ GE385.out) | exact HB.out)) hb)
                        have n3_ := Aside0.mk (hbox)
                        have n4_ := Aside0.mk ((by rw [hg]; exact (below_size (by repeat (first | (with_reducible first | exact HB.out | apply below_alloc | apply pw_below_drewN | apply below_drew1 | refine below_set ?_ GE373.out | refine below_set ?_ GE385.out) | exact HB.out))) : w.heap.size ≤ gb401))
                        have n5_ := Aside0.mk ((by rw [hg]; exact (below_size (by repeat (first | (with_reducible first | exact HB.out | apply below_alloc | apply pw_below_drewN | apply below_drew1 | refine below_set ?_ GE373.out | refine below_set ?_ GE385.out) | exact HB.out))) : w.heap.size ≤ gb401))
                        have n6_ := Aside0.mk ((by rw [hg]; exact Nat.ne_of_lt (blk_lt (g := gb373) (o := .cells #[.slice A0_0 l0_0.length c0_0] 24 (0, 0)) (by (with_reducible repeat (first | refine blk_drewN ?_ _ | refine blk_drew ?_ | refine blk_alloc ?_ _)); exact BK373.out)) : gb373 ≠ gb401))
                        have n7_ := Aside0.mk ((by rw [hg]; exact Nat.ne_of_gt (blk_lt (g := gb373) (o := .cells #[.slice A0_0 l0_0.length c0_0] 24 (0, 0)) (by (with_reducible repeat (first | refine blk_drewN ?_ _ | refine blk_drew ?_ | refine blk_alloc ?_ _)); exact BK373.out)) : gb401 ≠ gb373))
                        have n8_ := Aside0.mk ((by rw [hg]; exact Nat.ne_of_lt (blk_lt (g := gb385) (o := .cells #[.int .i64 t382, .int .i64 t383] 47 (0, 0)) (by (with_reducible repeat (first | refine blk_drewN ?_ _ | refine blk_drew ?_ | refine blk_alloc ?_ _)); exact BK385.out)) : gb385 ≠ gb401))
                        have n9_ := Aside0.mk ((by rw [hg]; exact Nat.ne_of_gt (blk_lt (g := gb385) (o := .cells #[.int .i64 t382, .int .i64 t383] 47 (0, 0)) (by (with_reducible repeat (first | refine blk_drewN ?_ _ | refine blk_drew ?_ | refine blk_alloc ?_ _)); exact BK385.out)) : gb401 ≠ gb385))
                        clear BK373
                        clear BK385
                        clear HB
                        have BK373 := n0_
                        have BK385 := n1_
                        have HB := n2_
                        have BK401 := n3_
                        have GW401 := n4_
                        have GE401 := n5_
                        have NB373_401 := n6_
                        have NB401_373 := n7_
                        have NB385_401 := n8_
                        have NB401_385 := n9_
                        clear n0_ n1_ n2_ n3_ n4_ n5_ n6_ n7_ n8_ n9_
                        clear hb hbox hg
                        refine hK.out _ _ ⟨(blk_cell BK373.out 0).trans rfl, (blk_cell BK385.out 0).trans rfl, (blk_cell BK385.out 1).trans rfl⟩ (fun hHeld => ?_)
                        clear hK K
                        refine norm_ (a' := ?_) ?_ ?_
                        rotate_left
                        ·
                         show Act.put _ (some 12) _ = _
                         simp only [Act.put, List.setIfInBounds_toArray, List.set_cons_zero, List.set_cons_succ, i64_w, i32_w]
                         rfl
                        exact norm_ (by first | (simp only [putAll, Act.put, List.setIfInBounds_toArray, List.set_cons_zero, List.set_cons_succ]; done) | (simp only [putAll, Act.put, List.setIfInBounds_toArray, List.set_cons_zero, List.set_cons_succ]; rfl)) (hJ16 (gb401) _ ⟨hHeld, (by (with_reducible repeat (first | refine blk_drewN ?_ _ | refine blk_drew ?_ | refine blk_alloc ?_ _)); exact BK373.out), (by (with_reducible repeat (first | refine blk_drewN ?_ _ | refine blk_drew ?_ | refine blk_alloc ?_ _)); exact BK385.out), (by (with_reducible repeat (first | refine blk_drewN ?_ _ | refine blk_drew ?_ | refine blk_alloc ?_ _)); exact BK401.out), GW401.out, GE401.out, NB373_401.out, NB401_373.out, NB385_401.out, NB401_385.out, (by repeat (first | (with_reducible first | exact HB.out | apply below_alloc | apply pw_below_drewN | apply below_drew1 | refine below_set ?_ GE373.out | refine below_set ?_ GE385.out | refine below_set ?_ GE401.out) | exact HB.out))⟩)
                      ·
                       skip
                       rintro gb401 w42 ⟨hS_, h0_, h1_, h2_, h3_, h4_, h5_, h6_, h7_, h8_, h9_⟩
                       have n0_ : Aside0 (w42.heap[gb373]? = some (.cells #[.slice A0_0 l0_0.length c0_0] 24 (0, 0))) := ⟨h0_⟩
                       have n1_ : Aside0 (w42.heap[gb385]? = some (.cells #[.int .i64 t382, .int .i64 t383] 47 (0, 0))) := ⟨h1_⟩
                       have n2_ : Aside0 (w42.heap[gb401]? = some (.cells #[.int .i64 0, .int .i64 0] 47 (0, 0))) := ⟨h2_⟩
                       have n3_ : Aside0 (w.heap.size ≤ gb401) := ⟨h3_⟩
                       have n4_ : Aside0 (w.heap.size ≤ gb401) := ⟨h4_⟩
                       have n5_ : Aside0 (gb373 ≠ gb401) := ⟨h5_⟩
                       have n6_ : Aside0 (gb401 ≠ gb373) := ⟨h6_⟩
                       have n7_ : Aside0 (gb385 ≠ gb401) := ⟨h7_⟩
                       have n8_ : Aside0 (gb401 ≠ gb385) := ⟨h8_⟩
                       have n9_ : Aside0 (Below w.heap.size w w42) := ⟨h9_⟩
                       clear BK373
                       clear BK385
                       clear HB
                       clear h0_ h1_ h2_ h3_ h4_ h5_ h6_ h7_ h8_ h9_
                       have BK373 := n0_
                       have BK385 := n1_
                       have BK401 := n2_
                       have GW401 := n3_
                       have GE401 := n4_
                       have NB373_401 := n5_
                       have NB401_373 := n6_
                       have NB385_401 := n7_
                       have NB401_385 := n8_
                       have HB := n9_
                       clear n0_ n1_ n2_ n3_ n4_ n5_ n6_ n7_ n8_ n9_
                       have hHeld : w42.cell? ⟨gb373, 0, none⟩ = some (.slice A0_0 l0_0.length c0_0) ∧ w42.cell? ⟨gb385, 0, none⟩ = some (.int .i64 t382) ∧ w42.cell? ⟨gb385, 1, none⟩ = some (.int .i64 t383) := hS_
                       refine norm_ (a' := ?_) ?_ ?_
                       rotate_left
                       ·
                        simp only [putAll, Act.put, List.setIfInBounds_toArray, List.set_cons_zero, List.set_cons_succ]
                        rfl
                       refine one_ (i := 1) (N := some 56) #[true, true, true, false, true, true, true, true, true, false, false, false, false, false, false, false, true, false, false] rfl rfl (one_of HT_.out (by kernel_rfl)) (by decide) (fun K hK => ?_)
                       refine goes_ Try.func21 (by kernel_rfl) rfl #[.agg #[.slice A0_0 l0_0.length c0_0]] (by rfl) rfl rfl (by (try simp only [List.map_toArray, List.map_cons, List.map_nil]); first | done | rfl | (simp only [List.length_drop, List.length_take]; rfl)) ?_
                       with_reducible refine (tensilelaw05_Material.calls kj11 _ _ l0_0 t387 _ ?side1 ?side2 A32.out).mono ?_
                       (case side1 => repeat (first | exact (Kd.C_below HR0_0.out HB.out) | (with_reducible refine Kd.C_alloc ?_ _) | (with_reducible refine Kd.C_drewN ?_ _) | (with_reducible refine Kd.C_drew ?_)))
                       (case side2 => exact HC0_0.out)
                       rintro e w43 ⟨v388, rfl, ho0, hb⟩
                       refine ⟨_, rfl, ?_⟩
                       have n0_ := Aside0.mk (Kd.R_lower (Kd.R_newB (Kd.R_newB ho0 (g := gb385) (o := .cells #[.int .i64 t382, .int .i64 t383] 47 (0, 0)) (by (with_reducible repeat (first | refine blk_drewN ?_ _ | refine blk_drew ?_ | refine blk_alloc ?_ _)); exact BK385.out)) (g := gb401) (o := .cells #[.int .i64 0, .int .i64 0] 47 (0, 0)) (by (with_reducible repeat (first | refine blk_drewN ?_ _ | refine blk_drew ?_ | refine blk_alloc ?_ _)); exact BK401.out)) (below_size (by repeat (first | (with_reducible first | exact HB.out | apply below_alloc | apply pw_below_drewN | apply below_drew1 | refine below_set ?_ GE373.out | refine below_set ?_ GE385.out | refine below_set ?_ GE401.out) | exact HB.out))))
                       have n1_ := Aside0.mk (blk_below (g := gb373) (o := .cells #[.slice A0_0 l0_0.length c0_0] 24 (0, 0)) (by (with_reducible repeat (first | refine blk_drewN ?_ _ | refine blk_drew ?_ | refine blk_alloc ?_ _)); exact BK373.out) hb)
                       have n2_ := Aside0.mk (blk_below (g := gb385) (o := .cells #[.int .i64 t382, .int .i64 t383] 47 (0, 0)) (by (with_reducible repeat (first | refine blk_drewN ?_ _ | refine blk_drew ?_ | refine blk_alloc ?_ _)); exact BK385.out) hb)
                       have n3_ := Aside0.mk (blk_below (g := gb401) (o := .cells #[.int .i64 0, .int .i64 0] 47 (0, 0)) (by (with_reducible repeat (first | refine blk_drewN ?_ _ | refine blk_drew ?_ | refine blk_alloc ?_ _)); exact BK401.out) hb)
                       have n4_ := Aside0.mk (below_step (by repeat (first | (with_reducible first | exact HB.out | apply below_alloc | apply pw_below_drewN | apply below_drew1 | refine below_set ?_ GE373.out | refine below_set ?_ GE385.out | refine below_set ?_ GE401.out) | exact HB.out)) hb)
                       clear BK373
                       clear BK385
                       clear BK401
                       clear HB
                       have HO389 := n0_
                       have BK373 := n1_
                       have BK385 := n2_
                       have BK401 := n3_
                       have HB := n4_
                       clear n0_ n1_ n2_ n3_ n4_
                       (try clear hb)
                       (try clear hb2)
                       (try clear hk)
                       (try clear hi)
                       (try clear ho0)
                       refine hK.out _ _ ⟨(blk_cell BK373.out 0).trans rfl, (blk_cell BK385.out 0).trans rfl, (blk_cell BK385.out 1).trans rfl⟩ (fun hHeld => ?_)
                       clear hK K
                       refine norm_ (a' := ?_) ?_ ?_
                       rotate_left
                       ·
                        show Act.put _ (some 56) _ = _
                        simp only [Act.put, List.setIfInBounds_toArray, List.set_cons_zero, List.set_cons_succ, i64_w, i32_w]
                        rfl
                       exact norm_ (by first | (simp only [putAll, Act.put, List.setIfInBounds_toArray, List.set_cons_zero, List.set_cons_succ]; done) | (simp only [putAll, Act.put, List.setIfInBounds_toArray, List.set_cons_zero, List.set_cons_succ]; rfl)) (hJ1_16 (v388, gb401) _ ⟨hHeld, (by (with_reducible repeat (first | apply Kd.R_alloc | apply Kd.R_drewN | apply Kd.R_drew)); exact Kd.R_mono HO389.out (fun _ hk => ⟨hk.1.2, hk.2⟩)), (by (with_reducible repeat (first | refine blk_drewN ?_ _ | refine blk_drew ?_ | refine blk_alloc ?_ _)); exact BK373.out), (by (with_reducible repeat (first | refine blk_drewN ?_ _ | refine blk_drew ?_ | refine blk_alloc ?_ _)); exact BK385.out), (by (with_reducible repeat (first | refine blk_drewN ?_ _ | refine blk_drew ?_ | refine blk_alloc ?_ _)); exact BK401.out), GW401.out, GE401.out, NB373_401.out, NB401_373.out, NB385_401.out, NB401_385.out, (by repeat (first | (with_reducible first | exact HB.out | apply below_alloc | apply pw_below_drewN | apply below_drew1 | refine below_set ?_ GE373.out | refine below_set ?_ GE385.out | refine below_set ?_ GE401.out) | exact HB.out))⟩)
                     ·
                      skip
                      rintro v388 w42 ⟨hS_, h0_, h1_, h2_, h3_⟩
                      have n0_ : Aside0 (Kd.R k47 47 w42 w.heap.size (fun k_ => k_ ≠ gb385) v388 t387) := ⟨h0_⟩
                      have n1_ : Aside0 (w42.heap[gb373]? = some (.cells #[.slice A0_0 l0_0.length c0_0] 24 (0, 0))) := ⟨h1_⟩
                      have n2_ : Aside0 (w42.heap[gb385]? = some (.cells #[.int .i64 t382, .int .i64 t383] 47 (0, 0))) := ⟨h2_⟩
                      have n3_ : Aside0 (Below w.heap.size w w42) := ⟨h3_⟩
                      clear BK373
                      clear BK385
                      clear HB
                      clear h0_ h1_ h2_ h3_
                      have HO389 := n0_
                      have BK373 := n1_
                      have BK385 := n2_
                      have HB := n3_
                      clear n0_ n1_ n2_ n3_
                      have hHeld : w42.cell? ⟨gb373, 0, none⟩ = some (.slice A0_0 l0_0.length c0_0) ∧ w42.cell? ⟨gb385, 0, none⟩ = some (.int .i64 t382) ∧ w42.cell? ⟨gb385, 1, none⟩ = some (.int .i64 t383) := hS_
                      refine norm_ (a' := ?_) ?_ ?_
                      rotate_left
                      ·
                       simp only [putAll, Act.put, List.setIfInBounds_toArray, List.set_cons_zero, List.set_cons_succ]
                       rfl
                      refine two_ (i := 3) (j := 16) (Ni := some 58) (Nj := some 12) #[true, true, true, true, true, true, true, true, true, false, false, false, false, false, false, false, false, false, false] #[true, true, true, false, true, true, true, true, true, false, false, false, false, false, false, false, true, false, false] rfl rfl rfl rfl (two_of HT_.out (by kernel_rfl)) (by decide) (by decide) (fun K hK => ?_) (fun K hK => ?_)
                      ·
                       skip
                       refine goes_ Try.func22 (by kernel_rfl) rfl #[.slice A1 l1.length c1] (by rfl) rfl rfl (by (try simp only [List.map_toArray, List.map_cons, List.map_nil]); first | done | rfl | (simp only [List.length_drop, List.length_take]; rfl)) ?_
                       with_reducible refine (tensilelaw05_Runs.calls kj11 _ _ l1 t390 _ ?side1 ?side2 A33.out).mono ?_
                       (case side1 => repeat (first | exact (Kd.C_below HR1.out HB.out) | (with_reducible refine Kd.C_alloc ?_ _) | (with_reducible refine Kd.C_drewN ?_ _) | (with_reducible refine Kd.C_drew ?_)))
                       (case side2 => exact HC1.out)
                       rintro e w43 ⟨v391, rfl, ho0, hb⟩
                       refine ⟨_, rfl, ?_⟩
                       have n0_ := Aside0.mk (Kd.R_below (by (with_reducible repeat (first | apply Kd.R_alloc | apply Kd.R_drewN | apply Kd.R_drew)); exact HO389.out) hb)
                       have n1_ := Aside0.mk (Kd.S_lower ho0 (below_size (by repeat (first | (with_reducible first | exact HB.out | apply below_alloc | apply pw_below_drewN | apply below_drew1 | refine below_set ?_ GE373.out | refine below_set ?_ GE385.out) | exact HB.out))))
                       have n2_ := Aside0.mk (blk_below (g := gb373) (o := .cells #[.slice A0_0 l0_0.length c0_0] 24 (0, 0)) (by (with_reducible repeat (first | refine blk_drewN ?_ _ | refine blk_drew ?_ | refine blk_alloc ?_ _)); exact BK373.out) hb)
                       have n3_ := Aside0.mk (blk_below (g := gb385) (o := .cells #[.int .i64 t382, .int .i64 t383] 47 (0, 0)) (by (with_reducible repeat (first | refine blk_drewN ?_ _ | refine blk_drew ?_ | refine blk_alloc ?_ _)); exact BK385.out) hb)
                       have n4_ := Aside0.mk (below_step (by repeat (first | (with_reducible first | exact HB.out | apply below_alloc | apply pw_below_drewN | apply below_drew1 | refine below_set ?_ GE373.out | refine below_set ?_ GE385.out) | exact HB.out)) hb)
                       clear HO389
                       clear BK373
                       clear BK385
                       clear HB
                       have HO389 := n0_
                       have HO392 := n1_
                       have BK373 := n2_
                       have BK385 := n3_
                       have HB := n4_
                       clear n0_ n1_ n2_ n3_ n4_
                       (try clear hb)
                       (try clear hb2)
                       (try clear hk)
                       (try clear hi)
                       (try clear ho0)
                       refine hK.out _ _ ⟨(blk_cell BK373.out 0).trans rfl, (blk_cell BK385.out 0).trans rfl, (blk_cell BK385.out 1).trans rfl⟩ (fun hHeld => ?_)
                       clear hK K
                       refine norm_ (a' := ?_) ?_ ?_
                       rotate_left
                       ·
                        show Act.put _ (some 58) _ = _
                        simp only [Act.put, List.setIfInBounds_toArray, List.set_cons_zero, List.set_cons_succ, i64_w, i32_w]
                        rfl
                       exact norm_ (by first | (simp only [putAll, Act.put, List.setIfInBounds_toArray, List.set_cons_zero, List.set_cons_succ]; done) | (simp only [putAll, Act.put, List.setIfInBounds_toArray, List.set_cons_zero, List.set_cons_succ]; rfl)) (hJ1_3 (v388, v391) _ ⟨hHeld, (by (with_reducible repeat (first | apply Kd.R_alloc | apply Kd.R_drewN | apply Kd.R_drew)); exact HO389.out), (by (with_reducible repeat (first | apply Kd.S_alloc | apply Kd.S_drewN | apply Kd.S_drew)); exact HO392.out), (by (with_reducible repeat (first | refine blk_drewN ?_ _ | refine blk_drew ?_ | refine blk_alloc ?_ _)); exact BK373.out), (by (with_reducible repeat (first | refine blk_drewN ?_ _ | refine blk_drew ?_ | refine blk_alloc ?_ _)); exact BK385.out), (by repeat (first | (with_reducible first | exact HB.out | apply below_alloc | apply pw_below_drewN | apply below_drew1 | refine below_set ?_ GE373.out | refine below_set ?_ GE385.out) | exact HB.out))⟩)
                      ·
                       skip
                       refine box_step ?hg (N := 12) ?hd (cs := #[.int .i64 0, .int .i64 0]) (t := 47) ?hr ?_; (case hd => rfl); (case hg => rfl); (case hr => first | (go_simp; done) | (go_simp; rfl))
                       intro gb401 hg w43 hbox hb
                       have n0_ := Aside0.mk (Kd.R_below (Kd.R_elderB (by (with_reducible repeat (first | apply Kd.R_alloc | apply Kd.R_drewN | apply Kd.R_drew)); exact HO389.out) gb401 (Nat.le_of_eq hg.symm)) hb)
                       have n1_ := Aside0.mk (blk_below (g := gb373) (o := .cells #[.slice A0_0 l0_0.length c0_0] 24 (0, 0)) (by (with_reducible repeat (first | refine blk_drewN ?_ _ | refine blk_drew ?_ | refine blk_alloc ?_ _)); exact BK373.out) hb)
                       have n2_ := Aside0.mk (blk_below (g := gb385) (o := .cells #[.int .i64 t382, .int .i64 t383] 47 (0, 0)) (by (with_reducible repeat (first | refine blk_drewN ?_ _ | refine blk_drew ?_ | refine blk_alloc ?_ _)); exact BK385.out) hb)
                       have n3_ := Aside0.mk (below_step (by repeat (first | (with_reducible first | exact HB.out | apply below_alloc | apply pw_below_drewN | apply below_drew1 | refine below_set ?_ GE373.out | refine below_set ?_ GE385.out) | exact HB.out)) hb)
                       have n4_ := Aside0.mk (hbox)
                       have n5_ := Aside0.mk ((by rw [hg]; exact (below_size (by repeat (first | (with_reducible first | exact HB.out | apply below_alloc | apply pw_below_drewN | apply below_drew1 | refine below_set ?_ GE373.out | refine below_set ?_ GE385.out) | exact HB.out))) : w.heap.size ≤ gb401))
                       have n6_ := Aside0.mk ((by rw [hg]; exact (below_size (by repeat (first | (with_reducible first | exact HB.out | apply below_alloc | apply pw_below_drewN | apply below_drew1 | refine below_set ?_ GE373.out | refine below_set ?_ GE385.out) | exact HB.out))) : w.heap.size ≤ gb401))
                       have n7_ := Aside0.mk ((by rw [hg]; exact Nat.ne_of_lt (blk_lt (g := gb373) (o := .cells #[.slice A0_0 l0_0.length c0_0] 24 (0, 0)) (by (with_reducible repeat (first | refine blk_drewN ?_ _ | refine blk_drew ?_ | refine blk_alloc ?_ _)); exact BK373.out)) : gb373 ≠ gb401))
                       have n8_ := Aside0.mk ((by rw [hg]; exact Nat.ne_of_gt (blk_lt (g := gb373) (o := .cells #[.slice A0_0 l0_0.length c0_0] 24 (0, 0)) (by (with_reducible repeat (first | refine blk_drewN ?_ _ | refine blk_drew ?_ | refine blk_alloc ?_ _)); exact BK373.out)) : gb401 ≠ gb373))
                       have n9_ := Aside0.mk ((by rw [hg]; exact Nat.ne_of_lt (blk_lt (g := gb385) (o := .cells #[.int .i64 t382, .int .i64 t383] 47 (0, 0)) (by (with_reducible repeat (first | refine blk_drewN ?_ _ | refine blk_drew ?_ | refine blk_alloc ?_ _)); exact BK385.out)) : gb385 ≠ gb401))
                       have n10_ := Aside0.mk ((by rw [hg]; exact Nat.ne_of_gt (blk_lt (g := gb385) (o := .cells #[.int .i64 t382, .int .i64 t383] 47 (0, 0)) (by (with_reducible repeat (first | refine blk_drewN ?_ _ | refine blk_drew ?_ | refine blk_alloc ?_ _)); exact BK385.out)) : gb401 ≠ gb385))
                       clear HO389
                       clear BK373
                       clear BK385
                       clear HB
                       have HO389 := n0_
                       have BK373 := n1_
                       have BK385 := n2_
                       have HB := n3_
                       have BK401 := n4_
                       have GW401 := n5_
                       have GE401 := n6_
                       have NB373_401 := n7_
                       have NB401_373 := n8_
                       have NB385_401 := n9_
                       have NB401_385 := n10_
                       clear n0_ n1_ n2_ n3_ n4_ n5_ n6_ n7_ n8_ n9_ n10_
                       clear hb hbox hg
                       refine hK.out _ _ ⟨(blk_cell BK373.out 0).trans rfl, (blk_cell BK385.out 0).trans rfl, (blk_cell BK385.out 1).trans rfl⟩ (fun hHeld => ?_)
                       clear hK K
                       refine norm_ (a' := ?_) ?_ ?_
                       rotate_left
                       ·
                        show Act.put _ (some 12) _ = _
                        simp only [Act.put, List.setIfInBounds_toArray, List.set_cons_zero, List.set_cons_succ, i64_w, i32_w]
                        rfl
                       exact norm_ (by first | (simp only [putAll, Act.put, List.setIfInBounds_toArray, List.set_cons_zero, List.set_cons_succ]; done) | (simp only [putAll, Act.put, List.setIfInBounds_toArray, List.set_cons_zero, List.set_cons_succ]; rfl)) (hJ1_16 (v388, gb401) _ ⟨hHeld, (by (with_reducible repeat (first | apply Kd.R_alloc | apply Kd.R_drewN | apply Kd.R_drew)); exact HO389.out), (by (with_reducible repeat (first | refine blk_drewN ?_ _ | refine blk_drew ?_ | refine blk_alloc ?_ _)); exact BK373.out), (by (with_reducible repeat (first | refine blk_drewN ?_ _ | refine blk_drew ?_ | refine blk_alloc ?_ _)); exact BK385.out), (by (with_reducible repeat (first | refine blk_drewN ?_ _ | refine blk_drew ?_ | refine blk_alloc ?_ _)); exact BK401.out), GW401.out, GE401.out, NB373_401.out, NB401_373.out, NB385_401.out, NB401_385.out, (by repeat (first | (with_reducible first | exact HB.out | apply below_alloc | apply pw_below_drewN | apply below_drew1 | refine below_set ?_ GE373.out | refine below_set ?_ GE385.out | refine below_set ?_ GE401.out) | exact HB.out))⟩)
                    ·
                     skip
                     rintro ⟨v388, gb401⟩ w43 ⟨hS_, h0_, h1_, h2_, h3_, h4_, h5_, h6_, h7_, h8_, h9_, h10_⟩
                     have n0_ : Aside0 (Kd.R k47 47 w43 w.heap.size (fun k_ => k_ ≠ gb385 ∧ k_ ≠ gb401) v388 t387) := ⟨h0_⟩
                     have n1_ : Aside0 (w43.heap[gb373]? = some (.cells #[.slice A0_0 l0_0.length c0_0] 24 (0, 0))) := ⟨h1_⟩
                     have n2_ : Aside0 (w43.heap[gb385]? = some (.cells #[.int .i64 t382, .int .i64 t383] 47 (0, 0))) := ⟨h2_⟩
                     have n3_ : Aside0 (w43.heap[gb401]? = some (.cells #[.int .i64 0, .int .i64 0] 47 (0, 0))) := ⟨h3_⟩
                     have n4_ : Aside0 (w.heap.size ≤ gb401) := ⟨h4_⟩
                     have n5_ : Aside0 (w.heap.size ≤ gb401) := ⟨h5_⟩
                     have n6_ : Aside0 (gb373 ≠ gb401) := ⟨h6_⟩
                     have n7_ : Aside0 (gb401 ≠ gb373) := ⟨h7_⟩
                     have n8_ : Aside0 (gb385 ≠ gb401) := ⟨h8_⟩
                     have n9_ : Aside0 (gb401 ≠ gb385) := ⟨h9_⟩
                     have n10_ : Aside0 (Below w.heap.size w w43) := ⟨h10_⟩
                     clear BK373
                     clear BK385
                     clear HB
                     clear h0_ h1_ h2_ h3_ h4_ h5_ h6_ h7_ h8_ h9_ h10_
                     have HO389 := n0_
                     have BK373 := n1_
                     have BK385 := n2_
                     have BK401 := n3_
                     have GW401 := n4_
                     have GE401 := n5_
                     have NB373_401 := n6_
                     have NB401_373 := n7_
                     have NB385_401 := n8_
                     have NB401_385 := n9_
                     have HB := n10_
                     clear n0_ n1_ n2_ n3_ n4_ n5_ n6_ n7_ n8_ n9_ n10_
                     have hHeld : w43.cell? ⟨gb373, 0, none⟩ = some (.slice A0_0 l0_0.length c0_0) ∧ w43.cell? ⟨gb385, 0, none⟩ = some (.int .i64 t382) ∧ w43.cell? ⟨gb385, 1, none⟩ = some (.int .i64 t383) := hS_
                     refine norm_ (a' := ?_) ?_ ?_
                     rotate_left
                     ·
                      simp only [putAll, Act.put, List.setIfInBounds_toArray, List.set_cons_zero, List.set_cons_succ]
                      rfl
                     refine one_ (i := 3) (N := some 58) #[true, true, true, true, true, true, true, true, true, false, false, false, false, false, false, false, true, false, false] rfl rfl (one_of HT_.out (by kernel_rfl)) (by decide) (fun K hK => ?_)
                     refine goes_ Try.func22 (by kernel_rfl) rfl #[.slice A1 l1.length c1] (by rfl) rfl rfl (by (try simp only [List.map_toArray, List.map_cons, List.map_nil]); first | done | rfl | (simp only [List.length_drop, List.length_take]; rfl)) ?_
                     with_reducible refine (tensilelaw05_Runs.calls kj11 _ _ l1 t390 _ ?side1 ?side2 A33.out).mono ?_
                     (case side1 => repeat (first | exact (Kd.C_below HR1.out HB.out) | (with_reducible refine Kd.C_alloc ?_ _) | (with_reducible refine Kd.C_drewN ?_ _) | (with_reducible refine Kd.C_drew ?_)))
                     (case side2 => exact HC1.out)
                     rintro e w44 ⟨v391, rfl, ho0, hb⟩
                     refine ⟨_, rfl, ?_⟩
                     have n0_ := Aside0.mk (Kd.R_below (by (with_reducible repeat (first | apply Kd.R_alloc | apply Kd.R_drewN | apply Kd.R_drew)); exact HO389.out) hb)
                     have n1_ := Aside0.mk (Kd.S_lower ho0 (below_size (by repeat (first | (with_reducible first | exact HB.out | apply below_alloc | apply pw_below_drewN | apply below_drew1 | refine below_set ?_ GE373.out | refine below_set ?_ GE385.out | refine below_set ?_ GE401.out) | exact HB.out))))
                     have n2_ := Aside0.mk (blk_below (g := gb373) (o := .cells #[.slice A0_0 l0_0.length c0_0] 24 (0, 0)) (by (with_reducible repeat (first | refine blk_drewN ?_ _ | refine blk_drew ?_ | refine blk_alloc ?_ _)); exact BK373.out) hb)
                     have n3_ := Aside0.mk (blk_below (g := gb385) (o := .cells #[.int .i64 t382, .int .i64 t383] 47 (0, 0)) (by (with_reducible repeat (first | refine blk_drewN ?_ _ | refine blk_drew ?_ | refine blk_alloc ?_ _)); exact BK385.out) hb)
                     have n4_ := Aside0.mk (blk_below (g := gb401) (o := .cells #[.int .i64 0, .int .i64 0] 47 (0, 0)) (by (with_reducible repeat (first | refine blk_drewN ?_ _ | refine blk_drew ?_ | refine blk_alloc ?_ _)); exact BK401.out) hb)
                     have n5_ := Aside0.mk (below_step (by repeat (first | (with_reducible first | exact HB.out | apply below_alloc | apply pw_below_drewN | apply below_drew1 | refine below_set ?_ GE373.out | refine below_set ?_ GE385.out | refine below_set ?_ GE401.out) | exact HB.out)) hb)
                     clear HO389
                     clear BK373
                     clear BK385
                     clear BK401
                     clear HB
                     have HO389 := n0_
                     have HO392 := n1_
                     have BK373 := n2_
                     have BK385 := n3_
                     have BK401 := n4_
                     have HB := n5_
                     clear n0_ n1_ n2_ n3_ n4_ n5_
                     (try clear hb)
                     (try clear hb2)
                     (try clear hk)
                     (try clear hi)
                     (try clear ho0)
                     refine hK.out _ _ ⟨(blk_cell BK373.out 0).trans rfl, (blk_cell BK385.out 0).trans rfl, (blk_cell BK385.out 1).trans rfl⟩ (fun hHeld => ?_)
                     clear hK K
                     refine norm_ (a' := ?_) ?_ ?_
                     rotate_left
                     ·
                      show Act.put _ (some 58) _ = _
                      simp only [Act.put, List.setIfInBounds_toArray, List.set_cons_zero, List.set_cons_succ, i64_w, i32_w]
                      rfl
                     exact norm_ (by first | (simp only [putAll, Act.put, List.setIfInBounds_toArray, List.set_cons_zero, List.set_cons_succ]; done) | (simp only [putAll, Act.put, List.setIfInBounds_toArray, List.set_cons_zero, List.set_cons_succ]; rfl)) (hJ1_3_16 (v388, v391, gb401) _ ⟨hHeld, (by (with_reducible repeat (first | apply Kd.R_alloc | apply Kd.R_drewN | apply Kd.R_drew)); exact HO389.out), (by (with_reducible repeat (first | apply Kd.S_alloc | apply Kd.S_drewN | apply Kd.S_drew)); exact HO392.out), (by (with_reducible repeat (first | refine blk_drewN ?_ _ | refine blk_drew ?_ | refine blk_alloc ?_ _)); exact BK373.out), (by (with_reducible repeat (first | refine blk_drewN ?_ _ | refine blk_drew ?_ | refine blk_alloc ?_ _)); exact BK385.out), (by (with_reducible repeat (first | refine blk_drewN ?_ _ | refine blk_drew ?_ | refine blk_alloc ?_ _)); exact BK401.out), GW401.out, GE401.out, NB373_401.out, NB401_373.out, NB385_401.out, NB401_385.out, (by repeat (first | (with_reducible first | exact HB.out | apply below_alloc | apply pw_below_drewN | apply below_drew1 | refine below_set ?_ GE373.out | refine below_set ?_ GE385.out | refine below_set ?_ GE401.out) | exact HB.out))⟩)
                   ·
                    skip
                    rintro ⟨v388, v391⟩ w43 ⟨hS_, h0_, h1_, h2_, h3_, h4_⟩
                    have n0_ : Aside0 (Kd.R k47 47 w43 w.heap.size (fun k_ => k_ ≠ gb385) v388 t387) := ⟨h0_⟩
                    have n1_ : Aside0 (Kd.S k67 67 w43 w.heap.size (fun _ => True) v391 t390) := ⟨h1_⟩
                    have n2_ : Aside0 (w43.heap[gb373]? = some (.cells #[.slice A0_0 l0_0.length c0_0] 24 (0, 0))) := ⟨h2_⟩
                    have n3_ : Aside0 (w43.heap[gb385]? = some (.cells #[.int .i64 t382, .int .i64 t383] 47 (0, 0))) := ⟨h3_⟩
                    have n4_ : Aside0 (Below w.heap.size w w43) := ⟨h4_⟩
                    clear BK373
                    clear BK385
                    clear HB
                    clear h0_ h1_ h2_ h3_ h4_
                    have HO389 := n0_
                    have HO392 := n1_
                    have BK373 := n2_
                    have BK385 := n3_
                    have HB := n4_
                    clear n0_ n1_ n2_ n3_ n4_
                    have hHeld : w43.cell? ⟨gb373, 0, none⟩ = some (.slice A0_0 l0_0.length c0_0) ∧ w43.cell? ⟨gb385, 0, none⟩ = some (.int .i64 t382) ∧ w43.cell? ⟨gb385, 1, none⟩ = some (.int .i64 t383) := hS_
                    refine norm_ (a' := ?_) ?_ ?_
                    rotate_left
                    ·
                     simp only [putAll, Act.put, List.setIfInBounds_toArray, List.set_cons_zero, List.set_cons_succ]
                     rfl
                    refine two_ (i := 9) (j := 16) (Ni := some 64) (Nj := some 12) #[true, true, true, true, true, true, true, true, true, true, false, false, false, false, false, false, false, false, false] #[true, true, true, true, true, true, true, true, true, false, false, false, false, false, false, false, true, false, false] rfl rfl rfl rfl (two_of HT_.out (by kernel_rfl)) (by decide) (by decide) (fun K hK => ?_) (fun K hK => ?_)
                    ·
                     skip
                     refine goes_ Try.func33 (by kernel_rfl) rfl #[.int .i64 t383, .int .i64 t383] (by rfl) rfl rfl (by (try simp only [List.map_toArray, List.map_cons, List.map_nil]); first | done | rfl | (simp only [List.length_drop, List.length_take]; rfl)) ?_
                     with_reducible refine (tensilelaw05_between.calls t383 t383 t393 t394 _ A34.out).mono ?_
                     rintro e w44 ⟨rfl, hb⟩
                     refine ⟨_, rfl, ?_⟩
                     have n0_ := Aside0.mk (Kd.R_below (by (with_reducible repeat (first | apply Kd.R_alloc | apply Kd.R_drewN | apply Kd.R_drew)); exact HO389.out) hb)
                     have n1_ := Aside0.mk (Kd.S_below (by (with_reducible repeat (first | apply Kd.S_alloc | apply Kd.S_drewN | apply Kd.S_drew)); exact HO392.out) hb)
                     have n2_ := Aside0.mk (blk_below (g := gb373) (o := .cells #[.slice A0_0 l0_0.length c0_0] 24 (0, 0)) (by (with_reducible repeat (first | refine blk_drewN ?_ _ | refine blk_drew ?_ | refine blk_alloc ?_ _)); exact BK373.out) hb)
                     have n3_ := Aside0.mk (blk_below (g := gb385) (o := .cells #[.int .i64 t382, .int .i64 t383] 47 (0, 0)) (by (with_reducible repeat (first | refine blk_drewN ?_ _ | refine blk_drew ?_ | refine blk_alloc ?_ _)); exact BK385.out) hb)
                     have n4_ := Aside0.mk (below_step (by repeat (first | (with_reducible first | exact HB.out | apply below_alloc | apply pw_below_drewN | apply below_drew1 | refine below_set ?_ GE373.out | refine below_set ?_ GE385.out) | exact HB.out)) hb)
                     clear HO389
                     clear HO392
                     clear BK373
                     clear BK385
                     clear HB
                     have HO389 := n0_
                     have HO392 := n1_
                     have BK373 := n2_
                     have BK385 := n3_
                     have HB := n4_
                     clear n0_ n1_ n2_ n3_ n4_
                     (try clear hb)
                     (try clear hb2)
                     (try clear hk)
                     (try clear hi)
                     refine hK.out _ _ ⟨(blk_cell BK373.out 0).trans rfl, (blk_cell BK385.out 0).trans rfl, (blk_cell BK385.out 1).trans rfl⟩ (fun hHeld => ?_)
                     clear hK K
                     refine norm_ (a' := ?_) ?_ ?_
                     rotate_left
                     ·
                      show Act.put _ (some 64) _ = _
                      simp only [Act.put, List.setIfInBounds_toArray, List.set_cons_zero, List.set_cons_succ, i64_w, i32_w]
                      rfl
                     refine pure_ (i := 10) (N := some 65) (v := ?_) (a' := ?_) #[true, true, true, true, true, true, true, true, true, true, true, false, false, false, false, false, false, false, false] rfl rfl (any_of HT_.out (by kernel_rfl)) (fun _ _ _ h => h) (Or.inl ⟨by rfl, ?_⟩) ?_ ?_
                     rotate_left
                     ·
                      intro w'
                      go_simp
                      with_reducible rfl
                     rotate_left
                     ·
                      simp only [Act.put, List.setIfInBounds_toArray, List.set_cons_zero, List.set_cons_succ, i64_w, i32_w]
                      rfl
                     exact norm_ (by first | (simp only [putAll, Act.put, List.setIfInBounds_toArray, List.set_cons_zero, List.set_cons_succ]; done) | (simp only [putAll, Act.put, List.setIfInBounds_toArray, List.set_cons_zero, List.set_cons_succ]; rfl)) (hJ1_3_9 (v388, v391) _ ⟨hHeld, (by (with_reducible repeat (first | apply Kd.R_alloc | apply Kd.R_drewN | apply Kd.R_drew)); exact HO389.out), (by (with_reducible repeat (first | apply Kd.S_alloc | apply Kd.S_drewN | apply Kd.S_drew)); exact HO392.out), (by (with_reducible repeat (first | refine blk_drewN ?_ _ | refine blk_drew ?_ | refine blk_alloc ?_ _)); exact BK373.out), (by (with_reducible repeat (first | refine blk_drewN ?_ _ | refine blk_drew ?_ | refine blk_alloc ?_ _)); exact BK385.out), (by repeat (first | (with_reducible first | exact HB.out | apply below_alloc | apply pw_below_drewN | apply below_drew1 | refine below_set ?_ GE373.out | refine below_set ?_ GE385.out) | exact HB.out))⟩)
                    ·
                     skip
                     refine box_step ?hg (N := 12) ?hd (cs := #[.int .i64 0, .int .i64 0]) (t := 47) ?hr ?_; (case hd => rfl); (case hg => rfl); (case hr => first | (go_simp; done) | (go_simp; rfl))
                     intro gb401 hg w44 hbox hb
                     have n0_ := Aside0.mk (Kd.R_below (Kd.R_elderB (by (with_reducible repeat (first | apply Kd.R_alloc | apply Kd.R_drewN | apply Kd.R_drew)); exact HO389.out) gb401 (Nat.le_of_eq hg.symm)) hb)
                     have n1_ := Aside0.mk (Kd.S_below (by (with_reducible repeat (first | apply Kd.S_alloc | apply Kd.S_drewN | apply Kd.S_drew)); exact HO392.out) hb)
                     have n2_ := Aside0.mk (blk_below (g := gb373) (o := .cells #[.slice A0_0 l0_0.length c0_0] 24 (0, 0)) (by (with_reducible repeat (first | refine blk_drewN ?_ _ | refine blk_drew ?_ | refine blk_alloc ?_ _)); exact BK373.out) hb)
                     have n3_ := Aside0.mk (blk_below (g := gb385) (o := .cells #[.int .i64 t382, .int .i64 t383] 47 (0, 0)) (by (with_reducible repeat (first | refine blk_drewN ?_ _ | refine blk_drew ?_ | refine blk_alloc ?_ _)); exact BK385.out) hb)
                     have n4_ := Aside0.mk (below_step (by repeat (first | (with_reducible first | exact HB.out | apply below_alloc | apply pw_below_drewN | apply below_drew1 | refine below_set ?_ GE373.out | refine below_set ?_ GE385.out) | exact HB.out)) hb)
                     have n5_ := Aside0.mk (hbox)
                     have n6_ := Aside0.mk ((by rw [hg]; exact (below_size (by repeat (first | (with_reducible first | exact HB.out | apply below_alloc | apply pw_below_drewN | apply below_drew1 | refine below_set ?_ GE373.out | refine below_set ?_ GE385.out) | exact HB.out))) : w.heap.size ≤ gb401))
                     have n7_ := Aside0.mk ((by rw [hg]; exact (below_size (by repeat (first | (with_reducible first | exact HB.out | apply below_alloc | apply pw_below_drewN | apply below_drew1 | refine below_set ?_ GE373.out | refine below_set ?_ GE385.out) | exact HB.out))) : w.heap.size ≤ gb401))
                     have n8_ := Aside0.mk ((by rw [hg]; exact Nat.ne_of_lt (blk_lt (g := gb373) (o := .cells #[.slice A0_0 l0_0.length c0_0] 24 (0, 0)) (by (with_reducible repeat (first | refine blk_drewN ?_ _ | refine blk_drew ?_ | refine blk_alloc ?_ _)); exact BK373.out)) : gb373 ≠ gb401))
                     have n9_ := Aside0.mk ((by rw [hg]; exact Nat.ne_of_gt (blk_lt (g := gb373) (o := .cells #[.slice A0_0 l0_0.length c0_0] 24 (0, 0)) (by (with_reducible repeat (first | refine blk_drewN ?_ _ | refine blk_drew ?_ | refine blk_alloc ?_ _)); exact BK373.out)) : gb401 ≠ gb373))
                     have n10_ := Aside0.mk ((by rw [hg]; exact Nat.ne_of_lt (blk_lt (g := gb385) (o := .cells #[.int .i64 t382, .int .i64 t383] 47 (0, 0)) (by (with_reducible repeat (first | refine blk_drewN ?_ _ | refine blk_drew ?_ | refine blk_alloc ?_ _)); exact BK385.out)) : gb385 ≠ gb401))
                     have n11_ := Aside0.mk ((by rw [hg]; exact Nat.ne_of_gt (blk_lt (g := gb385) (o := .cells #[.int .i64 t382, .int .i64 t383] 47 (0, 0)) (by (with_reducible repeat (first | refine blk_drewN ?_ _ | refine blk_drew ?_ | refine blk_alloc ?_ _)); exact BK385.out)) : gb401 ≠ gb385))
                     clear HO389
                     clear HO392
                     clear BK373
                     clear BK385
                     clear HB
                     have HO389 := n0_
                     have HO392 := n1_
                     have BK373 := n2_
                     have BK385 := n3_
                     have HB := n4_
                     have BK401 := n5_
                     have GW401 := n6_
                     have GE401 := n7_
                     have NB373_401 := n8_
                     have NB401_373 := n9_
                     have NB385_401 := n10_
                     have NB401_385 := n11_
                     clear n0_ n1_ n2_ n3_ n4_ n5_ n6_ n7_ n8_ n9_ n10_ n11_
                     clear hb hbox hg
                     refine hK.out _ _ ⟨(blk_cell BK373.out 0).trans rfl, (blk_cell BK385.out 0).trans rfl, (blk_cell BK385.out 1).trans rfl⟩ (fun hHeld => ?_)
                     clear hK K
                     refine norm_ (a' := ?_) ?_ ?_
                     rotate_left
                     ·
                      show Act.put _ (some 12) _ = _
                      simp only [Act.put, List.setIfInBounds_toArray, List.set_cons_zero, List.set_cons_succ, i64_w, i32_w]
                      rfl
                     exact norm_ (by first | (simp only [putAll, Act.put, List.setIfInBounds_toArray, List.set_cons_zero, List.set_cons_succ]; done) | (simp only [putAll, Act.put, List.setIfInBounds_toArray, List.set_cons_zero, List.set_cons_succ]; rfl)) (hJ1_3_16 (v388, v391, gb401) _ ⟨hHeld, (by (with_reducible repeat (first | apply Kd.R_alloc | apply Kd.R_drewN | apply Kd.R_drew)); exact HO389.out), (by (with_reducible repeat (first | apply Kd.S_alloc | apply Kd.S_drewN | apply Kd.S_drew)); exact HO392.out), (by (with_reducible repeat (first | refine blk_drewN ?_ _ | refine blk_drew ?_ | refine blk_alloc ?_ _)); exact BK373.out), (by (with_reducible repeat (first | refine blk_drewN ?_ _ | refine blk_drew ?_ | refine blk_alloc ?_ _)); exact BK385.out), (by (with_reducible repeat (first | refine blk_drewN ?_ _ | refine blk_drew ?_ | refine blk_alloc ?_ _)); exact BK401.out), GW401.out, GE401.out, NB373_401.out, NB401_373.out, NB385_401.out, NB401_385.out, (by repeat (first | (with_reducible first | exact HB.out | apply below_alloc | apply pw_below_drewN | apply below_drew1 | refine below_set ?_ GE373.out | refine below_set ?_ GE385.out | refine below_set ?_ GE401.out) | exact HB.out))⟩)
                  ·
                   skip
                   rintro ⟨v388, v391, gb401⟩ w44 ⟨hS_, h0_, h1_, h2_, h3_, h4_, h5_, h6_, h7_, h8_, h9_, h10_, h11_⟩
                   have n0_ : Aside0 (Kd.R k47 47 w44 w.heap.size (fun k_ => k_ ≠ gb385 ∧ k_ ≠ gb401) v388 t387) := ⟨h0_⟩
                   have n1_ : Aside0 (Kd.S k67 67 w44 w.heap.size (fun _ => True) v391 t390) := ⟨h1_⟩
                   have n2_ : Aside0 (w44.heap[gb373]? = some (.cells #[.slice A0_0 l0_0.length c0_0] 24 (0, 0))) := ⟨h2_⟩
                   have n3_ : Aside0 (w44.heap[gb385]? = some (.cells #[.int .i64 t382, .int .i64 t383] 47 (0, 0))) := ⟨h3_⟩
                   have n4_ : Aside0 (w44.heap[gb401]? = some (.cells #[.int .i64 0, .int .i64 0] 47 (0, 0))) := ⟨h4_⟩
                   have n5_ : Aside0 (w.heap.size ≤ gb401) := ⟨h5_⟩
                   have n6_ : Aside0 (w.heap.size ≤ gb401) := ⟨h6_⟩
                   have n7_ : Aside0 (gb373 ≠ gb401) := ⟨h7_⟩
                   have n8_ : Aside0 (gb401 ≠ gb373) := ⟨h8_⟩
                   have n9_ : Aside0 (gb385 ≠ gb401) := ⟨h9_⟩
                   have n10_ : Aside0 (gb401 ≠ gb385) := ⟨h10_⟩
                   have n11_ : Aside0 (Below w.heap.size w w44) := ⟨h11_⟩
                   clear BK373
                   clear BK385
                   clear HB
                   clear h0_ h1_ h2_ h3_ h4_ h5_ h6_ h7_ h8_ h9_ h10_ h11_
                   have HO389 := n0_
                   have HO392 := n1_
                   have BK373 := n2_
                   have BK385 := n3_
                   have BK401 := n4_
                   have GW401 := n5_
                   have GE401 := n6_
                   have NB373_401 := n7_
                   have NB401_373 := n8_
                   have NB385_401 := n9_
                   have NB401_385 := n10_
                   have HB := n11_
                   clear n0_ n1_ n2_ n3_ n4_ n5_ n6_ n7_ n8_ n9_ n10_ n11_
                   have hHeld : w44.cell? ⟨gb373, 0, none⟩ = some (.slice A0_0 l0_0.length c0_0) ∧ w44.cell? ⟨gb385, 0, none⟩ = some (.int .i64 t382) ∧ w44.cell? ⟨gb385, 1, none⟩ = some (.int .i64 t383) := hS_
                   refine norm_ (a' := ?_) ?_ ?_
                   rotate_left
                   ·
                    simp only [putAll, Act.put, List.setIfInBounds_toArray, List.set_cons_zero, List.set_cons_succ]
                    rfl
                   refine one_ (i := 9) (N := some 64) #[true, true, true, true, true, true, true, true, true, true, false, false, false, false, false, false, true, false, false] rfl rfl (one_of HT_.out (by kernel_rfl)) (by decide) (fun K hK => ?_)
                   refine goes_ Try.func33 (by kernel_rfl) rfl #[.int .i64 t383, .int .i64 t383] (by rfl) rfl rfl (by (try simp only [List.map_toArray, List.map_cons, List.map_nil]); first | done | rfl | (simp only [List.length_drop, List.length_take]; rfl)) ?_
                   with_reducible refine (tensilelaw05_between.calls t383 t383 t393 t394 _ A34.out).mono ?_
                   rintro e w45 ⟨rfl, hb⟩
                   refine ⟨_, rfl, ?_⟩
                   have n0_ := Aside0.mk (Kd.R_below (by (with_reducible repeat (first | apply Kd.R_alloc | apply Kd.R_drewN | apply Kd.R_drew)); exact HO389.out) hb)
                   have n1_ := Aside0.mk (Kd.S_below (by (with_reducible repeat (first | apply Kd.S_alloc | apply Kd.S_drewN | apply Kd.S_drew)); exact HO392.out) hb)
                   have n2_ := Aside0.mk (blk_below (g := gb373) (o := .cells #[.slice A0_0 l0_0.length c0_0] 24 (0, 0)) (by (with_reducible repeat (first | refine blk_drewN ?_ _ | refine blk_drew ?_ | refine blk_alloc ?_ _)); exact BK373.out) hb)
                   have n3_ := Aside0.mk (blk_below (g := gb385) (o := .cells #[.int .i64 t382, .int .i64 t383] 47 (0, 0)) (by (with_reducible repeat (first | refine blk_drewN ?_ _ | refine blk_drew ?_ | refine blk_alloc ?_ _)); exact BK385.out) hb)
                   have n4_ := Aside0.mk (blk_below (g := gb401) (o := .cells #[.int .i64 0, .int .i64 0] 47 (0, 0)) (by (with_reducible repeat (first | refine blk_drewN ?_ _ | refine blk_drew ?_ | refine blk_alloc ?_ _)); exact BK401.out) hb)
                   have n5_ := Aside0.mk (below_step (by repeat (first | (with_reducible first | exact HB.out | apply below_alloc | apply pw_below_drewN | apply below_drew1 | refine below_set ?_ GE373.out | refine below_set ?_ GE385.out | refine below_set ?_ GE401.out) | exact HB.out)) hb)
                   clear HO389
                   clear HO392
                   clear BK373
                   clear BK385
                   clear BK401
                   clear HB
                   have HO389 := n0_
                   have HO392 := n1_
                   have BK373 := n2_
                   have BK385 := n3_
                   have BK401 := n4_
                   have HB := n5_
                   clear n0_ n1_ n2_ n3_ n4_ n5_
                   (try clear hb)
                   (try clear hb2)
                   (try clear hk)
                   (try clear hi)
                   refine hK.out _ _ ⟨(blk_cell BK373.out 0).trans rfl, (blk_cell BK385.out 0).trans rfl, (blk_cell BK385.out 1).trans rfl⟩ (fun hHeld => ?_)
                   clear hK K
                   refine norm_ (a' := ?_) ?_ ?_
                   rotate_left
                   ·
                    show Act.put _ (some 64) _ = _
                    simp only [Act.put, List.setIfInBounds_toArray, List.set_cons_zero, List.set_cons_succ, i64_w, i32_w]
                    rfl
                   refine pure_ (i := 10) (N := some 65) (v := ?_) (a' := ?_) #[true, true, true, true, true, true, true, true, true, true, true, false, false, false, false, false, true, false, false] rfl rfl (any_of HT_.out (by kernel_rfl)) (fun _ _ _ h => h) (Or.inl ⟨by rfl, ?_⟩) ?_ ?_
                   rotate_left
                   ·
                    intro w'
                    go_simp
                    with_reducible rfl
                   rotate_left
                   ·
                    simp only [Act.put, List.setIfInBounds_toArray, List.set_cons_zero, List.set_cons_succ, i64_w, i32_w]
                    rfl
                   exact norm_ (by first | (simp only [putAll, Act.put, List.setIfInBounds_toArray, List.set_cons_zero, List.set_cons_succ]; done) | (simp only [putAll, Act.put, List.setIfInBounds_toArray, List.set_cons_zero, List.set_cons_succ]; rfl)) (hJ1_3_9_16 (v388, v391, gb401) _ ⟨hHeld, (by (with_reducible repeat (first | apply Kd.R_alloc | apply Kd.R_drewN | apply Kd.R_drew)); exact HO389.out), (by (with_reducible repeat (first | apply Kd.S_alloc | apply Kd.S_drewN | apply Kd.S_drew)); exact HO392.out), (by (with_reducible repeat (first | refine blk_drewN ?_ _ | refine blk_drew ?_ | refine blk_alloc ?_ _)); exact BK373.out), (by (with_reducible repeat (first | refine blk_drewN ?_ _ | refine blk_drew ?_ | refine blk_alloc ?_ _)); exact BK385.out), (by (with_reducible repeat (first | refine blk_drewN ?_ _ | refine blk_drew ?_ | refine blk_alloc ?_ _)); exact BK401.out), GW401.out, GE401.out, NB373_401.out, NB401_373.out, NB385_401.out, NB401_385.out, (by repeat (first | (with_reducible first | exact HB.out | apply below_alloc | apply pw_below_drewN | apply below_drew1 | refine below_set ?_ GE373.out | refine below_set ?_ GE385.out | refine below_set ?_ GE401.out) | exact HB.out))⟩)
                 ·
                  skip
                  rintro ⟨v388, v391⟩ w44 ⟨hS_, h0_, h1_, h2_, h3_, h4_⟩
                  have n0_ : Aside0 (Kd.R k47 47 w44 w.heap.size (fun k_ => k_ ≠ gb385) v388 t387) := ⟨h0_⟩
                  have n1_ : Aside0 (Kd.S k67 67 w44 w.heap.size (fun _ => True) v391 t390) := ⟨h1_⟩
                  have n2_ : Aside0 (w44.heap[gb373]? = some (.cells #[.slice A0_0 l0_0.length c0_0] 24 (0, 0))) := ⟨h2_⟩
                  have n3_ : Aside0 (w44.heap[gb385]? = some (.cells #[.int .i64 t382, .int .i64 t383] 47 (0, 0))) := ⟨h3_⟩
                  have n4_ : Aside0 (Below w.heap.size w w44) := ⟨h4_⟩
                  clear BK373
                  clear BK385
                  clear HB
                  clear h0_ h1_ h2_ h3_ h4_
                  have HO389 := n0_
                  have HO392 := n1_
                  have BK373 := n2_
                  have BK385 := n3_
                  have HB := n4_
                  clear n0_ n1_ n2_ n3_ n4_
                  have hHeld : w44.cell? ⟨gb373, 0, none⟩ = some (.slice A0_0 l0_0.length c0_0) ∧ w44.cell? ⟨gb385, 0, none⟩ = some (.int .i64 t382) ∧ w44.cell? ⟨gb385, 1, none⟩ = some (.int .i64 t383) := hS_
                  refine norm_ (a' := ?_) ?_ ?_
                  rotate_left
                  ·
                   simp only [putAll, Act.put, List.setIfInBounds_toArray, List.set_cons_zero, List.set_cons_succ]
                   rfl
                  refine two_ (i := 11) (j := 16) (Ni := some 66) (Nj := some 12) #[true, true, true, true, true, true, true, true, true, true, true, true, false, false, false, false, false, false, false] #[true, true, true, true, true, true, true, true, true, true, true, false, false, false, false, false, true, false, false] rfl rfl rfl rfl (two_of HT_.out (by kernel_rfl)) (by decide) (by decide) (fun K hK => ?_) (fun K hK => ?_)
                  ·
                   skip
                   refine Kd.R_lit_step k65 _ 65 ?hg (N := 66) ?hd (xs := ([(⟨(Int.tmod (wrap64 (a2)) (l0_0.length : Int)), (⟨t393, t394⟩ : S47)⟩ : S65)] : List (S65))) (inner := [.int .i64 (Int.tmod (wrap64 (a2)) (l0_0.length : Int)), .int .i64 t393, .int .i64 t394]) (ok := fun _ => True) (okp := fun _ => True) ?hr ?hp (fun _ hk => hk) trivial (Below.refl _ _) (Nat.le_refl _) (by simp) ?_; (case hd => rfl); (case hg => rfl); (case hr => first | (go_simp; done) | (go_simp; rfl)); (case hp => exact (Reps.c3 (show Kd.M k65 _ _ _ (⟨(Int.tmod (wrap64 (a2)) (l0_0.length : Int)), (⟨t393, t394⟩ : S47)⟩ : S65) [.int .i64 (Int.tmod (wrap64 (a2)) (l0_0.length : Int)), .int .i64 t393, .int .i64 t394] from (k65_mkM _ _ _ (⟨(Int.tmod (wrap64 (a2)) (l0_0.length : Int)), (⟨t393, t394⟩ : S47)⟩ : S65) )) (Reps.none _ _)))
                   intro v396 w45 ho46 hb hg_ hnew_
                   clear hg_ hnew_
                   (first | rw [← Ny395.out] at ho46 | (simp only [Int.reduceToNat] at ho46; rw [← Ny395.out] at ho46))
                   have n0_ := Aside0.mk (Kd.R_below (by (with_reducible repeat (first | apply Kd.R_alloc | apply Kd.R_drewN | apply Kd.R_drew)); exact HO389.out) hb)
                   have n1_ := Aside0.mk (Kd.S_elder' (by (with_reducible repeat (first | apply Kd.S_alloc | apply Kd.S_drewN | apply Kd.S_drew)); exact HO392.out) (Kd.R_base ho46) hb)
                   have n2_ := Aside0.mk (Kd.R_lower ho46 (below_size (by repeat (first | (with_reducible first | exact HB.out | apply below_alloc | apply pw_below_drewN | apply below_drew1 | refine below_set ?_ GE373.out | refine below_set ?_ GE385.out) | exact HB.out))))
                   have n3_ := Aside0.mk (blk_below (g := gb373) (o := .cells #[.slice A0_0 l0_0.length c0_0] 24 (0, 0)) (by (with_reducible repeat (first | refine blk_drewN ?_ _ | refine blk_drew ?_ | refine blk_alloc ?_ _)); exact BK373.out) hb)
                   have n4_ := Aside0.mk (blk_below (g := gb385) (o := .cells #[.int .i64 t382, .int .i64 t383] 47 (0, 0)) (by (with_reducible repeat (first | refine blk_drewN ?_ _ | refine blk_drew ?_ | refine blk_alloc ?_ _)); exact BK385.out) hb)
                   have n5_ := Aside0.mk (below_step (by repeat (first | (with_reducible first | exact HB.out | apply below_alloc | apply pw_below_drewN | apply below_drew1 | refine below_set ?_ GE373.out | refine below_set ?_ GE385.out) | exact HB.out)) hb)
                   clear HO389
                   clear HO392
                   clear BK373
                   clear BK385
                   clear HB
                   have HO389 := n0_
                   have HO392 := n1_
                   have HO397 := n2_
                   have BK373 := n3_
                   have BK385 := n4_
                   have HB := n5_
                   clear n0_ n1_ n2_ n3_ n4_ n5_
                   clear hb ho46
                   refine hK.out _ _ ⟨(blk_cell BK373.out 0).trans rfl, (blk_cell BK385.out 0).trans rfl, (blk_cell BK385.out 1).trans rfl⟩ (fun hHeld => ?_)
                   clear hK K
                   refine norm_ (a' := ?_) ?_ ?_
                   rotate_left
                   ·
                    show Act.put _ (some 66) _ = _
                    simp only [Act.put, List.setIfInBounds_toArray, List.set_cons_zero, List.set_cons_succ, i64_w, i32_w]
                    rfl
                   exact norm_ (by first | (simp only [putAll, Act.put, List.setIfInBounds_toArray, List.set_cons_zero, List.set_cons_succ]; done) | (simp only [putAll, Act.put, List.setIfInBounds_toArray, List.set_cons_zero, List.set_cons_succ]; rfl)) (hJ1_3_9_11 (v388, v391, v396) _ ⟨hHeld, (by (with_reducible repeat (first | apply Kd.R_alloc | apply Kd.R_drewN | apply Kd.R_drew)); exact HO389.out), (by (with_reducible repeat (first | apply Kd.S_alloc | apply Kd.S_drewN | apply Kd.S_drew)); exact Kd.S_mono HO392.out (fun _ hk => hk.2)), (by (with_reducible repeat (first | apply Kd.R_alloc | apply Kd.R_drewN | apply Kd.R_drew)); exact HO397.out), (by (with_reducible repeat (first | refine blk_drewN ?_ _ | refine blk_drew ?_ | refine blk_alloc ?_ _)); exact BK373.out), (by (with_reducible repeat (first | refine blk_drewN ?_ _ | refine blk_drew ?_ | refine blk_alloc ?_ _)); exact BK385.out), (by repeat (first | (with_reducible first | exact HB.out | apply below_alloc | apply pw_below_drewN | apply below_drew1 | refine below_set ?_ GE373.out | refine below_set ?_ GE385.out) | exact HB.out))⟩)
                  ·
                   skip
                   refine box_step ?hg (N := 12) ?hd (cs := #[.int .i64 0, .int .i64 0]) (t := 47) ?hr ?_; (case hd => rfl); (case hg => rfl); (case hr => first | (go_simp; done) | (go_simp; rfl))
                   intro gb401 hg w45 hbox hb
                   have n0_ := Aside0.mk (Kd.R_below (Kd.R_elderB (by (with_reducible repeat (first | apply Kd.R_alloc | apply Kd.R_drewN | apply Kd.R_drew)); exact HO389.out) gb401 (Nat.le_of_eq hg.symm)) hb)
                   have n1_ := Aside0.mk (Kd.S_below (by (with_reducible repeat (first | apply Kd.S_alloc | apply Kd.S_drewN | apply Kd.S_drew)); exact HO392.out) hb)
                   have n2_ := Aside0.mk (blk_below (g := gb373) (o := .cells #[.slice A0_0 l0_0.length c0_0] 24 (0, 0)) (by (with_reducible repeat (first | refine blk_drewN ?_ _ | refine blk_drew ?_ | refine blk_alloc ?_ _)); exact BK373.out) hb)
                   have n3_ := Aside0.mk (blk_below (g := gb385) (o := .cells #[.int .i64 t382, .int .i64 t383] 47 (0, 0)) (by (with_reducible repeat (first | refine blk_drewN ?_ _ | refine blk_drew ?_ | refine blk_alloc ?_ _)); exact BK385.out) hb)
                   have n4_ := Aside0.mk (below_step (by repeat (first | (with_reducible first | exact HB.out | apply below_alloc | apply pw_below_drewN | apply below_drew1 | refine below_set ?_ GE373.out | refine below_set ?_ GE385.out) | exact HB.out)) hb)
                   have n5_ := Aside0.mk (hbox)
                   have n6_ := Aside0.mk ((by rw [hg]; exact (below_size (by repeat (first | (with_reducible first | exact HB.out | apply below_alloc | apply pw_below_drewN | apply below_drew1 | refine below_set ?_ GE373.out | refine below_set ?_ GE385.out) | exact HB.out))) : w.heap.size ≤ gb401))
                   have n7_ := Aside0.mk ((by rw [hg]; exact (below_size (by repeat (first | (with_reducible first | exact HB.out | apply below_alloc | apply pw_below_drewN | apply below_drew1 | refine below_set ?_ GE373.out | refine below_set ?_ GE385.out) | exact HB.out))) : w.heap.size ≤ gb401))
                   have n8_ := Aside0.mk ((by rw [hg]; exact Nat.ne_of_lt (blk_lt (g := gb373) (o := .cells #[.slice A0_0 l0_0.length c0_0] 24 (0, 0)) (by (with_reducible repeat (first | refine blk_drewN ?_ _ | refine blk_drew ?_ | refine blk_alloc ?_ _)); exact BK373.out)) : gb373 ≠ gb401))
                   have n9_ := Aside0.mk ((by rw [hg]; exact Nat.ne_of_gt (blk_lt (g := gb373) (o := .cells #[.slice A0_0 l0_0.length c0_0] 24 (0, 0)) (by (with_reducible repeat (first | refine blk_drewN ?_ _ | refine blk_drew ?_ | refine blk_alloc ?_ _)); exact BK373.out)) : gb401 ≠ gb373))
                   have n10_ := Aside0.mk ((by rw [hg]; exact Nat.ne_of_lt (blk_lt (g := gb385) (o := .cells #[.int .i64 t382, .int .i64 t383] 47 (0, 0)) (by (with_reducible repeat (first | refine blk_drewN ?_ _ | refine blk_drew ?_ | refine blk_alloc ?_ _)); exact BK385.out)) : gb385 ≠ gb401))
                   have n11_ := Aside0.mk ((by rw [hg]; exact Nat.ne_of_gt (blk_lt (g := gb385) (o := .cells #[.int .i64 t382, .int .i64 t383] 47 (0, 0)) (by (with_reducible repeat (first | refine blk_drewN ?_ _ | refine blk_drew ?_ | refine blk_alloc ?_ _)); exact BK385.out)) : gb401 ≠ gb385))
                   clear HO389
                   clear HO392
                   clear BK373
                   clear BK385
                   clear HB
                   have HO389 := n0_
                   have HO392 := n1_
                   have BK373 := n2_
                   have BK385 := n3_
                   have HB := n4_
                   have BK401 := n5_
                   have GW401 := n6_
                   have GE401 := n7_
                   have NB373_401 := n8_
                   have NB401_373 := n9_
                   have NB385_401 := n10_
                   have NB401_385 := n11_
                   clear n0_ n1_ n2_ n3_ n4_ n5_ n6_ n7_ n8_ n9_ n10_ n11_
                   clear hb hbox hg
                   refine hK.out _ _ ⟨(blk_cell BK373.out 0).trans rfl, (blk_cell BK385.out 0).trans rfl, (blk_cell BK385.out 1).trans rfl⟩ (fun hHeld => ?_)
                   clear hK K
                   refine norm_ (a' := ?_) ?_ ?_
                   rotate_left
                   ·
                    show Act.put _ (some 12) _ = _
                    simp only [Act.put, List.setIfInBounds_toArray, List.set_cons_zero, List.set_cons_succ, i64_w, i32_w]
                    rfl
                   exact norm_ (by first | (simp only [putAll, Act.put, List.setIfInBounds_toArray, List.set_cons_zero, List.set_cons_succ]; done) | (simp only [putAll, Act.put, List.setIfInBounds_toArray, List.set_cons_zero, List.set_cons_succ]; rfl)) (hJ1_3_9_16 (v388, v391, gb401) _ ⟨hHeld, (by (with_reducible repeat (first | apply Kd.R_alloc | apply Kd.R_drewN | apply Kd.R_drew)); exact HO389.out), (by (with_reducible repeat (first | apply Kd.S_alloc | apply Kd.S_drewN | apply Kd.S_drew)); exact HO392.out), (by (with_reducible repeat (first | refine blk_drewN ?_ _ | refine blk_drew ?_ | refine blk_alloc ?_ _)); exact BK373.out), (by (with_reducible repeat (first | refine blk_drewN ?_ _ | refine blk_drew ?_ | refine blk_alloc ?_ _)); exact BK385.out), (by (with_reducible repeat (first | refine blk_drewN ?_ _ | refine blk_drew ?_ | refine blk_alloc ?_ _)); exact BK401.out), GW401.out, GE401.out, NB373_401.out, NB401_373.out, NB385_401.out, NB401_385.out, (by repeat (first | (with_reducible first | exact HB.out | apply below_alloc | apply pw_below_drewN | apply below_drew1 | refine below_set ?_ GE373.out | refine below_set ?_ GE385.out | refine below_set ?_ GE401.out) | exact HB.out))⟩)
                ·
                 skip
                 rintro ⟨v388, v391, gb401⟩ w45 ⟨hS_, h0_, h1_, h2_, h3_, h4_, h5_, h6_, h7_, h8_, h9_, h10_, h11_⟩
                 have n0_ : Aside0 (Kd.R k47 47 w45 w.heap.size (fun k_ => k_ ≠ gb385 ∧ k_ ≠ gb401) v388 t387) := ⟨h0_⟩
                 have n1_ : Aside0 (Kd.S k67 67 w45 w.heap.size (fun _ => True) v391 t390) := ⟨h1_⟩
                 have n2_ : Aside0 (w45.heap[gb373]? = some (.cells #[.slice A0_0 l0_0.length c0_0] 24 (0, 0))) := ⟨h2_⟩
                 have n3_ : Aside0 (w45.heap[gb385]? = some (.cells #[.int .i64 t382, .int .i64 t383] 47 (0, 0))) := ⟨h3_⟩
                 have n4_ : Aside0 (w45.heap[gb401]? = some (.cells #[.int .i64 0, .int .i64 0] 47 (0, 0))) := ⟨h4_⟩
                 have n5_ : Aside0 (w.heap.size ≤ gb401) := ⟨h5_⟩
                 have n6_ : Aside0 (w.heap.size ≤ gb401) := ⟨h6_⟩
                 have n7_ : Aside0 (gb373 ≠ gb401) := ⟨h7_⟩
                 have n8_ : Aside0 (gb401 ≠ gb373) := ⟨h8_⟩
                 have n9_ : Aside0 (gb385 ≠ gb401) := ⟨h9_⟩
                 have n10_ : Aside0 (gb401 ≠ gb385) := ⟨h10_⟩
                 have n11_ : Aside0 (Below w.heap.size w w45) := ⟨h11_⟩
                 clear BK373
                 clear BK385
                 clear HB
                 clear h0_ h1_ h2_ h3_ h4_ h5_ h6_ h7_ h8_ h9_ h10_ h11_
                 have HO389 := n0_
                 have HO392 := n1_
                 have BK373 := n2_
                 have BK385 := n3_
                 have BK401 := n4_
                 have GW401 := n5_
                 have GE401 := n6_
                 have NB373_401 := n7_
                 have NB401_373 := n8_
                 have NB385_401 := n9_
                 have NB401_385 := n10_
                 have HB := n11_
                 clear n0_ n1_ n2_ n3_ n4_ n5_ n6_ n7_ n8_ n9_ n10_ n11_
                 have hHeld : w45.cell? ⟨gb373, 0, none⟩ = some (.slice A0_0 l0_0.length c0_0) ∧ w45.cell? ⟨gb385, 0, none⟩ = some (.int .i64 t382) ∧ w45.cell? ⟨gb385, 1, none⟩ = some (.int .i64 t383) := hS_
                 refine norm_ (a' := ?_) ?_ ?_
                 rotate_left
                 ·
                  simp only [putAll, Act.put, List.setIfInBounds_toArray, List.set_cons_zero, List.set_cons_succ]
                  rfl
                 refine one_ (i := 11) (N := some 66) #[true, true, true, true, true, true, true, true, true, true, true, true, false, false, false, false, true, false, false] rfl rfl (one_of HT_.out (by kernel_rfl)) (by decide) (fun K hK => ?_)
                 refine Kd.R_lit_step k65 _ 65 ?hg (N := 66) ?hd (xs := ([(⟨(Int.tmod (wrap64 (a2)) (l0_0.length : Int)), (⟨t393, t394⟩ : S47)⟩ : S65)] : List (S65))) (inner := [.int .i64 (Int.tmod (wrap64 (a2)) (l0_0.length : Int)), .int .i64 t393, .int .i64 t394]) (ok := fun _ => True) (okp := fun _ => True) ?hr ?hp (fun _ hk => hk) trivial (Below.refl _ _) (Nat.le_refl _) (by simp) ?_; (case hd => rfl); (case hg => rfl); (case hr => first | (go_simp; done) | (go_simp; rfl)); (case hp => exact (Reps.c3 (show Kd.M k65 _ _ _ (⟨(Int.tmod (wrap64 (a2)) (l0_0.length : Int)), (⟨t393, t394⟩ : S47)⟩ : S65) [.int .i64 (Int.tmod (wrap64 (a2)) (l0_0.length : Int)), .int .i64 t393, .int .i64 t394] from (k65_mkM _ _ _ (⟨(Int.tmod (wrap64 (a2)) (l0_0.length : Int)), (⟨t393, t394⟩ : S47)⟩ : S65) )) (Reps.none _ _)))
                 intro v396 w46 ho47 hb hg_ hnew_
                 clear hg_ hnew_
                 (first | rw [← Ny395.out] at ho47 | (simp only [Int.reduceToNat] at ho47; rw [← Ny395.out] at ho47))
                 have n0_ := Aside0.mk (Kd.R_below (by (with_reducible repeat (first | apply Kd.R_alloc | apply Kd.R_drewN | apply Kd.R_drew)); exact HO389.out) hb)
                 have n1_ := Aside0.mk (Kd.S_elder' (by (with_reducible repeat (first | apply Kd.S_alloc | apply Kd.S_drewN | apply Kd.S_drew)); exact HO392.out) (Kd.R_base ho47) hb)
                 have n2_ := Aside0.mk (Kd.R_lower ho47 (below_size (by repeat (first | (with_reducible first | exact HB.out | apply below_alloc | apply pw_below_drewN | apply below_drew1 | refine below_set ?_ GE373.out | refine below_set ?_ GE385.out | refine below_set ?_ GE401.out) | exact HB.out))))
                 have n3_ := Aside0.mk (blk_below (g := gb373) (o := .cells #[.slice A0_0 l0_0.length c0_0] 24 (0, 0)) (by (with_reducible repeat (first | refine blk_drewN ?_ _ | refine blk_drew ?_ | refine blk_alloc ?_ _)); exact BK373.out) hb)
                 have n4_ := Aside0.mk (blk_below (g := gb385) (o := .cells #[.int .i64 t382, .int .i64 t383] 47 (0, 0)) (by (with_reducible repeat (first | refine blk_drewN ?_ _ | refine blk_drew ?_ | refine blk_alloc ?_ _)); exact BK385.out) hb)
                 have n5_ := Aside0.mk (blk_below (g := gb401) (o := .cells #[.int .i64 0, .int .i64 0] 47 (0, 0)) (by (with_reducible repeat (first | refine blk_drewN ?_ _ | refine blk_drew ?_ | refine blk_alloc ?_ _)); exact BK401.out) hb)
                 have n6_ := Aside0.mk (below_step (by repeat (first | (with_reducible first | exact HB.out | apply below_alloc | apply pw_below_drewN | apply below_drew1 | refine below_set ?_ GE373.out | refine below_set ?_ GE385.out | refine below_set ?_ GE401.out) | exact HB.out)) hb)
                 clear HO389
                 clear HO392
                 clear BK373
                 clear BK385
                 clear BK401
                 clear HB
                 have HO389 := n0_
                 have HO392 := n1_
                 have HO397 := n2_
                 have BK373 := n3_
                 have BK385 := n4_
                 have BK401 := n5_
                 have HB := n6_
                 clear n0_ n1_ n2_ n3_ n4_ n5_ n6_
                 clear hb ho47
                 refine hK.out _ _ ⟨(blk_cell BK373.out 0).trans rfl, (blk_cell BK385.out 0).trans rfl, (blk_cell BK385.out 1).trans rfl⟩ (fun hHeld => ?_)
                 clear hK K
                 refine norm_ (a' := ?_) ?_ ?_
                 rotate_left
                 ·
                  show Act.put _ (some 66) _ = _
                  simp only [Act.put, List.setIfInBounds_toArray, List.set_cons_zero, List.set_cons_succ, i64_w, i32_w]
                  rfl
                 exact norm_ (by first | (simp only [putAll, Act.put, List.setIfInBounds_toArray, List.set_cons_zero, List.set_cons_succ]; done) | (simp only [putAll, Act.put, List.setIfInBounds_toArray, List.set_cons_zero, List.set_cons_succ]; rfl)) (hJ1_3_9_11_16 (_, _, _, gb401) _ ⟨hHeld, (by (with_reducible repeat (first | apply Kd.R_alloc | apply Kd.R_drewN | apply Kd.R_drew)); exact HO389.out), (by (with_reducible repeat (first | apply Kd.S_alloc | apply Kd.S_drewN | apply Kd.S_drew)); exact Kd.S_mono HO392.out (fun _ hk => hk.2)), (by (with_reducible repeat (first | apply Kd.R_alloc | apply Kd.R_drewN | apply Kd.R_drew)); exact HO397.out), (by (with_reducible repeat (first | refine blk_drewN ?_ _ | refine blk_drew ?_ | refine blk_alloc ?_ _)); exact BK373.out), (by (with_reducible repeat (first | refine blk_drewN ?_ _ | refine blk_drew ?_ | refine blk_alloc ?_ _)); exact BK385.out), (by (with_reducible repeat (first | refine blk_drewN ?_ _ | refine blk_drew ?_ | refine blk_alloc ?_ _)); exact BK401.out), GW401.out, GE401.out, NB373_401.out, NB401_373.out, NB385_401.out, NB401_385.out, (by repeat (first | (with_reducible first | exact HB.out | apply below_alloc | apply pw_below_drewN | apply below_drew1 | refine below_set ?_ GE373.out | refine below_set ?_ GE385.out | refine below_set ?_ GE401.out) | exact HB.out))⟩)
               ·
                skip
                rintro ⟨v388, v391, v396⟩ w46 ⟨hS_, h0_, h1_, h2_, h3_, h4_, h5_⟩
                have n0_ : Aside0 (Kd.R k47 47 w46 w.heap.size (fun k_ => k_ ≠ gb385) v388 t387) := ⟨h0_⟩
                have n1_ : Aside0 (Kd.S k67 67 w46 w.heap.size (fun k_ => some k_ ≠ (v396 : Value).ownBlock) v391 t390) := ⟨h1_⟩
                have n2_ : Aside0 (Kd.R k65 65 w46 w.heap.size (fun _ => True) v396 y395) := ⟨h2_⟩
                have n3_ : Aside0 (w46.heap[gb373]? = some (.cells #[.slice A0_0 l0_0.length c0_0] 24 (0, 0))) := ⟨h3_⟩
                have n4_ : Aside0 (w46.heap[gb385]? = some (.cells #[.int .i64 t382, .int .i64 t383] 47 (0, 0))) := ⟨h4_⟩
                have n5_ : Aside0 (Below w.heap.size w w46) := ⟨h5_⟩
                clear BK373
                clear BK385
                clear HB
                clear h0_ h1_ h2_ h3_ h4_ h5_
                have HO389 := n0_
                have HO392 := n1_
                have HO397 := n2_
                have BK373 := n3_
                have BK385 := n4_
                have HB := n5_
                clear n0_ n1_ n2_ n3_ n4_ n5_
                have hHeld : w46.cell? ⟨gb373, 0, none⟩ = some (.slice A0_0 l0_0.length c0_0) ∧ w46.cell? ⟨gb385, 0, none⟩ = some (.int .i64 t382) ∧ w46.cell? ⟨gb385, 1, none⟩ = some (.int .i64 t383) := hS_
                obtain ⟨Ao47, co47, eo47⟩ := Kd.R_slice HO389.out
                (first | subst eo47 | (injection eo47 with f1_ f2_ f3_; have f4_ := f1_.symm; have f5_ := f3_.symm; clear f1_ f2_ f3_; subst f4_; subst f5_))
                obtain ⟨Ao48, co48, eo48⟩ := Kd.S_slice HO392.out
                (first | subst eo48 | (injection eo48 with f1_ f2_ f3_; have f4_ := f1_.symm; have f5_ := f3_.symm; clear f1_ f2_ f3_; subst f4_; subst f5_))
                obtain ⟨Ao49, co49, eo49⟩ := Kd.R_slice HO397.out
                (first | subst eo49 | (injection eo49 with f1_ f2_ f3_; have f4_ := f1_.symm; have f5_ := f3_.symm; clear f1_ f2_ f3_; subst f4_; subst f5_))
                refine norm_ (a' := ?_) ?_ ?_
                rotate_left
                ·
                 simp only [putAll, Act.put, List.setIfInBounds_toArray, List.set_cons_zero, List.set_cons_succ]
                 rfl
                refine two_ (i := 12) (j := 16) (Ni := some 67) (Nj := some 12) #[true, true, true, true, true, true, true, true, true, true, true, true, true, false, false, false, false, false, false] #[true, true, true, true, true, true, true, true, true, true, true, true, false, false, false, false, true, false, false] rfl rfl rfl rfl (two_of HT_.out (by kernel_rfl)) (by decide) (by decide) (fun K hK => ?_) (fun K hK => ?_)
                ·
                 skip
                 refine goes_ Try.func25 (by kernel_rfl) rfl #[.agg #[.slice Ao47 t387.length co47], .slice Ao48 t390.length co48, .slice Ao49 y395.length co49] (by rfl) rfl rfl (by (try simp only [List.map_toArray, List.map_cons, List.map_nil]); first | done | rfl | (simp only [List.length_drop, List.length_take]; rfl)) ?_
                 with_reducible refine (creep_Stretch.calls _ _ t387 _ _ t390 _ _ y395 t398 t399 t400 _ ?side1 ?side2 ?side3 ?side4 ?side5 ?side6 A35.out).mono ?_
                 (case side1 => repeat (first | exact (Kd.R_reads' HO389.out).2.2 | (with_reducible refine Kd.C_alloc ?_ _) | (with_reducible refine Kd.C_drewN ?_ _) | (with_reducible refine Kd.C_drew ?_)))
                 (case side2 => exact (Kd.R_reads' HO389.out).2.1)
                 (case side3 => repeat (first | exact (Kd.S_reads' HO392.out).2.2 | (with_reducible refine Kd.C_alloc ?_ _) | (with_reducible refine Kd.C_drewN ?_ _) | (with_reducible refine Kd.C_drew ?_)))
                 (case side4 => exact (Kd.S_reads' HO392.out).2.1)
                 (case side5 => repeat (first | exact (Kd.R_reads' HO397.out).2.2 | (with_reducible refine Kd.C_alloc ?_ _) | (with_reducible refine Kd.C_drewN ?_ _) | (with_reducible refine Kd.C_drew ?_)))
                 (case side6 => exact (Kd.R_reads' HO397.out).2.1)
                 rintro e w50 ⟨rfl, hb⟩
                 refine ⟨_, rfl, ?_⟩
                 have n0_ := Aside0.mk (Kd.R_below (by (with_reducible repeat (first | apply Kd.R_alloc | apply Kd.R_drewN | apply Kd.R_drew)); exact HO389.out) hb)
                 have n1_ := Aside0.mk (Kd.S_below (by (with_reducible repeat (first | apply Kd.S_alloc | apply Kd.S_drewN | apply Kd.S_drew)); exact HO392.out) hb)
                 have n2_ := Aside0.mk (Kd.R_below (by (with_reducible repeat (first | apply Kd.R_alloc | apply Kd.R_drewN | apply Kd.R_drew)); exact HO397.out) hb)
                 have n3_ := Aside0.mk (blk_below (g := gb373) (o := .cells #[.slice A0_0 l0_0.length c0_0] 24 (0, 0)) (by (with_reducible repeat (first | refine blk_drewN ?_ _ | refine blk_drew ?_ | refine blk_alloc ?_ _)); exact BK373.out) hb)
                 have n4_ := Aside0.mk (blk_below (g := gb385) (o := .cells #[.int .i64 t382, .int .i64 t383] 47 (0, 0)) (by (with_reducible repeat (first | refine blk_drewN ?_ _ | refine blk_drew ?_ | refine blk_alloc ?_ _)); exact BK385.out) hb)
                 have n5_ := Aside0.mk (below_step (by repeat (first | (with_reducible first | exact HB.out | apply below_alloc | apply pw_below_drewN | apply below_drew1 | refine below_set ?_ GE373.out | refine below_set ?_ GE385.out) | exact HB.out)) hb)
                 clear HO389
                 clear HO392
                 clear HO397
                 clear BK373
                 clear BK385
                 clear HB
                 have HO389 := n0_
                 have HO392 := n1_
                 have HO397 := n2_
                 have BK373 := n3_
                 have BK385 := n4_
                 have HB := n5_
                 clear n0_ n1_ n2_ n3_ n4_ n5_
                 (try clear hb)
                 (try clear hb2)
                 (try clear hk)
                 (try clear hi)
                 refine hK.out _ _ ⟨(blk_cell BK373.out 0).trans rfl, (blk_cell BK385.out 0).trans rfl, (blk_cell BK385.out 1).trans rfl⟩ (fun hHeld => ?_)
                 clear hK K
                 refine norm_ (a' := ?_) ?_ ?_
                 rotate_left
                 ·
                  show Act.put _ (some 67) _ = _
                  simp only [Act.put, List.setIfInBounds_toArray, List.set_cons_zero, List.set_cons_succ, i64_w, i32_w]
                  rfl
                 refine pure_ (i := 13) (N := some 54) (v := ?_) (a' := ?_) #[true, true, true, true, true, true, true, true, true, true, true, true, true, true, false, false, false, false, false] rfl rfl (any_of HT_.out (by kernel_rfl)) (fun _ _ _ h => h) (Or.inl ⟨by rfl, ?_⟩) ?_ ?_
                 rotate_left
                 ·
                  intro w'
                  go_simp
                  with_reducible rfl
                 rotate_left
                 ·
                  simp only [Act.put, List.setIfInBounds_toArray, List.set_cons_zero, List.set_cons_succ, i64_w, i32_w]
                  rfl
                 refine pure_ (i := 14) (N := some 68) (v := ?_) (a' := ?_) #[true, true, true, true, true, true, true, true, true, true, true, true, true, true, true, false, false, false, false] rfl rfl (any_of HT_.out (by kernel_rfl)) (fun _ _ _ h => h) (Or.inl ⟨by rfl, ?_⟩) ?_ ?_
                 rotate_left
                 ·
                  intro w'
                  go_simp
                  with_reducible rfl
                 rotate_left
                 ·
                  simp only [Act.put, List.setIfInBounds_toArray, List.set_cons_zero, List.set_cons_succ, i64_w, i32_w]
                  rfl
                 refine pure_ (i := 15) (N := some 69) (v := ?_) (a' := ?_) #[true, true, true, true, true, true, true, true, true, true, true, true, true, true, true, true, false, false, false] rfl rfl (any_of HT_.out (by kernel_rfl)) (fun _ _ _ h => h) (Or.inl ⟨by rfl, ?_⟩) ?_ ?_
                 rotate_left
                 ·
                  intro w'
                  go_simp
                  with_reducible rfl
                 rotate_left
                 ·
                  simp only [Act.put, List.setIfInBounds_toArray, List.set_cons_zero, List.set_cons_succ, i64_w, i32_w]
                  rfl
                 exact norm_ (by first | (simp only [putAll, Act.put, List.setIfInBounds_toArray, List.set_cons_zero, List.set_cons_succ]; done) | (simp only [putAll, Act.put, List.setIfInBounds_toArray, List.set_cons_zero, List.set_cons_succ]; rfl)) (hJ1_3_9_11_12 (.slice Ao47 t387.length co47, .slice Ao48 t390.length co48, .slice Ao49 y395.length co49) _ ⟨hHeld, (by (with_reducible repeat (first | apply Kd.R_alloc | apply Kd.R_drewN | apply Kd.R_drew)); exact HO389.out), (by (with_reducible repeat (first | apply Kd.S_alloc | apply Kd.S_drewN | apply Kd.S_drew)); exact HO392.out), (by (with_reducible repeat (first | apply Kd.R_alloc | apply Kd.R_drewN | apply Kd.R_drew)); exact HO397.out), (by (with_reducible repeat (first | refine blk_drewN ?_ _ | refine blk_drew ?_ | refine blk_alloc ?_ _)); exact BK373.out), (by (with_reducible repeat (first | refine blk_drewN ?_ _ | refine blk_drew ?_ | refine blk_alloc ?_ _)); exact BK385.out), (by repeat (first | (with_reducible first | exact HB.out | apply below_alloc | apply pw_below_drewN | apply below_drew1 | refine below_set ?_ GE373.out | refine below_set ?_ GE385.out) | exact HB.out))⟩)
                ·
                 skip
                 refine box_step ?hg (N := 12) ?hd (cs := #[.int .i64 0, .int .i64 0]) (t := 47) ?hr ?_; (case hd => rfl); (case hg => rfl); (case hr => first | (go_simp; done) | (go_simp; rfl))
                 intro gb401 hg w47 hbox hb
                 have n0_ := Aside0.mk (Kd.R_below (Kd.R_elderB (by (with_reducible repeat (first | apply Kd.R_alloc | apply Kd.R_drewN | apply Kd.R_drew)); exact HO389.out) gb401 (Nat.le_of_eq hg.symm)) hb)
                 have n1_ := Aside0.mk (Kd.S_below (by (with_reducible repeat (first | apply Kd.S_alloc | apply Kd.S_drewN | apply Kd.S_drew)); exact HO392.out) hb)
                 have n2_ := Aside0.mk (Kd.R_below (by (with_reducible repeat (first | apply Kd.R_alloc | apply Kd.R_drewN | apply Kd.R_drew)); exact HO397.out) hb)
                 have n3_ := Aside0.mk (blk_below (g := gb373) (o := .cells #[.slice A0_0 l0_0.length c0_0] 24 (0, 0)) (by (with_reducible repeat (first | refine blk_drewN ?_ _ | refine blk_drew ?_ | refine blk_alloc ?_ _)); exact BK373.out) hb)
                 have n4_ := Aside0.mk (blk_below (g := gb385) (o := .cells #[.int .i64 t382, .int .i64 t383] 47 (0, 0)) (by (with_reducible repeat (first | refine blk_drewN ?_ _ | refine blk_drew ?_ | refine blk_alloc ?_ _)); exact BK385.out) hb)
                 have n5_ := Aside0.mk (below_step (by repeat (first | (with_reducible first | exact HB.out | apply below_alloc | apply pw_below_drewN | apply below_drew1 | refine below_set ?_ GE373.out | refine below_set ?_ GE385.out) | exact HB.out)) hb)
                 have n6_ := Aside0.mk (hbox)
                 have n7_ := Aside0.mk ((by rw [hg]; exact (below_size (by repeat (first | (with_reducible first | exact HB.out | apply below_alloc | apply pw_below_drewN | apply below_drew1 | refine below_set ?_ GE373.out | refine below_set ?_ GE385.out) | exact HB.out))) : w.heap.size ≤ gb401))
                 have n8_ := Aside0.mk ((by rw [hg]; exact (below_size (by repeat (first | (with_reducible first | exact HB.out | apply below_alloc | apply pw_below_drewN | apply below_drew1 | refine below_set ?_ GE373.out | refine below_set ?_ GE385.out) | exact HB.out))) : w.heap.size ≤ gb401))
                 have n9_ := Aside0.mk ((by rw [hg]; exact Nat.ne_of_lt (blk_lt (g := gb373) (o := .cells #[.slice A0_0 l0_0.length c0_0] 24 (0, 0)) (by (with_reducible repeat (first | refine blk_drewN ?_ _ | refine blk_drew ?_ | refine blk_alloc ?_ _)); exact BK373.out)) : gb373 ≠ gb401))
                 have n10_ := Aside0.mk ((by rw [hg]; exact Nat.ne_of_gt (blk_lt (g := gb373) (o := .cells #[.slice A0_0 l0_0.length c0_0] 24 (0, 0)) (by (with_reducible repeat (first | refine blk_drewN ?_ _ | refine blk_drew ?_ | refine blk_alloc ?_ _)); exact BK373.out)) : gb401 ≠ gb373))
                 have n11_ := Aside0.mk ((by rw [hg]; exact Nat.ne_of_lt (blk_lt (g := gb385) (o := .cells #[.int .i64 t382, .int .i64 t383] 47 (0, 0)) (by (with_reducible repeat (first | refine blk_drewN ?_ _ | refine blk_drew ?_ | refine blk_alloc ?_ _)); exact BK385.out)) : gb385 ≠ gb401))
                 have n12_ := Aside0.mk ((by rw [hg]; exact Nat.ne_of_gt (blk_lt (g := gb385) (o := .cells #[.int .i64 t382, .int .i64 t383] 47 (0, 0)) (by (with_reducible repeat (first | refine blk_drewN ?_ _ | refine blk_drew ?_ | refine blk_alloc ?_ _)); exact BK385.out)) : gb401 ≠ gb385))
                 clear HO389
                 clear HO392
                 clear HO397
                 clear BK373
                 clear BK385
                 clear HB
                 have HO389 := n0_
                 have HO392 := n1_
                 have HO397 := n2_
                 have BK373 := n3_
                 have BK385 := n4_
                 have HB := n5_
                 have BK401 := n6_
                 have GW401 := n7_
                 have GE401 := n8_
                 have NB373_401 := n9_
                 have NB401_373 := n10_
                 have NB385_401 := n11_
                 have NB401_385 := n12_
                 clear n0_ n1_ n2_ n3_ n4_ n5_ n6_ n7_ n8_ n9_ n10_ n11_ n12_
                 clear hb hbox hg
                 refine hK.out _ _ ⟨(blk_cell BK373.out 0).trans rfl, (blk_cell BK385.out 0).trans rfl, (blk_cell BK385.out 1).trans rfl⟩ (fun hHeld => ?_)
                 clear hK K
                 refine norm_ (a' := ?_) ?_ ?_
                 rotate_left
                 ·
                  show Act.put _ (some 12) _ = _
                  simp only [Act.put, List.setIfInBounds_toArray, List.set_cons_zero, List.set_cons_succ, i64_w, i32_w]
                  rfl
                 exact norm_ (by first | (simp only [putAll, Act.put, List.setIfInBounds_toArray, List.set_cons_zero, List.set_cons_succ]; done) | (simp only [putAll, Act.put, List.setIfInBounds_toArray, List.set_cons_zero, List.set_cons_succ]; rfl)) (hJ1_3_9_11_16 (_, _, _, gb401) _ ⟨hHeld, (by (with_reducible repeat (first | apply Kd.R_alloc | apply Kd.R_drewN | apply Kd.R_drew)); exact HO389.out), (by (with_reducible repeat (first | apply Kd.S_alloc | apply Kd.S_drewN | apply Kd.S_drew)); exact HO392.out), (by (with_reducible repeat (first | apply Kd.R_alloc | apply Kd.R_drewN | apply Kd.R_drew)); exact HO397.out), (by (with_reducible repeat (first | refine blk_drewN ?_ _ | refine blk_drew ?_ | refine blk_alloc ?_ _)); exact BK373.out), (by (with_reducible repeat (first | refine blk_drewN ?_ _ | refine blk_drew ?_ | refine blk_alloc ?_ _)); exact BK385.out), (by (with_reducible repeat (first | refine blk_drewN ?_ _ | refine blk_drew ?_ | refine blk_alloc ?_ _)); exact BK401.out), GW401.out, GE401.out, NB373_401.out, NB401_373.out, NB385_401.out, NB401_385.out, (by repeat (first | (with_reducible first | exact HB.out | apply below_alloc | apply pw_below_drewN | apply below_drew1 | refine below_set ?_ GE373.out | refine below_set ?_ GE385.out | refine below_set ?_ GE401.out) | exact HB.out))⟩)
              ·
               skip
               rintro ⟨v388, v391, v396, gb401⟩ w47 ⟨hS_, h0_, h1_, h2_, h3_, h4_, h5_, h6_, h7_, h8_, h9_, h10_, h11_, h12_⟩
               have n0_ : Aside0 (Kd.R k47 47 w47 w.heap.size (fun k_ => k_ ≠ gb385 ∧ k_ ≠ gb401) v388 t387) := ⟨h0_⟩
               have n1_ : Aside0 (Kd.S k67 67 w47 w.heap.size (fun k_ => some k_ ≠ (v396 : Value).ownBlock) v391 t390) := ⟨h1_⟩
               have n2_ : Aside0 (Kd.R k65 65 w47 w.heap.size (fun _ => True) v396 y395) := ⟨h2_⟩
               have n3_ : Aside0 (w47.heap[gb373]? = some (.cells #[.slice A0_0 l0_0.length c0_0] 24 (0, 0))) := ⟨h3_⟩
               have n4_ : Aside0 (w47.heap[gb385]? = some (.cells #[.int .i64 t382, .int .i64 t383] 47 (0, 0))) := ⟨h4_⟩
               have n5_ : Aside0 (w47.heap[gb401]? = some (.cells #[.int .i64 0, .int .i64 0] 47 (0, 0))) := ⟨h5_⟩
               have n6_ : Aside0 (w.heap.size ≤ gb401) := ⟨h6_⟩
               have n7_ : Aside0 (w.heap.size ≤ gb401) := ⟨h7_⟩
               have n8_ : Aside0 (gb373 ≠ gb401) := ⟨h8_⟩
               have n9_ : Aside0 (gb401 ≠ gb373) := ⟨h9_⟩
               have n10_ : Aside0 (gb385 ≠ gb401) := ⟨h10_⟩
               have n11_ : Aside0 (gb401 ≠ gb385) := ⟨h11_⟩
               have n12_ : Aside0 (Below w.heap.size w w47) := ⟨h12_⟩
               clear BK373
               clear BK385
               clear HB
               clear h0_ h1_ h2_ h3_ h4_ h5_ h6_ h7_ h8_ h9_ h10_ h11_ h12_
               have HO389 := n0_
               have HO392 := n1_
               have HO397 := n2_
               have BK373 := n3_
               have BK385 := n4_
               have BK401 := n5_
               have GW401 := n6_
               have GE401 := n7_
               have NB373_401 := n8_
               have NB401_373 := n9_
               have NB385_401 := n10_
               have NB401_385 := n11_
               have HB := n12_
               clear n0_ n1_ n2_ n3_ n4_ n5_ n6_ n7_ n8_ n9_ n10_ n11_ n12_
               have hHeld : w47.cell? ⟨gb373, 0, none⟩ = some (.slice A0_0 l0_0.length c0_0) ∧ w47.cell? ⟨gb385, 0, none⟩ = some (.int .i64 t382) ∧ w47.cell? ⟨gb385, 1, none⟩ = some (.int .i64 t383) := hS_
               obtain ⟨Ao48, co48, eo48⟩ := Kd.R_slice HO389.out
               (first | subst eo48 | (injection eo48 with f1_ f2_ f3_; have f4_ := f1_.symm; have f5_ := f3_.symm; clear f1_ f2_ f3_; subst f4_; subst f5_))
               obtain ⟨Ao49, co49, eo49⟩ := Kd.S_slice HO392.out
               (first | subst eo49 | (injection eo49 with f1_ f2_ f3_; have f4_ := f1_.symm; have f5_ := f3_.symm; clear f1_ f2_ f3_; subst f4_; subst f5_))
               obtain ⟨Ao50, co50, eo50⟩ := Kd.R_slice HO397.out
               (first | subst eo50 | (injection eo50 with f1_ f2_ f3_; have f4_ := f1_.symm; have f5_ := f3_.symm; clear f1_ f2_ f3_; subst f4_; subst f5_))
               refine norm_ (a' := ?_) ?_ ?_
               rotate_left
               ·
                simp only [putAll, Act.put, List.setIfInBounds_toArray, List.set_cons_zero, List.set_cons_succ]
                rfl
               refine one_ (i := 12) (N := some 67) #[true, true, true, true, true, true, true, true, true, true, true, true, true, false, false, false, true, false, false] rfl rfl (one_of HT_.out (by kernel_rfl)) (by decide) (fun K hK => ?_)
               refine goes_ Try.func25 (by kernel_rfl) rfl #[.agg #[.slice Ao48 t387.length co48], .slice Ao49 t390.length co49, .slice Ao50 y395.length co50] (by rfl) rfl rfl (by (try simp only [List.map_toArray, List.map_cons, List.map_nil]); first | done | rfl | (simp only [List.length_drop, List.length_take]; rfl)) ?_
               with_reducible refine (creep_Stretch.calls _ _ t387 _ _ t390 _ _ y395 t398 t399 t400 _ ?side1 ?side2 ?side3 ?side4 ?side5 ?side6 A35.out).mono ?_
               (case side1 => repeat (first | exact (Kd.R_reads' HO389.out).2.2 | (with_reducible refine Kd.C_alloc ?_ _) | (with_reducible refine Kd.C_drewN ?_ _) | (with_reducible refine Kd.C_drew ?_)))
               (case side2 => exact (Kd.R_reads' HO389.out).2.1)
               (case side3 => repeat (first | exact (Kd.S_reads' HO392.out).2.2 | (with_reducible refine Kd.C_alloc ?_ _) | (with_reducible refine Kd.C_drewN ?_ _) | (with_reducible refine Kd.C_drew ?_)))
               (case side4 => exact (Kd.S_reads' HO392.out).2.1)
               (case side5 => repeat (first | exact (Kd.R_reads' HO397.out).2.2 | (with_reducible refine Kd.C_alloc ?_ _) | (with_reducible refine Kd.C_drewN ?_ _) | (with_reducible refine Kd.C_drew ?_)))
               (case side6 => exact (Kd.R_reads' HO397.out).2.1)
               rintro e w51 ⟨rfl, hb⟩
               refine ⟨_, rfl, ?_⟩
               have n0_ := Aside0.mk (Kd.R_below (by (with_reducible repeat (first | apply Kd.R_alloc | apply Kd.R_drewN | apply Kd.R_drew)); exact HO389.out) hb)
               have n1_ := Aside0.mk (Kd.S_below (by (with_reducible repeat (first | apply Kd.S_alloc | apply Kd.S_drewN | apply Kd.S_drew)); exact HO392.out) hb)
               have n2_ := Aside0.mk (Kd.R_below (by (with_reducible repeat (first | apply Kd.R_alloc | apply Kd.R_drewN | apply Kd.R_drew)); exact HO397.out) hb)
               have n3_ := Aside0.mk (blk_below (g := gb373) (o := .cells #[.slice A0_0 l0_0.length c0_0] 24 (0, 0)) (by (with_reducible repeat (first | refine blk_drewN ?_ _ | refine blk_drew ?_ | refine blk_alloc ?_ _)); exact BK373.out) hb)
               have n4_ := Aside0.mk (blk_below (g := gb385) (o := .cells #[.int .i64 t382, .int .i64 t383] 47 (0, 0)) (by (with_reducible repeat (first | refine blk_drewN ?_ _ | refine blk_drew ?_ | refine blk_alloc ?_ _)); exact BK385.out) hb)
               have n5_ := Aside0.mk (blk_below (g := gb401) (o := .cells #[.int .i64 0, .int .i64 0] 47 (0, 0)) (by (with_reducible repeat (first | refine blk_drewN ?_ _ | refine blk_drew ?_ | refine blk_alloc ?_ _)); exact BK401.out) hb)
               have n6_ := Aside0.mk (below_step (by repeat (first | (with_reducible first | exact HB.out | apply below_alloc | apply pw_below_drewN | apply below_drew1 | refine below_set ?_ GE373.out | refine below_set ?_ GE385.out | refine below_set ?_ GE401.out) | exact HB.out)) hb)
               clear HO389
               clear HO392
               clear HO397
               clear BK373
               clear BK385
               clear BK401
               clear HB
               have HO389 := n0_
               have HO392 := n1_
               have HO397 := n2_
               have BK373 := n3_
               have BK385 := n4_
               have BK401 := n5_
               have HB := n6_
               clear n0_ n1_ n2_ n3_ n4_ n5_ n6_
               (try clear hb)
               (try clear hb2)
               (try clear hk)
               (try clear hi)
               refine hK.out _ _ ⟨(blk_cell BK373.out 0).trans rfl, (blk_cell BK385.out 0).trans rfl, (blk_cell BK385.out 1).trans rfl⟩ (fun hHeld => ?_)
               clear hK K
               refine norm_ (a' := ?_) ?_ ?_
               rotate_left
               ·
                show Act.put _ (some 67) _ = _
                simp only [Act.put, List.setIfInBounds_toArray, List.set_cons_zero, List.set_cons_succ, i64_w, i32_w]
                rfl
               refine pure_ (i := 13) (N := some 54) (v := ?_) (a' := ?_) #[true, true, true, true, true, true, true, true, true, true, true, true, true, true, false, false, true, false, false] rfl rfl (any_of HT_.out (by kernel_rfl)) (fun _ _ _ h => h) (Or.inl ⟨by rfl, ?_⟩) ?_ ?_
               rotate_left
               ·
                intro w'
                go_simp
                with_reducible rfl
               rotate_left
               ·
                simp only [Act.put, List.setIfInBounds_toArray, List.set_cons_zero, List.set_cons_succ, i64_w, i32_w]
                rfl
               refine pure_ (i := 14) (N := some 68) (v := ?_) (a' := ?_) #[true, true, true, true, true, true, true, true, true, true, true, true, true, true, true, false, true, false, false] rfl rfl (any_of HT_.out (by kernel_rfl)) (fun _ _ _ h => h) (Or.inl ⟨by rfl, ?_⟩) ?_ ?_
               rotate_left
               ·
                intro w'
                go_simp
                with_reducible rfl
               rotate_left
               ·
                simp only [Act.put, List.setIfInBounds_toArray, List.set_cons_zero, List.set_cons_succ, i64_w, i32_w]
                rfl
               refine pure_ (i := 15) (N := some 69) (v := ?_) (a' := ?_) #[true, true, true, true, true, true, true, true, true, true, true, true, true, true, true, true, true, false, false] rfl rfl (any_of HT_.out (by kernel_rfl)) (fun _ _ _ h => h) (Or.inl ⟨by rfl, ?_⟩) ?_ ?_
               rotate_left
               ·
                intro w'
                go_simp
                with_reducible rfl
               rotate_left
               ·
                simp only [Act.put, List.setIfInBounds_toArray, List.set_cons_zero, List.set_cons_succ, i64_w, i32_w]
                rfl
               exact norm_ (by first | (simp only [putAll, Act.put, List.setIfInBounds_toArray, List.set_cons_zero, List.set_cons_succ]; done) | (simp only [putAll, Act.put, List.setIfInBounds_toArray, List.set_cons_zero, List.set_cons_succ]; rfl)) (hJ1_3_9_11_12_16 (.slice Ao48 t387.length co48, .slice Ao49 t390.length co49, .slice Ao50 y395.length co50, gb401) _ ⟨hHeld, (by (with_reducible repeat (first | apply Kd.R_alloc | apply Kd.R_drewN | apply Kd.R_drew)); exact HO389.out), (by (with_reducible repeat (first | apply Kd.S_alloc | apply Kd.S_drewN | apply Kd.S_drew)); exact HO392.out), (by (with_reducible repeat (first | apply Kd.R_alloc | apply Kd.R_drewN | apply Kd.R_drew)); exact HO397.out), (by (with_reducible repeat (first | refine blk_drewN ?_ _ | refine blk_drew ?_ | refine blk_alloc ?_ _)); exact BK373.out), (by (with_reducible repeat (first | refine blk_drewN ?_ _ | refine blk_drew ?_ | refine blk_alloc ?_ _)); exact BK385.out), (by (with_reducible repeat (first | refine blk_drewN ?_ _ | refine blk_drew ?_ | refine blk_alloc ?_ _)); exact BK401.out), GW401.out, GE401.out, NB373_401.out, NB401_373.out, NB385_401.out, NB401_385.out, (by repeat (first | (with_reducible first | exact HB.out | apply below_alloc | apply pw_below_drewN | apply below_drew1 | refine below_set ?_ GE373.out | refine below_set ?_ GE385.out | refine below_set ?_ GE401.out) | exact HB.out))⟩)
             ·
              skip
              rintro ⟨v388, v391, v396⟩ w50 ⟨hS_, h0_, h1_, h2_, h3_, h4_, h5_⟩
              have n0_ : Aside0 (Kd.R k47 47 w50 w.heap.size (fun k_ => k_ ≠ gb385) v388 t387) := ⟨h0_⟩
              have n1_ : Aside0 (Kd.S k67 67 w50 w.heap.size (fun k_ => some k_ ≠ (v396 : Value).ownBlock) v391 t390) := ⟨h1_⟩
              have n2_ : Aside0 (Kd.R k65 65 w50 w.heap.size (fun _ => True) v396 y395) := ⟨h2_⟩
              have n3_ : Aside0 (w50.heap[gb373]? = some (.cells #[.slice A0_0 l0_0.length c0_0] 24 (0, 0))) := ⟨h3_⟩
              have n4_ : Aside0 (w50.heap[gb385]? = some (.cells #[.int .i64 t382, .int .i64 t383] 47 (0, 0))) := ⟨h4_⟩
              have n5_ : Aside0 (Below w.heap.size w w50) := ⟨h5_⟩
              clear BK373
              clear BK385
              clear HB
              clear h0_ h1_ h2_ h3_ h4_ h5_
              have HO389 := n0_
              have HO392 := n1_
              have HO397 := n2_
              have BK373 := n3_
              have BK385 := n4_
              have HB := n5_
              clear n0_ n1_ n2_ n3_ n4_ n5_
              have hHeld : w50.cell? ⟨gb373, 0, none⟩ = some (.slice A0_0 l0_0.length c0_0) ∧ w50.cell? ⟨gb385, 0, none⟩ = some (.int .i64 t382) ∧ w50.cell? ⟨gb385, 1, none⟩ = some (.int .i64 t383) := hS_
              refine norm_ (a' := ?_) ?_ ?_
              rotate_left
              ·
               simp only [putAll, Act.put, List.setIfInBounds_toArray, List.set_cons_zero, List.set_cons_succ]
               rfl
              refine one_ (i := 16) (N := some 12) #[true, true, true, true, true, true, true, true, true, true, true, true, true, true, true, true, true, false, false] rfl rfl (one_of HT_.out (by kernel_rfl)) (by decide) (fun K hK => ?_)
              refine box_step ?hg (N := 12) ?hd (cs := #[.int .i64 0, .int .i64 0]) (t := 47) ?hr ?_; (case hd => rfl); (case hg => rfl); (case hr => first | (go_simp; done) | (go_simp; rfl))
              intro gb401 hg w51 hbox hb
              have n0_ := Aside0.mk (Kd.R_below (Kd.R_elderB (by (with_reducible repeat (first | apply Kd.R_alloc | apply Kd.R_drewN | apply Kd.R_drew)); exact HO389.out) gb401 (Nat.le_of_eq hg.symm)) hb)
              have n1_ := Aside0.mk (Kd.S_below (by (with_reducible repeat (first | apply Kd.S_alloc | apply Kd.S_drewN | apply Kd.S_drew)); exact HO392.out) hb)
              have n2_ := Aside0.mk (Kd.R_below (by (with_reducible repeat (first | apply Kd.R_alloc | apply Kd.R_drewN | apply Kd.R_drew)); exact HO397.out) hb)
              have n3_ := Aside0.mk (blk_below (g := gb373) (o := .cells #[.slice A0_0 l0_0.length c0_0] 24 (0, 0)) (by (with_reducible repeat (first | refine blk_drewN ?_ _ | refine blk_drew ?_ | refine blk_alloc ?_ _)); exact BK373.out) hb)
              have n4_ := Aside0.mk (blk_below (g := gb385) (o := .cells #[.int .i64 t382, .int .i64 t383] 47 (0, 0)) (by (with_reducible repeat (first | refine blk_drewN ?_ _ | refine blk_drew ?_ | refine blk_alloc ?_ _)); exact BK385.out) hb)
              have n5_ := Aside0.mk (below_step (by repeat (first | (with_reducible first | exact HB.out | apply below_alloc | apply pw_below_drewN | apply below_drew1 | refine below_set ?_ GE373.out | refine below_set ?_ GE385.out) | exact HB.out)) hb)
              have n6_ := Aside0.mk (hbox)
              have n7_ := Aside0.mk ((by rw [hg]; exact (below_size (by repeat (first | (with_reducible first | exact HB.out | apply below_alloc | apply pw_below_drewN | apply below_drew1 | refine below_set ?_ GE373.out | refine below_set ?_ GE385.out) | exact HB.out))) : w.heap.size ≤ gb401))
              have n8_ := Aside0.mk ((by rw [hg]; exact (below_size (by repeat (first | (with_reducible first | exact HB.out | apply below_alloc | apply pw_below_drewN | apply below_drew1 | refine below_set ?_ GE373.out | refine below_set ?_ GE385.out) | exact HB.out))) : w.heap.size ≤ gb401))
              have n9_ := Aside0.mk ((by rw [hg]; exact Nat.ne_of_lt (blk_lt (g := gb373) (o := .cells #[.slice A0_0 l0_0.length c0_0] 24 (0, 0)) (by (with_reducible repeat (first | refine blk_drewN ?_ _ | refine blk_drew ?_ | refine blk_alloc ?_ _)); exact BK373.out)) : gb373 ≠ gb401))
              have n10_ := Aside0.mk ((by rw [hg]; exact Nat.ne_of_gt (blk_lt (g := gb373) (o := .cells #[.slice A0_0 l0_0.length c0_0] 24 (0, 0)) (by (with_reducible repeat (first | refine blk_drewN ?_ _ | refine blk_drew ?_ | refine blk_alloc ?_ _)); exact BK373.out)) : gb401 ≠ gb373))
              have n11_ := Aside0.mk ((by rw [hg]; exact Nat.ne_of_lt (blk_lt (g := gb385) (o := .cells #[.int .i64 t382, .int .i64 t383] 47 (0, 0)) (by (with_reducible repeat (first | refine blk_drewN ?_ _ | refine blk_drew ?_ | refine blk_alloc ?_ _)); exact BK385.out)) : gb385 ≠ gb401))
              have n12_ := Aside0.mk ((by rw [hg]; exact Nat.ne_of_gt (blk_lt (g := gb385) (o := .cells #[.int .i64 t382, .int .i64 t383] 47 (0, 0)) (by (with_reducible repeat (first | refine blk_drewN ?_ _ | refine blk_drew ?_ | refine blk_alloc ?_ _)); exact BK385.out)) : gb401 ≠ gb385))
              clear HO389
              clear HO392
              clear HO397
              clear BK373
              clear BK385
              clear HB
              have HO389 := n0_
              have HO392 := n1_
              have HO397 := n2_
              have BK373 := n3_
              have BK385 := n4_
              have HB := n5_
              have BK401 := n6_
              have GW401 := n7_
              have GE401 := n8_
              have NB373_401 := n9_
              have NB401_373 := n10_
              have NB385_401 := n11_
              have NB401_385 := n12_
              clear n0_ n1_ n2_ n3_ n4_ n5_ n6_ n7_ n8_ n9_ n10_ n11_ n12_
              clear hb hbox hg
              refine hK.out _ _ ⟨(blk_cell BK373.out 0).trans rfl, (blk_cell BK385.out 0).trans rfl, (blk_cell BK385.out 1).trans rfl⟩ (fun hHeld => ?_)
              clear hK K
              refine norm_ (a' := ?_) ?_ ?_
              rotate_left
              ·
               show Act.put _ (some 12) _ = _
               simp only [Act.put, List.setIfInBounds_toArray, List.set_cons_zero, List.set_cons_succ, i64_w, i32_w]
               rfl
              exact norm_ (by first | (simp only [putAll, Act.put, List.setIfInBounds_toArray, List.set_cons_zero, List.set_cons_succ]; done) | (simp only [putAll, Act.put, List.setIfInBounds_toArray, List.set_cons_zero, List.set_cons_succ]; rfl)) (hJ1_3_9_11_12_16 (v388, v391, v396, gb401) _ ⟨hHeld, (by (with_reducible repeat (first | apply Kd.R_alloc | apply Kd.R_drewN | apply Kd.R_drew)); exact HO389.out), (by (with_reducible repeat (first | apply Kd.S_alloc | apply Kd.S_drewN | apply Kd.S_drew)); exact HO392.out), (by (with_reducible repeat (first | apply Kd.R_alloc | apply Kd.R_drewN | apply Kd.R_drew)); exact HO397.out), (by (with_reducible repeat (first | refine blk_drewN ?_ _ | refine blk_drew ?_ | refine blk_alloc ?_ _)); exact BK373.out), (by (with_reducible repeat (first | refine blk_drewN ?_ _ | refine blk_drew ?_ | refine blk_alloc ?_ _)); exact BK385.out), (by (with_reducible repeat (first | refine blk_drewN ?_ _ | refine blk_drew ?_ | refine blk_alloc ?_ _)); exact BK401.out), GW401.out, GE401.out, NB373_401.out, NB401_373.out, NB385_401.out, NB401_385.out, (by repeat (first | (with_reducible first | exact HB.out | apply below_alloc | apply pw_below_drewN | apply below_drew1 | refine below_set ?_ GE373.out | refine below_set ?_ GE385.out | refine below_set ?_ GE401.out) | exact HB.out))⟩)
            rintro ⟨v388, v391, v396, gb401⟩ w51 ⟨hS_, h0_, h1_, h2_, h3_, h4_, h5_, h6_, h7_, h8_, h9_, h10_, h11_, h12_⟩
            have n0_ : Aside0 (Kd.R k47 47 w51 w.heap.size (fun k_ => k_ ≠ gb385 ∧ k_ ≠ gb401) v388 t387) := ⟨h0_⟩
            have n1_ : Aside0 (Kd.S k67 67 w51 w.heap.size (fun k_ => some k_ ≠ (v396 : Value).ownBlock) v391 t390) := ⟨h1_⟩
            have n2_ : Aside0 (Kd.R k65 65 w51 w.heap.size (fun _ => True) v396 y395) := ⟨h2_⟩
            have n3_ : Aside0 (w51.heap[gb373]? = some (.cells #[.slice A0_0 l0_0.length c0_0] 24 (0, 0))) := ⟨h3_⟩
            have n4_ : Aside0 (w51.heap[gb385]? = some (.cells #[.int .i64 t382, .int .i64 t383] 47 (0, 0))) := ⟨h4_⟩
            have n5_ : Aside0 (w51.heap[gb401]? = some (.cells #[.int .i64 0, .int .i64 0] 47 (0, 0))) := ⟨h5_⟩
            have n6_ : Aside0 (w.heap.size ≤ gb401) := ⟨h6_⟩
            have n7_ : Aside0 (w.heap.size ≤ gb401) := ⟨h7_⟩
            have n8_ : Aside0 (gb373 ≠ gb401) := ⟨h8_⟩
            have n9_ : Aside0 (gb401 ≠ gb373) := ⟨h9_⟩
            have n10_ : Aside0 (gb385 ≠ gb401) := ⟨h10_⟩
            have n11_ : Aside0 (gb401 ≠ gb385) := ⟨h11_⟩
            have n12_ : Aside0 (Below w.heap.size w w51) := ⟨h12_⟩
            clear BK373
            clear BK385
            clear HB
            clear h0_ h1_ h2_ h3_ h4_ h5_ h6_ h7_ h8_ h9_ h10_ h11_ h12_
            have HO389 := n0_
            have HO392 := n1_
            have HO397 := n2_
            have BK373 := n3_
            have BK385 := n4_
            have BK401 := n5_
            have GW401 := n6_
            have GE401 := n7_
            have NB373_401 := n8_
            have NB401_373 := n9_
            have NB385_401 := n10_
            have NB401_385 := n11_
            have HB := n12_
            clear n0_ n1_ n2_ n3_ n4_ n5_ n6_ n7_ n8_ n9_ n10_ n11_ n12_
            have hHeld : w51.cell? ⟨gb373, 0, none⟩ = some (.slice A0_0 l0_0.length c0_0) ∧ w51.cell? ⟨gb385, 0, none⟩ = some (.int .i64 t382) ∧ w51.cell? ⟨gb385, 1, none⟩ = some (.int .i64 t383) := hS_
            refine norm_ (a' := ?_) ?_ ?_
            rotate_left
            ·
             simp only [putAll, Act.put, List.setIfInBounds_toArray, List.set_cons_zero, List.set_cons_succ]
             rfl
            refine one_ (i := 17) (N := none) #[true, true, true, true, true, true, true, true, true, true, true, true, true, true, true, true, true, true, false] rfl rfl (one_of HT_.out (by kernel_rfl)) (by decide) (fun K hK => ?_)
            have hs52 : w51.cell? ⟨gb401, 0, none⟩ = some (.int .i64 0) := (blk_cell BK401.out 0).trans rfl
            have hfs52 := blk_frozen BK401.out 0
            have hns52_0 := NB373_401.out
            have hns52_1 := NB385_401.out
            have hms52_0 := NB401_373.out
            have hms52_1 := NB401_385.out
            have hs53 : w51.cell? ⟨gb401, 1, none⟩ = some (.int .i64 0) := (blk_cell BK401.out 1).trans rfl
            have hfs53 := blk_frozen BK401.out 1
            have hns53_0 := NB373_401.out
            have hns53_1 := NB385_401.out
            have hms53_0 := NB401_373.out
            have hms53_1 := NB401_385.out
            refine skip_ (w1 := ?_) (by rfl) rfl ?_ ?_
            rotate_left
            ·
             go_simp
             rfl
            refine hK.out _ _ ⟨((cell_far (p := ⟨gb401, _, none⟩) NB373_401.out _).trans (((cell_far (p := ⟨gb401, _, none⟩) NB373_401.out _).trans (hHeld.1)))), ((cell_far (p := ⟨gb401, _, none⟩) NB385_401.out _).trans (((cell_far (p := ⟨gb401, _, none⟩) NB385_401.out _).trans (hHeld.2.1)))), ((cell_far (p := ⟨gb401, _, none⟩) NB385_401.out _).trans (((cell_far (p := ⟨gb401, _, none⟩) NB385_401.out _).trans (hHeld.2.2))))⟩ (fun hHeld => ?_)
            clear hK K
            refine pure_ (i := 18) (N := some 13) (v := ?_) (a' := ?_) #[true, true, true, true, true, true, true, true, true, true, true, true, true, true, true, true, true, true, true] rfl rfl (any_of HT_.out (by kernel_rfl)) (fun _ _ _ h => h) (Or.inl ⟨by rfl, ?_⟩) ?_ ?_
            rotate_left
            ·
             intro w'
             go_simp
             with_reducible rfl
            rotate_left
            ·
             simp only [Act.put, List.setIfInBounds_toArray, List.set_cons_zero, List.set_cons_succ, i64_w, i32_w]
             rfl
            refine done_ (done_of HT_.out (by kernel_rfl)) ?_
            have hnb54 := NB401_373.out
            have hnc54 := NB373_401.out
            have hnb55 := NB401_385.out
            have hnc55 := NB385_401.out
            have hcz56_0 : w51.cell? ⟨gb401, 0, none⟩ = some (.int .i64 0) := (blk_cell BK401.out 0).trans rfl
            have hcz56_1 : w51.cell? ⟨gb401, 1, none⟩ = some (.int .i64 0) := (blk_cell BK401.out 1).trans rfl
            have hfz56_0 := blk_frozen BK401.out 0
            have hfz56_1 := blk_frozen BK401.out 1
            have hnb57 := NB385_373.out
            have hnc57 := NB373_385.out
            have hcz58_0 : w51.cell? ⟨gb385, 0, none⟩ = some (.int .i64 t382) := (blk_cell BK385.out 0).trans rfl
            have hcz58_1 : w51.cell? ⟨gb385, 1, none⟩ = some (.int .i64 t383) := (blk_cell BK385.out 1).trans rfl
            have hfz58_0 := blk_frozen BK385.out 0
            have hfz58_1 := blk_frozen BK385.out 1
            try go_wp2
            go_meet
            case rel => exact ⟨_, H', ⟨by have := HJ11.out; first | omega | exact Nat.le_refl _⟩, ⟨by (with_reducible repeat (first | refine blk_drewN ?_ _ | refine blk_drew ?_ | refine blk_alloc ?_ _)); refine blk_far ?_ NB373_401.out _; (with_reducible repeat (first | refine blk_drewN ?_ _ | refine blk_drew ?_ | refine blk_alloc ?_ _)); refine blk_far ?_ NB373_401.out _; (with_reducible repeat (first | refine blk_drewN ?_ _ | refine blk_drew ?_ | refine blk_alloc ?_ _)); exact BK373.out⟩, ⟨by (with_reducible repeat (first | refine blk_drewN ?_ _ | refine blk_drew ?_ | refine blk_alloc ?_ _)); refine blk_far ?_ NB385_401.out _; (with_reducible repeat (first | refine blk_drewN ?_ _ | refine blk_drew ?_ | refine blk_alloc ?_ _)); refine blk_far ?_ NB385_401.out _; (with_reducible repeat (first | refine blk_drewN ?_ _ | refine blk_drew ?_ | refine blk_alloc ?_ _)); exact BK385.out⟩, ⟨by repeat (first | (with_reducible first | exact HB.out | apply below_alloc | apply pw_below_drewN | apply below_drew1 | refine below_set ?_ GE373.out | refine below_set ?_ GE385.out | refine below_set ?_ GE401.out) | exact HB.out)⟩⟩
        ·
         rw [if_neg c36] at H
         exact absurd H (by simp)
       ·
        replace c31 := Bool.eq_false_iff.mpr c31
        subst c31
        have H1 : (tensilelaw05_CreepLife.j1 kj11 l1 a3 (Int.tmod (wrap64 (a2)) (l0_0.length : Int)) l0_0 t382 t383) = some r := by rw [if_neg (show ¬ (false = true) by decide)] at H; exact H
        clear H
        have H := H1
        clear H1
        have H' := Aside0.mk H
        clear H
        go_wp2
        go_meet
        case rel => exact ⟨_, H', ⟨by have := HJ11.out; first | omega | exact Nat.le_refl _⟩, ⟨by (with_reducible repeat (first | refine blk_drewN ?_ _ | refine blk_drew ?_ | refine blk_alloc ?_ _)); exact BK373.out⟩, ⟨by (with_reducible repeat (first | refine blk_drewN ?_ _ | refine blk_drew ?_ | refine blk_alloc ?_ _)); exact BK385.out⟩, ⟨by repeat (first | (with_reducible first | exact HB.out | apply below_alloc | apply pw_below_drewN | apply below_drew1 | refine below_set ?_ GE373.out | refine below_set ?_ GE385.out) | exact HB.out)⟩⟩
      case rest =>
       clear HC30
       try clear c2
       try clear p2
       try clear c3
       try clear c5
       try clear p6
       try clear c25
       try clear c31
       try clear c36
       try clear c54
       try clear c55
       try clear c57
       try clear hcz56_0
       try clear hcz56_1
       try clear hcz58_0
       try clear hcz58_1
       try clear hfz56_0
       try clear hfz56_1
       try clear hfz58_0
       try clear hfz58_1
       obtain ⟨kq, HA, HJ29, BK373, BK385, HB⟩ := hcut
       cases kq with
       | zero => exact absurd HA.out (by simp [tensilelaw05_CreepLife.j1])
       | succ kj29 =>
        have H := HA.out
        clear HA
        simp only [tensilelaw05_CreepLife.j1] at H
        have HC59 := Aside0.mk H
        clear H
        have hnb60 := NB385_373.out
        have hnc60 := NB373_385.out
        have hcz61_0 : wc.cell? ⟨gb385, 0, none⟩ = some (.int .i64 t382) := (blk_cell BK385.out 0).trans rfl
        have hcz61_1 : wc.cell? ⟨gb385, 1, none⟩ = some (.int .i64 t383) := (blk_cell BK385.out 1).trans rfl
        have hfz61_0 := blk_frozen BK385.out 0
        have hfz61_1 := blk_frozen BK385.out 1
        go_upto_region 12 with (fail)
        go_cut [99] (fun v99 wc => ∃ (kq : Nat) (x99_58 : Bool), v99 = .bool x99_58 ∧ Aside0 (tensilelaw05_CreepLife.j2 kq l1 a3 (Int.tmod (wrap64 (a2)) (l0_0.length : Int)) (wrap64 (t382 - 1)) x99_58 l0_0 = some r) ∧ Aside0 (kq ≤ kj29) ∧ Aside0 (wc.heap[gb373]? = some (.cells #[(.slice A0_0 l0_0.length c0_0)] 24 (0, 0))) ∧ Aside0 (wc.heap[gb385]? = some (.cells #[.int .i64 t382, .int .i64 t383] 47 (0, 0))) ∧ Aside0 (Below w.heap.size w wc))
        case first =>
         have H := HC59.out
         clear HC59
         by_cases c62 : (wrap64 (t382 - 1)) ≥ 0
         ·
          rw [if_pos c62] at H
          have c62b0 : decide (0 ≤ (wrap64 (t382 - 1))) = true := decide_eq_true c62
          clear c62
          (first | rw [c62b0] | (simp only [i64_w, i32_w]; rw [c62b0]) | skip)
          have H' := Aside0.mk H
          clear H
          go_wp2
          go_meet
          case rel => exact ⟨_, (decide ((wrap64 (t382 - 1)) ≤ 1000000)), (by first | rfl | (simp; done) | (simp [*]; done)), H', ⟨by have := HJ11.out; have := HJ29.out; first | omega | exact Nat.le_refl _⟩, ⟨by (with_reducible repeat (first | refine blk_drewN ?_ _ | refine blk_drew ?_ | refine blk_alloc ?_ _)); exact BK373.out⟩, ⟨by (with_reducible repeat (first | refine blk_drewN ?_ _ | refine blk_drew ?_ | refine blk_alloc ?_ _)); exact BK385.out⟩, ⟨by repeat (first | (with_reducible first | exact HB.out | apply below_alloc | apply pw_below_drewN | apply below_drew1 | refine below_set ?_ GE373.out | refine below_set ?_ GE385.out) | exact HB.out)⟩⟩
         ·
          rw [if_neg c62] at H
          have c62b0 : decide (0 ≤ (wrap64 (t382 - 1))) = false := decide_eq_false c62
          clear c62
          (first | rw [c62b0] | (simp only [i64_w, i32_w]; rw [c62b0]) | skip)
          have H' := Aside0.mk H
          clear H
          go_wp2
          go_meet
          case rel => exact ⟨_, (false), (by first | rfl | (simp; done) | (simp [*]; done)), H', ⟨by have := HJ11.out; have := HJ29.out; first | omega | exact Nat.le_refl _⟩, ⟨by (with_reducible repeat (first | refine blk_drewN ?_ _ | refine blk_drew ?_ | refine blk_alloc ?_ _)); exact BK373.out⟩, ⟨by (with_reducible repeat (first | refine blk_drewN ?_ _ | refine blk_drew ?_ | refine blk_alloc ?_ _)); exact BK385.out⟩, ⟨by repeat (first | (with_reducible first | exact HB.out | apply below_alloc | apply pw_below_drewN | apply below_drew1 | refine below_set ?_ GE373.out | refine below_set ?_ GE385.out) | exact HB.out)⟩⟩
        case rest =>
         clear HC59
         try clear c2
         try clear p2
         try clear c3
         try clear c5
         try clear c6
         try clear p6
         try clear c25
         try clear c31
         try clear c36
         try clear c54
         try clear c55
         try clear c57
         try clear c60
         try clear c62
         try clear c62b0
         try clear hcz56_0
         try clear hcz56_1
         try clear hcz58_0
         try clear hcz58_1
         try clear hcz61_0
         try clear hcz61_1
         try clear hfz56_0
         try clear hfz56_1
         try clear hfz58_0
         try clear hfz58_1
         try clear hfz61_0
         try clear hfz61_1
         try clear p2
         try clear p6
         obtain ⟨kq, x99_58, rfl, HA, HJ58, BK373, BK385, HB⟩ := hcut
         cases kq with
         | zero => exact absurd HA.out (by simp [tensilelaw05_CreepLife.j2])
         | succ kj58 =>
          have H := HA.out
          clear HA
          simp only [tensilelaw05_CreepLife.j2] at H
          by_cases c63 : x99_58 = true
          ·
           subst c63
           have H1 : ((tensilelaw05_Material.f kj58 l0_0).bind fun t402 => ((tensilelaw05_Runs.f kj58 l1).bind fun t405 => ((tensilelaw05_between.f (wrap64 (t382 - 1)) (wrap64 (t382 - 1))).bind fun bt408 => ((creep_Stretch.f t402 t405 (([(⟨(Int.tmod (wrap64 (a2)) (l0_0.length : Int)), (⟨bt408.1, bt408.2⟩ : S47)⟩ : S65)] : List (S65)))).bind fun bt413 => (if bt413.2.2 = 0 then (if bt413.2.1 ≥ (wrap64 (a3)) then (none) else ((tensilelaw05_awake.f).bind fun t417 => (some t417))) else (none)))))) = some r := by rw [if_pos rfl] at H; exact H
           clear H
           have H := H1
           clear H1
           replace H := Option.bind_eq_some_iff.mp H
           obtain ⟨t402, A640, H⟩ := H
           replace H : ((tensilelaw05_Runs.f kj58 l1).bind fun t405 => ((tensilelaw05_between.f (wrap64 (t382 - 1)) (wrap64 (t382 - 1))).bind fun bt408 => ((creep_Stretch.f t402 t405 (([(⟨(Int.tmod (wrap64 (a2)) (l0_0.length : Int)), (⟨bt408.1, bt408.2⟩ : S47)⟩ : S65)] : List (S65)))).bind fun bt413 => (if bt413.2.2 = 0 then (if bt413.2.1 ≥ (wrap64 (a3)) then (none) else ((tensilelaw05_awake.f).bind fun t417 => (some t417))) else (none))))) = some r := H
           have A64 := Aside0.mk A640
           clear A640
           replace H := Option.bind_eq_some_iff.mp H
           obtain ⟨t405, A650, H⟩ := H
           replace H : ((tensilelaw05_between.f (wrap64 (t382 - 1)) (wrap64 (t382 - 1))).bind fun bt408 => ((creep_Stretch.f t402 t405 (([(⟨(Int.tmod (wrap64 (a2)) (l0_0.length : Int)), (⟨bt408.1, bt408.2⟩ : S47)⟩ : S65)] : List (S65)))).bind fun bt413 => (if bt413.2.2 = 0 then (if bt413.2.1 ≥ (wrap64 (a3)) then (none) else ((tensilelaw05_awake.f).bind fun t417 => (some t417))) else (none)))) = some r := H
           have A65 := Aside0.mk A650
           clear A650
           replace H := Option.bind_eq_some_iff.mp H
           obtain ⟨⟨t408, t409⟩, A660, H⟩ := H
           replace H : ((creep_Stretch.f t402 t405 (([(⟨(Int.tmod (wrap64 (a2)) (l0_0.length : Int)), (⟨t408, t409⟩ : S47)⟩ : S65)] : List (S65)))).bind fun bt413 => (if bt413.2.2 = 0 then (if bt413.2.1 ≥ (wrap64 (a3)) then (none) else ((tensilelaw05_awake.f).bind fun t417 => (some t417))) else (none))) = some r := H
           have A66 := Aside0.mk A660
           clear A660
           obtain ⟨y410, hy410⟩ : ∃ y_ : List (S65), y_ = (([(⟨(Int.tmod (wrap64 (a2)) (l0_0.length : Int)), (⟨t408, t409⟩ : S47)⟩ : S65)] : List (S65))) := ⟨_, rfl⟩
           replace H : ((creep_Stretch.f t402 t405 y410).bind fun bt413 => (if bt413.2.2 = 0 then (if bt413.2.1 ≥ (wrap64 (a3)) then (none) else ((tensilelaw05_awake.f).bind fun t417 => (some t417))) else (none))) = some r := by first | (rw [hy410]; with_reducible exact H) | (have H2_ := (Option.bind_some _ _).symm.trans H; rw [hy410]; with_reducible exact H2_) | (have H2_ := (Option.bind_some _ _).symm.trans H; with_reducible exact H2_) | with_reducible exact H | (rw [hy410]; exact H) | exact H
           have Ny410 := Aside0.mk hy410
           clear hy410
           replace H := Option.bind_eq_some_iff.mp H
           obtain ⟨⟨t413, t414, t415⟩, A670, H⟩ := H
           replace H : (if t415 = 0 then (if t414 ≥ (wrap64 (a3)) then (none) else ((tensilelaw05_awake.f).bind fun t417 => (some t417))) else (none)) = some r := H
           have A67 := Aside0.mk A670
           clear A670
           by_cases c68 : t415 = 0
           ·
            rw [if_pos c68] at H
            have c68b0 : (t415 == 0) = true := beq_iff_eq.mpr c68
            have c68b1 : (t415 != 0) = false := bne_eq_false_iff_eq.mpr c68
            clear c68
            by_cases c69 : t414 ≥ (wrap64 (a3))
            ·
             rw [if_pos c69] at H
             exact absurd H (by simp)
            ·
             rw [if_neg c69] at H
             have c69b0 : decide ((wrap64 (a3)) ≤ t414) = false := decide_eq_false c69
             clear c69
             replace H := Option.bind_eq_some_iff.mp H
             obtain ⟨t417, A700, H⟩ := H
             replace H : (some t417) = some r := H
             have A70 := Aside0.mk A700
             clear A700
             obtain rfl := Option.some.inj H
             have hnb71 := NB373_385.out
             have hnc71 := NB385_373.out
             have hcz72_0 : wc.cell? ⟨gb373, 0, none⟩ = some (.slice A0_0 l0_0.length c0_0) := (blk_cell BK373.out 0).trans rfl
             have hfz72_0 := blk_frozen BK373.out 0
             go_wp2_with (first | ((with_reducible refine gate_callee (f := 21) rfl ?_); refine goesL_ (some 102) rfl rfl Try.func21 (by kernel_rfl) rfl #[.agg #[.slice A0_0 l0_0.length c0_0]] rfl (by (try simp only [List.map_toArray, List.map_cons, List.map_nil]); first | done | rfl | (simp only [List.length_drop, List.length_take]; rfl)) ?_; (with_reducible refine (tensilelaw05_Material.calls kj58 _ _ l0_0 t402 _ ?side1 ?side2 A64.out).mono ?_); (case side1 => repeat (first | exact (Kd.C_below HR0_0.out HB.out) | (with_reducible refine Kd.C_alloc ?_ _) | (with_reducible refine Kd.C_drewN ?_ _) | (with_reducible refine Kd.C_drew ?_))); (case side2 => exact HC0_0.out); rintro e w73 ⟨v403, rfl, ho0, hb⟩; refine ⟨_, rfl, ?_⟩; have n0_ := Aside0.mk (Kd.R_lower (Kd.R_newB ho0 (g := gb385) (o := .cells #[.int .i64 t382, .int .i64 t383] 47 (0, 0)) (by (with_reducible repeat (first | refine blk_drewN ?_ _ | refine blk_drew ?_ | refine blk_alloc ?_ _)); exact BK385.out)) (below_size (by repeat (first | (with_reducible first | exact HB.out | apply below_alloc | apply pw_below_drewN | apply below_drew1 | refine below_set ?_ GE373.out | refine below_set ?_ GE385.out) | exact HB.out)))); have n1_ := Aside0.mk (blk_below (g := gb373) (o := .cells #[.slice A0_0 l0_0.length c0_0] 24 (0, 0)) (by (with_reducible repeat (first | refine blk_drewN ?_ _ | refine blk_drew ?_ | refine blk_alloc ?_ _)); exact BK373.out) hb); have n2_ := Aside0.mk (blk_below (g := gb385) (o := .cells #[.int .i64 t382, .int .i64 t383] 47 (0, 0)) (by (with_reducible repeat (first | refine blk_drewN ?_ _ | refine blk_drew ?_ | refine blk_alloc ?_ _)); exact BK385.out) hb); have n3_ := Aside0.mk (below_step (by repeat (first | (with_reducible first | exact HB.out | apply below_alloc | apply pw_below_drewN | apply below_drew1 | refine below_set ?_ GE373.out | refine below_set ?_ GE385.out) | exact HB.out)) hb); clear BK373; clear BK385; clear HB; have HO404 := n0_; have BK373 := n1_; have BK385 := n2_; have HB := n3_; clear n0_ n1_ n2_ n3_; (try clear hb); (try clear hb2); (try clear hk); (try clear hi); (try clear ho0)) | ((with_reducible refine gate_callee (f := 22) rfl ?_); refine goesL_ (some 104) rfl rfl Try.func22 (by kernel_rfl) rfl #[.slice A1 l1.length c1] rfl (by (try simp only [List.map_toArray, List.map_cons, List.map_nil]); first | done | rfl | (simp only [List.length_drop, List.length_take]; rfl)) ?_; (with_reducible refine (tensilelaw05_Runs.calls kj58 _ _ l1 t405 _ ?side1 ?side2 A65.out).mono ?_); (case side1 => repeat (first | exact (Kd.C_below HR1.out HB.out) | (with_reducible refine Kd.C_alloc ?_ _) | (with_reducible refine Kd.C_drewN ?_ _) | (with_reducible refine Kd.C_drew ?_))); (case side2 => exact HC1.out); rintro e w74 ⟨v406, rfl, ho0, hb⟩; refine ⟨_, rfl, ?_⟩; have n0_ := Aside0.mk (Kd.R_below (by (with_reducible repeat (first | apply Kd.R_alloc | apply Kd.R_drewN | apply Kd.R_drew)); exact HO404.out) hb); have n1_ := Aside0.mk (Kd.S_lower ho0 (below_size (by repeat (first | (with_reducible first | exact HB.out | apply below_alloc | apply pw_below_drewN | apply below_drew1 | refine below_set ?_ GE373.out | refine below_set ?_ GE385.out) | exact HB.out)))); have n2_ := Aside0.mk (blk_below (g := gb373) (o := .cells #[.slice A0_0 l0_0.length c0_0] 24 (0, 0)) (by (with_reducible repeat (first | refine blk_drewN ?_ _ | refine blk_drew ?_ | refine blk_alloc ?_ _)); exact BK373.out) hb); have n3_ := Aside0.mk (blk_below (g := gb385) (o := .cells #[.int .i64 t382, .int .i64 t383] 47 (0, 0)) (by (with_reducible repeat (first | refine blk_drewN ?_ _ | refine blk_drew ?_ | refine blk_alloc ?_ _)); exact BK385.out) hb); have n4_ := Aside0.mk (below_step (by repeat (first | (with_reducible first | exact HB.out | apply below_alloc | apply pw_below_drewN | apply below_drew1 | refine below_set ?_ GE373.out | refine below_set ?_ GE385.out) | exact HB.out)) hb); clear HO404; clear BK373; clear BK385; clear HB; have HO404 := n0_; have HO407 := n1_; have BK373 := n2_; have BK385 := n3_; have HB := n4_; clear n0_ n1_ n2_ n3_ n4_; (try clear hb); (try clear hb2); (try clear hk); (try clear hi); (try clear ho0)) | ((with_reducible refine gate_callee (f := 33) rfl ?_); refine goesL_ (some 108) rfl rfl Try.func33 (by kernel_rfl) rfl #[.int .i64 (wrap64 (t382 - 1)), .int .i64 (wrap64 (t382 - 1))] rfl (by (try simp only [List.map_toArray, List.map_cons, List.map_nil]); first | done | rfl | (simp only [List.length_drop, List.length_take]; rfl)) ?_; (with_reducible refine (tensilelaw05_between.calls (wrap64 (t382 - 1)) (wrap64 (t382 - 1)) t408 t409 _ A66.out).mono ?_); rintro e w75 ⟨rfl, hb⟩; refine ⟨_, rfl, ?_⟩; have n0_ := Aside0.mk (Kd.R_below (by (with_reducible repeat (first | apply Kd.R_alloc | apply Kd.R_drewN | apply Kd.R_drew)); exact HO404.out) hb); have n1_ := Aside0.mk (Kd.S_below (by (with_reducible repeat (first | apply Kd.S_alloc | apply Kd.S_drewN | apply Kd.S_drew)); exact HO407.out) hb); have n2_ := Aside0.mk (blk_below (g := gb373) (o := .cells #[.slice A0_0 l0_0.length c0_0] 24 (0, 0)) (by (with_reducible repeat (first | refine blk_drewN ?_ _ | refine blk_drew ?_ | refine blk_alloc ?_ _)); exact BK373.out) hb); have n3_ := Aside0.mk (blk_below (g := gb385) (o := .cells #[.int .i64 t382, .int .i64 t383] 47 (0, 0)) (by (with_reducible repeat (first | refine blk_drewN ?_ _ | refine blk_drew ?_ | refine blk_alloc ?_ _)); exact BK385.out) hb); have n4_ := Aside0.mk (below_step (by repeat (first | (with_reducible first | exact HB.out | apply below_alloc | apply pw_below_drewN | apply below_drew1 | refine below_set ?_ GE373.out | refine below_set ?_ GE385.out) | exact HB.out)) hb); clear HO404; clear HO407; clear BK373; clear BK385; clear HB; have HO404 := n0_; have HO407 := n1_; have BK373 := n2_; have BK385 := n3_; have HB := n4_; clear n0_ n1_ n2_ n3_ n4_; (try clear hb); (try clear hb2); (try clear hk); (try clear hi)) | ((with_reducible refine gate_dst (N := 110) rfl ?_); refine Kd.R_lit k65 _ 65 ?hg (N := 110) ?hd (xs := ([(⟨(Int.tmod (wrap64 (a2)) (l0_0.length : Int)), (⟨t408, t409⟩ : S47)⟩ : S65)] : List (S65))) (inner := [.int .i64 (Int.tmod (wrap64 (a2)) (l0_0.length : Int)), .int .i64 t408, .int .i64 t409]) (ok := fun _ => True) (okp := fun _ => True) ?hr ?hp (fun _ hk => hk) trivial (Below.refl _ _) (Nat.le_refl _) (by simp) ?_; (case hd => rfl); (case hg => rfl); (case hr => first | (go_simp; done) | (go_simp; rfl)); (case hp => exact (Reps.c3 (show Kd.M k65 _ _ _ (⟨(Int.tmod (wrap64 (a2)) (l0_0.length : Int)), (⟨t408, t409⟩ : S47)⟩ : S65) [.int .i64 (Int.tmod (wrap64 (a2)) (l0_0.length : Int)), .int .i64 t408, .int .i64 t409] from (k65_mkM _ _ _ (⟨(Int.tmod (wrap64 (a2)) (l0_0.length : Int)), (⟨t408, t409⟩ : S47)⟩ : S65) )) (Reps.none _ _))); intro v411 w76 ho77 hb hg_ hnew_; clear hg_ hnew_; (first | rw [← Ny410.out] at ho77 | (simp only [Int.reduceToNat] at ho77; rw [← Ny410.out] at ho77)); have n0_ := Aside0.mk (Kd.R_below (by (with_reducible repeat (first | apply Kd.R_alloc | apply Kd.R_drewN | apply Kd.R_drew)); exact HO404.out) hb); have n1_ := Aside0.mk (Kd.S_elder' (by (with_reducible repeat (first | apply Kd.S_alloc | apply Kd.S_drewN | apply Kd.S_drew)); exact HO407.out) (Kd.R_base ho77) hb); have n2_ := Aside0.mk (Kd.R_lower ho77 (below_size (by repeat (first | (with_reducible first | exact HB.out | apply below_alloc | apply pw_below_drewN | apply below_drew1 | refine below_set ?_ GE373.out | refine below_set ?_ GE385.out) | exact HB.out)))); have n3_ := Aside0.mk (blk_below (g := gb373) (o := .cells #[.slice A0_0 l0_0.length c0_0] 24 (0, 0)) (by (with_reducible repeat (first | refine blk_drewN ?_ _ | refine blk_drew ?_ | refine blk_alloc ?_ _)); exact BK373.out) hb); have n4_ := Aside0.mk (blk_below (g := gb385) (o := .cells #[.int .i64 t382, .int .i64 t383] 47 (0, 0)) (by (with_reducible repeat (first | refine blk_drewN ?_ _ | refine blk_drew ?_ | refine blk_alloc ?_ _)); exact BK385.out) hb); have n5_ := Aside0.mk (below_step (by repeat (first | (with_reducible first | exact HB.out | apply below_alloc | apply pw_below_drewN | apply below_drew1 | refine below_set ?_ GE373.out | refine below_set ?_ GE385.out) | exact HB.out)) hb); clear HO404; clear HO407; clear BK373; clear BK385; clear HB; have HO404 := n0_; have HO407 := n1_; have HO412 := n2_; have BK373 := n3_; have BK385 := n4_; have HB := n5_; clear n0_ n1_ n2_ n3_ n4_ n5_; clear hb ho77; obtain ⟨Ao78, co78, eo78⟩ := Kd.R_slice HO404.out; subst eo78; obtain ⟨Ao79, co79, eo79⟩ := Kd.S_slice HO407.out; subst eo79; obtain ⟨Ao80, co80, eo80⟩ := Kd.R_slice HO412.out; subst eo80) | ((with_reducible refine gate_callee (f := 25) rfl ?_); refine goesL_ (some 111) rfl rfl Try.func25 (by kernel_rfl) rfl #[.agg #[.slice Ao78 t402.length co78], .slice Ao79 t405.length co79, .slice Ao80 y410.length co80] rfl (by (try simp only [List.map_toArray, List.map_cons, List.map_nil]); first | done | rfl | (simp only [List.length_drop, List.length_take]; rfl)) ?_; (with_reducible refine (creep_Stretch.calls _ _ t402 _ _ t405 _ _ y410 t413 t414 t415 _ ?side1 ?side2 ?side3 ?side4 ?side5 ?side6 A67.out).mono ?_); (case side1 => repeat (first | exact (Kd.R_reads' HO404.out).2.2 | (with_reducible refine Kd.C_alloc ?_ _) | (with_reducible refine Kd.C_drewN ?_ _) | (with_reducible refine Kd.C_drew ?_))); (case side2 => exact (Kd.R_reads' HO404.out).2.1); (case side3 => repeat (first | exact (Kd.S_reads' HO407.out).2.2 | (with_reducible refine Kd.C_alloc ?_ _) | (with_reducible refine Kd.C_drewN ?_ _) | (with_reducible refine Kd.C_drew ?_))); (case side4 => exact (Kd.S_reads' HO407.out).2.1); (case side5 => repeat (first | exact (Kd.R_reads' HO412.out).2.2 | (with_reducible refine Kd.C_alloc ?_ _) | (with_reducible refine Kd.C_drewN ?_ _) | (with_reducible refine Kd.C_drew ?_))); (case side6 => exact (Kd.R_reads' HO412.out).2.1); rintro e w81 ⟨rfl, hb⟩; refine ⟨_, rfl, ?_⟩; have n0_ := Aside0.mk (Kd.R_below (by (with_reducible repeat (first | apply Kd.R_alloc | apply Kd.R_drewN | apply Kd.R_drew)); exact HO404.out) hb); have n1_ := Aside0.mk (Kd.S_below (by (with_reducible repeat (first | apply Kd.S_alloc | apply Kd.S_drewN | apply Kd.S_drew)); exact HO407.out) hb); have n2_ := Aside0.mk (Kd.R_below (by (with_reducible repeat (first | apply Kd.R_alloc | apply Kd.R_drewN | apply Kd.R_drew)); exact HO412.out) hb); have n3_ := Aside0.mk (blk_below (g := gb373) (o := .cells #[.slice A0_0 l0_0.length c0_0] 24 (0, 0)) (by (with_reducible repeat (first | refine blk_drewN ?_ _ | refine blk_drew ?_ | refine blk_alloc ?_ _)); exact BK373.out) hb); have n4_ := Aside0.mk (blk_below (g := gb385) (o := .cells #[.int .i64 t382, .int .i64 t383] 47 (0, 0)) (by (with_reducible repeat (first | refine blk_drewN ?_ _ | refine blk_drew ?_ | refine blk_alloc ?_ _)); exact BK385.out) hb); have n5_ := Aside0.mk (below_step (by repeat (first | (with_reducible first | exact HB.out | apply below_alloc | apply pw_below_drewN | apply below_drew1 | refine below_set ?_ GE373.out | refine below_set ?_ GE385.out) | exact HB.out)) hb); clear HO404; clear HO407; clear HO412; clear BK373; clear BK385; clear HB; have HO404 := n0_; have HO407 := n1_; have HO412 := n2_; have BK373 := n3_; have BK385 := n4_; have HB := n5_; clear n0_ n1_ n2_ n3_ n4_ n5_; (try clear hb); (try clear hb2); (try clear hk); (try clear hi)) | ((with_reducible refine gate_dst (N := 15) rfl ?_); refine box_event ?hg (N := 15) ?hd (cs := #[.int .i64 0, .int .i64 0]) (t := 47) ?hr ?_; (case hd => rfl); (case hg => rfl); (case hr => first | (go_simp; done) | (go_simp; rfl)); intro gb416 hg w82 hbox hb; have n0_ := Aside0.mk (Kd.R_below (Kd.R_elderB (by (with_reducible repeat (first | apply Kd.R_alloc | apply Kd.R_drewN | apply Kd.R_drew)); exact HO404.out) gb416 (Nat.le_of_eq hg.symm)) hb); have n1_ := Aside0.mk (Kd.S_below (by (with_reducible repeat (first | apply Kd.S_alloc | apply Kd.S_drewN | apply Kd.S_drew)); exact HO407.out) hb); have n2_ := Aside0.mk (Kd.R_below (by (with_reducible repeat (first | apply Kd.R_alloc | apply Kd.R_drewN | apply Kd.R_drew)); exact HO412.out) hb); have n3_ := Aside0.mk (blk_below (g := gb373) (o := .cells #[.slice A0_0 l0_0.length c0_0] 24 (0, 0)) (by (with_reducible repeat (first | refine blk_drewN ?_ _ | refine blk_drew ?_ | refine blk_alloc ?_ _)); exact BK373.out) hb); have n4_ := Aside0.mk (blk_below (g := gb385) (o := .cells #[.int .i64 t382, .int .i64 t383] 47 (0, 0)) (by (with_reducible repeat (first | refine blk_drewN ?_ _ | refine blk_drew ?_ | refine blk_alloc ?_ _)); exact BK385.out) hb); have n5_ := Aside0.mk (below_step (by repeat (first | (with_reducible first | exact HB.out | apply below_alloc | apply pw_below_drewN | apply below_drew1 | refine below_set ?_ GE373.out | refine below_set ?_ GE385.out) | exact HB.out)) hb); have n6_ := Aside0.mk (hbox); have n7_ := Aside0.mk ((by rw [hg]; exact (below_size (by repeat (first | (with_reducible first | exact HB.out | apply below_alloc | apply pw_below_drewN | apply below_drew1 | refine below_set ?_ GE373.out | refine below_set ?_ GE385.out) | exact HB.out))) : w.heap.size ≤ gb416)); have n8_ := Aside0.mk ((by rw [hg]; exact (below_size (by repeat (first | (with_reducible first | exact HB.out | apply below_alloc | apply pw_below_drewN | apply below_drew1 | refine below_set ?_ GE373.out | refine below_set ?_ GE385.out) | exact HB.out))) : w.heap.size ≤ gb416)); have n9_ := Aside0.mk ((by rw [hg]; exact Nat.ne_of_lt (blk_lt (g := gb373) (o := .cells #[.slice A0_0 l0_0.length c0_0] 24 (0, 0)) (by (with_reducible repeat (first | refine blk_drewN ?_ _ | refine blk_drew ?_ | refine blk_alloc ?_ _)); exact BK373.out)) : gb373 ≠ gb416)); have n10_ := Aside0.mk ((by rw [hg]; exact Nat.ne_of_gt (blk_lt (g := gb373) (o := .cells #[.slice A0_0 l0_0.length c0_0] 24 (0, 0)) (by (with_reducible repeat (first | refine blk_drewN ?_ _ | refine blk_drew ?_ | refine blk_alloc ?_ _)); exact BK373.out)) : gb416 ≠ gb373)); have n11_ := Aside0.mk ((by rw [hg]; exact Nat.ne_of_lt (blk_lt (g := gb385) (o := .cells #[.int .i64 t382, .int .i64 t383] 47 (0, 0)) (by (with_reducible repeat (first | refine blk_drewN ?_ _ | refine blk_drew ?_ | refine blk_alloc ?_ _)); exact BK385.out)) : gb385 ≠ gb416)); have n12_ := Aside0.mk ((by rw [hg]; exact Nat.ne_of_gt (blk_lt (g := gb385) (o := .cells #[.int .i64 t382, .int .i64 t383] 47 (0, 0)) (by (with_reducible repeat (first | refine blk_drewN ?_ _ | refine blk_drew ?_ | refine blk_alloc ?_ _)); exact BK385.out)) : gb416 ≠ gb385)); clear HO404; clear HO407; clear HO412; clear BK373; clear BK385; clear HB; have HO404 := n0_; have HO407 := n1_; have HO412 := n2_; have BK373 := n3_; have BK385 := n4_; have HB := n5_; have BK416 := n6_; have GW416 := n7_; have GE416 := n8_; have NB373_416 := n9_; have NB416_373 := n10_; have NB385_416 := n11_; have NB416_385 := n12_; clear n0_ n1_ n2_ n3_ n4_ n5_ n6_ n7_ n8_ n9_ n10_ n11_ n12_; clear hb hbox hg; have hnb83 := NB416_373.out; have hnc83 := NB373_416.out; have hnb84 := NB416_385.out; have hnc84 := NB385_416.out; have hcz85_0 : w82.cell? ⟨gb416, 0, none⟩ = some (.int .i64 0) := (blk_cell BK416.out 0).trans rfl; have hcz85_1 : w82.cell? ⟨gb416, 1, none⟩ = some (.int .i64 0) := (blk_cell BK416.out 1).trans rfl; have hfz85_0 := blk_frozen BK416.out 0; have hfz85_1 := blk_frozen BK416.out 1) | ((with_reducible refine gate_callee (f := 17) rfl ?_); refine goesL_ (some 123) rfl rfl Try.func17 (by kernel_rfl) rfl #[] rfl (by (try simp only [List.map_toArray, List.map_cons, List.map_nil]); first | done | rfl | (simp only [List.length_drop, List.length_take]; rfl)) ?_; (with_reducible refine (tensilelaw05_awake.calls  t417 _ A70.out).mono ?_); rintro e w86 ⟨rfl, hb⟩; refine ⟨_, rfl, ?_⟩; have n0_ := Aside0.mk (Kd.R_below (by (with_reducible repeat (first | apply Kd.R_alloc | apply Kd.R_drewN | apply Kd.R_drew)); exact (Kd.R_mono (Kd.R_far (p := ⟨gb416, 1, none⟩) (Kd.R_far (p := ⟨gb416, 0, none⟩) (Kd.R_mono HO404.out (fun k_ hk => (⟨hk, hk.2⟩ : _ ∧ k_ ≠ gb416))) (fun _ hk => hk.2) (.int .i64 t413)) (fun _ hk => hk.2) (.int .i64 t414)) (fun _ h_ => h_.1))) hb); have n1_ := Aside0.mk (Kd.S_below (by (with_reducible repeat (first | apply Kd.S_alloc | apply Kd.S_drewN | apply Kd.S_drew)); exact (Kd.S_mono (Kd.S_far (p := ⟨gb416, 1, none⟩) (Kd.S_far (p := ⟨gb416, 0, none⟩) (Kd.S_types HO407.out BK416.out (by decide)) (fun _ hk => hk.2) (.int .i64 t413)) (fun _ hk => hk.2) (.int .i64 t414)) (fun _ h_ => h_.1))) hb); have n2_ := Aside0.mk (Kd.R_below (by (with_reducible repeat (first | apply Kd.R_alloc | apply Kd.R_drewN | apply Kd.R_drew)); exact (Kd.R_mono (Kd.R_far (p := ⟨gb416, 1, none⟩) (Kd.R_far (p := ⟨gb416, 0, none⟩) (Kd.R_types HO412.out BK416.out (by decide)) (fun _ hk => hk.2) (.int .i64 t413)) (fun _ hk => hk.2) (.int .i64 t414)) (fun _ h_ => h_.1))) hb); have n3_ := Aside0.mk (blk_below (g := gb373) (o := .cells #[.slice A0_0 l0_0.length c0_0] 24 (0, 0)) (by (with_reducible repeat (first | refine blk_drewN ?_ _ | refine blk_drew ?_ | refine blk_alloc ?_ _)); refine blk_far ?_ NB373_416.out _; (with_reducible repeat (first | refine blk_drewN ?_ _ | refine blk_drew ?_ | refine blk_alloc ?_ _)); refine blk_far ?_ NB373_416.out _; (with_reducible repeat (first | refine blk_drewN ?_ _ | refine blk_drew ?_ | refine blk_alloc ?_ _)); exact BK373.out) hb); have n4_ := Aside0.mk (blk_below (g := gb385) (o := .cells #[.int .i64 t382, .int .i64 t383] 47 (0, 0)) (by (with_reducible repeat (first | refine blk_drewN ?_ _ | refine blk_drew ?_ | refine blk_alloc ?_ _)); refine blk_far ?_ NB385_416.out _; (with_reducible repeat (first | refine blk_drewN ?_ _ | refine blk_drew ?_ | refine blk_alloc ?_ _)); refine blk_far ?_ NB385_416.out _; (with_reducible repeat (first | refine blk_drewN ?_ _ | refine blk_drew ?_ | refine blk_alloc ?_ _)); exact BK385.out) hb); have n5_ := Aside0.mk (blk_below (g := gb416) (o := .cells #[.int .i64 t413, .int .i64 t414] 47 (0, 0)) (by (with_reducible repeat (first | refine blk_drewN ?_ _ | refine blk_drew ?_ | refine blk_alloc ?_ _)); refine blk_put (cs := #[.int .i64 t413, .int .i64 0]) ?_ 1 _ rfl; (with_reducible repeat (first | refine blk_drewN ?_ _ | refine blk_drew ?_ | refine blk_alloc ?_ _)); refine blk_put (cs := #[.int .i64 0, .int .i64 0]) ?_ 0 _ rfl; (with_reducible repeat (first | refine blk_drewN ?_ _ | refine blk_drew ?_ | refine blk_alloc ?_ _)); exact BK416.out) hb); have n6_ := Aside0.mk (below_step (by repeat (first | (with_reducible first | exact HB.out | apply below_alloc | apply pw_below_drewN | apply below_drew1 | refine below_set ?_ GE373.out | refine below_set ?_ GE385.out | refine below_set ?_ GE416.out) | exact HB.out)) hb); clear HO404; clear HO407; clear HO412; clear BK373; clear BK385; clear BK416; clear HB; have HO404 := n0_; have HO407 := n1_; have HO412 := n2_; have BK373 := n3_; have BK385 := n4_; have BK416 := n5_; have HB := n6_; clear n0_ n1_ n2_ n3_ n4_ n5_ n6_; (try clear hb); (try clear hb2); (try clear hk); (try clear hi)))
             go_ret
             exact ⟨by first | rfl | (simp [errW_none, errW_some] <;> rfl) | (simp [*, errW_none, errW_some] <;> rfl), by repeat (first | (with_reducible first | exact HB.out | apply below_alloc | apply pw_below_drewN | apply below_drew1 | refine below_set ?_ GE373.out | refine below_set ?_ GE385.out | refine below_set ?_ GE416.out) | exact HB.out)⟩
           ·
            rw [if_neg c68] at H
            exact absurd H (by simp)
          ·
           replace c63 := Bool.eq_false_iff.mpr c63
           subst c63
           have H1 : ((tensilelaw05_awake.f).bind fun t418 => (some t418)) = some r := by rw [if_neg (show ¬ (false = true) by decide)] at H; exact H
           clear H
           have H := H1
           clear H1
           replace H := Option.bind_eq_some_iff.mp H
           obtain ⟨t418, A870, H⟩ := H
           replace H : (some t418) = some r := H
           have A87 := Aside0.mk A870
           clear A870
           obtain rfl := Option.some.inj H
           go_wp2_with (first | ((with_reducible refine gate_callee (f := 17) rfl ?_); refine goesL_ (some 123) rfl rfl Try.func17 (by kernel_rfl) rfl #[] rfl (by (try simp only [List.map_toArray, List.map_cons, List.map_nil]); first | done | rfl | (simp only [List.length_drop, List.length_take]; rfl)) ?_; (with_reducible refine (tensilelaw05_awake.calls  t418 _ A87.out).mono ?_); rintro e w88 ⟨rfl, hb⟩; refine ⟨_, rfl, ?_⟩; have n0_ := Aside0.mk (blk_below (g := gb373) (o := .cells #[.slice A0_0 l0_0.length c0_0] 24 (0, 0)) (by (with_reducible repeat (first | refine blk_drewN ?_ _ | refine blk_drew ?_ | refine blk_alloc ?_ _)); exact BK373.out) hb); have n1_ := Aside0.mk (blk_below (g := gb385) (o := .cells #[.int .i64 t382, .int .i64 t383] 47 (0, 0)) (by (with_reducible repeat (first | refine blk_drewN ?_ _ | refine blk_drew ?_ | refine blk_alloc ?_ _)); exact BK385.out) hb); have n2_ := Aside0.mk (below_step (by repeat (first | (with_reducible first | exact HB.out | apply below_alloc | apply pw_below_drewN | apply below_drew1 | refine below_set ?_ GE373.out | refine below_set ?_ GE385.out) | exact HB.out)) hb); clear BK373; clear BK385; clear HB; have BK373 := n0_; have BK385 := n1_; have HB := n2_; clear n0_ n1_ n2_; (try clear hb); (try clear hb2); (try clear hk); (try clear hi)))
           go_ret
           exact ⟨by first | rfl | (simp [errW_none, errW_some] <;> rfl) | (simp [*, errW_none, errW_some] <;> rfl), by repeat (first | (with_reducible first | exact HB.out | apply below_alloc | apply pw_below_drewN | apply below_drew1 | refine below_set ?_ GE373.out | refine below_set ?_ GE385.out) | exact HB.out)⟩
   ·
    rw [if_neg c11] at H
    have c11b0 : (t384 == 0) = false := beq_eq_false_iff_ne.mpr c11
    have c11b1 : (t384 != 0) = true := bne_iff_ne.mpr c11
    by_cases c89 : t384 = 9
    ·
     rw [if_pos c89] at H
     have c89b0 : (t384 == 9) = true := beq_iff_eq.mpr c89
     have c89b1 : (t384 != 9) = false := bne_eq_false_iff_eq.mpr c89
     clear c89
     replace H := Option.bind_eq_some_iff.mp H
     obtain ⟨t386, A900, H⟩ := H
     replace H : (some t386) = some r := H
     have A90 := Aside0.mk A900
     clear A900
     obtain rfl := Option.some.inj H
     go_enter Try.func10, Try.ntmps10
     go_wp2_with (first | ((with_reducible refine gate_dst (N := 4) rfl ?_); refine box_event ?hg (N := 4) ?hd (cs := #[.slice A0_0 l0_0.length c0_0]) (t := 24) ?hr ?_; (case hd => rfl); (case hg => rfl); (case hr => first | (go_simp; done) | (go_simp; rfl)); intro gb373 hg w91 hbox hb; have n0_ := Aside0.mk (below_step (by repeat (first | (with_reducible first | exact HB.out | apply below_alloc | apply pw_below_drewN | apply below_drew1) | exact HB.out)) hb); have n1_ := Aside0.mk (hbox); have n2_ := Aside0.mk ((by rw [hg]; exact (below_size (by repeat (first | (with_reducible first | exact HB.out | apply below_alloc | apply pw_below_drewN | apply below_drew1) | exact HB.out))) : w.heap.size ≤ gb373)); have n3_ := Aside0.mk ((by rw [hg]; exact (below_size (by repeat (first | (with_reducible first | exact HB.out | apply below_alloc | apply pw_below_drewN | apply below_drew1) | exact HB.out))) : w.heap.size ≤ gb373)); clear HB; have HB := n0_; have BK373 := n1_; have GW373 := n2_; have GE373 := n3_; clear n0_ n1_ n2_ n3_; clear hb hbox hg; have hcz92_0 : w91.cell? ⟨gb373, 0, none⟩ = some (.slice A0_0 l0_0.length c0_0) := (blk_cell BK373.out 0).trans rfl; have hfz92_0 := blk_frozen BK373.out 0) | ((with_reducible refine gate_callee (f := 16) rfl ?_); refine goesL_ (some 19) rfl rfl Try.func16 (by kernel_rfl) rfl #[.agg #[.slice A0_0 l0_0.length c0_0], .slice A1 l1.length c1, .slice none 0 0] rfl (by (try simp only [List.map_toArray, List.map_cons, List.map_nil]); first | done | rfl | (simp only [List.length_drop, List.length_take]; rfl)) ?_; (refine (tensilelaw05_ready.calls k _ _ l0_0 _ _ l1 _ _ ([] : List (S56)) true _ ?side1 ?side2 ?side3 ?side4 ?side5 ?side6 A5.out).mono ?_); (case side1 => repeat (first | exact (Kd.C_below HR0_0.out HB.out) | (with_reducible refine Kd.C_alloc ?_ _) | (with_reducible refine Kd.C_drewN ?_ _) | (with_reducible refine Kd.C_drew ?_))); (case side2 => exact HC0_0.out); (case side3 => repeat (first | exact (Kd.C_below HR1.out HB.out) | (with_reducible refine Kd.C_alloc ?_ _) | (with_reducible refine Kd.C_drewN ?_ _) | (with_reducible refine Kd.C_drew ?_))); (case side4 => exact HC1.out); (case side5 => exact Kd.C_nil _ _); (case side6 => exact Nat.le_refl _); rintro e w93 ⟨rfl, hb⟩; refine ⟨_, rfl, ?_⟩; have n0_ := Aside0.mk (blk_below (g := gb373) (o := .cells #[.slice A0_0 l0_0.length c0_0] 24 (0, 0)) (by (with_reducible repeat (first | refine blk_drewN ?_ _ | refine blk_drew ?_ | refine blk_alloc ?_ _)); exact BK373.out) hb); have n1_ := Aside0.mk (below_step (by repeat (first | (with_reducible first | exact HB.out | apply below_alloc | apply pw_below_drewN | apply below_drew1 | refine below_set ?_ GE373.out) | exact HB.out)) hb); clear BK373; clear HB; have BK373 := n0_; have HB := n1_; clear n0_ n1_; (try clear hb); (try clear hb2); (try clear hk); (try clear hi); have hcz94_0 : w93.cell? ⟨gb373, 0, none⟩ = some (.slice A0_0 l0_0.length c0_0) := (blk_cell BK373.out 0).trans rfl; have hfz94_0 := blk_frozen BK373.out 0) | ((with_reducible refine gate_callee (f := 21) rfl ?_); refine goesL_ (some 30) rfl rfl Try.func21 (by kernel_rfl) rfl #[.agg #[.slice A0_0 l0_0.length c0_0]] rfl (by (try simp only [List.map_toArray, List.map_cons, List.map_nil]); first | done | rfl | (simp only [List.length_drop, List.length_take]; rfl)) ?_; (with_reducible refine (tensilelaw05_Material.calls k _ _ l0_0 t376 _ ?side1 ?side2 A8.out).mono ?_); (case side1 => repeat (first | exact (Kd.C_below HR0_0.out HB.out) | (with_reducible refine Kd.C_alloc ?_ _) | (with_reducible refine Kd.C_drewN ?_ _) | (with_reducible refine Kd.C_drew ?_))); (case side2 => exact HC0_0.out); rintro e w95 ⟨v377, rfl, ho0, hb⟩; refine ⟨_, rfl, ?_⟩; have n0_ := Aside0.mk (Kd.R_lower ho0 (below_size (by repeat (first | (with_reducible first | exact HB.out | apply below_alloc | apply pw_below_drewN | apply below_drew1 | refine below_set ?_ GE373.out) | exact HB.out)))); have n1_ := Aside0.mk (blk_below (g := gb373) (o := .cells #[.slice A0_0 l0_0.length c0_0] 24 (0, 0)) (by (with_reducible repeat (first | refine blk_drewN ?_ _ | refine blk_drew ?_ | refine blk_alloc ?_ _)); exact BK373.out) hb); have n2_ := Aside0.mk (below_step (by repeat (first | (with_reducible first | exact HB.out | apply below_alloc | apply pw_below_drewN | apply below_drew1 | refine below_set ?_ GE373.out) | exact HB.out)) hb); clear BK373; clear HB; have HO378 := n0_; have BK373 := n1_; have HB := n2_; clear n0_ n1_ n2_; (try clear hb); (try clear hb2); (try clear hk); (try clear hi); (try clear ho0)) | ((with_reducible refine gate_callee (f := 22) rfl ?_); refine goesL_ (some 32) rfl rfl Try.func22 (by kernel_rfl) rfl #[.slice A1 l1.length c1] rfl (by (try simp only [List.map_toArray, List.map_cons, List.map_nil]); first | done | rfl | (simp only [List.length_drop, List.length_take]; rfl)) ?_; (with_reducible refine (tensilelaw05_Runs.calls k _ _ l1 t379 _ ?side1 ?side2 A9.out).mono ?_); (case side1 => repeat (first | exact (Kd.C_below HR1.out HB.out) | (with_reducible refine Kd.C_alloc ?_ _) | (with_reducible refine Kd.C_drewN ?_ _) | (with_reducible refine Kd.C_drew ?_))); (case side2 => exact HC1.out); rintro e w96 ⟨v380, rfl, ho0, hb⟩; refine ⟨_, rfl, ?_⟩; have n0_ := Aside0.mk (Kd.R_below (by (with_reducible repeat (first | apply Kd.R_alloc | apply Kd.R_drewN | apply Kd.R_drew)); exact HO378.out) hb); have n1_ := Aside0.mk (Kd.S_lower ho0 (below_size (by repeat (first | (with_reducible first | exact HB.out | apply below_alloc | apply pw_below_drewN | apply below_drew1 | refine below_set ?_ GE373.out) | exact HB.out)))); have n2_ := Aside0.mk (blk_below (g := gb373) (o := .cells #[.slice A0_0 l0_0.length c0_0] 24 (0, 0)) (by (with_reducible repeat (first | refine blk_drewN ?_ _ | refine blk_drew ?_ | refine blk_alloc ?_ _)); exact BK373.out) hb); have n3_ := Aside0.mk (below_step (by repeat (first | (with_reducible first | exact HB.out | apply below_alloc | apply pw_below_drewN | apply below_drew1 | refine below_set ?_ GE373.out) | exact HB.out)) hb); clear HO378; clear BK373; clear HB; have HO378 := n0_; have HO381 := n1_; have BK373 := n2_; have HB := n3_; clear n0_ n1_ n2_ n3_; (try clear hb); (try clear hb2); (try clear hk); (try clear hi); (try clear ho0); obtain ⟨Ao97, co97, eo97⟩ := Kd.R_slice HO378.out; subst eo97; obtain ⟨Ao98, co98, eo98⟩ := Kd.S_slice HO381.out; subst eo98) | ((with_reducible refine gate_callee (f := 29) rfl ?_); refine goesL_ (some 36) rfl rfl Try.func29 (by kernel_rfl) rfl #[.agg #[.slice Ao97 t376.length co97], .slice Ao98 t379.length co98, .int .i64 (Int.tmod (wrap64 (a2)) (l0_0.length : Int)), .int .i64 (wrap64 (a3))] rfl (by (try simp only [List.map_toArray, List.map_cons, List.map_nil]); first | done | rfl | (simp only [List.length_drop, List.length_take]; rfl)) ?_; (with_reducible refine (creep_Life.calls _ _ t376 _ _ t379 (Int.tmod (wrap64 (a2)) (l0_0.length : Int)) (wrap64 (a3)) t382 t383 t384 _ ?side1 ?side2 ?side3 ?side4 A10.out).mono ?_); (case side1 => repeat (first | exact (Kd.R_reads' HO378.out).2.2 | (with_reducible refine Kd.C_alloc ?_ _) | (with_reducible refine Kd.C_drewN ?_ _) | (with_reducible refine Kd.C_drew ?_))); (case side2 => exact (Kd.R_reads' HO378.out).2.1); (case side3 => repeat (first | exact (Kd.S_reads' HO381.out).2.2 | (with_reducible refine Kd.C_alloc ?_ _) | (with_reducible refine Kd.C_drewN ?_ _) | (with_reducible refine Kd.C_drew ?_))); (case side4 => exact (Kd.S_reads' HO381.out).2.1); rintro e w99 ⟨rfl, hb⟩; refine ⟨_, rfl, ?_⟩; have n0_ := Aside0.mk (Kd.R_below (by (with_reducible repeat (first | apply Kd.R_alloc | apply Kd.R_drewN | apply Kd.R_drew)); exact HO378.out) hb); have n1_ := Aside0.mk (Kd.S_below (by (with_reducible repeat (first | apply Kd.S_alloc | apply Kd.S_drewN | apply Kd.S_drew)); exact HO381.out) hb); have n2_ := Aside0.mk (blk_below (g := gb373) (o := .cells #[.slice A0_0 l0_0.length c0_0] 24 (0, 0)) (by (with_reducible repeat (first | refine blk_drewN ?_ _ | refine blk_drew ?_ | refine blk_alloc ?_ _)); exact BK373.out) hb); have n3_ := Aside0.mk (below_step (by repeat (first | (with_reducible first | exact HB.out | apply below_alloc | apply pw_below_drewN | apply below_drew1 | refine below_set ?_ GE373.out) | exact HB.out)) hb); clear HO378; clear HO381; clear BK373; clear HB; have HO378 := n0_; have HO381 := n1_; have BK373 := n2_; have HB := n3_; clear n0_ n1_ n2_ n3_; (try clear hb); (try clear hb2); (try clear hk); (try clear hi)) | ((with_reducible refine gate_dst (N := 10) rfl ?_); refine box_event ?hg (N := 10) ?hd (cs := #[.int .i64 0, .int .i64 0]) (t := 47) ?hr ?_; (case hd => rfl); (case hg => rfl); (case hr => first | (go_simp; done) | (go_simp; rfl)); intro gb385 hg w100 hbox hb; have n0_ := Aside0.mk (Kd.R_below (Kd.R_elderB (by (with_reducible repeat (first | apply Kd.R_alloc | apply Kd.R_drewN | apply Kd.R_drew)); exact HO378.out) gb385 (Nat.le_of_eq hg.symm)) hb); have n1_ := Aside0.mk (Kd.S_below (by (with_reducible repeat (first | apply Kd.S_alloc | apply Kd.S_drewN | apply Kd.S_drew)); exact HO381.out) hb); have n2_ := Aside0.mk (blk_below (g := gb373) (o := .cells #[.slice A0_0 l0_0.length c0_0] 24 (0, 0)) (by (with_reducible repeat (first | refine blk_drewN ?_ _ | refine blk_drew ?_ | refine blk_alloc ?_ _)); exact BK373.out) hb); have n3_ := Aside0.mk (below_step (by repeat (first | (with_reducible first | exact HB.out | apply below_alloc | apply pw_below_drewN | apply below_drew1 | refine below_set ?_ GE373.out) | exact HB.out)) hb); have n4_ := Aside0.mk (hbox); have n5_ := Aside0.mk ((by rw [hg]; exact (below_size (by repeat (first | (with_reducible first | exact HB.out | apply below_alloc | apply pw_below_drewN | apply below_drew1 | refine below_set ?_ GE373.out) | exact HB.out))) : w.heap.size ≤ gb385)); have n6_ := Aside0.mk ((by rw [hg]; exact (below_size (by repeat (first | (with_reducible first | exact HB.out | apply below_alloc | apply pw_below_drewN | apply below_drew1 | refine below_set ?_ GE373.out) | exact HB.out))) : w.heap.size ≤ gb385)); have n7_ := Aside0.mk ((by rw [hg]; exact Nat.ne_of_lt (blk_lt (g := gb373) (o := .cells #[.slice A0_0 l0_0.length c0_0] 24 (0, 0)) (by (with_reducible repeat (first | refine blk_drewN ?_ _ | refine blk_drew ?_ | refine blk_alloc ?_ _)); exact BK373.out)) : gb373 ≠ gb385)); have n8_ := Aside0.mk ((by rw [hg]; exact Nat.ne_of_gt (blk_lt (g := gb373) (o := .cells #[.slice A0_0 l0_0.length c0_0] 24 (0, 0)) (by (with_reducible repeat (first | refine blk_drewN ?_ _ | refine blk_drew ?_ | refine blk_alloc ?_ _)); exact BK373.out)) : gb385 ≠ gb373)); clear HO378; clear HO381; clear BK373; clear HB; have HO378 := n0_; have HO381 := n1_; have BK373 := n2_; have HB := n3_; have BK385 := n4_; have GW385 := n5_; have GE385 := n6_; have NB373_385 := n7_; have NB385_373 := n8_; clear n0_ n1_ n2_ n3_ n4_ n5_ n6_ n7_ n8_; clear hb hbox hg; have hnb101 := NB385_373.out; have hnc101 := NB373_385.out; have hcz102_0 : w100.cell? ⟨gb385, 0, none⟩ = some (.int .i64 0) := (blk_cell BK385.out 0).trans rfl; have hcz102_1 : w100.cell? ⟨gb385, 1, none⟩ = some (.int .i64 0) := (blk_cell BK385.out 1).trans rfl; have hfz102_0 := blk_frozen BK385.out 0; have hfz102_1 := blk_frozen BK385.out 1) | (go_at_call 17; (with_reducible refine (tensilelaw05_awake.calls  t386 _ A90.out).mono ?_); rintro e w103 ⟨rfl, hb⟩; have n0_ := Aside0.mk (Kd.R_below (by (with_reducible repeat (first | apply Kd.R_alloc | apply Kd.R_drewN | apply Kd.R_drew)); exact (Kd.R_mono (Kd.R_far (p := ⟨gb385, 1, none⟩) (Kd.R_far (p := ⟨gb385, 0, none⟩) (Kd.R_mono HO378.out (fun k_ hk => (⟨hk, hk.2⟩ : _ ∧ k_ ≠ gb385))) (fun _ hk => hk.2) (.int .i64 t382)) (fun _ hk => hk.2) (.int .i64 t383)) (fun _ h_ => h_.1))) hb); have n1_ := Aside0.mk (Kd.S_below (by (with_reducible repeat (first | apply Kd.S_alloc | apply Kd.S_drewN | apply Kd.S_drew)); exact (Kd.S_mono (Kd.S_far (p := ⟨gb385, 1, none⟩) (Kd.S_far (p := ⟨gb385, 0, none⟩) (Kd.S_types HO381.out BK385.out (by decide)) (fun _ hk => hk.2) (.int .i64 t382)) (fun _ hk => hk.2) (.int .i64 t383)) (fun _ h_ => h_.1))) hb); have n2_ := Aside0.mk (blk_below (g := gb373) (o := .cells #[.slice A0_0 l0_0.length c0_0] 24 (0, 0)) (by (with_reducible repeat (first | refine blk_drewN ?_ _ | refine blk_drew ?_ | refine blk_alloc ?_ _)); refine blk_far ?_ NB373_385.out _; (with_reducible repeat (first | refine blk_drewN ?_ _ | refine blk_drew ?_ | refine blk_alloc ?_ _)); refine blk_far ?_ NB373_385.out _; (with_reducible repeat (first | refine blk_drewN ?_ _ | refine blk_drew ?_ | refine blk_alloc ?_ _)); exact BK373.out) hb); have n3_ := Aside0.mk (blk_below (g := gb385) (o := .cells #[.int .i64 t382, .int .i64 t383] 47 (0, 0)) (by (with_reducible repeat (first | refine blk_drewN ?_ _ | refine blk_drew ?_ | refine blk_alloc ?_ _)); refine blk_put (cs := #[.int .i64 t382, .int .i64 0]) ?_ 1 _ rfl; (with_reducible repeat (first | refine blk_drewN ?_ _ | refine blk_drew ?_ | refine blk_alloc ?_ _)); refine blk_put (cs := #[.int .i64 0, .int .i64 0]) ?_ 0 _ rfl; (with_reducible repeat (first | refine blk_drewN ?_ _ | refine blk_drew ?_ | refine blk_alloc ?_ _)); exact BK385.out) hb); have n4_ := Aside0.mk (below_step (by repeat (first | (with_reducible first | exact HB.out | apply below_alloc | apply pw_below_drewN | apply below_drew1 | refine below_set ?_ GE373.out | refine below_set ?_ GE385.out) | exact HB.out)) hb); clear HO378; clear HO381; clear BK373; clear BK385; clear HB; have HO378 := n0_; have HO381 := n1_; have BK373 := n2_; have BK385 := n3_; have HB := n4_; clear n0_ n1_ n2_ n3_ n4_; (try clear hb); (try clear hb2); (try clear hk); (try clear hi)))
     go_ret
     exact ⟨by first | rfl | (simp [errW_none, errW_some] <;> rfl) | (simp [*, errW_none, errW_some] <;> rfl), by repeat (first | (with_reducible first | exact HB.out | apply below_alloc | apply pw_below_drewN | apply below_drew1 | refine below_set ?_ GE373.out | refine below_set ?_ GE385.out) | exact HB.out)⟩
    ·
     rw [if_neg c89] at H
     exact absurd H (by simp)
 ·
  replace c6 := Bool.eq_false_iff.mpr c6
  subst c6
  have H1 : ((tensilelaw05_awake.f).bind fun t375 => (some t375)) = some r := by rw [if_neg (show ¬ (false = true) by decide)] at H; exact H
  clear H
  have H := H1
  clear H1
  replace H := Option.bind_eq_some_iff.mp H
  obtain ⟨t375, A1040, H⟩ := H
  replace H : (some t375) = some r := H
  have A104 := Aside0.mk A1040
  clear A1040
  obtain rfl := Option.some.inj H
  go_enter Try.func10, Try.ntmps10
  go_wp2_with (first | ((with_reducible refine gate_dst (N := 4) rfl ?_); refine box_event ?hg (N := 4) ?hd (cs := #[.slice A0_0 l0_0.length c0_0]) (t := 24) ?hr ?_; (case hd => rfl); (case hg => rfl); (case hr => first | (go_simp; done) | (go_simp; rfl)); intro gb373 hg w105 hbox hb; have n0_ := Aside0.mk (below_step (by repeat (first | (with_reducible first | exact HB.out | apply below_alloc | apply pw_below_drewN | apply below_drew1) | exact HB.out)) hb); have n1_ := Aside0.mk (hbox); have n2_ := Aside0.mk ((by rw [hg]; exact (below_size (by repeat (first | (with_reducible first | exact HB.out | apply below_alloc | apply pw_below_drewN | apply below_drew1) | exact HB.out))) : w.heap.size ≤ gb373)); have n3_ := Aside0.mk ((by rw [hg]; exact (below_size (by repeat (first | (with_reducible first | exact HB.out | apply below_alloc | apply pw_below_drewN | apply below_drew1) | exact HB.out))) : w.heap.size ≤ gb373)); clear HB; have HB := n0_; have BK373 := n1_; have GW373 := n2_; have GE373 := n3_; clear n0_ n1_ n2_ n3_; clear hb hbox hg; have hcz106_0 : w105.cell? ⟨gb373, 0, none⟩ = some (.slice A0_0 l0_0.length c0_0) := (blk_cell BK373.out 0).trans rfl; have hfz106_0 := blk_frozen BK373.out 0) | ((with_reducible refine gate_callee (f := 16) rfl ?_); refine goesL_ (some 19) rfl rfl Try.func16 (by kernel_rfl) rfl #[.agg #[.slice A0_0 l0_0.length c0_0], .slice A1 l1.length c1, .slice none 0 0] rfl (by (try simp only [List.map_toArray, List.map_cons, List.map_nil]); first | done | rfl | (simp only [List.length_drop, List.length_take]; rfl)) ?_; (refine (tensilelaw05_ready.calls k _ _ l0_0 _ _ l1 _ _ ([] : List (S56)) false _ ?side1 ?side2 ?side3 ?side4 ?side5 ?side6 A5.out).mono ?_); (case side1 => repeat (first | exact (Kd.C_below HR0_0.out HB.out) | (with_reducible refine Kd.C_alloc ?_ _) | (with_reducible refine Kd.C_drewN ?_ _) | (with_reducible refine Kd.C_drew ?_))); (case side2 => exact HC0_0.out); (case side3 => repeat (first | exact (Kd.C_below HR1.out HB.out) | (with_reducible refine Kd.C_alloc ?_ _) | (with_reducible refine Kd.C_drewN ?_ _) | (with_reducible refine Kd.C_drew ?_))); (case side4 => exact HC1.out); (case side5 => exact Kd.C_nil _ _); (case side6 => exact Nat.le_refl _); rintro e w107 ⟨rfl, hb⟩; refine ⟨_, rfl, ?_⟩; have n0_ := Aside0.mk (blk_below (g := gb373) (o := .cells #[.slice A0_0 l0_0.length c0_0] 24 (0, 0)) (by (with_reducible repeat (first | refine blk_drewN ?_ _ | refine blk_drew ?_ | refine blk_alloc ?_ _)); exact BK373.out) hb); have n1_ := Aside0.mk (below_step (by repeat (first | (with_reducible first | exact HB.out | apply below_alloc | apply pw_below_drewN | apply below_drew1 | refine below_set ?_ GE373.out) | exact HB.out)) hb); clear BK373; clear HB; have BK373 := n0_; have HB := n1_; clear n0_ n1_; (try clear hb); (try clear hb2); (try clear hk); (try clear hi)) | ((with_reducible refine gate_callee (f := 17) rfl ?_); refine goesL_ (some 21) rfl rfl Try.func17 (by kernel_rfl) rfl #[] rfl (by (try simp only [List.map_toArray, List.map_cons, List.map_nil]); first | done | rfl | (simp only [List.length_drop, List.length_take]; rfl)) ?_; (with_reducible refine (tensilelaw05_awake.calls  t375 _ A104.out).mono ?_); rintro e w108 ⟨rfl, hb⟩; refine ⟨_, rfl, ?_⟩; have n0_ := Aside0.mk (blk_below (g := gb373) (o := .cells #[.slice A0_0 l0_0.length c0_0] 24 (0, 0)) (by (with_reducible repeat (first | refine blk_drewN ?_ _ | refine blk_drew ?_ | refine blk_alloc ?_ _)); exact BK373.out) hb); have n1_ := Aside0.mk (below_step (by repeat (first | (with_reducible first | exact HB.out | apply below_alloc | apply pw_below_drewN | apply below_drew1 | refine below_set ?_ GE373.out) | exact HB.out)) hb); clear BK373; clear HB; have BK373 := n0_; have HB := n1_; clear n0_ n1_; (try clear hb); (try clear hb2); (try clear hk); (try clear hi)))
  go_ret
  exact ⟨by first | rfl | (simp [errW_none, errW_some] <;> rfl) | (simp [*, errW_none, errW_some] <;> rfl), by repeat (first | (with_reducible first | exact HB.out | apply below_alloc | apply pw_below_drewN | apply below_drew1 | refine below_set ?_ GE373.out) | exact HB.out)⟩

end Go.Proofs.Ytdagijgoegkphaa.P

namespace Go.Proofs.Ytdagijgoegkphaa.Pure
open Go.RowKit Go.Proofs.YtdagijgoegkphaaW.PrintWords Go.Proofs.YtdagijgoegkphaaW.PrintLast Go.Proofs.YtdagijgoegkphaaW.PrintMore Go.Proofs.Ytdagijgoegkphaa.P
open Hand (Rg Sg Rn Nm Rt)

theorem nm_at (l : List Int) (b : Nat) : ((toNm l).getD b ⟨0⟩).n = l.getD b 0 := by
  unfold toNm
  simp only [List.getD_eq_getElem?_getD, List.getElem?_map]
  cases l[b]? <;> rfl
theorem rg_at (m : List S54) (b : Nat) : (m.map cRg).getD b ⟨0, 0⟩ = cRg (rd_T54 m (b : Int)) := by
  unfold rd_T54
  simp only [List.getD_eq_getElem?_getD, List.getElem?_map, Int.toNat_natCast]
  cases m[b]? <;> rfl
theorem rd_nat (l : List Int) (b : Nat) : rd l (b : Int) = l.getD b 0 := rfl

theorem rd_get (l : List Int) (hl : l.length ≤ 3) (b : Int) (h0 : 0 ≤ b) (h1 : b < l.length) : rd l b = (Hand.rtOf (toNm l)).get b.toNat := by
  obtain ⟨n, rfl⟩ := Int.eq_ofNat_of_zero_le h0
  rw [rd_nat, Int.toNat_natCast]
  unfold Hand.rtOf
  rw [nm_at, nm_at, nm_at]
  match n, (show n < 3 by omega) with
  | 0, _ => rfl
  | 1, _ => rfl
  | 2, _ => rfl

theorem atV_cons (f : Sg → Int) (r : Rt) (s : Sg) (l : List Sg) : Hand.atV f r (s :: l) = r.get s.band.toNat * f s + Hand.atV f r l := rfl
theorem atV_bound (f : Sg → Int) (r : Rt) (hr : r.ok) (hf : ∀ s : Sg, s.ok → 0 ≤ f s ∧ f s ≤ 1000000) : ∀ (l : List Sg), (∀ s ∈ l, s.ok) → 0 ≤ Hand.atV f r l ∧ Hand.atV f r l ≤ 1000000000 * l.length
  | [], _ => by simp [Hand.atV, Hand.sumL]
  | s :: l, h => by
    have h1 := h s (by simp)
    have h2 := atV_bound f r hr hf l (fun x hx => h x (by simp [hx]))
    have h3 := hf s h1
    have h4 := hr s.band.toNat (by have := h1.2.1; have := h1.1; omega)
    have h5 := Hand.mul_bound h4.1 h4.2 h3.1 h3.2
    rw [atV_cons, List.length_cons]
    omega

theorem stretch_l0 (l : List Int) (hl : l.length ≤ 3) (hr : (Hand.rtOf (toNm l)).ok) : ∀ (suf pre : List S56) (k : Nat) (a b : Int), suf.length + 1 ≤ k → (pre ++ suf).length ≤ 12 → (∀ s ∈ suf, Hand.segB l.length (cSg s) = true) →
    0 ≤ a → a ≤ 1000000000 * pre.length → 0 ≤ b → b ≤ 1000000000 * pre.length →
    tensileref05_Stretch.l0 k (pre ++ suf) l (pre.length : Int) a b = some (a + Hand.stLo (Hand.rtOf (toNm l)) (suf.map cSg), b + Hand.stHi (Hand.rtOf (toNm l)) (suf.map cSg)) := by
  intro suf
  induction suf with
  | nil =>
    intro pre k a b hk _ _ _ _ _ _
    obtain ⟨k, rfl⟩ : ∃ m, k = m + 1 := ⟨k - 1, by omega⟩
    rw [tensileref05_Stretch.l0, if_neg (len_nlt pre)]
    simp [Hand.stLo, Hand.stHi, Hand.atV, Hand.sumL]
  | cons s suf ih =>
    intro pre k a b hk hlen hseg ha0 ha1 hb0 hb1
    obtain ⟨k, rfl⟩ : ∃ m, k = m + 1 := ⟨k - 1, by omega⟩
    have hl2 : pre.length + suf.length + 1 ≤ 12 := by simpa [Nat.add_assoc] using hlen
    have hs := hseg s (by simp)
    have hok : (cSg s).ok := Hand.segB_ok hl hs
    have hband : 0 ≤ s.f0 ∧ s.f0 < l.length := by
      unfold Hand.segB at hs
      simp only [Bool.and_eq_true, decide_eq_true_eq] at hs
      have := hs.1
      unfold cSg at this
      dsimp only at this
      omega
    have h4 := hr s.f0.toNat (by omega)
    obtain ⟨_, _, o1, o2, o3, o4⟩ := hok
    have o1' : 0 ≤ s.f1.f0 := o1
    have o2' : s.f1.f0 ≤ 1000000 := o2
    have o3' : 0 ≤ s.f1.f1 := o3
    have o4' : s.f1.f1 ≤ 1000000 := o4
    have m1 := Hand.mul_bound h4.1 h4.2 o1' o2'
    have m2 := Hand.mul_bound h4.1 h4.2 o3' o4'
    rw [tensileref05_Stretch.l0, if_pos (len_lt pre s suf), if_pos (by omega), rd56, if_pos hband.1, if_pos hband.2, rd_get l hl s.f0 hband.1 hband.2]
    obtain ⟨x, hx⟩ : ∃ x, x = (Hand.rtOf (toNm l)).get s.f0.toNat * s.f1.f0 := ⟨_, rfl⟩
    obtain ⟨y, hy⟩ : ∃ y, y = (Hand.rtOf (toNm l)).get s.f0.toNat * s.f1.f1 := ⟨_, rfl⟩
    rw [← hx, ← hy]
    rw [← hx] at m1
    rw [← hy] at m2
    rw [w_succ _ (by omega), w_id (n := x) (by omega) (by omega), w_id (n := y) (by omega) (by omega), w_id (n := a + x) (by omega) (by omega), w_id (n := b + y) (by omega) (by omega)]
    have := ih (pre ++ [s]) k (a + x) (b + y) (by simp at hk; omega) (by simpa using hlen) (fun z hz => hseg z (by simp [hz])) (by omega) (by simp; omega) (by omega) (by simp; omega)
    rw [snoc_len, List.append_assoc] at this
    rw [show pre ++ s :: suf = pre ++ ([s] ++ suf) from rfl, this]
    unfold Hand.stLo Hand.stHi
    rw [List.map_cons, atV_cons, atV_cons]
    show some (a + x + _, b + y + _) = some (a + ((Hand.rtOf (toNm l)).get s.f0.toNat * s.f1.f0 + _), b + ((Hand.rtOf (toNm l)).get s.f0.toNat * s.f1.f1 + _))
    rw [← hx, ← hy, Int.add_assoc, Int.add_assoc]
theorem stretch_f (l : List Int) (hl : l.length ≤ 3) (hr : (Hand.rtOf (toNm l)).ok) (p : List S56) (hp : p.length ≤ 12) (hseg : ∀ s ∈ p, Hand.segB l.length (cSg s) = true) (k : Nat) (hk : p.length + 1 ≤ k) :
    tensileref05_Stretch.f k p l = some (Hand.stLo (Hand.rtOf (toNm l)) (p.map cSg), Hand.stHi (Hand.rtOf (toNm l)) (p.map cSg)) := by
  have := stretch_l0 l hl hr p [] k 0 0 hk hp hseg (by omega) (by simp) (by omega) (by simp)
  rw [Int.zero_add, Int.zero_add] at this
  exact this

theorem allows_l0 (l : List Int) (hl : l.length ≤ 3) (hr : (Hand.rtOf (toNm l)).ok) : ∀ (suf pre : List S81) (k : Nat), suf.length + 15 ≤ k → (pre ++ suf).length ≤ 9 → (∀ x ∈ suf, x.f0.length ≤ 12 ∧ ∀ s ∈ x.f0, Hand.segB l.length (cSg s) = true) →
    tensileref05_Allows.l0 k (pre ++ suf) l (pre.length : Int) = some (Hand.allowedB (suf.map cRn) (Hand.rtOf (toNm l))) := by
  intro suf
  induction suf with
  | nil =>
    intro pre k hk _ _
    obtain ⟨k, rfl⟩ : ∃ m, k = m + 1 := ⟨k - 1, by omega⟩
    rw [tensileref05_Allows.l0, if_neg (len_nlt pre)]
    rfl
  | cons s suf ih =>
    intro pre k hk hlen hx
    obtain ⟨k, rfl⟩ : ∃ m, k = m + 1 := ⟨k - 1, by omega⟩
    have hl2 : pre.length + suf.length + 1 ≤ 9 := by simpa [Nat.add_assoc] using hlen
    obtain ⟨h1, h2⟩ := hx s (by simp)
    rw [tensileref05_Allows.l0, if_pos (len_lt pre s suf), if_pos (by omega), rd81, stretch_f l hl hr s.f0 h1 h2 k (by simp at hk; omega), Option.bind_some]
    have hal : Hand.allowedB ((s :: suf).map cRn) (Hand.rtOf (toNm l)) = (Hand.allowsB (Hand.rtOf (toNm l)) (s.f0.map cSg) s.f1.f0 s.f1.f1 && Hand.allowedB (suf.map cRn) (Hand.rtOf (toNm l))) := rfl
    rw [hal]
    unfold Hand.allowsB
    dsimp only
    by_cases c1 : Hand.stLo (Hand.rtOf (toNm l)) (s.f0.map cSg) > s.f1.f1
    · rw [if_pos c1, decide_eq_false (by omega)]; simp
    rw [if_neg c1, decide_eq_true (show Hand.stLo (Hand.rtOf (toNm l)) (s.f0.map cSg) ≤ s.f1.f1 by omega)]
    by_cases c2 : Hand.stHi (Hand.rtOf (toNm l)) (s.f0.map cSg) < s.f1.f0
    · rw [if_pos c2, decide_eq_false (by omega)]; simp
    rw [if_neg c2, decide_eq_true (show s.f1.f0 ≤ Hand.stHi (Hand.rtOf (toNm l)) (s.f0.map cSg) by omega), w_succ _ (by omega)]
    have := ih (pre ++ [s]) k (by simp at hk; omega) (by simpa using hlen) (fun x h => hx x (by simp [h]))
    rw [snoc_len, List.append_assoc] at this
    rw [show pre ++ s :: suf = pre ++ ([s] ++ suf) from rfl, this]
    rfl

/-- What is right where the error is none. -/
theorem runs_right {m : List S54} {r : List S81} (h : Hand.enterErr (m.map cRg) (r.map cRn) = 0) : ∀ x ∈ r, x.f0.length ≤ 8 ∧ ∀ s ∈ x.f0, Hand.segB m.length (cSg s) = true := by
  obtain ⟨_, _, _, _, h5, h6⟩ := Hand.enter_ok h
  intro x hx
  have h7 := List.all_eq_true.1 h5 (cRn x) (List.mem_map.2 ⟨x, hx, rfl⟩)
  have h8 := List.all_eq_true.1 h6 (cRn x) (List.mem_map.2 ⟨x, hx, rfl⟩)
  unfold Hand.fewB cRn at h7
  unfold Hand.runOk Hand.runB cRn at h8
  simp only [Bool.and_eq_true, decide_eq_true_eq, List.length_map] at h7 h8
  exact ⟨h7, fun s hs => List.all_eq_true.1 h8.2 (cSg s) (List.mem_map.2 ⟨s, hs, rfl⟩)⟩

theorem allows_f {m : List S54} {r : List S81} {l : List Int} (h : Hand.enterErr (m.map cRg) (r.map cRn) = 0) (hl : l.length = m.length) (hr : (Hand.rtOf (toNm l)).ok) (k : Nat) (hk : 30 ≤ k) :
    tensileref05_Allows.f k r l = some (Hand.allowedB (r.map cRn) (Hand.rtOf (toNm l))) := by
  have h1 := (Hand.enter_ok h).1
  have h4 := (Hand.enter_ok h).2.2.2.1
  rw [List.length_map] at h1 h4
  have h2 := runs_right h
  exact allows_l0 l (by omega) hr r [] k (by omega) (by simpa using (by omega : r.length ≤ 9)) (fun x hx => ⟨by have := (h2 x hx).1; omega, by rw [hl]; exact (h2 x hx).2⟩)
end Go.Proofs.Ytdagijgoegkphaa.Pure

namespace Go.Proofs.Ytdagijgoegkphaa.Pure
open Go.RowKit Go.Proofs.YtdagijgoegkphaaW.PrintWords Go.Proofs.YtdagijgoegkphaaW.PrintLast Go.Proofs.YtdagijgoegkphaaW.PrintMore Go.Proofs.Ytdagijgoegkphaa.P
open Hand (Rg Sg Rn Nm Rt)

/-! ### All rates -/
/-- The rates of the first bands. -/
def take (r : Rt) (n : Nat) : List Int := r.list n
theorem take_len (r : Rt) (n : Nat) (h : n ≤ 3) : (r.list n).length = n := by unfold Rt.list; simp; omega
theorem take_succ (r : Rt) (n : Nat) (x : Int) (h : n < 3) : r.list n ++ [x] = (r.set n x).list (n + 1) := by
  unfold Rt.list
  match n, h with
  | 0, _ => rfl
  | 1, _ => rfl
  | 2, _ => rfl
theorem take_rd (r : Rt) (n : Nat) (b : Nat) (h : b < n) (hn : n ≤ 3) : rd (r.list n) (b : Int) = r.get b := by
  rw [rd_nat]
  unfold Rt.list
  match n, b, hn, h with
  | 1, 0, _, _ => rfl
  | 2, 0, _, _ => rfl
  | 2, 1, _, _ => rfl
  | 3, 0, _, _ => rfl
  | 3, 1, _, _ => rfl
  | 3, 2, _, _ => rfl
theorem take_rt (r : Rt) (n : Nat) (hn : n ≤ 3) : ∀ k, k < n → (Hand.rtOf (toNm (r.list n))).get k = r.get k := by
  intro k hk
  have h1 := rd_get (r.list n) (by rw [take_len r n hn]; exact hn) (k : Int) (by omega) (by rw [take_len r n hn]; omega)
  rw [Int.toNat_natCast] at h1
  rw [← h1, take_rd r n k hk hn]

theorem flat_cons {α β : Type} (f : α → List β) (x : α) (l : List α) : (x :: l).flatMap f = f x ++ l.flatMap f := List.flatMap_cons

/-- Valid ranges. -/
def Val (m : List S54) : Prop := m.length ≤ 3 ∧ ∀ s ∈ m, 0 ≤ s.f0 ∧ s.f0 ≤ s.f1 ∧ s.f1 ≤ 1000 ∧ s.f1 - s.f0 ≤ 20

theorem flat_len {α β : Type} (f : α → List β) (c : Nat) : ∀ (l : List α), (∀ x ∈ l, (f x).length ≤ c) → (l.flatMap f).length ≤ l.length * c
  | [], _ => by simp
  | x :: l, h => by
    have h1 := h x (by simp)
    have h2 := flat_len f c l (fun y hy => h y (by simp [hy]))
    rw [List.flatMap_cons, List.length_append, List.length_cons, Nat.add_mul, Nat.one_mul]
    omega

/-- From some rates on: the numbers of rounds. -/
def need : Nat → Nat
  | 0 => 1
  | d + 1 => need d + 25

theorem hiAt_eq (m : List S54) (band : Nat) (h : band < m.length) : Hand.hiAt (m.map cRg) band = (rd_T54 m (band : Int)).f1 := by
  unfold Hand.hiAt rd_T54
  rw [List.getElem?_map, Int.toNat_natCast, List.getD_eq_getElem?_getD, List.getElem?_eq_getElem h]
  rfl
theorem lowAt_eq (m : List S54) (r : Rt) (band : Nat) (h : band < m.length) : Hand.lowAt (m.map cRg) r band = if 0 < band then mx (rd_T54 m (band : Int)).f0 (r.get (band - 1)) else (rd_T54 m (band : Int)).f0 := by
  unfold Hand.lowAt rd_T54
  rw [List.getElem?_map, Int.toNat_natCast, List.getD_eq_getElem?_getD, List.getElem?_eq_getElem h]
  rfl
theorem rd_mem (m : List S54) (band : Nat) (h : band < m.length) : rd_T54 m (band : Int) ∈ m := by
  unfold rd_T54
  rw [Int.toNat_natCast, List.getD_eq_getElem?_getD, List.getElem?_eq_getElem h]
  exact List.getElem_mem h

theorem lsFrom_len (m : List S54) (hv : Val m) : ∀ (d band : Nat) (r : Rt), band + d = m.length → (Hand.lsFrom (m.map cRg) d band r).length ≤ 21 ^ d
  | 0, _, _, _ => by simp [Hand.lsFrom]
  | d + 1, band, r, hb => by
    have hlt : band < m.length := by omega
    have hs := hv.2 _ (rd_mem m band hlt)
    unfold Hand.lsFrom
    rw [hiAt_eq m band hlt, lowAt_eq m r band hlt]
    refine Nat.le_trans (flat_len _ (21 ^ d) _ fun n _ => lsFrom_len m hv d (band + 1) _ (by omega)) ?_
    rw [Hand.upFrom_length, Nat.pow_succ, Nat.mul_comm]
    refine Nat.mul_le_mul_left _ ?_
    have : (rd_T54 m (band : Int)).f0 ≤ (if 0 < band then mx (rd_T54 m (band : Int)).f0 (r.get (band - 1)) else (rd_T54 m (band : Int)).f0) := by
      split
      · unfold mx; split <;> omega
      · exact Int.le_refl _
    omega

theorem get_set_lt (r : Rt) (n : Int) : ∀ (band j : Nat), band < 3 → j < band → (r.set band n).get j = r.get j
  | 0, _, _, h => absurd h (by omega)
  | 1, 0, _, _ => rfl
  | 2, 0, _, _ => rfl
  | 2, 1, _, _ => rfl
  | 1, _ + 1, _, h => absurd h (by omega)
  | 2, _ + 2, _, h => absurd h (by omega)
  | _ + 3, _, h, _ => absurd h (by omega)
theorem val_of {m : List S54} {rs : List Rn} (h : Hand.enterErr (m.map cRg) rs = 0) : Val m := by
  have h1 := (Hand.enter_ok h).1
  rw [List.length_map] at h1
  refine ⟨h1.2, fun s hs => ?_⟩
  have h2 : Hand.matErr (m.map cRg) = 0 := by
    unfold Hand.enterErr at h
    split at h
    · assumption
    · exact h
  unfold Hand.matErr at h2
  split at h2
  · rename_i h3
    have h4 := rateB_low (List.all_eq_true.1 h3.2 (cRg s) (List.mem_map.2 ⟨s, hs, rfl⟩))
    exact h4
  · cases h2
end Go.Proofs.Ytdagijgoegkphaa.Pure

namespace Go.Proofs.Ytdagijgoegkphaa.Pure
open Go.RowKit Go.Proofs.YtdagijgoegkphaaW.PrintWords Go.Proofs.YtdagijgoegkphaaW.PrintLast Go.Proofs.YtdagijgoegkphaaW.PrintMore Go.Proofs.Ytdagijgoegkphaa.P
open Hand (Rg Sg Rn Nm Rt)

theorem get_set_gt (r : Rt) (n : Int) : ∀ (band j : Nat), j < 3 → band < j → (r.set band n).get j = r.get j
  | 0, 1, _, _ => rfl
  | 0, 2, _, _ => rfl
  | 1, 2, _, _ => rfl
  | _, 0, _, h => absurd h (by omega)
  | _ + 1, 1, _, h => absurd h (by omega)
  | _ + 2, 2, _, h => absurd h (by omega)
  | _, _ + 3, h, _ => absurd h (by omega)
theorem lsFrom_rest (ms : List Rg) : ∀ (d band : Nat) (r q : Rt), q ∈ Hand.lsFrom ms d band r → ∀ j, j < 3 → band + d ≤ j → q.get j = r.get j
  | 0, _, r, q, h, j, _, _ => by rw [List.mem_singleton.1 h]
  | d + 1, band, r, q, h, j, h3, hj => by
    obtain ⟨n, _, hq⟩ := List.mem_flatMap.1 h
    rw [lsFrom_rest ms d (band + 1) (r.set band n) q hq j h3 (by omega), get_set_gt r n band j h3 (by omega)]
theorem rt_ext {p q : Rt} (h : ∀ j, j < 3 → p.get j = q.get j) : p = q := by
  obtain ⟨a, b, c⟩ := p
  obtain ⟨x, y, z⟩ := q
  have h0 : a = x := h 0 (by omega)
  have h1 : b = y := h 1 (by omega)
  have h2 : c = z := h 2 (by omega)
  rw [h0, h1, h2]
theorem rt_of_list (ms : List Rg) (hms : ms.length ≤ 3) (q : Rt) (h : q ∈ Hand.lists ms) : Hand.rtOf (toNm (q.list ms.length)) = q := by
  refine rt_ext fun j hj => ?_
  by_cases hjn : j < ms.length
  · exact take_rt q ms.length hms j hjn
  · have h0 : q.get j = 0 := by
      rw [lsFrom_rest ms ms.length 0 ⟨0, 0, 0⟩ q h j hj (by omega)]
      match j, hj with
      | 0, _ => rfl
      | 1, _ => rfl
      | 2, _ => rfl
    rw [h0]
    have hr : ∀ b : Nat, ms.length ≤ b → ((toNm (q.list ms.length)).getD b ⟨0⟩).n = 0 := fun b hb => by
      rw [nm_at, List.getD_eq_getElem?_getD, List.getElem?_eq_none (by rw [take_len q _ hms]; exact hb)]
      rfl
    match j, hj with
    | 0, _ => exact hr 0 (by omega)
    | 1, _ => exact hr 1 (by omega)
    | 2, _ => exact hr 2 (by omega)

theorem lists_rtok {m : List S54} (hv : Val m) (q : Rt) (h : q ∈ Hand.lists (m.map cRg)) : q.ok :=
  Hand.lists_ok (fun x hx => by
    obtain ⟨s, hs, rfl⟩ := List.mem_map.1 hx
    have := hv.2 s hs
    exact ⟨this.1, this.2.2.1⟩) q h

theorem lists_len {m : List S54} (hv : Val m) : (Hand.lists (m.map cRg)).length ≤ 9261 := by
  have := lsFrom_len m hv m.length 0 ⟨0, 0, 0⟩ (by omega)
  have h3 : (21 : Nat) ^ m.length ≤ 21 ^ 3 := Nat.pow_le_pow_right (by omega) hv.1
  unfold Hand.lists
  rw [List.length_map]
  omega
end Go.Proofs.Ytdagijgoegkphaa.Pure

namespace Go.Proofs.Ytdagijgoegkphaa.Pure
open Go.RowKit Go.Proofs.YtdagijgoegkphaaW.PrintWords Go.Proofs.YtdagijgoegkphaaW.PrintLast Go.Proofs.YtdagijgoegkphaaW.PrintMore Go.Proofs.Ytdagijgoegkphaa.P
open Hand (Rg Sg Rn Nm Rt)

theorem ready_f (m : List S54) (r : List S81) (p : List S56) (hf : ∀ s ∈ m, Fits54 s) (k : Nat) (hk : 200 ≤ k) :
    ∃ b, tensilelaw05_ready.f k m r p = some b ∧ (b = true → Small m r p ∧ Hand.enterErr (m.map cRg) (r.map cRn) = 0 ∧ (p.map cSg).all (Hand.segB m.length) = true ∧ p.length ≤ 8) := by
  unfold tensilelaw05_ready.f
  obtain ⟨b, hb, hb2⟩ := thin_f m r p k (by omega)
  rw [hb, Option.bind_some]
  cases b with
  | false => rw [if_neg (by decide)]; exact ⟨false, rfl, fun h => by cases h⟩
  | true =>
    have hs := hb2 rfl
    rw [if_pos rfl, fault_f m r p hs hf k (by omega), Option.bind_some]
    by_cases he : Hand.enterErr (m.map cRg) (r.map cRn) = 0
    case neg => rw [if_neg he]; exact ⟨false, rfl, fun h => by cases h⟩
    have hp := hs.2.2.1
    rw [if_pos he, isPlan_f m hs.1 p (by omega) k (by omega), Option.bind_some]
    refine ⟨_, rfl, fun h => ?_⟩
    simp only [Bool.and_eq_true, decide_eq_true_eq] at h
    exact ⟨hs, he, h.1, h.2⟩

/-! ### What the rates of a material are -/
theorem lsFrom_keep (ms : List Rg) : ∀ (d band : Nat) (r q : Rt), band + d ≤ 3 → q ∈ Hand.lsFrom ms d band r → ∀ j, j < band → q.get j = r.get j
  | 0, _, r, q, _, h, j, _ => by rw [List.mem_singleton.1 h]
  | d + 1, band, r, q, hb, h, j, hj => by
    obtain ⟨n, _, hq⟩ := List.mem_flatMap.1 h
    rw [lsFrom_keep ms d (band + 1) (r.set band n) q (by omega) hq j (by omega), get_set_lt r n band j (by omega) (by omega)]
theorem lsFrom_in (ms : List Rg) : ∀ (d band : Nat) (r q : Rt), band + d ≤ 3 → band + d = ms.length → q ∈ Hand.lsFrom ms d band r → ∀ b, band ≤ b → b < ms.length →
    (ms.getD b ⟨0, 0⟩).lo ≤ q.get b ∧ q.get b ≤ (ms.getD b ⟨0, 0⟩).hi ∧ (0 < b → q.get (b - 1) ≤ q.get b)
  | 0, band, r, q, _, hl, h, b, h1, h2 => by omega
  | d + 1, band, r, q, h3, hl, h, b, h1, h2 => by
    obtain ⟨n, hn, hq⟩ := List.mem_flatMap.1 h
    by_cases e : b = band
    · have hqb : q.get b = n := by rw [lsFrom_keep ms d (band + 1) (r.set band n) q (by omega) hq b (by omega), e, get_set r band (by omega)]
      have hn2 := Hand.mem_upFrom _ _ _ hn
      have hg : ms.getD b ⟨0, 0⟩ = ms[b] := by rw [List.getD_eq_getElem?_getD, List.getElem?_eq_getElem h2]; rfl
      have hlow : (ms[b]).lo ≤ Hand.lowAt ms r band ∧ (0 < band → r.get (band - 1) ≤ Hand.lowAt ms r band) := by
        unfold Hand.lowAt
        rw [← e, List.getElem?_eq_getElem h2]
        dsimp only
        by_cases h0 : 0 < b
        · rw [if_pos h0, hmx]; exact ⟨by unfold mx; split <;> omega, fun _ => by unfold mx; split <;> omega⟩
        · rw [if_neg h0]; exact ⟨Int.le_refl _, fun h => absurd h h0⟩
      have hhi : Hand.hiAt ms band = (ms[b]).hi := by
        unfold Hand.hiAt
        rw [← e, List.getElem?_eq_getElem h2]
      rw [hg, hqb]
      refine ⟨by omega, by omega, fun h0 => ?_⟩
      rw [lsFrom_keep ms d (band + 1) (r.set band n) q (by omega) hq (b - 1) (by omega), get_set_lt r n band (b - 1) (by omega) (by omega), e]
      have := hlow.2 (by omega)
      omega
    · exact lsFrom_in ms d (band + 1) (r.set band n) q (by omega) (by omega) hq b (by omega) h2
theorem lists_in (ms : List Rg) (h3 : ms.length ≤ 3) (q : Rt) (h : q ∈ Hand.lists ms) (b : Nat) (hb : b < ms.length) :
    (ms.getD b ⟨0, 0⟩).lo ≤ q.get b ∧ q.get b ≤ (ms.getD b ⟨0, 0⟩).hi ∧ (0 < b → q.get (b - 1) ≤ q.get b) :=
  lsFrom_in ms ms.length 0 ⟨0, 0, 0⟩ q (by omega) (by omega) h b (Nat.zero_le _) hb
theorem lists_own (ms : List Rg) (h3 : ms.length ≤ 3) (q : Rt) (h : q ∈ Hand.lists ms) : Hand.ownB ms (toNm (q.list ms.length)) = true := by
  unfold Hand.ownB
  rw [toNm_length, take_len q _ h3, decide_eq_true rfl, Bool.true_and, List.all_eq_true]
  intro b hb
  have hb := List.mem_range.1 hb
  obtain ⟨h1, h2, h4⟩ := lists_in ms h3 q h b hb
  have e1 : ((toNm (q.list ms.length)).getD b ⟨0⟩).n = q.get b := by rw [nm_at, ← rd_nat, take_rd q _ b hb h3]
  unfold Hand.okAt
  rw [e1]
  have e2 : 0 < b → ((toNm (q.list ms.length)).getD (b - 1) ⟨0⟩).n = q.get (b - 1) := fun h0 => by rw [nm_at, ← rd_nat, take_rd q _ (b - 1) (by omega) h3]
  rw [decide_eq_true ⟨h1, h2⟩, Bool.true_and]
  by_cases h0 : 0 < b
  · rw [e2 h0, decide_eq_true h0, decide_eq_false (by have := h4 h0; omega)]; rfl
  · rw [decide_eq_false h0]; rfl

/-! ### The ends -/
theorem ends_fold (ps : List Sg) : ∀ (l : List Rt) (a b : Rt), ((l.foldl (Hand.endStep ps) (a, b, false)).1 = a ∨ (l.foldl (Hand.endStep ps) (a, b, false)).1 ∈ l) ∧ ((l.foldl (Hand.endStep ps) (a, b, false)).2.1 = b ∨ (l.foldl (Hand.endStep ps) (a, b, false)).2.1 ∈ l) ∧
    (Hand.stLo (l.foldl (Hand.endStep ps) (a, b, false)).1 ps ≤ Hand.stLo a ps ∧ ∀ q ∈ l, Hand.stLo (l.foldl (Hand.endStep ps) (a, b, false)).1 ps ≤ Hand.stLo q ps) ∧
    (Hand.stHi b ps ≤ Hand.stHi (l.foldl (Hand.endStep ps) (a, b, false)).2.1 ps ∧ ∀ q ∈ l, Hand.stHi q ps ≤ Hand.stHi (l.foldl (Hand.endStep ps) (a, b, false)).2.1 ps)
  | [], a, b => ⟨.inl rfl, .inl rfl, ⟨Int.le_refl _, fun _ h => by cases h⟩, ⟨Int.le_refl _, fun _ h => by cases h⟩⟩
  | x :: l, a, b => by
    rw [List.foldl_cons]
    obtain ⟨a', ha'⟩ : ∃ a', a' = if Hand.stLo x ps < Hand.stLo a ps then x else a := ⟨_, rfl⟩
    obtain ⟨b', hb'⟩ : ∃ b', b' = if Hand.stHi b ps < Hand.stHi x ps then x else b := ⟨_, rfl⟩
    have he : Hand.endStep ps (a, b, false) x = (a', b', false) := by
      unfold Hand.endStep
      rw [ha', hb']
      simp
    rw [he]
    obtain ⟨h1, h2, ⟨h3, h4⟩, h5, h6⟩ := ends_fold ps l a' b'
    have ca : (a' = a ∨ a' = x) ∧ Hand.stLo a' ps ≤ Hand.stLo a ps ∧ Hand.stLo a' ps ≤ Hand.stLo x ps := by
      rw [ha']; split
      · exact ⟨.inr rfl, by omega, Int.le_refl _⟩
      · exact ⟨.inl rfl, Int.le_refl _, by omega⟩
    have cb : (b' = b ∨ b' = x) ∧ Hand.stHi b ps ≤ Hand.stHi b' ps ∧ Hand.stHi x ps ≤ Hand.stHi b' ps := by
      rw [hb']; split
      · exact ⟨.inr rfl, by omega, Int.le_refl _⟩
      · exact ⟨.inl rfl, Int.le_refl _, by omega⟩
    refine ⟨?_, ?_, ⟨by omega, fun q hq => ?_⟩, by omega, fun q hq => ?_⟩
    · rcases h1 with h | h
      · rw [h]; rcases ca.1 with e | e
        · exact .inl e
        · rw [e]; exact .inr (by simp)
      · exact .inr (by simp [h])
    · rcases h2 with h | h
      · rw [h]; rcases cb.1 with e | e
        · exact .inl e
        · rw [e]; exact .inr (by simp)
      · exact .inr (by simp [h])
    · rcases List.mem_cons.1 hq with rfl | hq
      · omega
      · exact h4 q hq
    · rcases List.mem_cons.1 hq with rfl | hq
      · omega
      · exact h6 q hq
theorem ends_spec (ps : List Sg) (l : List Rt) (hl : l ≠ []) : (Hand.endsA ps l).1 ∈ l ∧ (Hand.endsA ps l).2.1 ∈ l ∧ (∀ q ∈ l, Hand.stLo (Hand.endsA ps l).1 ps ≤ Hand.stLo q ps) ∧ ∀ q ∈ l, Hand.stHi q ps ≤ Hand.stHi (Hand.endsA ps l).2.1 ps := by
  cases l with
  | nil => exact absurd rfl hl
  | cons x l =>
    have he : Hand.endsA ps (x :: l) = l.foldl (Hand.endStep ps) (x, x, false) := by
      unfold Hand.endsA
      rw [List.foldl_cons]
      rfl
    rw [he]
    obtain ⟨h1, h2, ⟨h3, h4⟩, h5, h6⟩ := ends_fold ps l x x
    refine ⟨?_, ?_, fun q hq => ?_, fun q hq => ?_⟩
    · rcases h1 with h | h
      · rw [h]; simp
      · simp [h]
    · rcases h2 with h | h
      · rw [h]; simp
      · simp [h]
    · rcases List.mem_cons.1 hq with rfl | hq
      · exact h3
      · exact h4 q hq
    · rcases List.mem_cons.1 hq with rfl | hq
      · exact h5
      · exact h6 q hq

theorem plan_none {m : List S54} {r : List S81} {p : List S56} (hp : Hand.possErr (m.map cRg) (r.map cRn) = 0) (hs : (p.map cSg).all (Hand.segB m.length) = true) (h8 : p.length ≤ 8) : Hand.planErr (m.map cRg) (r.map cRn) (p.map cSg) = 0 := by
  unfold Hand.planErr
  rw [if_pos hp, List.length_map, List.length_map, if_pos ⟨h8, hs⟩]
theorem plan_some {ms : List Rg} {rs : List Rn} {ps : List Sg} (hp : Hand.possErr ms rs ≠ 0) : Hand.planErr ms rs ps = Hand.possErr ms rs := by
  unfold Hand.planErr
  rw [if_neg hp]
theorem poss_cases {ms : List Rg} {rs : List Rn} (he : Hand.enterErr ms rs = 0) : (Hand.possErr ms rs = 0 ∧ Hand.good ms rs ≠ []) ∨ (Hand.possErr ms rs = 9 ∧ Hand.good ms rs = []) := by
  unfold Hand.possErr
  rw [if_pos he]
  by_cases h : Hand.good ms rs = []
  · exact .inr ⟨by rw [if_pos h], h⟩
  · exact .inl ⟨by rw [if_neg h], h⟩
/-- Good rates are allowed. -/
theorem good_allowed {m : List S54} {r : List S81} (he : Hand.enterErr (m.map cRg) (r.map cRn) = 0) {q : Rt} (hq : q ∈ Hand.good (m.map cRg) (r.map cRn)) : Hand.allowsV (m.map cRg) (r.map cRn) (toNm (q.list m.length)) = (true, 0) := by
  have hm := List.mem_filter.1 hq
  have h3 := (val_of he).1
  have h3' : (m.map cRg).length ≤ 3 := by rw [List.length_map]; exact h3
  have h1 := lists_own (m.map cRg) h3' q hm.1
  have h2 := rt_of_list (m.map cRg) h3' q hm.1
  rw [List.length_map] at h1 h2
  unfold Hand.allowsV
  rw [if_pos he, if_pos h1, h2, hm.2]
/-- The stretch of a plan, for good rates. -/
theorem good_stretch {m : List S54} {r : List S81} (he : Hand.enterErr (m.map cRg) (r.map cRn) = 0) {q : Rt} (hq : q ∈ Hand.good (m.map cRg) (r.map cRn)) (p : List S56) (hs : (p.map cSg).all (Hand.segB m.length) = true) (hp : p.length ≤ 12) (k : Nat) (hk : p.length + 1 ≤ k) :
    tensileref05_Stretch.f k p (q.list m.length) = some (Hand.stLo q (p.map cSg), Hand.stHi q (p.map cSg)) := by
  have hm := List.mem_filter.1 hq
  have h3 := (val_of he).1
  have h3' : (m.map cRg).length ≤ 3 := by rw [List.length_map]; exact h3
  have h2 := rt_of_list (m.map cRg) h3' q hm.1
  rw [List.length_map] at h2
  have hl := take_len q m.length h3
  have := stretch_f (q.list m.length) (by rw [hl]; exact h3) (by rw [h2]; exact lists_rtok (val_of he) q hm.1) p hp (fun s h => by rw [hl]; exact List.all_eq_true.1 hs (cSg s) (List.mem_map.2 ⟨s, h, rfl⟩)) k hk
  rw [h2] at this
  exact this
end Go.Proofs.Ytdagijgoegkphaa.Pure

namespace Go.Proofs.Ytdagijgoegkphaa.Pure
open Go.RowKit Go.Proofs.YtdagijgoegkphaaW.PrintWords Go.Proofs.YtdagijgoegkphaaW.PrintLast Go.Proofs.YtdagijgoegkphaaW.PrintMore Go.Proofs.Ytdagijgoegkphaa.P
open Hand (Rg Sg Rn Nm Rt)

/-- What the span of lives is, of some rates. -/
structure LifeOf (h : Rt → Int) (l : List Rt) (x : Rg) (nv : Bool) : Prop where
  nev : nv = true ↔ ∃ q ∈ l, h q = -1
  span : (x = ⟨-1, -1⟩ ∧ ∀ q ∈ l, h q = -1) ∨ (0 ≤ x.lo ∧ x.lo ≤ x.hi ∧ (∀ q ∈ l, h q ≠ -1 → x.lo ≤ h q ∧ h q ≤ x.hi) ∧ (∃ q ∈ l, h q = x.lo) ∧ ∃ q ∈ l, h q = x.hi)

theorem life_step {bd : Nat} {st : Int} (hst : 0 ≤ st) {l : List Rt} {x : Rg} {nv : Bool} (h : LifeOf (fun q => Hand.hoursV (q.get bd) st) l x nv) (q : Rt) (hq : 0 ≤ q.get bd) :
    LifeOf (fun q => Hand.hoursV (q.get bd) st) (l ++ [q]) (Hand.lifeStep bd st (x, nv) q).1 (Hand.lifeStep bd st (x, nv) q).2 := by
  unfold Hand.lifeStep
  dsimp only
  by_cases he : Hand.hoursV (q.get bd) st = -1
  · rw [if_pos he]
    refine ⟨⟨fun _ => ⟨q, by simp, he⟩, fun _ => rfl⟩, ?_⟩
    rcases h.span with ⟨e, ha⟩ | ⟨h0, h1, h2, ⟨a, ha, ha2⟩, b, hb, hb2⟩
    · refine .inl ⟨e, fun y hy => ?_⟩
      rcases List.mem_append.1 hy with hy | hy
      · exact ha y hy
      · rw [List.mem_singleton.1 hy]; exact he
    · refine .inr ⟨h0, h1, fun y hy hn => ?_, ⟨a, by simp [ha], ha2⟩, b, by simp [hb], hb2⟩
      rcases List.mem_append.1 hy with hy | hy
      · exact h2 y hy hn
      · rw [List.mem_singleton.1 hy] at hn; exact absurd he hn
  · rw [if_neg he]
    have hnn := hours_nn0 hq hst he
    refine ⟨⟨fun hn => ?_, fun ⟨y, hy, hy2⟩ => ?_⟩, .inr ?_⟩
    · obtain ⟨y, hy, hy2⟩ := h.nev.1 hn
      exact ⟨y, by simp [hy], hy2⟩
    · rcases List.mem_append.1 hy with hy | hy
      · exact h.nev.2 ⟨y, hy, hy2⟩
      · rw [List.mem_singleton.1 hy] at hy2; exact absurd hy2 he
    · obtain ⟨t, ht⟩ : ∃ t, t = Hand.hoursV (q.get bd) st := ⟨_, rfl⟩
      rw [← ht] at hnn he ⊢
      rcases h.span with ⟨e, ha⟩ | ⟨h0, h1, h2, ⟨a, ha, ha2⟩, b, hb, hb2⟩
      · subst e
        have e2 : Hand.withV ⟨-1, -1⟩ t (((-1 : Int) == -1) && ((-1 : Int) == -1)) = ⟨t, t⟩ := rfl
        rw [e2]
        refine ⟨hnn, Int.le_refl _, fun y hy hn => ?_, ⟨q, by simp, ht.symm⟩, q, by simp, ht.symm⟩
        rcases List.mem_append.1 hy with hy | hy
        · exact absurd (ha y hy) hn
        · rw [List.mem_singleton.1 hy, ← ht]; exact ⟨Int.le_refl _, Int.le_refl _⟩
      · have e2 : Hand.withV x t (x.lo == -1 && x.hi == -1) = ⟨Hand.mn x.lo t, Hand.mx x.hi t⟩ := by
          have : (x.lo == -1) = false := by simp; omega
          rw [this]
          rfl
        rw [e2]
        have cm : (Hand.mn x.lo t = x.lo ∧ x.lo ≤ t) ∨ (Hand.mn x.lo t = t ∧ t ≤ x.lo) := by unfold Hand.mn; split <;> omega
        have cx : (Hand.mx x.hi t = x.hi ∧ t ≤ x.hi) ∨ (Hand.mx x.hi t = t ∧ x.hi ≤ t) := by unfold Hand.mx; split <;> omega
        dsimp only
        refine ⟨by omega, by omega, fun y hy hn => ?_, ?_, ?_⟩
        · rcases List.mem_append.1 hy with hy | hy
          · have := h2 y hy hn; omega
          · rw [List.mem_singleton.1 hy, ← ht]; omega
        · rcases cm with ⟨e, _⟩ | ⟨e, _⟩
          · rw [e]; exact ⟨a, by simp [ha], ha2⟩
          · rw [e]; exact ⟨q, by simp, ht.symm⟩
        · rcases cx with ⟨e, _⟩ | ⟨e, _⟩
          · rw [e]; exact ⟨b, by simp [hb], hb2⟩
          · rw [e]; exact ⟨q, by simp, ht.symm⟩
where
  hours_nn0 {rate stretch : Int} (h0 : 0 ≤ rate) (h2 : 0 ≤ stretch) (h : Hand.hoursV rate stretch ≠ -1) : 0 ≤ Hand.hoursV rate stretch := by
    unfold Hand.hoursV at h ⊢
    split
    · exact Int.le_refl _
    · rename_i hs
      rw [if_neg hs] at h
      split
      · rename_i hr; rw [if_pos hr] at h; exact absurd rfl h
      · exact Int.ediv_nonneg (by omega) h0
theorem life_fold {bd : Nat} {st : Int} (hst : 0 ≤ st) : ∀ (suf pre : List Rt) (x : Rg) (nv : Bool), (∀ q ∈ suf, 0 ≤ q.get bd) → LifeOf (fun q => Hand.hoursV (q.get bd) st) pre x nv →
    LifeOf (fun q => Hand.hoursV (q.get bd) st) (pre ++ suf) (suf.foldl (Hand.lifeStep bd st) (x, nv)).1 (suf.foldl (Hand.lifeStep bd st) (x, nv)).2
  | [], pre, x, nv, _, h => by rw [List.append_nil]; exact h
  | q :: suf, pre, x, nv, hq, h => by
    have h1 := life_step hst h q (hq q (by simp))
    have := life_fold hst suf (pre ++ [q]) _ _ (fun y hy => hq y (by simp [hy])) h1
    rw [List.append_assoc] at this
    exact this
theorem life_of {bd : Nat} {st : Int} (hst : 0 ≤ st) (l : List Rt) (hq : ∀ q ∈ l, 0 ≤ q.get bd) : LifeOf (fun q => Hand.hoursV (q.get bd) st) l (Hand.lifeAcc bd st l).1 (Hand.lifeAcc bd st l).2 :=
  life_fold hst l [] ⟨-1, -1⟩ false hq ⟨⟨fun h => (by cases h), fun ⟨_, h, _⟩ => (by cases h)⟩, .inl ⟨rfl, fun _ h => (by cases h)⟩⟩

/-! ### Hours -/
theorem hours_reach {rate st n : Int} (h0 : 0 ≤ rate) (hst : 0 ≤ st) (h : Hand.hoursV rate st ≠ -1) (hn : Hand.hoursV rate st ≤ n) (hn0 : 0 ≤ n) : st ≤ rate * n := by
  unfold Hand.hoursV at h hn
  by_cases hs : st = 0
  · rw [hs]; exact Int.mul_nonneg h0 hn0
  rw [if_neg hs] at h hn
  by_cases hr : rate = 0
  · rw [if_pos hr] at h; exact absurd rfl h
  rw [if_neg hr] at hn
  have h1 : rate * ((st + rate - 1) / rate) + (st + rate - 1) % rate = st + rate - 1 := Int.mul_ediv_add_emod _ _
  have h2 : (st + rate - 1) % rate < rate := Int.emod_lt_of_pos _ (by omega)
  have h3 : rate * ((st + rate - 1) / rate) ≤ rate * n := Int.mul_le_mul_of_nonneg_left hn h0
  omega
theorem hours_short {rate st n : Int} (h0 : 0 ≤ rate) (hst : 0 ≤ st) (hn : Hand.hoursV rate st = -1 ∨ n < Hand.hoursV rate st) (hn0 : 0 ≤ n) : rate * n < st := by
  unfold Hand.hoursV at hn
  by_cases hs : st = 0
  · rw [if_pos hs] at hn; omega
  rw [if_neg hs] at hn
  by_cases hr : rate = 0
  · rw [hr, Int.zero_mul]; omega
  rw [if_neg hr] at hn
  have h5 : 0 ≤ (st + rate - 1) / rate := Int.ediv_nonneg (by omega) h0
  have h1 : rate * ((st + rate - 1) / rate) + (st + rate - 1) % rate = st + rate - 1 := Int.mul_ediv_add_emod _ _
  have h2 : 0 ≤ (st + rate - 1) % rate := Int.emod_nonneg _ hr
  have h3 : rate * (n + 1) ≤ rate * ((st + rate - 1) / rate) := Int.mul_le_mul_of_nonneg_left (by omega) h0
  rw [Int.mul_add, Int.mul_one] at h3
  omega

/-- The stretch of a plan of one stay. -/
theorem one_stretch {m : List S54} {r : List S81} (hp : Hand.possErr (m.map cRg) (r.map cRn) = 0) (bd : Nat) (hbd : bd < m.length) (a b : Int) (h0 : 0 ≤ a) (h1 : a ≤ b) (h2 : b ≤ 1000000) :
    ∃ q1 ∈ Hand.good (m.map cRg) (r.map cRn), ∃ q2 ∈ Hand.good (m.map cRg) (r.map cRn), Hand.stretchV (m.map cRg) (r.map cRn) [⟨bd, a, b⟩] = (q1.get bd * a, q2.get bd * b, 0) ∧ ∀ q ∈ Hand.good (m.map cRg) (r.map cRn), q1.get bd * a ≤ q.get bd * a ∧ q.get bd * b ≤ q2.get bd * b := by
  have he := Hand.poss_enter hp
  have hg : Hand.good (m.map cRg) (r.map cRn) ≠ [] := by
    rcases poss_cases he with ⟨_, h⟩ | ⟨h, _⟩
    · exact h
    · rw [hp] at h; cases h
  obtain ⟨e1, e2, e3, e4⟩ := ends_spec [⟨(bd : Int), a, b⟩] (Hand.good (m.map cRg) (r.map cRn)) hg
  have hlo : ∀ q : Rt, Hand.stLo q [⟨(bd : Int), a, b⟩] = q.get bd * a := fun q => by
    show q.get (Int.toNat bd) * a + 0 = _
    rw [Int.toNat_natCast, Int.add_zero]
  have hhi : ∀ q : Rt, Hand.stHi q [⟨(bd : Int), a, b⟩] = q.get bd * b := fun q => by
    show q.get (Int.toNat bd) * b + 0 = _
    rw [Int.toNat_natCast, Int.add_zero]
  simp only [hlo] at e3
  simp only [hhi] at e4
  refine ⟨_, e1, _, e2, ?_, fun q hq => ⟨e3 q hq, e4 q hq⟩⟩
  have hpl : Hand.planErr (m.map cRg) (r.map cRn) [⟨(bd : Int), a, b⟩] = 0 := by
    unfold Hand.planErr
    rw [if_pos hp, if_pos]
    refine ⟨by simp, ?_⟩
    unfold Hand.segB Hand.uptoB
    simp only [List.all_cons, List.all_nil, List.length_map, Bool.and_true, Bool.and_eq_true, decide_eq_true_eq]
    omega
  unfold Hand.stretchV
  rw [if_pos hpl, hlo, hhi]
end Go.Proofs.Ytdagijgoegkphaa.Pure

namespace Go.Proofs.Ytdagijgoegkphaa.Pure
open Go.RowKit Go.Proofs.YtdagijgoegkphaaW.PrintWords Go.Proofs.YtdagijgoegkphaaW.PrintLast Go.Proofs.YtdagijgoegkphaaW.PrintMore Go.Proofs.Ytdagijgoegkphaa.P
open Hand (Rg Sg Rn Nm Rt)

theorem awake_fk : tensilelaw05_awake.f = some true := rfl
theorem CreepLife (m : List S54) (r : List S81) (band stretch : Int) (hm : ∀ s ∈ m, Fits54 s) (_ : ∀ s ∈ r, Fits81 s) (wb : (Lit.int .u8 band).wf = true) (ws : (Lit.int .u32 stretch).wf = true) : ∃ k, tensilelaw05_CreepLife.f k m r band stretch = some true := by
  refine ⟨300, ?_⟩
  have hb8 : 0 ≤ band ∧ band ≤ 255 := by
    unfold Lit.wf at wb
    rw [Bool.and_eq_true, decide_eq_true_eq, decide_eq_true_eq] at wb
    exact wb
  have hs32 : 0 ≤ stretch ∧ stretch ≤ 4294967295 := by
    unfold Lit.wf at ws
    rw [Bool.and_eq_true, decide_eq_true_eq, decide_eq_true_eq] at ws
    exact ws
  unfold tensilelaw05_CreepLife.f
  obtain ⟨b, hb, hb2⟩ := ready_f m r [] hm 300 (by omega)
  rw [hb, Option.bind_some]
  cases b with
  | false => rw [if_neg (by decide), awake_fk]; rfl
  | true =>
  rw [if_pos rfl]
  obtain ⟨⟨h1, h2, _, h3⟩, he, _, _⟩ := hb2 rfl
  have hlen := (Hand.enter_ok he).1
  rw [List.length_map] at hlen
  rw [if_neg (by omega), material_f m (by omega) 300 (by omega), Option.bind_some, runs_f r (by omega) h3 300 (by omega), Option.bind_some, w_id (n := band) (by omega) (by omega), w_id (n := stretch) (by omega) (by omega), Int.tmod_eq_emod_of_nonneg hb8.1]
  have hmod0 : 0 ≤ band % (m.length : Int) := Int.emod_nonneg _ (by omega)
  have hmod1 : band % (m.length : Int) < m.length := Int.emod_lt_of_pos _ (by omega)
  generalize band % (m.length : Int) = bz at *
  obtain ⟨bd, rfl⟩ := Int.eq_ofNat_of_zero_le hmod0
  have hbd : bd < m.length := by omega
  unfold creep_Life.f
  rw [Option.bind_some, toRg_c, toRn_c]
  rcases poss_cases he with ⟨hp, hg⟩ | ⟨hp, hg⟩
  case inr =>
    have hlv : Hand.lifeV (m.map cRg) (r.map cRn) (bd : Int) stretch = (0, 0, 9) := by
      unfold Hand.lifeV; rw [if_neg (by rw [hp]; decide), hp]
    rw [hlv]
    dsimp only
    rw [if_neg (by decide), if_pos rfl, awake_fk]
    rfl
  have hlv : Hand.lifeV (m.map cRg) (r.map cRn) (bd : Int) stretch = ((Hand.lifeAcc bd stretch (Hand.good (m.map cRg) (r.map cRn))).1.lo, if (Hand.lifeAcc bd stretch (Hand.good (m.map cRg) (r.map cRn))).2 = true then -1 else (Hand.lifeAcc bd stretch (Hand.good (m.map cRg) (r.map cRn))).1.hi, 0) := by
    unfold Hand.lifeV
    rw [if_pos hp, List.length_map, if_pos (show (0 ≤ (bd : Int) ∧ (bd : Int) ≤ (m.length : Int) - 1) ∧ 0 ≤ stretch ∧ stretch ≤ 10000000000 from ⟨⟨by omega, by omega⟩, by omega, by omega⟩), Int.toNat_natCast]
  rw [hlv]
  have hqo : ∀ q ∈ Hand.good (m.map cRg) (r.map cRn), q.ok := fun q hq => lists_rtok (val_of he) q (List.mem_filter.1 hq).1
  have h33 := (val_of he).1
  have hq0 : ∀ q ∈ Hand.good (m.map cRg) (r.map cRn), 0 ≤ q.get bd := fun q hq => (hqo q hq bd (by omega)).1
  have hL := life_of (bd := bd) hs32.1 (Hand.good (m.map cRg) (r.map cRn)) hq0
  have hup : ∀ q ∈ Hand.good (m.map cRg) (r.map cRn), Hand.hoursV (q.get bd) stretch ≤ 10000000000 := fun q hq => by
    have hr := hqo q hq bd (by omega)
    unfold Hand.hoursV
    split
    · omega
    · split
      · omega
      · have : (stretch + q.get bd - 1) / q.get bd ≤ stretch + q.get bd - 1 := Int.ediv_le_self _ (by omega)
        omega
  generalize Hand.lifeAcc bd stretch (Hand.good (m.map cRg) (r.map cRn)) = acc at *
  obtain ⟨⟨lo, hi⟩, nv⟩ := acc
  dsimp only at hL ⊢
  have hlo : -1 ≤ lo ∧ lo ≤ 10000000000 := by
    rcases hL.span with ⟨e, _⟩ | ⟨h0, h1, _, ⟨a, ha, ha2⟩, _⟩
    · cases e; omega
    · have := hup a ha; dsimp only at h0 ha2; omega
  rw [if_pos rfl]
  -- behind the first test
  have hj2 : ∀ k hi', 30 ≤ k → tensilelaw05_CreepLife.j1 (k + 2) r stretch (bd : Int) m lo hi' = some true := fun k hi' hk => by
    rw [tensilelaw05_CreepLife.j1, w_id (n := lo - 1) (by omega) (by omega)]
    have hfalse : tensilelaw05_CreepLife.j2 (k + 1) r stretch (bd : Int) (lo - 1) false m = some true := by
      rw [tensilelaw05_CreepLife.j2, if_neg (by decide), awake_fk]; rfl
    by_cases c1 : lo - 1 ≥ 0
    case neg => rw [if_neg c1]; exact hfalse
    rw [if_pos c1]
    by_cases c2 : lo - 1 ≤ 1000000
    case neg => rw [decide_eq_false c2]; exact hfalse
    rw [decide_eq_true c2, tensilelaw05_CreepLife.j2, if_pos rfl, material_f m (by omega) k (by omega), Option.bind_some, runs_f r (by omega) h3 k (by omega), Option.bind_some]
    unfold tensilelaw05_between.f creep_Stretch.f
    rw [Option.bind_some, Option.bind_some, toRg_c, toRn_c, show toSg [(⟨(bd : Int), ⟨lo - 1, lo - 1⟩⟩ : S65)] = [⟨(bd : Int), lo - 1, lo - 1⟩] from rfl]
    obtain ⟨q1, hq1, q2, hq2, hv, _⟩ := one_stretch hp bd hbd (lo - 1) (lo - 1) (by omega) (Int.le_refl _) c2
    rw [hv]
    dsimp only
    have hshort : q2.get bd * (lo - 1) < stretch := by
      refine hours_short (hq0 q2 hq2) hs32.1 ?_ c1
      by_cases hn : Hand.hoursV (q2.get bd) stretch = -1
      · exact .inl hn
      · refine .inr ?_
        rcases hL.span with ⟨e, _⟩ | ⟨_, _, h5, _⟩
        · cases e; omega
        · have := (h5 q2 hq2 hn).1; dsimp only at this; omega
    rw [if_pos rfl, w_id (n := stretch) (by omega) (by omega), if_neg (by omega), awake_fk]
    rfl
  by_cases c0 : (if nv = true then (-1 : Int) else hi) = -1
  · rw [if_pos c0, tensilelaw05_CreepLife.j0, if_neg (by decide)]
    exact hj2 297 _ (by omega)
  rw [if_neg c0]
  have hnv : nv = false := by
    cases nv with
    | true => exact absurd (if_pos rfl) c0
    | false => rfl
  subst hnv
  rw [if_neg (by decide)] at c0 ⊢
  by_cases c1 : hi ≤ 1000000
  case neg =>
    rw [decide_eq_false c1, tensilelaw05_CreepLife.j0, if_neg (by decide)]
    exact hj2 297 _ (by omega)
  rcases hL.span with ⟨e, _⟩ | ⟨h0, h01, h5, _, _⟩
  · cases e; exact absurd rfl c0
  dsimp only at h0 h01 h5
  rw [decide_eq_true c1, tensilelaw05_CreepLife.j0, if_pos rfl, material_f m (by omega) 299 (by omega), Option.bind_some, runs_f r (by omega) h3 299 (by omega), Option.bind_some]
  unfold tensilelaw05_between.f creep_Stretch.f
  rw [Option.bind_some, Option.bind_some, toRg_c, toRn_c, show toSg [(⟨(bd : Int), ⟨hi, hi⟩⟩ : S65)] = [⟨(bd : Int), hi, hi⟩] from rfl]
  obtain ⟨q1, hq1, q2, hq2, hv, _⟩ := one_stretch hp bd hbd hi hi (by omega) (Int.le_refl _) c1
  rw [hv]
  dsimp only
  have hreach : stretch ≤ q1.get bd * hi := by
    have hn : Hand.hoursV (q1.get bd) stretch ≠ -1 := fun e => by have := hL.nev.2 ⟨q1, hq1, e⟩; cases this
    exact hours_reach (hq0 q1 hq1) hs32.1 hn (h5 q1 hq1 hn).2 (by omega)
  rw [if_pos rfl, w_id (n := stretch) (by omega) (by omega), if_neg (by omega), if_neg (by omega), if_neg (by omega)]
  exact hj2 297 _ (by omega)
end Go.Proofs.Ytdagijgoegkphaa.Pure



namespace Go.Proofs.Ytdagijgoegkphaa.creepLife
open Go.ChangeShapes Go.WideShapes Go.ChangeAt Go.RowKit Go.Proofs.YtdagijgoegkphaaW.PrintWords
theorem own : ownKnob Try.prog.godebug = none := by kernel_rfl
theorem laidOut : laidOutB Try.prog = true := by kernel_rfl
set_option maxRecDepth 100000 in
theorem lifted (os : Os) (started : os.Started) (H : Type) (enc : TypeId × Value → H) :
    ReturnsInHanded {} Try.checked os 10 .any (Rows.creepLifeSpec.pre6 enc Try.prog Try.f10 Rows.creepLifeRow.domain false) (Rows.creepLifeSpec.post enc Try.prog Try.f10 false true false false) := by
  refine returnsInHanded_of_change_sized (C := Try.checked) own started (by kernel_rfl) Try.func10
    (ChangeSpec.witness6 (enc := enc) (C := Try.checked) false ⟨#[], #[.agg #[.slice none 0 0], .slice none 0 0, .int .u8 0, .int .u32 0], []⟩ 8 (by kernel_rfl) (by kernel_rfl) (by kernel_rfl) (by kernel_rfl)) ?_
  intro W base args ds gs before hval0 hW hcnd hsz0 _
  have hval : ∀ (j : Nat) t v, Try.f10.params[j]? = some t → args[j]? = some v → Value.okWide Try.prog W .any base t v := hval0
  have hW' := hW
  obtain ⟨p, q, hA0, hV, rfl, hfz, hnd⟩ := hW
  have hA : DataW.TrodAll enc Try.prog W 0 (fun _ => true) true Try.f10.params.toList args.toList ds p := hA0
  rw [Try.params10] at hA hval
  obtain ⟨v0, vs0, d0, ds0, p0, q0, hargs, rfl, rfl, h0, r0⟩ := trodAll_cons hA
  obtain ⟨v1, vs1, d1, ds1, p1, q1, rfl, rfl, rfl, h1, r1⟩ := trodAll_cons r0
  obtain ⟨v2, vs2, d2, ds2, p2, q2, rfl, rfl, rfl, h2, r2⟩ := trodAll_cons r1
  obtain ⟨v3, vs3, d3, ds3, p3, q3, rfl, rfl, rfl, h3, r3⟩ := trodAll_cons r2
  obtain ⟨rfl, rfl, rfl⟩ := trodAll_nil r3
  obtain rfl : args = #[v0, v1, v2, v3] := by cases args; simp_all
  obtain ⟨rfl, rfl⟩ := trodVars_none hV
  have k0 := h0
  have lt0 : ∀ x ∈ p0, x.block < W.heap.size := by obtain ⟨m, hm⟩ := k0; exact DataW.trod_lt m _ _ _ hm
  obtain ⟨cs0, rfl, _⟩ := okWide_struct Try.underlying24 (hval 0 24 v0 rfl rfl)
  obtain ⟨A0, c0, l0, e0, hc0, hC0, y0⟩ : ∃ (A : Option Addr) (cap : Nat) (l : List P.S54), cs0 = #[.slice A l.length cap] ∧ l.length ≤ cap ∧ Kd.C P.k54 W A l.length l ∧ ∀ s ∈ l, P.Fits54 s := by
    obtain ⟨fuel, hf⟩ := h0
    obtain ⟨A, cap, l, e, h2, h3, h4⟩ := P.open24 hf
    exact ⟨A, cap, l, Array.toList_inj.1 e, h2, h3, h4⟩
  subst e0
  have k1 := h1
  have lt1 : ∀ x ∈ p1, x.block < W.heap.size := by obtain ⟨m, hm⟩ := k1; exact DataW.trod_lt m _ _ _ hm
  obtain ⟨A1, len1, c1, rfl⟩ := okWide_slice Try.underlying25 (hval 1 25 v1 rfl rfl)
  obtain ⟨l1, rfl, hc1, hC1, y1⟩ : ∃ l : List P.S81, len1 = l.length ∧ l.length ≤ c1 ∧ Kd.C P.k81 W A1 l.length l ∧ ∀ s ∈ l, P.Fits81 s := by
    obtain ⟨fuel, hf⟩ := h1
    obtain ⟨A, cap, l, e, h1, h2, h3⟩ := P.open25 hf
    simp [Value.cells] at e
    obtain ⟨rfl, rfl, rfl⟩ := e
    exact ⟨l, rfl, h1, h2, h3⟩
  obtain ⟨a2, rfl, rfl, rfl, w2⟩ := open_int Try.underlying5 (hval 2 5 v2 rfl rfl) h2
  obtain ⟨a3, rfl, rfl, rfl, w3⟩ := open_int Try.underlying28 (hval 3 28 v3 rfl rfl) h3
  clear hA0 hval0 hsz0
  obtain ⟨k, hP⟩ := Pure.CreepLife l0 l1 a2 a3 y0 y1 w2 w3
  refine (P.tensilelaw05_CreepLife.calls k A0 c0 l0 A1 c1 l1 a2 a3 true W hC0 hc0 hC1 hc1 hP).mono fun e W' ⟨he, bel⟩ => ?_
  subst he
  exact ⟨_, rfl, _, _, _, [], _, [], hW', trodAll_mk1 (shut_bool Try.underlying4 _), (trodAll_cons_mk (Below.trod laidOut (by kernel_rfl) (of_decide_eq_true (by kernel_rfl)) k0 bel lt0) (trodAll_cons_mk (Below.trod laidOut (by kernel_rfl) (of_decide_eq_true (by kernel_rfl)) k1 bel lt1) (trodAll_cons_mk (shut_int Try.underlying5 w2) (trodAll_cons_mk (shut_int Try.underlying28 w3) trodAll_mk0)))), rfl, bel.frame _, fun h => by cases h⟩
theorem over : Rows.creepLifeRow.holds Try.pinned (OpenSpec.ofChange Rows.creepLifeSpec) :=
  OpenClaim.holds_of_wide 10 Try.f10 rfl rfl rfl rfl rfl rfl rfl ⟨rfl, rfl, rfl, rfl, rfl⟩ rfl rfl rfl rfl rfl (by kernel_rfl) Try.func10 (by kernel_rfl)
    (of_decide_eq_true (by kernel_rfl)) (by unfold Func.isWrapper; first | (rw [if_pos (by decide +kernel)]; kernel_rfl) | (rw [if_neg (by decide +kernel)]; exact ⟨rfl, rfl⟩))
    (fun os started H enc _ => lifted os started H enc)
theorem proved : Rows.CreepLifeSaid := over
end Go.Proofs.Ytdagijgoegkphaa.creepLife
namespace Go.Proofs.Ytdagijgoegkphaa
/-- The row, under a short name, for the claim. -/
theorem creepLife_holds : Rows.CreepLifeSaid := creepLife.proved
end Go.Proofs.Ytdagijgoegkphaa
#print axioms Go.Proofs.Ytdagijgoegkphaa.creepLife_holds
