/- Part of the proof of the statement PlanFewest: functions of the program and what each call of them comes to, for any arguments. -/
import Derived.Test.YtigpnafpdmdmhaaPlanFewestA
import Derived.Test.YtigpnafpdmdmhaaC2
set_option linter.unusedVariables false
set_option linter.unusedSimpArgs false
namespace Go.Proofs.Ytigpnafpdmdmhaa.P
open Go.RowKit Go.Proofs.YtigpnafpdmdmhaaW.PrintWords Go.Proofs.YtigpnafpdmdmhaaW.PrintLast
open Bool renaming true → tt, false → ff
open List renaming setIfInBounds_toArray → l1, set_cons_zero → l2, set_cons_succ → l3
open Go.Proofs.YtigpnafpdmdmhaaW.PrintWords renaming blk_drewN → b0, blk_drew → b1, blk_alloc → b2, below_set → b3, blk_cell → b4, blk_below → b5, pw_below_drewN → b6, below_drew1 → b7, below_alloc → b8, blk_frozen → b9, blk_lt → b10, blk_far → b11, below_size → b12, below_step → b13
open Go.Proofs.YtigpnafpdmdmhaaW.PrintWords.Kd renaming R_alloc → k0, R_drewN → k1, R_drew → k2, R_below → k3, R_new' → k4, R_lt → k5, R_elder' → k6, R_base → k7, R_far → k8, R_reads' → k9, R_mono → k10, R_types → k11, R_lower → k12, C_alloc → k13, C_drewN → k14, C_drew → k15

set_option maxHeartbeats 8000000 in
set_option maxRecDepth 100000 in
theorem tensilelaw09_PlanFewest.calls (k : Nat) (a0 : Int) (a1_0 : Int) (a1_1 : Int) (a1_2 : Int) (a1_3 : Int) (a2_0 : Int) (A2_1 : Option Addr) (c2_1 : Nat) (l2_1 : List (S57)) (a3 : Int) (a4 : Int) (r : Bool) (w : World) (hr2_1 : Kd.C k57 w A2_1 l2_1.length l2_1) (hc2_1 : l2_1.length ≤ c2_1) (h : tensilelaw09_PlanFewest.f k a0 a1_0 a1_1 a1_2 a1_3 a2_0 l2_1 a3 a4 = some r) :
  Calls Try.prog 13 #[.int .u8 a0, .agg #[.int .i64 a1_0, .int .i64 a1_1, .int .i64 a1_2, .int .i64 a1_3], .agg #[.int .i64 a2_0, .slice A2_1 l2_1.length c2_1], .int .u8 a3, .int .u8 a4] w fun e w' => e = .returned (.bool r) ∧ Below w.heap.size w w' := by
 have hu64 := Try.underlying64
 have hu24 := Try.underlying24
 have hu31 := Try.underlying31
 have hu61 := Try.underlying61
 have hu34 := Try.underlying34
 have HR2_1 := Aside0.mk hr2_1
 have HC2_1 := Aside0.mk hc2_1
 clear hr2_1 hc2_1
 have HB := Aside0.mk (Below.refl w.heap.size w)
 have H : ((tensilelaw09_asked.f (Int.tmod (wrap64 (a0)) 31) 30 a1_0 a1_1 a1_2 a1_3).bind fun t688 => (if t688 = 0 then ((tensilelaw09_Demand.f a1_0 a1_1 a1_2 a1_3).bind fun bt690 => ((plan_Single.f (Int.tmod (wrap64 (a0)) 31) bt690.1 bt690.2.1 bt690.2.2.1 bt690.2.2.2).bind fun bt694 => (if bt694.2.2 = 0 then ((tensilelaw09_Back.f k bt694.1 bt694.2.1).bind fun bt700 => ((tensileref09_Fault.f k bt700.1 bt700.2).bind fun t704 => (if t704 = 0 then (if (bt694.2.1.length : Int) = 1 then (tensilelaw09_PlanFewest.j0 k a3 a4 (Int.tmod (wrap64 (a0)) 31) (bt694.1 != (Int.tmod (wrap64 (a0)) 31)) a1_0 a1_1 a1_2 a1_3 a2_0 l2_1 bt694.1 bt694.2.1) else (none)) else (none)))) else (none)))) else ((tensilelaw09_wakes.f).bind fun t689 => (some t689)))) = some r := h
 clear h
 replace H := Option.bind_eq_some_iff.mp H
 obtain ⟨t688, A60, H⟩ := H
 replace H : (if t688 = 0 then ((tensilelaw09_Demand.f a1_0 a1_1 a1_2 a1_3).bind fun bt690 => ((plan_Single.f (Int.tmod (wrap64 (a0)) 31) bt690.1 bt690.2.1 bt690.2.2.1 bt690.2.2.2).bind fun bt694 => (if bt694.2.2 = 0 then ((tensilelaw09_Back.f k bt694.1 bt694.2.1).bind fun bt700 => ((tensileref09_Fault.f k bt700.1 bt700.2).bind fun t704 => (if t704 = 0 then (if (bt694.2.1.length : Int) = 1 then (tensilelaw09_PlanFewest.j0 k a3 a4 (Int.tmod (wrap64 (a0)) 31) (bt694.1 != (Int.tmod (wrap64 (a0)) 31)) a1_0 a1_1 a1_2 a1_3 a2_0 l2_1 bt694.1 bt694.2.1) else (none)) else (none)))) else (none)))) else ((tensilelaw09_wakes.f).bind fun t689 => (some t689))) = some r := H
 have A6 := Aside0.mk A60
 clear A60
 by_cases c7 : t688 = 0
 ·
  as_aux_lemma =>
  rw [if_pos c7] at H
  have c7b0 : (t688 == 0) = true := beq_iff_eq.mpr c7
  have c7b1 : (t688 != 0) = false := bne_eq_false_iff_eq.mpr c7
  clear c7
  replace H := Option.bind_eq_some_iff.mp H
  obtain ⟨⟨t690, t691, t692, t693⟩, A80, H⟩ := H
  replace H : ((plan_Single.f (Int.tmod (wrap64 (a0)) 31) t690 t691 t692 t693).bind fun bt694 => (if bt694.2.2 = 0 then ((tensilelaw09_Back.f k bt694.1 bt694.2.1).bind fun bt700 => ((tensileref09_Fault.f k bt700.1 bt700.2).bind fun t704 => (if t704 = 0 then (if (bt694.2.1.length : Int) = 1 then (tensilelaw09_PlanFewest.j0 k a3 a4 (Int.tmod (wrap64 (a0)) 31) (bt694.1 != (Int.tmod (wrap64 (a0)) 31)) a1_0 a1_1 a1_2 a1_3 a2_0 l2_1 bt694.1 bt694.2.1) else (none)) else (none)))) else (none))) = some r := H
  have A8 := Aside0.mk A80
  clear A80
  replace H := Option.bind_eq_some_iff.mp H
  obtain ⟨⟨t694, t695, t698⟩, A90, H⟩ := H
  replace H : (if t698 = 0 then ((tensilelaw09_Back.f k t694 t695).bind fun bt700 => ((tensileref09_Fault.f k bt700.1 bt700.2).bind fun t704 => (if t704 = 0 then (if (t695.length : Int) = 1 then (tensilelaw09_PlanFewest.j0 k a3 a4 (Int.tmod (wrap64 (a0)) 31) (t694 != (Int.tmod (wrap64 (a0)) 31)) a1_0 a1_1 a1_2 a1_3 a2_0 l2_1 t694 t695) else (none)) else (none)))) else (none)) = some r := H
  have A9 := Aside0.mk A90
  clear A90
  have HC10 := Aside0.mk H
  clear H
  go_enter Try.func13, Try.ntmps13
  go_upto_region 5 with (first | ((with_reducible refine gate_dst (N := 6) rfl ?_); (try (refine gate_guard (by rfl) ?_; dsimp only)); refine box_event ?hg (N := 6) ?hd (cs := #[.int .i64 a1_0, .int .i64 a1_1, .int .i64 a1_2, .int .i64 a1_3]) (t := 64) ?hr ?_; (case hd => rfl); (case hg => rfl); (case hr => first | (go_simp; done) | (go_simp; rfl)); intro gb686 hg w11 hbox hb; have n0_ := Aside0.mk (b13 (by repeat (first | (with_reducible first | exact HB.out | apply b8 | apply b6 | apply b7) | exact HB.out)) hb); have n1_ := Aside0.mk (hbox); have n2_ := Aside0.mk ((by rw [hg]; exact (b12 (by repeat (first | (with_reducible first | exact HB.out | apply b8 | apply b6 | apply b7) | exact HB.out))) : w.heap.size ≤ gb686)); have n3_ := Aside0.mk ((by rw [hg]; exact (b12 (by repeat (first | (with_reducible first | exact HB.out | apply b8 | apply b6 | apply b7) | exact HB.out))) : w.heap.size ≤ gb686)); clear HB; have HB := n0_; have BK686 := n1_; have GW686 := n2_; have GE686 := n3_; clear n0_ n1_ n2_ n3_; clear hb hbox hg) | ((with_reducible refine gate_dst (N := 7) rfl ?_); (try (refine gate_guard (by rfl) ?_; dsimp only)); refine box_event ?hg (N := 7) ?hd (cs := #[.int .i64 a2_0, .slice A2_1 l2_1.length c2_1]) (t := 24) ?hr ?_; (case hd => rfl); (case hg => rfl); (case hr => first | (go_simp; done) | (go_simp; rfl)); intro gb687 hg w12 hbox hb; have n0_ := Aside0.mk (b5 (g := gb686) (o := .cells #[.int .i64 a1_0, .int .i64 a1_1, .int .i64 a1_2, .int .i64 a1_3] 64 (0, 0)) (by (with_reducible repeat (first | refine b0 ?_ _ | refine b1 ?_ | refine b2 ?_ _)); exact BK686.out) hb); have n1_ := Aside0.mk (b13 (by repeat (first | (with_reducible first | exact HB.out | apply b8 | apply b6 | apply b7 | refine b3 ?_ GE686.out) | exact HB.out)) hb); have n2_ := Aside0.mk (hbox); have n3_ := Aside0.mk ((by rw [hg]; exact (b12 (by repeat (first | (with_reducible first | exact HB.out | apply b8 | apply b6 | apply b7 | refine b3 ?_ GE686.out) | exact HB.out))) : w.heap.size ≤ gb687)); have n4_ := Aside0.mk ((by rw [hg]; exact (b12 (by repeat (first | (with_reducible first | exact HB.out | apply b8 | apply b6 | apply b7 | refine b3 ?_ GE686.out) | exact HB.out))) : w.heap.size ≤ gb687)); have n5_ := Aside0.mk ((by rw [hg]; exact Nat.ne_of_lt (b10 (g := gb686) (o := .cells #[.int .i64 a1_0, .int .i64 a1_1, .int .i64 a1_2, .int .i64 a1_3] 64 (0, 0)) (by (with_reducible repeat (first | refine b0 ?_ _ | refine b1 ?_ | refine b2 ?_ _)); exact BK686.out)) : gb686 ≠ gb687)); have n6_ := Aside0.mk ((by rw [hg]; exact Nat.ne_of_gt (b10 (g := gb686) (o := .cells #[.int .i64 a1_0, .int .i64 a1_1, .int .i64 a1_2, .int .i64 a1_3] 64 (0, 0)) (by (with_reducible repeat (first | refine b0 ?_ _ | refine b1 ?_ | refine b2 ?_ _)); exact BK686.out)) : gb687 ≠ gb686)); clear BK686; clear HB; have BK686 := n0_; have HB := n1_; have BK687 := n2_; have GW687 := n3_; have GE687 := n4_; have NB686_687 := n5_; have NB687_686 := n6_; clear n0_ n1_ n2_ n3_ n4_ n5_ n6_; clear hb hbox hg; have hnb13 := NB686_687.out; have hnc13 := NB687_686.out; have hcz14_0 : w12.cell? ⟨gb686, 0, none⟩ = some (.int .i64 a1_0) := (b4 BK686.out 0).trans rfl; have hcz14_1 : w12.cell? ⟨gb686, 1, none⟩ = some (.int .i64 a1_1) := (b4 BK686.out 1).trans rfl; have hcz14_2 : w12.cell? ⟨gb686, 2, none⟩ = some (.int .i64 a1_2) := (b4 BK686.out 2).trans rfl; have hcz14_3 : w12.cell? ⟨gb686, 3, none⟩ = some (.int .i64 a1_3) := (b4 BK686.out 3).trans rfl; have hfz14_0 := b9 BK686.out 0; have hfz14_1 := b9 BK686.out 1; have hfz14_2 := b9 BK686.out 2; have hfz14_3 := b9 BK686.out 3) | ((with_reducible refine gate_callee (f := 36) rfl ?_); refine goesL_ (some 36) rfl rfl Try.func36 (by kernel_rfl) rfl #[.int .i64 (Int.tmod (wrap64 (a0)) 31), .int .i64 30, .agg #[.int .i64 a1_0, .int .i64 a1_1, .int .i64 a1_2, .int .i64 a1_3]] rfl (by (try simp only [List.map_toArray, List.map_cons, List.map_nil]); first | done | rfl | (simp only [List.length_drop, List.length_take]; rfl)) ?_; (with_reducible refine (tensilelaw09_asked.calls (Int.tmod (wrap64 (a0)) 31) 30 a1_0 a1_1 a1_2 a1_3 t688 _ A6.out).mono ?_); rintro e w15 ⟨rfl, hb⟩; refine ⟨_, rfl, ?_⟩; have n0_ := Aside0.mk (b5 (g := gb686) (o := .cells #[.int .i64 a1_0, .int .i64 a1_1, .int .i64 a1_2, .int .i64 a1_3] 64 (0, 0)) (by (with_reducible repeat (first | refine b0 ?_ _ | refine b1 ?_ | refine b2 ?_ _)); exact BK686.out) hb); have n1_ := Aside0.mk (b5 (g := gb687) (o := .cells #[.int .i64 a2_0, .slice A2_1 l2_1.length c2_1] 24 (0, 0)) (by (with_reducible repeat (first | refine b0 ?_ _ | refine b1 ?_ | refine b2 ?_ _)); exact BK687.out) hb); have n2_ := Aside0.mk (b13 (by repeat (first | (with_reducible first | exact HB.out | apply b8 | apply b6 | apply b7 | refine b3 ?_ GE686.out | refine b3 ?_ GE687.out) | exact HB.out)) hb); clear BK686; clear BK687; clear HB; have BK686 := n0_; have BK687 := n1_; have HB := n2_; clear n0_ n1_ n2_; (try clear hb); (try clear hb2); (try clear hk); (try clear hi); have hcz16_0 : w15.cell? ⟨gb686, 0, none⟩ = some (.int .i64 a1_0) := (b4 BK686.out 0).trans rfl; have hcz16_1 : w15.cell? ⟨gb686, 1, none⟩ = some (.int .i64 a1_1) := (b4 BK686.out 1).trans rfl; have hcz16_2 : w15.cell? ⟨gb686, 2, none⟩ = some (.int .i64 a1_2) := (b4 BK686.out 2).trans rfl; have hcz16_3 : w15.cell? ⟨gb686, 3, none⟩ = some (.int .i64 a1_3) := (b4 BK686.out 3).trans rfl; have hfz16_0 := b9 BK686.out 0; have hfz16_1 := b9 BK686.out 1; have hfz16_2 := b9 BK686.out 2; have hfz16_3 := b9 BK686.out 3) | ((with_reducible refine gate_callee (f := 32) rfl ?_); refine goesL_ (some 42) rfl rfl Try.func32 (by kernel_rfl) rfl #[.agg #[.int .i64 a1_0, .int .i64 a1_1, .int .i64 a1_2, .int .i64 a1_3]] rfl (by (try simp only [List.map_toArray, List.map_cons, List.map_nil]); first | done | rfl | (simp only [List.length_drop, List.length_take]; rfl)) ?_; (with_reducible refine (tensilelaw09_Demand.calls a1_0 a1_1 a1_2 a1_3 t690 t691 t692 t693 _ A8.out).mono ?_); rintro e w17 ⟨rfl, hb⟩; refine ⟨_, rfl, ?_⟩; have n0_ := Aside0.mk (b5 (g := gb686) (o := .cells #[.int .i64 a1_0, .int .i64 a1_1, .int .i64 a1_2, .int .i64 a1_3] 64 (0, 0)) (by (with_reducible repeat (first | refine b0 ?_ _ | refine b1 ?_ | refine b2 ?_ _)); exact BK686.out) hb); have n1_ := Aside0.mk (b5 (g := gb687) (o := .cells #[.int .i64 a2_0, .slice A2_1 l2_1.length c2_1] 24 (0, 0)) (by (with_reducible repeat (first | refine b0 ?_ _ | refine b1 ?_ | refine b2 ?_ _)); exact BK687.out) hb); have n2_ := Aside0.mk (b13 (by repeat (first | (with_reducible first | exact HB.out | apply b8 | apply b6 | apply b7 | refine b3 ?_ GE686.out | refine b3 ?_ GE687.out) | exact HB.out)) hb); clear BK686; clear BK687; clear HB; have BK686 := n0_; have BK687 := n1_; have HB := n2_; clear n0_ n1_ n2_; (try clear hb); (try clear hb2); (try clear hk); (try clear hi)) | ((with_reducible refine gate_callee (f := 33) rfl ?_); refine goesL_ (some 43) rfl rfl Try.func33 (by kernel_rfl) rfl #[.int .i64 (Int.tmod (wrap64 (a0)) 31), .agg #[.int .i64 t690, .int .i64 t691, .int .i64 t692, .int .i64 t693]] rfl (by (try simp only [List.map_toArray, List.map_cons, List.map_nil]); first | done | rfl | (simp only [List.length_drop, List.length_take]; rfl)) ?_; (with_reducible refine (plan_Single.calls (Int.tmod (wrap64 (a0)) 31) t690 t691 t692 t693 t694 t695 t698 _ A9.out).mono ?_); rintro e w18 ⟨v696, rfl, ho0, hb⟩; refine ⟨_, rfl, ?_⟩; have n0_ := Aside0.mk (k12 ho0 (b12 (by repeat (first | (with_reducible first | exact HB.out | apply b8 | apply b6 | apply b7 | refine b3 ?_ GE686.out | refine b3 ?_ GE687.out) | exact HB.out)))); have n1_ := Aside0.mk (b5 (g := gb686) (o := .cells #[.int .i64 a1_0, .int .i64 a1_1, .int .i64 a1_2, .int .i64 a1_3] 64 (0, 0)) (by (with_reducible repeat (first | refine b0 ?_ _ | refine b1 ?_ | refine b2 ?_ _)); exact BK686.out) hb); have n2_ := Aside0.mk (b5 (g := gb687) (o := .cells #[.int .i64 a2_0, .slice A2_1 l2_1.length c2_1] 24 (0, 0)) (by (with_reducible repeat (first | refine b0 ?_ _ | refine b1 ?_ | refine b2 ?_ _)); exact BK687.out) hb); have n3_ := Aside0.mk (b13 (by repeat (first | (with_reducible first | exact HB.out | apply b8 | apply b6 | apply b7 | refine b3 ?_ GE686.out | refine b3 ?_ GE687.out) | exact HB.out)) hb); clear BK686; clear BK687; clear HB; have HO697 := n0_; have BK686 := n1_; have BK687 := n2_; have HB := n3_; clear n0_ n1_ n2_ n3_; (try clear hb); (try clear hb2); (try clear hk); (try clear hi); (try clear ho0)) | ((with_reducible refine gate_dst (N := 12) rfl ?_); (try (refine gate_guard (by rfl) ?_; dsimp only)); refine box_event ?hg (N := 12) ?hd (cs := #[.int .i64 0, .slice none 0 0]) (t := 31) ?hr ?_; (case hd => rfl); (case hg => rfl); (case hr => first | (go_simp; done) | (go_simp; rfl)); intro gb699 hg w19 hbox hb; have n0_ := Aside0.mk (k3 (by (with_reducible repeat (first | apply k0 | apply k1 | apply k2)); exact HO697.out) hb); have n1_ := Aside0.mk (b5 (g := gb686) (o := .cells #[.int .i64 a1_0, .int .i64 a1_1, .int .i64 a1_2, .int .i64 a1_3] 64 (0, 0)) (by (with_reducible repeat (first | refine b0 ?_ _ | refine b1 ?_ | refine b2 ?_ _)); exact BK686.out) hb); have n2_ := Aside0.mk (b5 (g := gb687) (o := .cells #[.int .i64 a2_0, .slice A2_1 l2_1.length c2_1] 24 (0, 0)) (by (with_reducible repeat (first | refine b0 ?_ _ | refine b1 ?_ | refine b2 ?_ _)); exact BK687.out) hb); have n3_ := Aside0.mk (b13 (by repeat (first | (with_reducible first | exact HB.out | apply b8 | apply b6 | apply b7 | refine b3 ?_ GE686.out | refine b3 ?_ GE687.out) | exact HB.out)) hb); have n4_ := Aside0.mk (hbox); have n5_ := Aside0.mk ((by rw [hg]; exact (b12 (by repeat (first | (with_reducible first | exact HB.out | apply b8 | apply b6 | apply b7 | refine b3 ?_ GE686.out | refine b3 ?_ GE687.out) | exact HB.out))) : w.heap.size ≤ gb699)); have n6_ := Aside0.mk ((by rw [hg]; exact (b12 (by repeat (first | (with_reducible first | exact HB.out | apply b8 | apply b6 | apply b7 | refine b3 ?_ GE686.out | refine b3 ?_ GE687.out) | exact HB.out))) : w.heap.size ≤ gb699)); have n7_ := Aside0.mk ((by rw [hg]; exact Nat.ne_of_lt (b10 (g := gb686) (o := .cells #[.int .i64 a1_0, .int .i64 a1_1, .int .i64 a1_2, .int .i64 a1_3] 64 (0, 0)) (by (with_reducible repeat (first | refine b0 ?_ _ | refine b1 ?_ | refine b2 ?_ _)); exact BK686.out)) : gb686 ≠ gb699)); have n8_ := Aside0.mk ((by rw [hg]; exact Nat.ne_of_gt (b10 (g := gb686) (o := .cells #[.int .i64 a1_0, .int .i64 a1_1, .int .i64 a1_2, .int .i64 a1_3] 64 (0, 0)) (by (with_reducible repeat (first | refine b0 ?_ _ | refine b1 ?_ | refine b2 ?_ _)); exact BK686.out)) : gb699 ≠ gb686)); have n9_ := Aside0.mk ((by rw [hg]; exact Nat.ne_of_lt (b10 (g := gb687) (o := .cells #[.int .i64 a2_0, .slice A2_1 l2_1.length c2_1] 24 (0, 0)) (by (with_reducible repeat (first | refine b0 ?_ _ | refine b1 ?_ | refine b2 ?_ _)); exact BK687.out)) : gb687 ≠ gb699)); have n10_ := Aside0.mk ((by rw [hg]; exact Nat.ne_of_gt (b10 (g := gb687) (o := .cells #[.int .i64 a2_0, .slice A2_1 l2_1.length c2_1] 24 (0, 0)) (by (with_reducible repeat (first | refine b0 ?_ _ | refine b1 ?_ | refine b2 ?_ _)); exact BK687.out)) : gb699 ≠ gb687)); clear HO697; clear BK686; clear BK687; clear HB; have HO697 := n0_; have BK686 := n1_; have BK687 := n2_; have HB := n3_; have BK699 := n4_; have GW699 := n5_; have GE699 := n6_; have NB686_699 := n7_; have NB699_686 := n8_; have NB687_699 := n9_; have NB699_687 := n10_; clear n0_ n1_ n2_ n3_ n4_ n5_ n6_ n7_ n8_ n9_ n10_; clear hb hbox hg; have hnb20 := NB699_686.out; have hnc20 := NB686_699.out; have hnb21 := NB699_687.out; have hnc21 := NB687_699.out; have hcz22_0 : w19.cell? ⟨gb699, 0, none⟩ = some (.int .i64 0) := (b4 BK699.out 0).trans rfl; have hcz22_1 : w19.cell? ⟨gb699, 1, none⟩ = some (.slice none 0 0) := (b4 BK699.out 1).trans rfl; have hfz22_0 := b9 BK699.out 0; have hfz22_1 := b9 BK699.out 1; obtain ⟨Ao23, co23, eo23⟩ := Kd.R_slice HO697.out; subst eo23))
  (try simp only [Act.put, l1, l2, l3])
  go_cut [65] (fun v65 wc => ∃ (kq : Nat) (x65_9 : Bool), v65 = .bool x65_9 ∧ Aside0 (tensilelaw09_PlanFewest.j0 kq a3 a4 (Int.tmod (wrap64 (a0)) 31) x65_9 a1_0 a1_1 a1_2 a1_3 a2_0 l2_1 t694 t695 = some r) ∧ Aside0 (kq ≤ k) ∧ Aside0 (Kd.R k61 61 wc w.heap.size (fun _ => True) (.slice Ao23 t695.length co23) t695) ∧ Aside0 (wc.heap[gb686]? = some (.cells #[.int .i64 a1_0, .int .i64 a1_1, .int .i64 a1_2, .int .i64 a1_3] 64 (0, 0))) ∧ Aside0 (wc.heap[gb687]? = some (.cells #[.int .i64 a2_0, (.slice A2_1 l2_1.length c2_1)] 24 (0, 0))) ∧ Aside0 (wc.heap[gb699]? = some (.cells #[.int .i64 t694, (.slice Ao23 t695.length co23)] 31 (0, 0))) ∧ Aside0 (Below w.heap.size w wc))
  case first =>
   have H := HC10.out
   clear HC10
   by_cases c24 : t698 = 0
   ·
    rw [if_pos c24] at H
    have c24b0 : (t698 == 0) = true := beq_iff_eq.mpr c24
    have c24b1 : (t698 != 0) = false := bne_eq_false_iff_eq.mpr c24
    clear c24
    (first | rw [c24b0] | (simp only [i64_w, i32_w]; rw [c24b0]) | skip)
    replace H := Option.bind_eq_some_iff.mp H
    obtain ⟨⟨t700, t701⟩, A250, H⟩ := H
    replace H : ((tensileref09_Fault.f k t700 t701).bind fun t704 => (if t704 = 0 then (if (t695.length : Int) = 1 then (tensilelaw09_PlanFewest.j0 k a3 a4 (Int.tmod (wrap64 (a0)) 31) (t694 != (Int.tmod (wrap64 (a0)) 31)) a1_0 a1_1 a1_2 a1_3 a2_0 l2_1 t694 t695) else (none)) else (none))) = some r := H
    have A25 := Aside0.mk A250
    clear A250
    replace H := Option.bind_eq_some_iff.mp H
    obtain ⟨t704, A260, H⟩ := H
    replace H : (if t704 = 0 then (if (t695.length : Int) = 1 then (tensilelaw09_PlanFewest.j0 k a3 a4 (Int.tmod (wrap64 (a0)) 31) (t694 != (Int.tmod (wrap64 (a0)) 31)) a1_0 a1_1 a1_2 a1_3 a2_0 l2_1 t694 t695) else (none)) else (none)) = some r := H
    have A26 := Aside0.mk A260
    clear A260
    by_cases c27 : t704 = 0
    ·
     rw [if_pos c27] at H
     have c27b0 : (t704 == 0) = true := beq_iff_eq.mpr c27
     have c27b1 : (t704 != 0) = false := bne_eq_false_iff_eq.mpr c27
     clear c27
     by_cases c28 : (t695.length : Int) = 1
     ·
      rw [if_pos c28] at H
      have c28b0 : ((t695.length : Int) == 1) = true := beq_iff_eq.mpr c28
      have c28b1 : ((t695.length : Int) != 1) = false := bne_eq_false_iff_eq.mpr c28
      clear c28
      have H' := Aside0.mk H
      clear H
      have hnb29 := NB699_686.out
      have hnc29 := NB686_699.out
      have hnb30 := NB699_687.out
      have hnc30 := NB687_699.out
      have hcz31_0 : w19.cell? ⟨gb699, 0, none⟩ = some (.int .i64 0) := (b4 BK699.out 0).trans rfl
      have hcz31_1 : w19.cell? ⟨gb699, 1, none⟩ = some (.slice none 0 0) := (b4 BK699.out 1).trans rfl
      have hfz31_0 := b9 BK699.out 0
      have hfz31_1 := b9 BK699.out 1
      go_wp2_with (first | (go_at_call 38; (with_reducible refine (tensilelaw09_Back.calls k t694 _ _ t695 t700 t701 _ ?side1 ?side2 A25.out).mono ?_); (case side1 => refine (k9 (e := 61) (base := w.heap.size) (ok := fun k_ => True) (n := t695.length) (c := co23) ?_).2.2; exact (by (with_reducible repeat (first | apply k0 | apply k1 | apply k2)); exact (k10 (k8 (p := ⟨gb699, 1, none⟩) (k8 (p := ⟨gb699, 0, none⟩) (k11 HO697.out BK699.out (by decide)) (fun _ hk => hk.2) (.int .i64 t694)) (fun _ hk => hk.2) (.slice Ao23 t695.length co23)) (fun _ h_ => h_.1)))); (case side2 => exact (k9 HO697.out).2.1); rintro e w32 ⟨v702, rfl, ho0, hb⟩; have n0_ := Aside0.mk (k3 (by (with_reducible repeat (first | apply k0 | apply k1 | apply k2)); exact (k10 (k8 (p := ⟨gb699, 1, none⟩) (k8 (p := ⟨gb699, 0, none⟩) (k11 HO697.out BK699.out (by decide)) (fun _ hk => hk.2) (.int .i64 t694)) (fun _ hk => hk.2) (.slice Ao23 t695.length co23)) (fun _ h_ => h_.1))) hb); have n1_ := Aside0.mk (k12 ho0 (b12 (by repeat (first | (with_reducible first | exact HB.out | apply b8 | apply b6 | apply b7 | refine b3 ?_ GE686.out | refine b3 ?_ GE687.out | refine b3 ?_ GE699.out) | exact HB.out)))); have n2_ := Aside0.mk (b5 (g := gb686) (o := .cells #[.int .i64 a1_0, .int .i64 a1_1, .int .i64 a1_2, .int .i64 a1_3] 64 (0, 0)) (by (with_reducible repeat (first | refine b0 ?_ _ | refine b1 ?_ | refine b2 ?_ _)); refine b11 ?_ NB686_699.out _; (with_reducible repeat (first | refine b0 ?_ _ | refine b1 ?_ | refine b2 ?_ _)); refine b11 ?_ NB686_699.out _; (with_reducible repeat (first | refine b0 ?_ _ | refine b1 ?_ | refine b2 ?_ _)); exact BK686.out) hb); have n3_ := Aside0.mk (b5 (g := gb687) (o := .cells #[.int .i64 a2_0, .slice A2_1 l2_1.length c2_1] 24 (0, 0)) (by (with_reducible repeat (first | refine b0 ?_ _ | refine b1 ?_ | refine b2 ?_ _)); refine b11 ?_ NB687_699.out _; (with_reducible repeat (first | refine b0 ?_ _ | refine b1 ?_ | refine b2 ?_ _)); refine b11 ?_ NB687_699.out _; (with_reducible repeat (first | refine b0 ?_ _ | refine b1 ?_ | refine b2 ?_ _)); exact BK687.out) hb); have n4_ := Aside0.mk (b5 (g := gb699) (o := .cells #[.int .i64 t694, .slice Ao23 t695.length co23] 31 (0, 0)) (by (with_reducible repeat (first | refine b0 ?_ _ | refine b1 ?_ | refine b2 ?_ _)); refine blk_put (cs := #[.int .i64 t694, .slice none 0 0]) ?_ 1 _ rfl; (with_reducible repeat (first | refine b0 ?_ _ | refine b1 ?_ | refine b2 ?_ _)); refine blk_put (cs := #[.int .i64 0, .slice none 0 0]) ?_ 0 _ rfl; (with_reducible repeat (first | refine b0 ?_ _ | refine b1 ?_ | refine b2 ?_ _)); exact BK699.out) hb); have n5_ := Aside0.mk (b13 (by repeat (first | (with_reducible first | exact HB.out | apply b8 | apply b6 | apply b7 | refine b3 ?_ GE686.out | refine b3 ?_ GE687.out | refine b3 ?_ GE699.out) | exact HB.out)) hb); clear HO697; clear BK686; clear BK687; clear BK699; clear HB; have HO697 := n0_; have HO703 := n1_; have BK686 := n2_; have BK687 := n3_; have BK699 := n4_; have HB := n5_; clear n0_ n1_ n2_ n3_ n4_ n5_; (try clear hb); (try clear hb2); (try clear hk); (try clear hi); (try clear ho0); obtain ⟨Ao33, co33, eo33⟩ := Kd.R_slice HO703.out; subst eo33) | (go_at_call 37; (with_reducible refine (tensileref09_Fault.calls k t700 _ _ t701 t704 _ ?side1 ?side2 A26.out).mono ?_); (case side1 => repeat (first | exact (k9 HO703.out).2.2 | (with_reducible refine k13 ?_ _) | (with_reducible refine k14 ?_ _) | (with_reducible refine k15 ?_))); (case side2 => exact (k9 HO703.out).2.1); rintro e w34 ⟨rfl, hb⟩; have n0_ := Aside0.mk (k3 (by (with_reducible repeat (first | apply k0 | apply k1 | apply k2)); exact HO697.out) hb); have n1_ := Aside0.mk (k3 (by (with_reducible repeat (first | apply k0 | apply k1 | apply k2)); exact HO703.out) hb); have n2_ := Aside0.mk (b5 (g := gb686) (o := .cells #[.int .i64 a1_0, .int .i64 a1_1, .int .i64 a1_2, .int .i64 a1_3] 64 (0, 0)) (by (with_reducible repeat (first | refine b0 ?_ _ | refine b1 ?_ | refine b2 ?_ _)); exact BK686.out) hb); have n3_ := Aside0.mk (b5 (g := gb687) (o := .cells #[.int .i64 a2_0, .slice A2_1 l2_1.length c2_1] 24 (0, 0)) (by (with_reducible repeat (first | refine b0 ?_ _ | refine b1 ?_ | refine b2 ?_ _)); exact BK687.out) hb); have n4_ := Aside0.mk (b5 (g := gb699) (o := .cells #[.int .i64 t694, .slice Ao23 t695.length co23] 31 (0, 0)) (by (with_reducible repeat (first | refine b0 ?_ _ | refine b1 ?_ | refine b2 ?_ _)); exact BK699.out) hb); have n5_ := Aside0.mk (b13 (by repeat (first | (with_reducible first | exact HB.out | apply b8 | apply b6 | apply b7 | refine b3 ?_ GE686.out | refine b3 ?_ GE687.out | refine b3 ?_ GE699.out) | exact HB.out)) hb); clear HO697; clear HO703; clear BK686; clear BK687; clear BK699; clear HB; have HO697 := n0_; have HO703 := n1_; have BK686 := n2_; have BK687 := n3_; have BK699 := n4_; have HB := n5_; clear n0_ n1_ n2_ n3_ n4_ n5_; (try clear hb); (try clear hb2); (try clear hk); (try clear hi); have hcz35_0 : w34.cell? ⟨gb699, 0, none⟩ = some (.int .i64 t694) := (b4 BK699.out 0).trans rfl; have hcz35_1 : w34.cell? ⟨gb699, 1, none⟩ = some (.slice Ao23 t695.length co23) := (b4 BK699.out 1).trans rfl; have hfz35_0 := b9 BK699.out 0; have hfz35_1 := b9 BK699.out 1))
      go_meet
      case rel => exact ⟨_, ((t694 != (Int.tmod (wrap64 (a0)) 31))), (by first | rfl | (simp; done) | (simp [*]; done)), H', ⟨by first | omega | exact Nat.le_refl _⟩, ⟨by (with_reducible repeat (first | apply k0 | apply k1 | apply k2)); exact HO697.out⟩, ⟨by (with_reducible repeat (first | refine b0 ?_ _ | refine b1 ?_ | refine b2 ?_ _)); exact BK686.out⟩, ⟨by (with_reducible repeat (first | refine b0 ?_ _ | refine b1 ?_ | refine b2 ?_ _)); exact BK687.out⟩, ⟨by (with_reducible repeat (first | refine b0 ?_ _ | refine b1 ?_ | refine b2 ?_ _)); exact BK699.out⟩, ⟨by repeat (first | (with_reducible first | exact HB.out | apply b8 | apply b6 | apply b7 | refine b3 ?_ GE686.out | refine b3 ?_ GE687.out | refine b3 ?_ GE699.out) | exact HB.out)⟩⟩
     ·
      rw [if_neg c28] at H
      exact absurd H (by simp)
    ·
     rw [if_neg c27] at H
     exact absurd H (by simp)
   ·
    rw [if_neg c24] at H
    exact absurd H (by simp)
  case rest =>
   clear HC10
   try clear c1
   try clear c2
   try clear p2
   try clear c3
   try clear p6
   try clear c7
   try clear c7b0
   try clear c7b1
   try clear c13
   try clear c20
   try clear c21
   try clear c24
   try clear c24b0
   try clear c24b1
   try clear c27
   try clear c27b0
   try clear c27b1
   try clear c28
   try clear c28b0
   try clear c28b1
   try clear c29
   try clear c30
   try clear c32
   try clear c33
   try clear hcz14_0
   try clear hcz14_1
   try clear hcz14_2
   try clear hcz14_3
   try clear hcz16_0
   try clear hcz16_1
   try clear hcz16_2
   try clear hcz16_3
   try clear hcz22_0
   try clear hcz22_1
   try clear hcz31_0
   try clear hcz31_1
   try clear hcz35_0
   try clear hcz35_1
   try clear hfz14_0
   try clear hfz14_1
   try clear hfz14_2
   try clear hfz14_3
   try clear hfz16_0
   try clear hfz16_1
   try clear hfz16_2
   try clear hfz16_3
   try clear hfz22_0
   try clear hfz22_1
   try clear hfz31_0
   try clear hfz31_1
   try clear hfz35_0
   try clear hfz35_1
   obtain ⟨kq, x65_9, rfl, HA, HJ9, HO_700001, BK686, BK687, BK699, HB⟩ := hcut
   cases kq with
   | zero => exact absurd HA.out (by simp [tensilelaw09_PlanFewest.j0])
   | succ kj9 =>
    have H := HA.out
    clear HA
    simp only [tensilelaw09_PlanFewest.j0] at H
    by_cases c36 : x65_9 = true
    ·
     subst c36
     have H1 : (none) = some r := by rw [if_pos rfl] at H; exact H
     clear H
     have H := H1
     clear H1
     exact absurd H (by simp)
    ·
     as_aux_lemma =>
     replace c36 := Bool.eq_false_iff.mpr c36
     subst c36
     have H1 : ((tensilelaw09_Demand.f a1_0 a1_1 a1_2 a1_3).bind fun bt705 => ((plan_Keeps.f t694 t695 bt705.1 bt705.2.1 bt705.2.2.1 bt705.2.2.2).bind fun bt709 => (if bt709.2 = 0 then (tensilelaw09_PlanFewest.j1 kj9 a3 a4 (Int.tmod (wrap64 (a0)) 31) (!bt709.1) a1_0 a1_1 a1_2 a1_3 a2_0 l2_1 t694 t695) else (none)))) = some r := by rw [if_neg (show ¬ (false = true) by decide)] at H; exact H
     clear H
     have H := H1
     clear H1
     replace H := Option.bind_eq_some_iff.mp H
     obtain ⟨⟨t705, t706, t707, t708⟩, A370, H⟩ := H
     replace H : ((plan_Keeps.f t694 t695 t705 t706 t707 t708).bind fun bt709 => (if bt709.2 = 0 then (tensilelaw09_PlanFewest.j1 kj9 a3 a4 (Int.tmod (wrap64 (a0)) 31) (!bt709.1) a1_0 a1_1 a1_2 a1_3 a2_0 l2_1 t694 t695) else (none))) = some r := H
     have A37 := Aside0.mk A370
     clear A370
     replace H := Option.bind_eq_some_iff.mp H
     obtain ⟨⟨t709, t710⟩, A380, H⟩ := H
     replace H : (if t710 = 0 then (tensilelaw09_PlanFewest.j1 kj9 a3 a4 (Int.tmod (wrap64 (a0)) 31) (!t709) a1_0 a1_1 a1_2 a1_3 a2_0 l2_1 t694 t695) else (none)) = some r := H
     have A38 := Aside0.mk A380
     clear A380
     have HC39 := Aside0.mk H
     clear H
     try go_wp2
     have n0_ := Aside0.mk (k2 HO_700001.out)
     have n1_ := Aside0.mk (b1 BK686.out)
     have n2_ := Aside0.mk (b1 BK687.out)
     have n3_ := Aside0.mk (b1 BK699.out)
     have n4_ := Aside0.mk (b7 HB.out)
     clear HO_700001
     clear BK686
     clear BK687
     clear BK699
     clear HB
     have HO_700001 := n0_
     have BK686 := n1_
     have BK687 := n2_
     have BK699 := n3_
     have HB := n4_
     clear n0_ n1_ n2_ n3_ n4_
     refine start_ (n := 9) (S := fun w' => w'.cell? ⟨gb699, 0, none⟩ = some (.int .i64 t694) ∧ w'.cell? ⟨gb699, 1, none⟩ = some (.slice Ao23 t695.length co23) ∧ w'.cell? ⟨gb686, 0, none⟩ = some (.int .i64 a1_0) ∧ w'.cell? ⟨gb686, 1, none⟩ = some (.int .i64 a1_1) ∧ w'.cell? ⟨gb686, 2, none⟩ = some (.int .i64 a1_2) ∧ w'.cell? ⟨gb686, 3, none⟩ = some (.int .i64 a1_3)) (ds := []) #[ff,ff,ff,ff,ff,ff,ff,ff,ff] (by kernel_rfl) rfl rfl ⟨(b4 BK699.out 0).trans rfl, (b4 BK699.out 1).trans rfl, (b4 BK686.out 0).trans rfl, (b4 BK686.out 1).trans rfl, (b4 BK686.out 2).trans rfl, (b4 BK686.out 3).trans rfl⟩ (fun hHeld => ?_); refine with_tabW tensilelaw09_PlanFewest.tab7 tensilelaw09_PlanFewest.bits7 (fun HT_ HW_ => ?_)
     generalize wc.drew = w40 at HO_700001 BK686 BK687 BK699 HB hHeld ⊢
     refine take_ (i := 0) (N := some 67) (v := ?_) (a' := ?_) #[tt,ff,ff,ff,ff,ff,ff,ff,ff] rfl rfl (take_ofW HT_.out HW_.out (by kernel_rfl)) (fun _ _ _ h => h) (Or.inl ⟨by rfl, ?_⟩) hHeld ?_ ?_
     rotate_left
     ·
      rintro w' ⟨s0, s1, s2, s3, s4, s5⟩
      go_simp
      with_reducible rfl
     rotate_left
     ·
      simp only [Act.put, l1, l2, l3, i64_w, i32_w]
      rfl
     refine take_ (i := 1) (N := some 68) (v := ?_) (a' := ?_) #[tt,tt,ff,ff,ff,ff,ff,ff,ff] rfl rfl (take_ofW HT_.out HW_.out (by kernel_rfl)) (fun _ _ _ h => h) (Or.inl ⟨by rfl, ?_⟩) hHeld ?_ ?_
     rotate_left
     ·
      rintro w' ⟨s0, s1, s2, s3, s4, s5⟩
      go_simp
      with_reducible rfl
     rotate_left
     ·
      simp only [Act.put, l1, l2, l3, i64_w, i32_w]
      rfl
     refine one_ (i := 2) (N := some 69) #[tt,tt,tt,ff,ff,ff,ff,ff,ff] rfl rfl (one_of HT_.out (by kernel_rfl)) (by decide) (fun K hK => ?_)
     refine goes_ Try.func32 (by kernel_rfl) rfl #[.agg #[.int .i64 a1_0, .int .i64 a1_1, .int .i64 a1_2, .int .i64 a1_3]] (by rfl) rfl rfl (by (try simp only [List.map_toArray, List.map_cons, List.map_nil]); first | done | rfl | (simp only [List.length_drop, List.length_take]; rfl)) ?_
     with_reducible refine (tensilelaw09_Demand.calls a1_0 a1_1 a1_2 a1_3 t705 t706 t707 t708 _ A37.out).mono ?_
     rintro e w41 ⟨rfl, hb⟩
     refine ⟨_, rfl, ?_⟩
     have n0_ := Aside0.mk (k3 (by (with_reducible repeat (first | apply k0 | apply k1 | apply k2)); exact HO_700001.out) hb)
     have n1_ := Aside0.mk (b5 (g := gb686) (o := .cells #[.int .i64 a1_0, .int .i64 a1_1, .int .i64 a1_2, .int .i64 a1_3] 64 (0, 0)) (by (with_reducible repeat (first | refine b0 ?_ _ | refine b1 ?_ | refine b2 ?_ _)); exact BK686.out) hb)
     have n2_ := Aside0.mk (b5 (g := gb687) (o := .cells #[.int .i64 a2_0, .slice A2_1 l2_1.length c2_1] 24 (0, 0)) (by (with_reducible repeat (first | refine b0 ?_ _ | refine b1 ?_ | refine b2 ?_ _)); exact BK687.out) hb)
     have n3_ := Aside0.mk (b5 (g := gb699) (o := .cells #[.int .i64 t694, .slice Ao23 t695.length co23] 31 (0, 0)) (by (with_reducible repeat (first | refine b0 ?_ _ | refine b1 ?_ | refine b2 ?_ _)); exact BK699.out) hb)
     have n4_ := Aside0.mk (b13 (by repeat (first | (with_reducible first | exact HB.out | apply b8 | apply b6 | apply b7 | refine b3 ?_ GE686.out | refine b3 ?_ GE687.out | refine b3 ?_ GE699.out) | exact HB.out)) hb)
     clear HO_700001
     clear BK686
     clear BK687
     clear BK699
     clear HB
     have HO_700001 := n0_
     have BK686 := n1_
     have BK687 := n2_
     have BK699 := n3_
     have HB := n4_
     clear n0_ n1_ n2_ n3_ n4_
     (try clear hb)
     (try clear hb2)
     (try clear hk)
     (try clear hi)
     refine hK.out _ _ ⟨(b4 BK699.out 0).trans rfl, (b4 BK699.out 1).trans rfl, (b4 BK686.out 0).trans rfl, (b4 BK686.out 1).trans rfl, (b4 BK686.out 2).trans rfl, (b4 BK686.out 3).trans rfl⟩ (fun hHeld => ?_)
     clear hK K
     refine norm_ (a' := ?_) ?_ ?_
     rotate_left
     ·
      show Act.put _ (some 69) _ = _
      simp only [Act.put, l1, l2, l3, i64_w, i32_w]
      rfl
     refine one_ (i := 3) (N := some 70) #[tt,tt,tt,tt,ff,ff,ff,ff,ff] rfl rfl (one_of HT_.out (by kernel_rfl)) (by decide) (fun K hK => ?_)
     refine goes_ Try.func31 (by kernel_rfl) rfl #[.agg #[.int .i64 t694, .slice Ao23 t695.length co23], .agg #[.int .i64 t705, .int .i64 t706, .int .i64 t707, .int .i64 t708]] (by rfl) rfl rfl (by (try simp only [List.map_toArray, List.map_cons, List.map_nil]); first | done | rfl | (simp only [List.length_drop, List.length_take]; rfl)) ?_
     with_reducible refine (plan_Keeps.calls t694 _ _ t695 t705 t706 t707 t708 t709 t710 _ ?side1 ?side2 A38.out).mono ?_
     (case side1 => repeat (first | exact (k9 HO_700001.out).2.2 | (with_reducible refine k13 ?_ _) | (with_reducible refine k14 ?_ _) | (with_reducible refine k15 ?_)))
     (case side2 => exact (k9 HO_700001.out).2.1)
     rintro e w42 ⟨rfl, hb⟩
     refine ⟨_, rfl, ?_⟩
     have n0_ := Aside0.mk (k3 (by (with_reducible repeat (first | apply k0 | apply k1 | apply k2)); exact HO_700001.out) hb)
     have n1_ := Aside0.mk (b5 (g := gb686) (o := .cells #[.int .i64 a1_0, .int .i64 a1_1, .int .i64 a1_2, .int .i64 a1_3] 64 (0, 0)) (by (with_reducible repeat (first | refine b0 ?_ _ | refine b1 ?_ | refine b2 ?_ _)); exact BK686.out) hb)
     have n2_ := Aside0.mk (b5 (g := gb687) (o := .cells #[.int .i64 a2_0, .slice A2_1 l2_1.length c2_1] 24 (0, 0)) (by (with_reducible repeat (first | refine b0 ?_ _ | refine b1 ?_ | refine b2 ?_ _)); exact BK687.out) hb)
     have n3_ := Aside0.mk (b5 (g := gb699) (o := .cells #[.int .i64 t694, .slice Ao23 t695.length co23] 31 (0, 0)) (by (with_reducible repeat (first | refine b0 ?_ _ | refine b1 ?_ | refine b2 ?_ _)); exact BK699.out) hb)
     have n4_ := Aside0.mk (b13 (by repeat (first | (with_reducible first | exact HB.out | apply b8 | apply b6 | apply b7 | refine b3 ?_ GE686.out | refine b3 ?_ GE687.out | refine b3 ?_ GE699.out) | exact HB.out)) hb)
     clear HO_700001
     clear BK686
     clear BK687
     clear BK699
     clear HB
     have HO_700001 := n0_
     have BK686 := n1_
     have BK687 := n2_
     have BK699 := n3_
     have HB := n4_
     clear n0_ n1_ n2_ n3_ n4_
     (try clear hb)
     (try clear hb2)
     (try clear hk)
     (try clear hi)
     refine hK.out _ _ ⟨(b4 BK699.out 0).trans rfl, (b4 BK699.out 1).trans rfl, (b4 BK686.out 0).trans rfl, (b4 BK686.out 1).trans rfl, (b4 BK686.out 2).trans rfl, (b4 BK686.out 3).trans rfl⟩ (fun hHeld => ?_)
     clear hK K
     refine norm_ (a' := ?_) ?_ ?_
     rotate_left
     ·
      show Act.put _ (some 70) _ = _
      simp only [Act.put, l1, l2, l3, i64_w, i32_w]
      rfl
     refine pure_ (i := 4) (N := some 66) (v := ?_) (a' := ?_) #[tt,tt,tt,tt,tt,ff,ff,ff,ff] rfl rfl (any_of HT_.out (by kernel_rfl)) (fun _ _ _ h => h) (Or.inl ⟨by rfl, ?_⟩) ?_ ?_
     rotate_left
     ·
      intro w'
      go_simp
      with_reducible rfl
     rotate_left
     ·
      simp only [Act.put, l1, l2, l3, i64_w, i32_w]
      rfl
     refine pure_ (i := 5) (N := some 71) (v := ?_) (a' := ?_) #[tt,tt,tt,tt,tt,tt,ff,ff,ff] rfl rfl (any_of HT_.out (by kernel_rfl)) (fun _ _ _ h => h) (Or.inl ⟨by rfl, ?_⟩) ?_ ?_
     rotate_left
     ·
      intro w'
      go_simp
      with_reducible rfl
     rotate_left
     ·
      simp only [Act.put, l1, l2, l3, i64_w, i32_w]
      rfl
     refine pure_ (i := 6) (N := some 72) (v := ?_) (a' := ?_) #[tt,tt,tt,tt,tt,tt,tt,ff,ff] rfl rfl (any_of HT_.out (by kernel_rfl)) (fun _ _ _ h => h) (Or.inl ⟨by rfl, ?_⟩) ?_ ?_
     rotate_left
     ·
      intro w'
      go_simp
      with_reducible rfl
     rotate_left
     ·
      simp only [Act.put, l1, l2, l3, i64_w, i32_w]
      rfl
     refine pure_ (i := 7) (N := some 14) (v := ?_) (a' := ?_) #[tt,tt,tt,tt,tt,tt,tt,tt,ff] rfl rfl (any_of HT_.out (by kernel_rfl)) (fun _ _ _ h => h) (Or.inl ⟨by rfl, ?_⟩) ?_ ?_
     rotate_left
     ·
      intro w'
      go_simp
      with_reducible rfl
     rotate_left
     ·
      simp only [Act.put, l1, l2, l3, i64_w, i32_w]
      rfl
     refine pure_ (i := 8) (N := some 15) (v := ?_) (a' := ?_) #[tt,tt,tt,tt,tt,tt,tt,tt,tt] rfl rfl (any_of HT_.out (by kernel_rfl)) (fun _ _ _ h => h) (Or.inl ⟨by rfl, ?_⟩) ?_ ?_
     rotate_left
     ·
      intro w'
      go_simp
      with_reducible rfl
     rotate_left
     ·
      simp only [Act.put, l1, l2, l3, i64_w, i32_w]
      rfl
     refine done_ (done_of HT_.out (by kernel_rfl)) ?_
     go_upto_region 8 with (fail)
     go_cut [78] (fun v78 wc => ∃ (kq : Nat) (x78_38 : Bool), v78 = .bool x78_38 ∧ Aside0 (tensilelaw09_PlanFewest.j1 kq a3 a4 (Int.tmod (wrap64 (a0)) 31) x78_38 a1_0 a1_1 a1_2 a1_3 a2_0 l2_1 t694 t695 = some r) ∧ Aside0 (kq ≤ kj9) ∧ Aside0 (Kd.R k61 61 wc w.heap.size (fun _ => True) (.slice Ao23 t695.length co23) t695) ∧ Aside0 (wc.heap[gb686]? = some (.cells #[.int .i64 a1_0, .int .i64 a1_1, .int .i64 a1_2, .int .i64 a1_3] 64 (0, 0))) ∧ Aside0 (wc.heap[gb687]? = some (.cells #[.int .i64 a2_0, (.slice A2_1 l2_1.length c2_1)] 24 (0, 0))) ∧ Aside0 (wc.heap[gb699]? = some (.cells #[.int .i64 t694, (.slice Ao23 t695.length co23)] 31 (0, 0))) ∧ Aside0 (Below w.heap.size w wc))
     case first =>
      have H := HC39.out
      clear HC39
      by_cases c43 : t710 = 0
      ·
       rw [if_pos c43] at H
       have c43b0 : (t710 == 0) = true := beq_iff_eq.mpr c43
       have c43b1 : (t710 != 0) = false := bne_eq_false_iff_eq.mpr c43
       clear c43
       (first | rw [c43b0] | (simp only [i64_w, i32_w]; rw [c43b0]) | skip)
       have H' := Aside0.mk H
       clear H
       go_wp2
       go_meet
       case rel => exact ⟨_, (!t709), (by first | rfl | (simp; done) | (simp [*]; done)), H', ⟨by have := HJ9.out; first | omega | exact Nat.le_refl _⟩, ⟨by (with_reducible repeat (first | apply k0 | apply k1 | apply k2)); exact HO_700001.out⟩, ⟨by (with_reducible repeat (first | refine b0 ?_ _ | refine b1 ?_ | refine b2 ?_ _)); exact BK686.out⟩, ⟨by (with_reducible repeat (first | refine b0 ?_ _ | refine b1 ?_ | refine b2 ?_ _)); exact BK687.out⟩, ⟨by (with_reducible repeat (first | refine b0 ?_ _ | refine b1 ?_ | refine b2 ?_ _)); exact BK699.out⟩, ⟨by repeat (first | (with_reducible first | exact HB.out | apply b8 | apply b6 | apply b7 | refine b3 ?_ GE686.out | refine b3 ?_ GE687.out | refine b3 ?_ GE699.out) | exact HB.out)⟩⟩
      ·
       rw [if_neg c43] at H
       exact absurd H (by simp)
     case rest =>
      clear HC39
      try clear c1
      try clear c2
      try clear p2
      try clear c3
      try clear c4
      try clear p6
      try clear c7
      try clear c7b0
      try clear c7b1
      try clear c13
      try clear c20
      try clear c21
      try clear c24
      try clear c24b0
      try clear c24b1
      try clear c27
      try clear c27b0
      try clear c27b1
      try clear c28
      try clear c28b0
      try clear c28b1
      try clear c29
      try clear c30
      try clear c31
      try clear c32
      try clear c33
      try clear c36
      try clear c43
      try clear c43b0
      try clear c43b1
      try clear hcz14_0
      try clear hcz14_1
      try clear hcz14_2
      try clear hcz14_3
      try clear hcz16_0
      try clear hcz16_1
      try clear hcz16_2
      try clear hcz16_3
      try clear hcz22_0
      try clear hcz22_1
      try clear hcz31_0
      try clear hcz31_1
      try clear hcz35_0
      try clear hcz35_1
      try clear hfz14_0
      try clear hfz14_1
      try clear hfz14_2
      try clear hfz14_3
      try clear hfz16_0
      try clear hfz16_1
      try clear hfz16_2
      try clear hfz16_3
      try clear hfz22_0
      try clear hfz22_1
      try clear hfz31_0
      try clear hfz31_1
      try clear hfz35_0
      try clear hfz35_1
      try clear p2
      try clear p6
      obtain ⟨kq, x78_38, rfl, HA, HJ38, HO_700001, BK686, BK687, BK699, HB⟩ := hcut
      cases kq with
      | zero => exact absurd HA.out (by simp [tensilelaw09_PlanFewest.j1])
      | succ kj38 =>
       have H := HA.out
       clear HA
       simp only [tensilelaw09_PlanFewest.j1] at H
       by_cases c44 : x78_38 = true
       ·
        subst c44
        have H1 : (none) = some r := by rw [if_pos rfl] at H; exact H
        clear H
        have H := H1
        clear H1
        exact absurd H (by simp)
       ·
        as_aux_lemma =>
        replace c44 := Bool.eq_false_iff.mpr c44
        subst c44
        have H1 : (if (Int.tmod (wrap64 (a0)) 31) = 0 then (none) else (if 0 < (t695.length : Int) then (if (wrap64 (1 + (Int.tmod (wrap64 (a3)) (Int.tmod (wrap64 (a0)) 31)))) < ((rd_T61 t695 0).f0) then (if (wrap64 ((wrap64 (1 + (Int.tmod (wrap64 (a3)) (Int.tmod (wrap64 (a0)) 31)))) + 2)) = 0 then (none) else ((tensilelaw09_Demand.f a1_0 a1_1 a1_2 a1_3).bind fun bt715 => ((plan_Keeps.f (Int.tmod (wrap64 (a0)) 31) (([(⟨wrap64 (1 + (Int.tmod (wrap64 (a3)) (Int.tmod (wrap64 (a0)) 31))), wrap64 ((Int.tmod (wrap64 (a4)) (wrap64 ((wrap64 (1 + (Int.tmod (wrap64 (a3)) (Int.tmod (wrap64 (a0)) 31)))) + 2))) - 1), wrap64 ((wrap64 ((Int.tmod (wrap64 (a4)) (wrap64 ((wrap64 (1 + (Int.tmod (wrap64 (a3)) (Int.tmod (wrap64 (a0)) 31)))) + 2))) - 1)) + 1)⟩ : S61)] : List (S61))) bt715.1 bt715.2.1 bt715.2.2.1 bt715.2.2.2).bind fun bt719 => (if bt719.2 = 0 then (if bt719.1 = true then (none) else (tensilelaw09_PlanFewest.j2 kj38 (Int.tmod (wrap64 (a0)) 31) a1_0 a1_1 a1_2 a1_3 a2_0 l2_1)) else (none))))) else (tensilelaw09_PlanFewest.j2 kj38 (Int.tmod (wrap64 (a0)) 31) a1_0 a1_1 a1_2 a1_3 a2_0 l2_1)) else (none))) = some r := by rw [if_neg (show ¬ (false = true) by decide)] at H; exact H
        clear H
        have H := H1
        clear H1
        by_cases c45 : (Int.tmod (wrap64 (a0)) 31) = 0
        ·
         rw [if_pos c45] at H
         exact absurd H (by simp)
        ·
         as_aux_lemma =>
         rw [if_neg c45] at H
         have c45b0 : ((Int.tmod (wrap64 (a0)) 31) == 0) = false := beq_eq_false_iff_ne.mpr c45
         have c45b1 : ((Int.tmod (wrap64 (a0)) 31) != 0) = true := bne_iff_ne.mpr c45
         by_cases c46 : 0 < (t695.length : Int)
         ·
          as_aux_lemma =>
          rw [if_pos c46] at H
          have c46b0 : decide (0 < (t695.length : Int)) = true := decide_eq_true c46
          have c46b1 : decide (0 < t695.length) = true := decide_eq_true (by omega)
          clear c46
          have HC47 := Aside0.mk H
          clear H
          have hnb48 := NB699_686.out
          have hnc48 := NB686_699.out
          have hnb49 := NB699_687.out
          have hnc49 := NB687_699.out
          have hcz50_0 : wc.cell? ⟨gb699, 0, none⟩ = some (.int .i64 t694) := (b4 BK699.out 0).trans rfl
          have hcz50_1 : wc.cell? ⟨gb699, 1, none⟩ = some (.slice Ao23 t695.length co23) := (b4 BK699.out 1).trans rfl
          have hfz50_0 := b9 BK699.out 0
          have hfz50_1 := b9 BK699.out 1
          have p711 : 0 ≤ (0 : Int) := (by omega)
          have q711 : 0 < (t695.length : Int) := of_decide_eq_true (by first | (with_reducible assumption) | assumption)
          obtain ⟨ad711, e711, hx711_0, hx711_1, hx711_2⟩ := at_T61 (k9 HO_700001.out).2.2 0 p711 q711
          cases e711
          have qi711 : (0 < t695.length) = True := eq_true (by omega)
          (try rw [show ((0 : Int)).toNat = 0 from rfl] at hx711_0)
          (try rw [show 0 * 3 = 0 from rfl] at hx711_0)
          (try rw [Addr.add_zero'] at hx711_0)
          (try rw [show ((0 : Int)).toNat = 0 from rfl] at hx711_1)
          (try rw [show 0 * 3 = 0 from rfl] at hx711_1)
          (try rw [Addr.add_zero'] at hx711_1)
          (try rw [show ((0 : Int)).toNat = 0 from rfl] at hx711_2)
          (try rw [show 0 * 3 = 0 from rfl] at hx711_2)
          (try rw [Addr.add_zero'] at hx711_2)
          replace p711 := eq_true p711
          replace q711 := eq_true q711
          go_upto_if 90 with (fail)
          go_cut [] (fun wc => ∃ (kq : Nat), Aside0 (tensilelaw09_PlanFewest.j2 kq (Int.tmod (wrap64 (a0)) 31) a1_0 a1_1 a1_2 a1_3 a2_0 l2_1 = some r) ∧ Aside0 (kq ≤ kj38) ∧ Aside0 (Kd.R k61 61 wc w.heap.size (fun _ => True) (.slice (some ad711) t695.length co23) t695) ∧ Aside0 (wc.heap[gb686]? = some (.cells #[.int .i64 a1_0, .int .i64 a1_1, .int .i64 a1_2, .int .i64 a1_3] 64 (0, 0))) ∧ Aside0 (wc.heap[gb687]? = some (.cells #[.int .i64 a2_0, (.slice A2_1 l2_1.length c2_1)] 24 (0, 0))) ∧ Aside0 (wc.heap[gb699]? = some (.cells #[.int .i64 t694, (.slice (some ad711) t695.length co23)] 31 (0, 0))) ∧ Aside0 (Below w.heap.size w wc))
          case first =>
           have H := HC47.out
           clear HC47
           by_cases c51 : (wrap64 (1 + (Int.tmod (wrap64 (a3)) (Int.tmod (wrap64 (a0)) 31)))) < ((rd_T61 t695 0).f0)
           ·
            rw [if_pos c51] at H
            have c51b0 : decide ((wrap64 (1 + (Int.tmod (wrap64 (a3)) (Int.tmod (wrap64 (a0)) 31)))) < ((rd_T61 t695 0).f0)) = true := decide_eq_true c51
            clear c51
            (first | rw [c51b0] | (simp only [i64_w, i32_w]; rw [c51b0]) | skip)
            by_cases c52 : (wrap64 ((wrap64 (1 + (Int.tmod (wrap64 (a3)) (Int.tmod (wrap64 (a0)) 31)))) + 2)) = 0
            ·
             rw [if_pos c52] at H
             exact absurd H (by simp)
            ·
             rw [if_neg c52] at H
             have c52b0 : ((wrap64 ((wrap64 (1 + (Int.tmod (wrap64 (a3)) (Int.tmod (wrap64 (a0)) 31)))) + 2)) == 0) = false := beq_eq_false_iff_ne.mpr c52
             have c52b1 : ((wrap64 ((wrap64 (1 + (Int.tmod (wrap64 (a3)) (Int.tmod (wrap64 (a0)) 31)))) + 2)) != 0) = true := bne_iff_ne.mpr c52
             obtain ⟨y712, hy712⟩ : ∃ y_ : List (S61), y_ = (([(⟨wrap64 (1 + (Int.tmod (wrap64 (a3)) (Int.tmod (wrap64 (a0)) 31))), wrap64 ((Int.tmod (wrap64 (a4)) (wrap64 ((wrap64 (1 + (Int.tmod (wrap64 (a3)) (Int.tmod (wrap64 (a0)) 31)))) + 2))) - 1), wrap64 ((wrap64 ((Int.tmod (wrap64 (a4)) (wrap64 ((wrap64 (1 + (Int.tmod (wrap64 (a3)) (Int.tmod (wrap64 (a0)) 31)))) + 2))) - 1)) + 1)⟩ : S61)] : List (S61))) := ⟨_, rfl⟩
             replace H : ((tensilelaw09_Demand.f a1_0 a1_1 a1_2 a1_3).bind fun bt715 => ((plan_Keeps.f (Int.tmod (wrap64 (a0)) 31) y712 bt715.1 bt715.2.1 bt715.2.2.1 bt715.2.2.2).bind fun bt719 => (if bt719.2 = 0 then (if bt719.1 = true then (none) else (tensilelaw09_PlanFewest.j2 kj38 (Int.tmod (wrap64 (a0)) 31) a1_0 a1_1 a1_2 a1_3 a2_0 l2_1)) else (none)))) = some r := by first | (rw [hy712]; with_reducible exact H) | (have H2_ := (Option.bind_some _ _).symm.trans H; rw [hy712]; with_reducible exact H2_) | (have H2_ := (Option.bind_some _ _).symm.trans H; with_reducible exact H2_) | with_reducible exact H | (rw [hy712]; exact H) | exact H
             have Ny712 := Aside0.mk hy712
             clear hy712
             replace H := Option.bind_eq_some_iff.mp H
             obtain ⟨⟨t715, t716, t717, t718⟩, A530, H⟩ := H
             replace H : ((plan_Keeps.f (Int.tmod (wrap64 (a0)) 31) y712 t715 t716 t717 t718).bind fun bt719 => (if bt719.2 = 0 then (if bt719.1 = true then (none) else (tensilelaw09_PlanFewest.j2 kj38 (Int.tmod (wrap64 (a0)) 31) a1_0 a1_1 a1_2 a1_3 a2_0 l2_1)) else (none))) = some r := H
             have A53 := Aside0.mk A530
             clear A530
             replace H := Option.bind_eq_some_iff.mp H
             obtain ⟨⟨t719, t720⟩, A540, H⟩ := H
             replace H : (if t720 = 0 then (if t719 = true then (none) else (tensilelaw09_PlanFewest.j2 kj38 (Int.tmod (wrap64 (a0)) 31) a1_0 a1_1 a1_2 a1_3 a2_0 l2_1)) else (none)) = some r := H
             have A54 := Aside0.mk A540
             clear A540
             by_cases c55 : t720 = 0
             ·
              rw [if_pos c55] at H
              have c55b0 : (t720 == 0) = true := beq_iff_eq.mpr c55
              have c55b1 : (t720 != 0) = false := bne_eq_false_iff_eq.mpr c55
              clear c55
              by_cases c56 : t719 = true
              ·
               subst c56
               have H1 : (none) = some r := by rw [if_pos rfl] at H; exact H
               clear H
               have H := H1
               clear H1
               exact absurd H (by simp)
              ·
               replace c56 := Bool.eq_false_iff.mpr c56
               subst c56
               have H1 : (tensilelaw09_PlanFewest.j2 kj38 (Int.tmod (wrap64 (a0)) 31) a1_0 a1_1 a1_2 a1_3 a2_0 l2_1) = some r := by rw [if_neg (show ¬ (false = true) by decide)] at H; exact H
               clear H
               have H := H1
               clear H1
               have H' := Aside0.mk H
               clear H
               go_wp2_with (first | ((with_reducible refine gate_dst (N := 104) rfl ?_); (try (refine gate_guard (by rfl) ?_; dsimp only)); refine Kd.R_lit k61 _ 61 ?hg (N := 104) ?hd (xs := ([(⟨wrap64 (1 + (Int.tmod (wrap64 (a3)) (Int.tmod (wrap64 (a0)) 31))), wrap64 ((Int.tmod (wrap64 (a4)) (wrap64 ((wrap64 (1 + (Int.tmod (wrap64 (a3)) (Int.tmod (wrap64 (a0)) 31)))) + 2))) - 1), wrap64 ((wrap64 ((Int.tmod (wrap64 (a4)) (wrap64 ((wrap64 (1 + (Int.tmod (wrap64 (a3)) (Int.tmod (wrap64 (a0)) 31)))) + 2))) - 1)) + 1)⟩ : S61)] : List (S61))) (inner := [.int .i64 (wrap64 (1 + (Int.tmod (wrap64 (a3)) (Int.tmod (wrap64 (a0)) 31)))), .int .i64 (wrap64 ((Int.tmod (wrap64 (a4)) (wrap64 ((wrap64 (1 + (Int.tmod (wrap64 (a3)) (Int.tmod (wrap64 (a0)) 31)))) + 2))) - 1)), .int .i64 (wrap64 ((wrap64 ((Int.tmod (wrap64 (a4)) (wrap64 ((wrap64 (1 + (Int.tmod (wrap64 (a3)) (Int.tmod (wrap64 (a0)) 31)))) + 2))) - 1)) + 1))]) (ok := fun _ => True) (okp := fun _ => True) ?hr ?hp (fun _ hk => hk) trivial (Below.refl _ _) (Nat.le_refl _) (by simp) ?_; (case hd => rfl); (case hg => rfl); (case hr => first | (go_simp; done) | (go_simp; rfl)); (case hp => exact (Reps.c3 (show Kd.M k61 _ _ _ (⟨wrap64 (1 + (Int.tmod (wrap64 (a3)) (Int.tmod (wrap64 (a0)) 31))), wrap64 ((Int.tmod (wrap64 (a4)) (wrap64 ((wrap64 (1 + (Int.tmod (wrap64 (a3)) (Int.tmod (wrap64 (a0)) 31)))) + 2))) - 1), wrap64 ((wrap64 ((Int.tmod (wrap64 (a4)) (wrap64 ((wrap64 (1 + (Int.tmod (wrap64 (a3)) (Int.tmod (wrap64 (a0)) 31)))) + 2))) - 1)) + 1)⟩ : S61) [.int .i64 (wrap64 (1 + (Int.tmod (wrap64 (a3)) (Int.tmod (wrap64 (a0)) 31)))), .int .i64 (wrap64 ((Int.tmod (wrap64 (a4)) (wrap64 ((wrap64 (1 + (Int.tmod (wrap64 (a3)) (Int.tmod (wrap64 (a0)) 31)))) + 2))) - 1)), .int .i64 (wrap64 ((wrap64 ((Int.tmod (wrap64 (a4)) (wrap64 ((wrap64 (1 + (Int.tmod (wrap64 (a3)) (Int.tmod (wrap64 (a0)) 31)))) + 2))) - 1)) + 1))] from (k61_mkM _ _ _ (⟨wrap64 (1 + (Int.tmod (wrap64 (a3)) (Int.tmod (wrap64 (a0)) 31))), wrap64 ((Int.tmod (wrap64 (a4)) (wrap64 ((wrap64 (1 + (Int.tmod (wrap64 (a3)) (Int.tmod (wrap64 (a0)) 31)))) + 2))) - 1), wrap64 ((wrap64 ((Int.tmod (wrap64 (a4)) (wrap64 ((wrap64 (1 + (Int.tmod (wrap64 (a3)) (Int.tmod (wrap64 (a0)) 31)))) + 2))) - 1)) + 1)⟩ : S61) )) (Reps.none _ _))); intro v713 w57 ho58 hb hg_ hnew_; clear hg_ hnew_; (first | rw [← Ny712.out] at ho58 | (simp only [Int.reduceToNat] at ho58; rw [← Ny712.out] at ho58)); have n0_ := Aside0.mk (k6 (by (with_reducible repeat (first | apply k0 | apply k1 | apply k2)); exact HO_700001.out) (k7 ho58) hb); have n1_ := Aside0.mk (k12 (k4 ho58 (k5 (by (with_reducible repeat (first | apply k0 | apply k1 | apply k2)); exact HO_700001.out))) (b12 (by repeat (first | (with_reducible first | exact HB.out | apply b8 | apply b6 | apply b7 | refine b3 ?_ GE686.out | refine b3 ?_ GE687.out | refine b3 ?_ GE699.out) | exact HB.out)))); have n2_ := Aside0.mk (b5 (g := gb686) (o := .cells #[.int .i64 a1_0, .int .i64 a1_1, .int .i64 a1_2, .int .i64 a1_3] 64 (0, 0)) (by (with_reducible repeat (first | refine b0 ?_ _ | refine b1 ?_ | refine b2 ?_ _)); exact BK686.out) hb); have n3_ := Aside0.mk (b5 (g := gb687) (o := .cells #[.int .i64 a2_0, .slice A2_1 l2_1.length c2_1] 24 (0, 0)) (by (with_reducible repeat (first | refine b0 ?_ _ | refine b1 ?_ | refine b2 ?_ _)); exact BK687.out) hb); have n4_ := Aside0.mk (b5 (g := gb699) (o := .cells #[.int .i64 t694, .slice (some ad711) t695.length co23] 31 (0, 0)) (by (with_reducible repeat (first | refine b0 ?_ _ | refine b1 ?_ | refine b2 ?_ _)); exact BK699.out) hb); have n5_ := Aside0.mk (b13 (by repeat (first | (with_reducible first | exact HB.out | apply b8 | apply b6 | apply b7 | refine b3 ?_ GE686.out | refine b3 ?_ GE687.out | refine b3 ?_ GE699.out) | exact HB.out)) hb); clear HO_700001; clear BK686; clear BK687; clear BK699; clear HB; have HO_700001 := n0_; have HO714 := n1_; have BK686 := n2_; have BK687 := n3_; have BK699 := n4_; have HB := n5_; clear n0_ n1_ n2_ n3_ n4_ n5_; clear hb ho58; obtain ⟨Ao59, co59, eo59⟩ := Kd.R_slice HO714.out; subst eo59; have hnb60 := NB686_687.out; have hnc60 := NB687_686.out; have hnb61 := NB686_699.out; have hnc61 := NB699_686.out; have hcz62_0 : w57.cell? ⟨gb686, 0, none⟩ = some (.int .i64 a1_0) := (b4 BK686.out 0).trans rfl; have hcz62_1 : w57.cell? ⟨gb686, 1, none⟩ = some (.int .i64 a1_1) := (b4 BK686.out 1).trans rfl; have hcz62_2 : w57.cell? ⟨gb686, 2, none⟩ = some (.int .i64 a1_2) := (b4 BK686.out 2).trans rfl; have hcz62_3 : w57.cell? ⟨gb686, 3, none⟩ = some (.int .i64 a1_3) := (b4 BK686.out 3).trans rfl; have hfz62_0 := b9 BK686.out 0; have hfz62_1 := b9 BK686.out 1; have hfz62_2 := b9 BK686.out 2; have hfz62_3 := b9 BK686.out 3) | ((with_reducible refine gate_callee (f := 32) rfl ?_); refine goesL_ (some 107) rfl rfl Try.func32 (by kernel_rfl) rfl #[.agg #[.int .i64 a1_0, .int .i64 a1_1, .int .i64 a1_2, .int .i64 a1_3]] rfl (by (try simp only [List.map_toArray, List.map_cons, List.map_nil]); first | done | rfl | (simp only [List.length_drop, List.length_take]; rfl)) ?_; (with_reducible refine (tensilelaw09_Demand.calls a1_0 a1_1 a1_2 a1_3 t715 t716 t717 t718 _ A53.out).mono ?_); rintro e w63 ⟨rfl, hb⟩; refine ⟨_, rfl, ?_⟩; have n0_ := Aside0.mk (k3 (by (with_reducible repeat (first | apply k0 | apply k1 | apply k2)); exact HO_700001.out) hb); have n1_ := Aside0.mk (k3 (by (with_reducible repeat (first | apply k0 | apply k1 | apply k2)); exact HO714.out) hb); have n2_ := Aside0.mk (b5 (g := gb686) (o := .cells #[.int .i64 a1_0, .int .i64 a1_1, .int .i64 a1_2, .int .i64 a1_3] 64 (0, 0)) (by (with_reducible repeat (first | refine b0 ?_ _ | refine b1 ?_ | refine b2 ?_ _)); exact BK686.out) hb); have n3_ := Aside0.mk (b5 (g := gb687) (o := .cells #[.int .i64 a2_0, .slice A2_1 l2_1.length c2_1] 24 (0, 0)) (by (with_reducible repeat (first | refine b0 ?_ _ | refine b1 ?_ | refine b2 ?_ _)); exact BK687.out) hb); have n4_ := Aside0.mk (b5 (g := gb699) (o := .cells #[.int .i64 t694, .slice (some ad711) t695.length co23] 31 (0, 0)) (by (with_reducible repeat (first | refine b0 ?_ _ | refine b1 ?_ | refine b2 ?_ _)); exact BK699.out) hb); have n5_ := Aside0.mk (b13 (by repeat (first | (with_reducible first | exact HB.out | apply b8 | apply b6 | apply b7 | refine b3 ?_ GE686.out | refine b3 ?_ GE687.out | refine b3 ?_ GE699.out) | exact HB.out)) hb); clear HO_700001; clear HO714; clear BK686; clear BK687; clear BK699; clear HB; have HO_700001 := n0_; have HO714 := n1_; have BK686 := n2_; have BK687 := n3_; have BK699 := n4_; have HB := n5_; clear n0_ n1_ n2_ n3_ n4_ n5_; (try clear hb); (try clear hb2); (try clear hk); (try clear hi)) | ((with_reducible refine gate_callee (f := 31) rfl ?_); refine goesL_ (some 108) rfl rfl Try.func31 (by kernel_rfl) rfl #[.agg #[.int .i64 (Int.tmod (wrap64 (a0)) 31), .slice Ao59 y712.length co59], .agg #[.int .i64 t715, .int .i64 t716, .int .i64 t717, .int .i64 t718]] rfl (by (try simp only [List.map_toArray, List.map_cons, List.map_nil]); first | done | rfl | (simp only [List.length_drop, List.length_take]; rfl)) ?_; (with_reducible refine (plan_Keeps.calls (Int.tmod (wrap64 (a0)) 31) _ _ y712 t715 t716 t717 t718 false t720 _ ?side1 ?side2 A54.out).mono ?_); (case side1 => repeat (first | exact (k9 HO714.out).2.2 | (with_reducible refine k13 ?_ _) | (with_reducible refine k14 ?_ _) | (with_reducible refine k15 ?_))); (case side2 => exact (k9 HO714.out).2.1); rintro e w64 ⟨rfl, hb⟩; refine ⟨_, rfl, ?_⟩; have n0_ := Aside0.mk (k3 (by (with_reducible repeat (first | apply k0 | apply k1 | apply k2)); exact HO_700001.out) hb); have n1_ := Aside0.mk (k3 (by (with_reducible repeat (first | apply k0 | apply k1 | apply k2)); exact HO714.out) hb); have n2_ := Aside0.mk (b5 (g := gb686) (o := .cells #[.int .i64 a1_0, .int .i64 a1_1, .int .i64 a1_2, .int .i64 a1_3] 64 (0, 0)) (by (with_reducible repeat (first | refine b0 ?_ _ | refine b1 ?_ | refine b2 ?_ _)); exact BK686.out) hb); have n3_ := Aside0.mk (b5 (g := gb687) (o := .cells #[.int .i64 a2_0, .slice A2_1 l2_1.length c2_1] 24 (0, 0)) (by (with_reducible repeat (first | refine b0 ?_ _ | refine b1 ?_ | refine b2 ?_ _)); exact BK687.out) hb); have n4_ := Aside0.mk (b5 (g := gb699) (o := .cells #[.int .i64 t694, .slice (some ad711) t695.length co23] 31 (0, 0)) (by (with_reducible repeat (first | refine b0 ?_ _ | refine b1 ?_ | refine b2 ?_ _)); exact BK699.out) hb); have n5_ := Aside0.mk (b13 (by repeat (first | (with_reducible first | exact HB.out | apply b8 | apply b6 | apply b7 | refine b3 ?_ GE686.out | refine b3 ?_ GE687.out | refine b3 ?_ GE699.out) | exact HB.out)) hb); clear HO_700001; clear HO714; clear BK686; clear BK687; clear BK699; clear HB; have HO_700001 := n0_; have HO714 := n1_; have BK686 := n2_; have BK687 := n3_; have BK699 := n4_; have HB := n5_; clear n0_ n1_ n2_ n3_ n4_ n5_; (try clear hb); (try clear hb2); (try clear hk); (try clear hi)))
               go_meet
               case rel => exact ⟨_, H', ⟨by have := HJ9.out; have := HJ38.out; first | omega | exact Nat.le_refl _⟩, ⟨by (with_reducible repeat (first | apply k0 | apply k1 | apply k2)); exact k10 HO_700001.out (fun _ hk => trivial)⟩, ⟨by (with_reducible repeat (first | refine b0 ?_ _ | refine b1 ?_ | refine b2 ?_ _)); exact BK686.out⟩, ⟨by (with_reducible repeat (first | refine b0 ?_ _ | refine b1 ?_ | refine b2 ?_ _)); exact BK687.out⟩, ⟨by (with_reducible repeat (first | refine b0 ?_ _ | refine b1 ?_ | refine b2 ?_ _)); exact BK699.out⟩, ⟨by repeat (first | (with_reducible first | exact HB.out | apply b8 | apply b6 | apply b7 | refine b3 ?_ GE686.out | refine b3 ?_ GE687.out | refine b3 ?_ GE699.out) | exact HB.out)⟩⟩
             ·
              rw [if_neg c55] at H
              exact absurd H (by simp)
           ·
            rw [if_neg c51] at H
            have c51b0 : decide ((wrap64 (1 + (Int.tmod (wrap64 (a3)) (Int.tmod (wrap64 (a0)) 31)))) < ((rd_T61 t695 0).f0)) = false := decide_eq_false c51
            clear c51
            (first | rw [c51b0] | (simp only [i64_w, i32_w]; rw [c51b0]) | skip)
            have H' := Aside0.mk H
            clear H
            go_wp2
            go_meet
            case rel => exact ⟨_, H', ⟨by have := HJ9.out; have := HJ38.out; first | omega | exact Nat.le_refl _⟩, ⟨by (with_reducible repeat (first | apply k0 | apply k1 | apply k2)); exact HO_700001.out⟩, ⟨by (with_reducible repeat (first | refine b0 ?_ _ | refine b1 ?_ | refine b2 ?_ _)); exact BK686.out⟩, ⟨by (with_reducible repeat (first | refine b0 ?_ _ | refine b1 ?_ | refine b2 ?_ _)); exact BK687.out⟩, ⟨by (with_reducible repeat (first | refine b0 ?_ _ | refine b1 ?_ | refine b2 ?_ _)); exact BK699.out⟩, ⟨by repeat (first | (with_reducible first | exact HB.out | apply b8 | apply b6 | apply b7 | refine b3 ?_ GE686.out | refine b3 ?_ GE687.out | refine b3 ?_ GE699.out) | exact HB.out)⟩⟩
          case rest =>
           clear HC47
           try clear c1
           try clear c2
           try clear p2
           try clear c3
           try clear c4
           try clear c5
           try clear c6
           try clear p6
           try clear c7
           try clear c7b0
           try clear c7b1
           try clear p7
           try clear q7
           try clear hx7
           try clear qi7
           try clear c13
           try clear c20
           try clear c21
           try clear c24
           try clear c24b0
           try clear c24b1
           try clear c27
           try clear c27b0
           try clear c27b1
           try clear c28
           try clear c28b0
           try clear c28b1
           try clear c29
           try clear c30
           try clear c31
           try clear c32
           try clear c33
           try clear c36
           try clear c43
           try clear c43b0
           try clear c43b1
           try clear c44
           try clear c45
           try clear c45b0
           try clear c45b1
           try clear c46
           try clear c46b0
           try clear c46b1
           try clear c48
           try clear c49
           try clear c51
           try clear c51b0
           try clear c52
           try clear c52b0
           try clear c52b1
           try clear c55
           try clear c55b0
           try clear c55b1
           try clear c56
           try clear c60
           try clear c61
           try clear p64
           try clear hcz14_0
           try clear hcz14_1
           try clear hcz14_2
           try clear hcz14_3
           try clear hcz16_0
           try clear hcz16_1
           try clear hcz16_2
           try clear hcz16_3
           try clear hcz22_0
           try clear hcz22_1
           try clear hcz31_0
           try clear hcz31_1
           try clear hcz35_0
           try clear hcz35_1
           try clear hcz50_0
           try clear hcz50_1
           try clear hcz62_0
           try clear hcz62_1
           try clear hcz62_2
           try clear hcz62_3
           try clear hfz14_0
           try clear hfz14_1
           try clear hfz14_2
           try clear hfz14_3
           try clear hfz16_0
           try clear hfz16_1
           try clear hfz16_2
           try clear hfz16_3
           try clear hfz22_0
           try clear hfz22_1
           try clear hfz31_0
           try clear hfz31_1
           try clear hfz35_0
           try clear hfz35_1
           try clear hfz50_0
           try clear hfz50_1
           try clear hfz62_0
           try clear hfz62_1
           try clear hfz62_2
           try clear hfz62_3
           try clear hx711_0
           try clear hx711_1
           try clear hx711_2
           try clear p2
           try clear p6
           try clear p711
           try clear q711
           obtain ⟨kq, HA, HJ46, HO_700001, BK686, BK687, BK699, HB⟩ := hcut
           cases kq with
           | zero => exact absurd HA.out (by simp [tensilelaw09_PlanFewest.j2])
           | succ kj46 =>
            have H := HA.out
            clear HA
            simp only [tensilelaw09_PlanFewest.j2] at H
            by_cases c65 : (Int.tmod (wrap64 (a0)) 31) > 7
            ·
             rw [if_pos c65] at H
             have c65b0 : decide (7 < (Int.tmod (wrap64 (a0)) 31)) = true := decide_eq_true c65
             clear c65
             replace H := Option.bind_eq_some_iff.mp H
             obtain ⟨t721, A660, H⟩ := H
             replace H : (some t721) = some r := H
             have A66 := Aside0.mk A660
             clear A660
             obtain rfl := Option.some.inj H
             go_wp2_with (first | ((with_reducible refine gate_callee (f := 15) rfl ?_); refine goesL_ (some 118) rfl rfl Try.func15 (by kernel_rfl) rfl #[] rfl (by (try simp only [List.map_toArray, List.map_cons, List.map_nil]); first | done | rfl | (simp only [List.length_drop, List.length_take]; rfl)) ?_; (with_reducible refine (tensilelaw09_wakes.calls  t721 _ A66.out).mono ?_); rintro e w67 ⟨rfl, hb⟩; refine ⟨_, rfl, ?_⟩; have n0_ := Aside0.mk (k3 (by (with_reducible repeat (first | apply k0 | apply k1 | apply k2)); exact HO_700001.out) hb); have n1_ := Aside0.mk (b5 (g := gb686) (o := .cells #[.int .i64 a1_0, .int .i64 a1_1, .int .i64 a1_2, .int .i64 a1_3] 64 (0, 0)) (by (with_reducible repeat (first | refine b0 ?_ _ | refine b1 ?_ | refine b2 ?_ _)); exact BK686.out) hb); have n2_ := Aside0.mk (b5 (g := gb687) (o := .cells #[.int .i64 a2_0, .slice A2_1 l2_1.length c2_1] 24 (0, 0)) (by (with_reducible repeat (first | refine b0 ?_ _ | refine b1 ?_ | refine b2 ?_ _)); exact BK687.out) hb); have n3_ := Aside0.mk (b5 (g := gb699) (o := .cells #[.int .i64 t694, .slice (some ad711) t695.length co23] 31 (0, 0)) (by (with_reducible repeat (first | refine b0 ?_ _ | refine b1 ?_ | refine b2 ?_ _)); exact BK699.out) hb); have n4_ := Aside0.mk (b13 (by repeat (first | (with_reducible first | exact HB.out | apply b8 | apply b6 | apply b7 | refine b3 ?_ GE686.out | refine b3 ?_ GE687.out | refine b3 ?_ GE699.out) | exact HB.out)) hb); clear HO_700001; clear BK686; clear BK687; clear BK699; clear HB; have HO_700001 := n0_; have BK686 := n1_; have BK687 := n2_; have BK699 := n3_; have HB := n4_; clear n0_ n1_ n2_ n3_ n4_; (try clear hb); (try clear hb2); (try clear hk); (try clear hi)))
             go_ret
             exact ⟨by first | rfl | (simp [errW_none, errW_some] <;> rfl) | (simp [*, errW_none, errW_some] <;> rfl), by repeat (first | (with_reducible first | exact HB.out | apply b8 | apply b6 | apply b7 | refine b3 ?_ GE686.out | refine b3 ?_ GE687.out | refine b3 ?_ GE699.out) | exact HB.out)⟩
            ·
             as_aux_lemma =>
             rw [if_neg c65] at H
             have c65b0 : decide (7 < (Int.tmod (wrap64 (a0)) 31)) = false := decide_eq_false c65
             clear c65
             replace H := Option.bind_eq_some_iff.mp H
             obtain ⟨⟨t722, t723, t724, t725⟩, A680, H⟩ := H
             replace H : ((plan_Double.f (Int.tmod (wrap64 (a0)) 31) t722 t723 t724 t725).bind fun bt726 => ((tensilelaw09_ready.f kj46 a2_0 l2_1).bind fun t732 => (if t732 = true then (if a2_0 = (Int.tmod (wrap64 (a0)) 31) then (tensilelaw09_PlanFewest.j3 kj46 (Int.tmod (wrap64 (a0)) 31) bt726.2.2 ((l2_1.length : Int) == 2) a1_0 a1_1 a1_2 a1_3 a2_0 l2_1 bt726.1 bt726.2.1) else (tensilelaw09_PlanFewest.j3 kj46 (Int.tmod (wrap64 (a0)) 31) bt726.2.2 false a1_0 a1_1 a1_2 a1_3 a2_0 l2_1 bt726.1 bt726.2.1)) else (tensilelaw09_PlanFewest.j3 kj46 (Int.tmod (wrap64 (a0)) 31) bt726.2.2 false a1_0 a1_1 a1_2 a1_3 a2_0 l2_1 bt726.1 bt726.2.1)))) = some r := H
             have A68 := Aside0.mk A680
             clear A680
             replace H := Option.bind_eq_some_iff.mp H
             obtain ⟨⟨t726, t727, t730⟩, A690, H⟩ := H
             replace H : ((tensilelaw09_ready.f kj46 a2_0 l2_1).bind fun t732 => (if t732 = true then (if a2_0 = (Int.tmod (wrap64 (a0)) 31) then (tensilelaw09_PlanFewest.j3 kj46 (Int.tmod (wrap64 (a0)) 31) t730 ((l2_1.length : Int) == 2) a1_0 a1_1 a1_2 a1_3 a2_0 l2_1 t726 t727) else (tensilelaw09_PlanFewest.j3 kj46 (Int.tmod (wrap64 (a0)) 31) t730 false a1_0 a1_1 a1_2 a1_3 a2_0 l2_1 t726 t727)) else (tensilelaw09_PlanFewest.j3 kj46 (Int.tmod (wrap64 (a0)) 31) t730 false a1_0 a1_1 a1_2 a1_3 a2_0 l2_1 t726 t727))) = some r := H
             have A69 := Aside0.mk A690
             clear A690
             have HC70 := Aside0.mk H
             clear H
             have hnb71 := NB686_687.out
             have hnc71 := NB687_686.out
             have hnb72 := NB686_699.out
             have hnc72 := NB699_686.out
             have hcz73_0 : wc.cell? ⟨gb686, 0, none⟩ = some (.int .i64 a1_0) := (b4 BK686.out 0).trans rfl
             have hcz73_1 : wc.cell? ⟨gb686, 1, none⟩ = some (.int .i64 a1_1) := (b4 BK686.out 1).trans rfl
             have hcz73_2 : wc.cell? ⟨gb686, 2, none⟩ = some (.int .i64 a1_2) := (b4 BK686.out 2).trans rfl
             have hcz73_3 : wc.cell? ⟨gb686, 3, none⟩ = some (.int .i64 a1_3) := (b4 BK686.out 3).trans rfl
             have hfz73_0 := b9 BK686.out 0
             have hfz73_1 := b9 BK686.out 1
             have hfz73_2 := b9 BK686.out 2
             have hfz73_3 := b9 BK686.out 3
             go_upto_region 19 with (first | ((with_reducible refine gate_callee (f := 32) rfl ?_); refine goesL_ (some 122) rfl rfl Try.func32 (by kernel_rfl) rfl #[.agg #[.int .i64 a1_0, .int .i64 a1_1, .int .i64 a1_2, .int .i64 a1_3]] rfl (by (try simp only [List.map_toArray, List.map_cons, List.map_nil]); first | done | rfl | (simp only [List.length_drop, List.length_take]; rfl)) ?_; (with_reducible refine (tensilelaw09_Demand.calls a1_0 a1_1 a1_2 a1_3 t722 t723 t724 t725 _ A68.out).mono ?_); rintro e w74 ⟨rfl, hb⟩; refine ⟨_, rfl, ?_⟩; have n0_ := Aside0.mk (k3 (by (with_reducible repeat (first | apply k0 | apply k1 | apply k2)); exact HO_700001.out) hb); have n1_ := Aside0.mk (b5 (g := gb686) (o := .cells #[.int .i64 a1_0, .int .i64 a1_1, .int .i64 a1_2, .int .i64 a1_3] 64 (0, 0)) (by (with_reducible repeat (first | refine b0 ?_ _ | refine b1 ?_ | refine b2 ?_ _)); exact BK686.out) hb); have n2_ := Aside0.mk (b5 (g := gb687) (o := .cells #[.int .i64 a2_0, .slice A2_1 l2_1.length c2_1] 24 (0, 0)) (by (with_reducible repeat (first | refine b0 ?_ _ | refine b1 ?_ | refine b2 ?_ _)); exact BK687.out) hb); have n3_ := Aside0.mk (b5 (g := gb699) (o := .cells #[.int .i64 t694, .slice (some ad711) t695.length co23] 31 (0, 0)) (by (with_reducible repeat (first | refine b0 ?_ _ | refine b1 ?_ | refine b2 ?_ _)); exact BK699.out) hb); have n4_ := Aside0.mk (b13 (by repeat (first | (with_reducible first | exact HB.out | apply b8 | apply b6 | apply b7 | refine b3 ?_ GE686.out | refine b3 ?_ GE687.out | refine b3 ?_ GE699.out) | exact HB.out)) hb); clear HO_700001; clear BK686; clear BK687; clear BK699; clear HB; have HO_700001 := n0_; have BK686 := n1_; have BK687 := n2_; have BK699 := n3_; have HB := n4_; clear n0_ n1_ n2_ n3_ n4_; (try clear hb); (try clear hb2); (try clear hk); (try clear hi)) | ((with_reducible refine gate_callee (f := 35) rfl ?_); refine goesL_ (some 123) rfl rfl Try.func35 (by kernel_rfl) rfl #[.int .i64 (Int.tmod (wrap64 (a0)) 31), .agg #[.int .i64 t722, .int .i64 t723, .int .i64 t724, .int .i64 t725]] rfl (by (try simp only [List.map_toArray, List.map_cons, List.map_nil]); first | done | rfl | (simp only [List.length_drop, List.length_take]; rfl)) ?_; (with_reducible refine (plan_Double.calls (Int.tmod (wrap64 (a0)) 31) t722 t723 t724 t725 t726 t727 t730 _ A69.out).mono ?_); rintro e w75 ⟨v728, rfl, ho0, hb⟩; refine ⟨_, rfl, ?_⟩; have n0_ := Aside0.mk (k6 (by (with_reducible repeat (first | apply k0 | apply k1 | apply k2)); exact HO_700001.out) (k7 ho0) hb); have n1_ := Aside0.mk (k12 (k4 ho0 (k5 (by (with_reducible repeat (first | apply k0 | apply k1 | apply k2)); exact HO_700001.out))) (b12 (by repeat (first | (with_reducible first | exact HB.out | apply b8 | apply b6 | apply b7 | refine b3 ?_ GE686.out | refine b3 ?_ GE687.out | refine b3 ?_ GE699.out) | exact HB.out)))); have n2_ := Aside0.mk (b5 (g := gb686) (o := .cells #[.int .i64 a1_0, .int .i64 a1_1, .int .i64 a1_2, .int .i64 a1_3] 64 (0, 0)) (by (with_reducible repeat (first | refine b0 ?_ _ | refine b1 ?_ | refine b2 ?_ _)); exact BK686.out) hb); have n3_ := Aside0.mk (b5 (g := gb687) (o := .cells #[.int .i64 a2_0, .slice A2_1 l2_1.length c2_1] 24 (0, 0)) (by (with_reducible repeat (first | refine b0 ?_ _ | refine b1 ?_ | refine b2 ?_ _)); exact BK687.out) hb); have n4_ := Aside0.mk (b5 (g := gb699) (o := .cells #[.int .i64 t694, .slice (some ad711) t695.length co23] 31 (0, 0)) (by (with_reducible repeat (first | refine b0 ?_ _ | refine b1 ?_ | refine b2 ?_ _)); exact BK699.out) hb); have n5_ := Aside0.mk (b13 (by repeat (first | (with_reducible first | exact HB.out | apply b8 | apply b6 | apply b7 | refine b3 ?_ GE686.out | refine b3 ?_ GE687.out | refine b3 ?_ GE699.out) | exact HB.out)) hb); clear HO_700001; clear BK686; clear BK687; clear BK699; clear HB; have HO_700001 := n0_; have HO729 := n1_; have BK686 := n2_; have BK687 := n3_; have BK699 := n4_; have HB := n5_; clear n0_ n1_ n2_ n3_ n4_ n5_; (try clear hb); (try clear hb2); (try clear hk); (try clear hi); (try clear ho0)) | ((with_reducible refine gate_dst (N := 20) rfl ?_); (try (refine gate_guard (by rfl) ?_; dsimp only)); refine box_event ?hg (N := 20) ?hd (cs := #[.int .i64 0, .slice none 0 0]) (t := 31) ?hr ?_; (case hd => rfl); (case hg => rfl); (case hr => first | (go_simp; done) | (go_simp; rfl)); intro gb731 hg w76 hbox hb; have n0_ := Aside0.mk (k3 (by (with_reducible repeat (first | apply k0 | apply k1 | apply k2)); exact HO_700001.out) hb); have n1_ := Aside0.mk (k3 (by (with_reducible repeat (first | apply k0 | apply k1 | apply k2)); exact HO729.out) hb); have n2_ := Aside0.mk (b5 (g := gb686) (o := .cells #[.int .i64 a1_0, .int .i64 a1_1, .int .i64 a1_2, .int .i64 a1_3] 64 (0, 0)) (by (with_reducible repeat (first | refine b0 ?_ _ | refine b1 ?_ | refine b2 ?_ _)); exact BK686.out) hb); have n3_ := Aside0.mk (b5 (g := gb687) (o := .cells #[.int .i64 a2_0, .slice A2_1 l2_1.length c2_1] 24 (0, 0)) (by (with_reducible repeat (first | refine b0 ?_ _ | refine b1 ?_ | refine b2 ?_ _)); exact BK687.out) hb); have n4_ := Aside0.mk (b5 (g := gb699) (o := .cells #[.int .i64 t694, .slice (some ad711) t695.length co23] 31 (0, 0)) (by (with_reducible repeat (first | refine b0 ?_ _ | refine b1 ?_ | refine b2 ?_ _)); exact BK699.out) hb); have n5_ := Aside0.mk (b13 (by repeat (first | (with_reducible first | exact HB.out | apply b8 | apply b6 | apply b7 | refine b3 ?_ GE686.out | refine b3 ?_ GE687.out | refine b3 ?_ GE699.out) | exact HB.out)) hb); have n6_ := Aside0.mk (hbox); have n7_ := Aside0.mk ((by rw [hg]; exact (b12 (by repeat (first | (with_reducible first | exact HB.out | apply b8 | apply b6 | apply b7 | refine b3 ?_ GE686.out | refine b3 ?_ GE687.out | refine b3 ?_ GE699.out) | exact HB.out))) : w.heap.size ≤ gb731)); have n8_ := Aside0.mk ((by rw [hg]; exact (b12 (by repeat (first | (with_reducible first | exact HB.out | apply b8 | apply b6 | apply b7 | refine b3 ?_ GE686.out | refine b3 ?_ GE687.out | refine b3 ?_ GE699.out) | exact HB.out))) : w.heap.size ≤ gb731)); have n9_ := Aside0.mk ((by rw [hg]; exact Nat.ne_of_lt (b10 (g := gb686) (o := .cells #[.int .i64 a1_0, .int .i64 a1_1, .int .i64 a1_2, .int .i64 a1_3] 64 (0, 0)) (by (with_reducible repeat (first | refine b0 ?_ _ | refine b1 ?_ | refine b2 ?_ _)); exact BK686.out)) : gb686 ≠ gb731)); have n10_ := Aside0.mk ((by rw [hg]; exact Nat.ne_of_gt (b10 (g := gb686) (o := .cells #[.int .i64 a1_0, .int .i64 a1_1, .int .i64 a1_2, .int .i64 a1_3] 64 (0, 0)) (by (with_reducible repeat (first | refine b0 ?_ _ | refine b1 ?_ | refine b2 ?_ _)); exact BK686.out)) : gb731 ≠ gb686)); have n11_ := Aside0.mk ((by rw [hg]; exact Nat.ne_of_lt (b10 (g := gb687) (o := .cells #[.int .i64 a2_0, .slice A2_1 l2_1.length c2_1] 24 (0, 0)) (by (with_reducible repeat (first | refine b0 ?_ _ | refine b1 ?_ | refine b2 ?_ _)); exact BK687.out)) : gb687 ≠ gb731)); have n12_ := Aside0.mk ((by rw [hg]; exact Nat.ne_of_gt (b10 (g := gb687) (o := .cells #[.int .i64 a2_0, .slice A2_1 l2_1.length c2_1] 24 (0, 0)) (by (with_reducible repeat (first | refine b0 ?_ _ | refine b1 ?_ | refine b2 ?_ _)); exact BK687.out)) : gb731 ≠ gb687)); have n13_ := Aside0.mk ((by rw [hg]; exact Nat.ne_of_lt (b10 (g := gb699) (o := .cells #[.int .i64 t694, .slice (some ad711) t695.length co23] 31 (0, 0)) (by (with_reducible repeat (first | refine b0 ?_ _ | refine b1 ?_ | refine b2 ?_ _)); exact BK699.out)) : gb699 ≠ gb731)); have n14_ := Aside0.mk ((by rw [hg]; exact Nat.ne_of_gt (b10 (g := gb699) (o := .cells #[.int .i64 t694, .slice (some ad711) t695.length co23] 31 (0, 0)) (by (with_reducible repeat (first | refine b0 ?_ _ | refine b1 ?_ | refine b2 ?_ _)); exact BK699.out)) : gb731 ≠ gb699)); clear HO_700001; clear HO729; clear BK686; clear BK687; clear BK699; clear HB; have HO_700001 := n0_; have HO729 := n1_; have BK686 := n2_; have BK687 := n3_; have BK699 := n4_; have HB := n5_; have BK731 := n6_; have GW731 := n7_; have GE731 := n8_; have NB686_731 := n9_; have NB731_686 := n10_; have NB687_731 := n11_; have NB731_687 := n12_; have NB699_731 := n13_; have NB731_699 := n14_; clear n0_ n1_ n2_ n3_ n4_ n5_ n6_ n7_ n8_ n9_ n10_ n11_ n12_ n13_ n14_; clear hb hbox hg; have hnb77 := NB731_686.out; have hnc77 := NB686_731.out; have hnb78 := NB731_687.out; have hnc78 := NB687_731.out; have hnb79 := NB731_699.out; have hnc79 := NB699_731.out; have hcz80_0 : w76.cell? ⟨gb731, 0, none⟩ = some (.int .i64 0) := (b4 BK731.out 0).trans rfl; have hcz80_1 : w76.cell? ⟨gb731, 1, none⟩ = some (.slice none 0 0) := (b4 BK731.out 1).trans rfl; have hfz80_0 := b9 BK731.out 0; have hfz80_1 := b9 BK731.out 1; obtain ⟨Ao81, co81, eo81⟩ := Kd.R_slice HO729.out; subst eo81))
             (try simp only [Act.put, l1, l2, l3])
             go_cut [22] (fun v22 wc => ∃ (kq : Nat) (x22_69 : Bool), v22 = .bool x22_69 ∧ Aside0 (tensilelaw09_PlanFewest.j3 kq (Int.tmod (wrap64 (a0)) 31) t730 x22_69 a1_0 a1_1 a1_2 a1_3 a2_0 l2_1 t726 t727 = some r) ∧ Aside0 (kq ≤ kj46) ∧ Aside0 (Kd.R k61 61 wc w.heap.size (fun k_ => some k_ ≠ ((.slice Ao81 t727.length co81) : Value).ownBlock) (.slice (some ad711) t695.length co23) t695) ∧ Aside0 (Kd.R k61 61 wc w.heap.size (fun k_ => some k_ ≠ ((.slice (some ad711) t695.length co23) : Value).ownBlock) (.slice Ao81 t727.length co81) t727) ∧ Aside0 (wc.heap[gb686]? = some (.cells #[.int .i64 a1_0, .int .i64 a1_1, .int .i64 a1_2, .int .i64 a1_3] 64 (0, 0))) ∧ Aside0 (wc.heap[gb687]? = some (.cells #[.int .i64 a2_0, (.slice A2_1 l2_1.length c2_1)] 24 (0, 0))) ∧ Aside0 (wc.heap[gb699]? = some (.cells #[.int .i64 t694, (.slice (some ad711) t695.length co23)] 31 (0, 0))) ∧ Aside0 (wc.heap[gb731]? = some (.cells #[.int .i64 t726, (.slice Ao81 t727.length co81)] 31 (0, 0))) ∧ Aside0 (Below w.heap.size w wc))
             case first =>
              have H := HC70.out
              clear HC70
              replace H := Option.bind_eq_some_iff.mp H
              obtain ⟨t732, A820, H⟩ := H
              replace H : (if t732 = true then (if a2_0 = (Int.tmod (wrap64 (a0)) 31) then (tensilelaw09_PlanFewest.j3 kj46 (Int.tmod (wrap64 (a0)) 31) t730 ((l2_1.length : Int) == 2) a1_0 a1_1 a1_2 a1_3 a2_0 l2_1 t726 t727) else (tensilelaw09_PlanFewest.j3 kj46 (Int.tmod (wrap64 (a0)) 31) t730 false a1_0 a1_1 a1_2 a1_3 a2_0 l2_1 t726 t727)) else (tensilelaw09_PlanFewest.j3 kj46 (Int.tmod (wrap64 (a0)) 31) t730 false a1_0 a1_1 a1_2 a1_3 a2_0 l2_1 t726 t727)) = some r := H
              have A82 := Aside0.mk A820
              clear A820
              by_cases c83 : t732 = true
              ·
               subst c83
               have H1 : (if a2_0 = (Int.tmod (wrap64 (a0)) 31) then (tensilelaw09_PlanFewest.j3 kj46 (Int.tmod (wrap64 (a0)) 31) t730 ((l2_1.length : Int) == 2) a1_0 a1_1 a1_2 a1_3 a2_0 l2_1 t726 t727) else (tensilelaw09_PlanFewest.j3 kj46 (Int.tmod (wrap64 (a0)) 31) t730 false a1_0 a1_1 a1_2 a1_3 a2_0 l2_1 t726 t727)) = some r := by rw [if_pos rfl] at H; exact H
               clear H
               have H := H1
               clear H1
               by_cases c84 : a2_0 = (Int.tmod (wrap64 (a0)) 31)
               ·
                rw [if_pos c84] at H
                have c84b0 : (a2_0 == (Int.tmod (wrap64 (a0)) 31)) = true := beq_iff_eq.mpr c84
                have c84b1 : (a2_0 != (Int.tmod (wrap64 (a0)) 31)) = false := bne_eq_false_iff_eq.mpr c84
                clear c84
                (first | rw [c84b0] | (simp only [i64_w, i32_w]; rw [c84b0]) | skip)
                have H' := Aside0.mk H
                clear H
                have hnb85 := NB687_686.out
                have hnc85 := NB686_687.out
                have hnb86 := NB687_699.out
                have hnc86 := NB699_687.out
                have hnb87 := NB687_731.out
                have hnc87 := NB731_687.out
                have hcz88_0 : w76.cell? ⟨gb687, 0, none⟩ = some (.int .i64 a2_0) := (b4 BK687.out 0).trans rfl
                have hcz88_1 : w76.cell? ⟨gb687, 1, none⟩ = some (.slice A2_1 l2_1.length c2_1) := (b4 BK687.out 1).trans rfl
                have hfz88_0 := b9 BK687.out 0
                have hfz88_1 := b9 BK687.out 1
                go_wp2_with (first | ((with_reducible refine gate_callee (f := 26) rfl ?_); refine goesL_ (some 127) rfl rfl Try.func26 (by kernel_rfl) rfl #[.agg #[.int .i64 a2_0, .slice A2_1 l2_1.length c2_1]] rfl (by (try simp only [List.map_toArray, List.map_cons, List.map_nil]); first | done | rfl | (simp only [List.length_drop, List.length_take]; rfl)) ?_; (with_reducible refine (tensilelaw09_ready.calls kj46 a2_0 _ _ l2_1 true _ ?side1 ?side2 A82.out).mono ?_); (case side1 => exact Kd.C_below HR2_1.out (by repeat (first | (with_reducible first | exact HB.out | apply b8 | apply b6 | apply b7 | refine b3 ?_ GE686.out | refine b3 ?_ GE687.out | refine b3 ?_ GE699.out | refine b3 ?_ GE731.out) | exact HB.out))); (case side2 => exact HC2_1.out); rintro e w89 ⟨rfl, hb⟩; refine ⟨_, rfl, ?_⟩; have n0_ := Aside0.mk (k3 (by (with_reducible repeat (first | apply k0 | apply k1 | apply k2)); exact (k10 (k8 (p := ⟨gb731, 1, none⟩) (k8 (p := ⟨gb731, 0, none⟩) (k11 HO_700001.out BK731.out (by decide)) (fun _ hk => hk.2) (.int .i64 t726)) (fun _ hk => hk.2) (.slice Ao81 t727.length co81)) (fun _ h_ => h_.1))) hb); have n1_ := Aside0.mk (k3 (by (with_reducible repeat (first | apply k0 | apply k1 | apply k2)); exact (k10 (k8 (p := ⟨gb731, 1, none⟩) (k8 (p := ⟨gb731, 0, none⟩) (k11 HO729.out BK731.out (by decide)) (fun _ hk => hk.2) (.int .i64 t726)) (fun _ hk => hk.2) (.slice Ao81 t727.length co81)) (fun _ h_ => h_.1))) hb); have n2_ := Aside0.mk (b5 (g := gb686) (o := .cells #[.int .i64 a1_0, .int .i64 a1_1, .int .i64 a1_2, .int .i64 a1_3] 64 (0, 0)) (by (with_reducible repeat (first | refine b0 ?_ _ | refine b1 ?_ | refine b2 ?_ _)); refine b11 ?_ NB686_731.out _; (with_reducible repeat (first | refine b0 ?_ _ | refine b1 ?_ | refine b2 ?_ _)); refine b11 ?_ NB686_731.out _; (with_reducible repeat (first | refine b0 ?_ _ | refine b1 ?_ | refine b2 ?_ _)); exact BK686.out) hb); have n3_ := Aside0.mk (b5 (g := gb687) (o := .cells #[.int .i64 a2_0, .slice A2_1 l2_1.length c2_1] 24 (0, 0)) (by (with_reducible repeat (first | refine b0 ?_ _ | refine b1 ?_ | refine b2 ?_ _)); refine b11 ?_ NB687_731.out _; (with_reducible repeat (first | refine b0 ?_ _ | refine b1 ?_ | refine b2 ?_ _)); refine b11 ?_ NB687_731.out _; (with_reducible repeat (first | refine b0 ?_ _ | refine b1 ?_ | refine b2 ?_ _)); exact BK687.out) hb); have n4_ := Aside0.mk (b5 (g := gb699) (o := .cells #[.int .i64 t694, .slice (some ad711) t695.length co23] 31 (0, 0)) (by (with_reducible repeat (first | refine b0 ?_ _ | refine b1 ?_ | refine b2 ?_ _)); refine b11 ?_ NB699_731.out _; (with_reducible repeat (first | refine b0 ?_ _ | refine b1 ?_ | refine b2 ?_ _)); refine b11 ?_ NB699_731.out _; (with_reducible repeat (first | refine b0 ?_ _ | refine b1 ?_ | refine b2 ?_ _)); exact BK699.out) hb); have n5_ := Aside0.mk (b5 (g := gb731) (o := .cells #[.int .i64 t726, .slice Ao81 t727.length co81] 31 (0, 0)) (by (with_reducible repeat (first | refine b0 ?_ _ | refine b1 ?_ | refine b2 ?_ _)); refine blk_put (cs := #[.int .i64 t726, .slice none 0 0]) ?_ 1 _ rfl; (with_reducible repeat (first | refine b0 ?_ _ | refine b1 ?_ | refine b2 ?_ _)); refine blk_put (cs := #[.int .i64 0, .slice none 0 0]) ?_ 0 _ rfl; (with_reducible repeat (first | refine b0 ?_ _ | refine b1 ?_ | refine b2 ?_ _)); exact BK731.out) hb); have n6_ := Aside0.mk (b13 (by repeat (first | (with_reducible first | exact HB.out | apply b8 | apply b6 | apply b7 | refine b3 ?_ GE686.out | refine b3 ?_ GE687.out | refine b3 ?_ GE699.out | refine b3 ?_ GE731.out) | exact HB.out)) hb); clear HO_700001; clear HO729; clear BK686; clear BK687; clear BK699; clear BK731; clear HB; have HO_700001 := n0_; have HO729 := n1_; have BK686 := n2_; have BK687 := n3_; have BK699 := n4_; have BK731 := n5_; have HB := n6_; clear n0_ n1_ n2_ n3_ n4_ n5_ n6_; (try clear hb); (try clear hb2); (try clear hk); (try clear hi); have hcz90_0 : w89.cell? ⟨gb687, 0, none⟩ = some (.int .i64 a2_0) := (b4 BK687.out 0).trans rfl; have hcz90_1 : w89.cell? ⟨gb687, 1, none⟩ = some (.slice A2_1 l2_1.length c2_1) := (b4 BK687.out 1).trans rfl; have hfz90_0 := b9 BK687.out 0; have hfz90_1 := b9 BK687.out 1))
                go_meet
                case rel => exact ⟨_, (((l2_1.length : Int) == 2)), (by first | rfl | (simp; done) | (simp [*]; done)), H', ⟨by have := HJ9.out; have := HJ38.out; have := HJ46.out; first | omega | exact Nat.le_refl _⟩, ⟨by (with_reducible repeat (first | apply k0 | apply k1 | apply k2)); exact k10 HO_700001.out (fun _ hk => hk.2)⟩, ⟨by (with_reducible repeat (first | apply k0 | apply k1 | apply k2)); exact k10 HO729.out (fun _ hk => hk.2)⟩, ⟨by (with_reducible repeat (first | refine b0 ?_ _ | refine b1 ?_ | refine b2 ?_ _)); exact BK686.out⟩, ⟨by (with_reducible repeat (first | refine b0 ?_ _ | refine b1 ?_ | refine b2 ?_ _)); exact BK687.out⟩, ⟨by (with_reducible repeat (first | refine b0 ?_ _ | refine b1 ?_ | refine b2 ?_ _)); exact BK699.out⟩, ⟨by (with_reducible repeat (first | refine b0 ?_ _ | refine b1 ?_ | refine b2 ?_ _)); exact BK731.out⟩, ⟨by repeat (first | (with_reducible first | exact HB.out | apply b8 | apply b6 | apply b7 | refine b3 ?_ GE686.out | refine b3 ?_ GE687.out | refine b3 ?_ GE699.out | refine b3 ?_ GE731.out) | exact HB.out)⟩⟩
               ·
                rw [if_neg c84] at H
                have c84b0 : (a2_0 == (Int.tmod (wrap64 (a0)) 31)) = false := beq_eq_false_iff_ne.mpr c84
                have c84b1 : (a2_0 != (Int.tmod (wrap64 (a0)) 31)) = true := bne_iff_ne.mpr c84
                (first | rw [c84b0] | (simp only [i64_w, i32_w]; rw [c84b0]) | skip)
                have H' := Aside0.mk H
                clear H
                have hnb91 := NB687_686.out
                have hnc91 := NB686_687.out
                have hnb92 := NB687_699.out
                have hnc92 := NB699_687.out
                have hnb93 := NB687_731.out
                have hnc93 := NB731_687.out
                have hcz94_0 : w76.cell? ⟨gb687, 0, none⟩ = some (.int .i64 a2_0) := (b4 BK687.out 0).trans rfl
                have hcz94_1 : w76.cell? ⟨gb687, 1, none⟩ = some (.slice A2_1 l2_1.length c2_1) := (b4 BK687.out 1).trans rfl
                have hfz94_0 := b9 BK687.out 0
                have hfz94_1 := b9 BK687.out 1
                go_wp2_with (first | ((with_reducible refine gate_callee (f := 26) rfl ?_); refine goesL_ (some 127) rfl rfl Try.func26 (by kernel_rfl) rfl #[.agg #[.int .i64 a2_0, .slice A2_1 l2_1.length c2_1]] rfl (by (try simp only [List.map_toArray, List.map_cons, List.map_nil]); first | done | rfl | (simp only [List.length_drop, List.length_take]; rfl)) ?_; (with_reducible refine (tensilelaw09_ready.calls kj46 a2_0 _ _ l2_1 true _ ?side1 ?side2 A82.out).mono ?_); (case side1 => exact Kd.C_below HR2_1.out (by repeat (first | (with_reducible first | exact HB.out | apply b8 | apply b6 | apply b7 | refine b3 ?_ GE686.out | refine b3 ?_ GE687.out | refine b3 ?_ GE699.out | refine b3 ?_ GE731.out) | exact HB.out))); (case side2 => exact HC2_1.out); rintro e w95 ⟨rfl, hb⟩; refine ⟨_, rfl, ?_⟩; have n0_ := Aside0.mk (k3 (by (with_reducible repeat (first | apply k0 | apply k1 | apply k2)); exact (k10 (k8 (p := ⟨gb731, 1, none⟩) (k8 (p := ⟨gb731, 0, none⟩) (k11 HO_700001.out BK731.out (by decide)) (fun _ hk => hk.2) (.int .i64 t726)) (fun _ hk => hk.2) (.slice Ao81 t727.length co81)) (fun _ h_ => h_.1))) hb); have n1_ := Aside0.mk (k3 (by (with_reducible repeat (first | apply k0 | apply k1 | apply k2)); exact (k10 (k8 (p := ⟨gb731, 1, none⟩) (k8 (p := ⟨gb731, 0, none⟩) (k11 HO729.out BK731.out (by decide)) (fun _ hk => hk.2) (.int .i64 t726)) (fun _ hk => hk.2) (.slice Ao81 t727.length co81)) (fun _ h_ => h_.1))) hb); have n2_ := Aside0.mk (b5 (g := gb686) (o := .cells #[.int .i64 a1_0, .int .i64 a1_1, .int .i64 a1_2, .int .i64 a1_3] 64 (0, 0)) (by (with_reducible repeat (first | refine b0 ?_ _ | refine b1 ?_ | refine b2 ?_ _)); refine b11 ?_ NB686_731.out _; (with_reducible repeat (first | refine b0 ?_ _ | refine b1 ?_ | refine b2 ?_ _)); refine b11 ?_ NB686_731.out _; (with_reducible repeat (first | refine b0 ?_ _ | refine b1 ?_ | refine b2 ?_ _)); exact BK686.out) hb); have n3_ := Aside0.mk (b5 (g := gb687) (o := .cells #[.int .i64 a2_0, .slice A2_1 l2_1.length c2_1] 24 (0, 0)) (by (with_reducible repeat (first | refine b0 ?_ _ | refine b1 ?_ | refine b2 ?_ _)); refine b11 ?_ NB687_731.out _; (with_reducible repeat (first | refine b0 ?_ _ | refine b1 ?_ | refine b2 ?_ _)); refine b11 ?_ NB687_731.out _; (with_reducible repeat (first | refine b0 ?_ _ | refine b1 ?_ | refine b2 ?_ _)); exact BK687.out) hb); have n4_ := Aside0.mk (b5 (g := gb699) (o := .cells #[.int .i64 t694, .slice (some ad711) t695.length co23] 31 (0, 0)) (by (with_reducible repeat (first | refine b0 ?_ _ | refine b1 ?_ | refine b2 ?_ _)); refine b11 ?_ NB699_731.out _; (with_reducible repeat (first | refine b0 ?_ _ | refine b1 ?_ | refine b2 ?_ _)); refine b11 ?_ NB699_731.out _; (with_reducible repeat (first | refine b0 ?_ _ | refine b1 ?_ | refine b2 ?_ _)); exact BK699.out) hb); have n5_ := Aside0.mk (b5 (g := gb731) (o := .cells #[.int .i64 t726, .slice Ao81 t727.length co81] 31 (0, 0)) (by (with_reducible repeat (first | refine b0 ?_ _ | refine b1 ?_ | refine b2 ?_ _)); refine blk_put (cs := #[.int .i64 t726, .slice none 0 0]) ?_ 1 _ rfl; (with_reducible repeat (first | refine b0 ?_ _ | refine b1 ?_ | refine b2 ?_ _)); refine blk_put (cs := #[.int .i64 0, .slice none 0 0]) ?_ 0 _ rfl; (with_reducible repeat (first | refine b0 ?_ _ | refine b1 ?_ | refine b2 ?_ _)); exact BK731.out) hb); have n6_ := Aside0.mk (b13 (by repeat (first | (with_reducible first | exact HB.out | apply b8 | apply b6 | apply b7 | refine b3 ?_ GE686.out | refine b3 ?_ GE687.out | refine b3 ?_ GE699.out | refine b3 ?_ GE731.out) | exact HB.out)) hb); clear HO_700001; clear HO729; clear BK686; clear BK687; clear BK699; clear BK731; clear HB; have HO_700001 := n0_; have HO729 := n1_; have BK686 := n2_; have BK687 := n3_; have BK699 := n4_; have BK731 := n5_; have HB := n6_; clear n0_ n1_ n2_ n3_ n4_ n5_ n6_; (try clear hb); (try clear hb2); (try clear hk); (try clear hi); have hcz96_0 : w95.cell? ⟨gb687, 0, none⟩ = some (.int .i64 a2_0) := (b4 BK687.out 0).trans rfl; have hcz96_1 : w95.cell? ⟨gb687, 1, none⟩ = some (.slice A2_1 l2_1.length c2_1) := (b4 BK687.out 1).trans rfl; have hfz96_0 := b9 BK687.out 0; have hfz96_1 := b9 BK687.out 1))
                go_meet
                case rel => exact ⟨_, (false), (by first | rfl | (simp; done) | (simp [*]; done)), H', ⟨by have := HJ9.out; have := HJ38.out; have := HJ46.out; first | omega | exact Nat.le_refl _⟩, ⟨by (with_reducible repeat (first | apply k0 | apply k1 | apply k2)); exact k10 HO_700001.out (fun _ hk => hk.2)⟩, ⟨by (with_reducible repeat (first | apply k0 | apply k1 | apply k2)); exact k10 HO729.out (fun _ hk => hk.2)⟩, ⟨by (with_reducible repeat (first | refine b0 ?_ _ | refine b1 ?_ | refine b2 ?_ _)); exact BK686.out⟩, ⟨by (with_reducible repeat (first | refine b0 ?_ _ | refine b1 ?_ | refine b2 ?_ _)); exact BK687.out⟩, ⟨by (with_reducible repeat (first | refine b0 ?_ _ | refine b1 ?_ | refine b2 ?_ _)); exact BK699.out⟩, ⟨by (with_reducible repeat (first | refine b0 ?_ _ | refine b1 ?_ | refine b2 ?_ _)); exact BK731.out⟩, ⟨by repeat (first | (with_reducible first | exact HB.out | apply b8 | apply b6 | apply b7 | refine b3 ?_ GE686.out | refine b3 ?_ GE687.out | refine b3 ?_ GE699.out | refine b3 ?_ GE731.out) | exact HB.out)⟩⟩
              ·
               replace c83 := Bool.eq_false_iff.mpr c83
               subst c83
               have H1 : (tensilelaw09_PlanFewest.j3 kj46 (Int.tmod (wrap64 (a0)) 31) t730 false a1_0 a1_1 a1_2 a1_3 a2_0 l2_1 t726 t727) = some r := by rw [if_neg (show ¬ (false = true) by decide)] at H; exact H
               clear H
               have H := H1
               clear H1
               have H' := Aside0.mk H
               clear H
               have hnb97 := NB687_686.out
               have hnc97 := NB686_687.out
               have hnb98 := NB687_699.out
               have hnc98 := NB699_687.out
               have hnb99 := NB687_731.out
               have hnc99 := NB731_687.out
               have hcz100_0 : w76.cell? ⟨gb687, 0, none⟩ = some (.int .i64 a2_0) := (b4 BK687.out 0).trans rfl
               have hcz100_1 : w76.cell? ⟨gb687, 1, none⟩ = some (.slice A2_1 l2_1.length c2_1) := (b4 BK687.out 1).trans rfl
               have hfz100_0 := b9 BK687.out 0
               have hfz100_1 := b9 BK687.out 1
               go_wp2_with (first | ((with_reducible refine gate_callee (f := 26) rfl ?_); refine goesL_ (some 127) rfl rfl Try.func26 (by kernel_rfl) rfl #[.agg #[.int .i64 a2_0, .slice A2_1 l2_1.length c2_1]] rfl (by (try simp only [List.map_toArray, List.map_cons, List.map_nil]); first | done | rfl | (simp only [List.length_drop, List.length_take]; rfl)) ?_; (with_reducible refine (tensilelaw09_ready.calls kj46 a2_0 _ _ l2_1 false _ ?side1 ?side2 A82.out).mono ?_); (case side1 => exact Kd.C_below HR2_1.out (by repeat (first | (with_reducible first | exact HB.out | apply b8 | apply b6 | apply b7 | refine b3 ?_ GE686.out | refine b3 ?_ GE687.out | refine b3 ?_ GE699.out | refine b3 ?_ GE731.out) | exact HB.out))); (case side2 => exact HC2_1.out); rintro e w101 ⟨rfl, hb⟩; refine ⟨_, rfl, ?_⟩; have n0_ := Aside0.mk (k3 (by (with_reducible repeat (first | apply k0 | apply k1 | apply k2)); exact (k10 (k8 (p := ⟨gb731, 1, none⟩) (k8 (p := ⟨gb731, 0, none⟩) (k11 HO_700001.out BK731.out (by decide)) (fun _ hk => hk.2) (.int .i64 t726)) (fun _ hk => hk.2) (.slice Ao81 t727.length co81)) (fun _ h_ => h_.1))) hb); have n1_ := Aside0.mk (k3 (by (with_reducible repeat (first | apply k0 | apply k1 | apply k2)); exact (k10 (k8 (p := ⟨gb731, 1, none⟩) (k8 (p := ⟨gb731, 0, none⟩) (k11 HO729.out BK731.out (by decide)) (fun _ hk => hk.2) (.int .i64 t726)) (fun _ hk => hk.2) (.slice Ao81 t727.length co81)) (fun _ h_ => h_.1))) hb); have n2_ := Aside0.mk (b5 (g := gb686) (o := .cells #[.int .i64 a1_0, .int .i64 a1_1, .int .i64 a1_2, .int .i64 a1_3] 64 (0, 0)) (by (with_reducible repeat (first | refine b0 ?_ _ | refine b1 ?_ | refine b2 ?_ _)); refine b11 ?_ NB686_731.out _; (with_reducible repeat (first | refine b0 ?_ _ | refine b1 ?_ | refine b2 ?_ _)); refine b11 ?_ NB686_731.out _; (with_reducible repeat (first | refine b0 ?_ _ | refine b1 ?_ | refine b2 ?_ _)); exact BK686.out) hb); have n3_ := Aside0.mk (b5 (g := gb687) (o := .cells #[.int .i64 a2_0, .slice A2_1 l2_1.length c2_1] 24 (0, 0)) (by (with_reducible repeat (first | refine b0 ?_ _ | refine b1 ?_ | refine b2 ?_ _)); refine b11 ?_ NB687_731.out _; (with_reducible repeat (first | refine b0 ?_ _ | refine b1 ?_ | refine b2 ?_ _)); refine b11 ?_ NB687_731.out _; (with_reducible repeat (first | refine b0 ?_ _ | refine b1 ?_ | refine b2 ?_ _)); exact BK687.out) hb); have n4_ := Aside0.mk (b5 (g := gb699) (o := .cells #[.int .i64 t694, .slice (some ad711) t695.length co23] 31 (0, 0)) (by (with_reducible repeat (first | refine b0 ?_ _ | refine b1 ?_ | refine b2 ?_ _)); refine b11 ?_ NB699_731.out _; (with_reducible repeat (first | refine b0 ?_ _ | refine b1 ?_ | refine b2 ?_ _)); refine b11 ?_ NB699_731.out _; (with_reducible repeat (first | refine b0 ?_ _ | refine b1 ?_ | refine b2 ?_ _)); exact BK699.out) hb); have n5_ := Aside0.mk (b5 (g := gb731) (o := .cells #[.int .i64 t726, .slice Ao81 t727.length co81] 31 (0, 0)) (by (with_reducible repeat (first | refine b0 ?_ _ | refine b1 ?_ | refine b2 ?_ _)); refine blk_put (cs := #[.int .i64 t726, .slice none 0 0]) ?_ 1 _ rfl; (with_reducible repeat (first | refine b0 ?_ _ | refine b1 ?_ | refine b2 ?_ _)); refine blk_put (cs := #[.int .i64 0, .slice none 0 0]) ?_ 0 _ rfl; (with_reducible repeat (first | refine b0 ?_ _ | refine b1 ?_ | refine b2 ?_ _)); exact BK731.out) hb); have n6_ := Aside0.mk (b13 (by repeat (first | (with_reducible first | exact HB.out | apply b8 | apply b6 | apply b7 | refine b3 ?_ GE686.out | refine b3 ?_ GE687.out | refine b3 ?_ GE699.out | refine b3 ?_ GE731.out) | exact HB.out)) hb); clear HO_700001; clear HO729; clear BK686; clear BK687; clear BK699; clear BK731; clear HB; have HO_700001 := n0_; have HO729 := n1_; have BK686 := n2_; have BK687 := n3_; have BK699 := n4_; have BK731 := n5_; have HB := n6_; clear n0_ n1_ n2_ n3_ n4_ n5_ n6_; (try clear hb); (try clear hb2); (try clear hk); (try clear hi)))
               go_meet
               case rel => exact ⟨_, (false), (by first | rfl | (simp; done) | (simp [*]; done)), H', ⟨by have := HJ9.out; have := HJ38.out; have := HJ46.out; first | omega | exact Nat.le_refl _⟩, ⟨by (with_reducible repeat (first | apply k0 | apply k1 | apply k2)); exact k10 HO_700001.out (fun _ hk => hk.2)⟩, ⟨by (with_reducible repeat (first | apply k0 | apply k1 | apply k2)); exact k10 HO729.out (fun _ hk => hk.2)⟩, ⟨by (with_reducible repeat (first | refine b0 ?_ _ | refine b1 ?_ | refine b2 ?_ _)); exact BK686.out⟩, ⟨by (with_reducible repeat (first | refine b0 ?_ _ | refine b1 ?_ | refine b2 ?_ _)); exact BK687.out⟩, ⟨by (with_reducible repeat (first | refine b0 ?_ _ | refine b1 ?_ | refine b2 ?_ _)); exact BK699.out⟩, ⟨by (with_reducible repeat (first | refine b0 ?_ _ | refine b1 ?_ | refine b2 ?_ _)); exact BK731.out⟩, ⟨by repeat (first | (with_reducible first | exact HB.out | apply b8 | apply b6 | apply b7 | refine b3 ?_ GE686.out | refine b3 ?_ GE687.out | refine b3 ?_ GE699.out | refine b3 ?_ GE731.out) | exact HB.out)⟩⟩
             case rest =>
              clear HC70
              try clear c1
              try clear c2
              try clear p2
              try clear c3
              try clear c4
              try clear c5
              try clear c6
              try clear p6
              try clear c7
              try clear c7b0
              try clear c7b1
              try clear p7
              try clear q7
              try clear hx7
              try clear qi7
              try clear c8
              try clear c9
              try clear c13
              try clear c15
              try clear c20
              try clear c21
              try clear c24
              try clear c24b0
              try clear c24b1
              try clear c26
              try clear c27
              try clear c27b0
              try clear c27b1
              try clear c28
              try clear c28b0
              try clear c28b1
              try clear c29
              try clear c30
              try clear c31
              try clear c32
              try clear c33
              try clear c35
              try clear c36
              try clear c43
              try clear c43b0
              try clear c43b1
              try clear c44
              try clear c45
              try clear c45b0
              try clear c45b1
              try clear c46
              try clear c46b0
              try clear c46b1
              try clear c48
              try clear c49
              try clear c51
              try clear c51b0
              try clear c52
              try clear c52b0
              try clear c52b1
              try clear c55
              try clear c55b0
              try clear c55b1
              try clear c56
              try clear c60
              try clear c61
              try clear p64
              try clear c65
              try clear c65b0
              try clear c71
              try clear p71
              try clear q71
              try clear hx71
              try clear qi71
              try clear c72
              try clear c77
              try clear c78
              try clear c79
              try clear c83
              try clear c84
              try clear c84b0
              try clear c84b1
              try clear c85
              try clear c86
              try clear c87
              try clear c91
              try clear c92
              try clear c93
              try clear c97
              try clear c98
              try clear c99
              try clear hcz100_0
              try clear hcz100_1
              try clear hcz14_0
              try clear hcz14_1
              try clear hcz14_2
              try clear hcz14_3
              try clear hcz16_0
              try clear hcz16_1
              try clear hcz16_2
              try clear hcz16_3
              try clear hcz22_0
              try clear hcz22_1
              try clear hcz31_0
              try clear hcz31_1
              try clear hcz35_0
              try clear hcz35_1
              try clear hcz50_0
              try clear hcz50_1
              try clear hcz62_0
              try clear hcz62_1
              try clear hcz62_2
              try clear hcz62_3
              try clear hcz73_0
              try clear hcz73_1
              try clear hcz73_2
              try clear hcz73_3
              try clear hcz80_0
              try clear hcz80_1
              try clear hcz88_0
              try clear hcz88_1
              try clear hcz90_0
              try clear hcz90_1
              try clear hcz94_0
              try clear hcz94_1
              try clear hcz96_0
              try clear hcz96_1
              try clear hfz100_0
              try clear hfz100_1
              try clear hfz14_0
              try clear hfz14_1
              try clear hfz14_2
              try clear hfz14_3
              try clear hfz16_0
              try clear hfz16_1
              try clear hfz16_2
              try clear hfz16_3
              try clear hfz22_0
              try clear hfz22_1
              try clear hfz31_0
              try clear hfz31_1
              try clear hfz35_0
              try clear hfz35_1
              try clear hfz50_0
              try clear hfz50_1
              try clear hfz62_0
              try clear hfz62_1
              try clear hfz62_2
              try clear hfz62_3
              try clear hfz73_0
              try clear hfz73_1
              try clear hfz73_2
              try clear hfz73_3
              try clear hfz80_0
              try clear hfz80_1
              try clear hfz88_0
              try clear hfz88_1
              try clear hfz90_0
              try clear hfz90_1
              try clear hfz94_0
              try clear hfz94_1
              try clear hfz96_0
              try clear hfz96_1
              try clear hx711_0
              try clear hx711_1
              try clear hx711_2
              try clear p2
              try clear p6
              try clear p64
              try clear p7
              try clear p711
              try clear q7
              try clear q711
              obtain ⟨kq, x22_69, rfl, HA, HJ69, HO_700001, HO_732001, BK686, BK687, BK699, BK731, HB⟩ := hcut
              cases kq with
              | zero => exact absurd HA.out (by simp [tensilelaw09_PlanFewest.j3])
              | succ kj69 =>
               have H := HA.out
               clear HA
               simp only [tensilelaw09_PlanFewest.j3] at H
               have HC102 := Aside0.mk H
               clear H
               go_upto_if 140 with (fail)
               go_cut [22] (fun v22 wc => ∃ (kq : Nat) (x22_101 : Bool), v22 = .bool x22_101 ∧ Aside0 (tensilelaw09_PlanFewest.j4 kq (Int.tmod (wrap64 (a0)) 31) t730 x22_101 a1_0 a1_1 a1_2 a1_3 a2_0 l2_1 t726 t727 = some r) ∧ Aside0 (kq ≤ kj69) ∧ Aside0 (Kd.R k61 61 wc w.heap.size (fun k_ => some k_ ≠ ((.slice Ao81 t727.length co81) : Value).ownBlock) (.slice (some ad711) t695.length co23) t695) ∧ Aside0 (Kd.R k61 61 wc w.heap.size (fun k_ => some k_ ≠ ((.slice (some ad711) t695.length co23) : Value).ownBlock) (.slice Ao81 t727.length co81) t727) ∧ Aside0 (wc.heap[gb686]? = some (.cells #[.int .i64 a1_0, .int .i64 a1_1, .int .i64 a1_2, .int .i64 a1_3] 64 (0, 0))) ∧ Aside0 (wc.heap[gb687]? = some (.cells #[.int .i64 a2_0, (.slice A2_1 l2_1.length c2_1)] 24 (0, 0))) ∧ Aside0 (wc.heap[gb699]? = some (.cells #[.int .i64 t694, (.slice (some ad711) t695.length co23)] 31 (0, 0))) ∧ Aside0 (wc.heap[gb731]? = some (.cells #[.int .i64 t726, (.slice Ao81 t727.length co81)] 31 (0, 0))) ∧ Aside0 (Below w.heap.size w wc))
               case first =>
                have H := HC102.out
                clear HC102
                by_cases c103 : x22_69 = true
                ·
                 as_aux_lemma =>
                 subst c103
                 have H1 : ((tensilelaw09_Plan.f kj69 a2_0 l2_1).bind fun bt733 => ((tensilelaw09_Demand.f a1_0 a1_1 a1_2 a1_3).bind fun bt737 => ((plan_Keeps.f bt733.1 bt733.2 bt737.1 bt737.2.1 bt737.2.2.1 bt737.2.2.2).bind fun bt741 => (if bt741.2 = 0 then (tensilelaw09_PlanFewest.j4 kj69 (Int.tmod (wrap64 (a0)) 31) t730 bt741.1 a1_0 a1_1 a1_2 a1_3 a2_0 l2_1 t726 t727) else (none))))) = some r := by rw [if_pos rfl] at H; exact H
                 clear H
                 have H := H1
                 clear H1
                 replace H := Option.bind_eq_some_iff.mp H
                 obtain ⟨⟨t733, t734⟩, A1040, H⟩ := H
                 replace H : ((tensilelaw09_Demand.f a1_0 a1_1 a1_2 a1_3).bind fun bt737 => ((plan_Keeps.f t733 t734 bt737.1 bt737.2.1 bt737.2.2.1 bt737.2.2.2).bind fun bt741 => (if bt741.2 = 0 then (tensilelaw09_PlanFewest.j4 kj69 (Int.tmod (wrap64 (a0)) 31) t730 bt741.1 a1_0 a1_1 a1_2 a1_3 a2_0 l2_1 t726 t727) else (none)))) = some r := H
                 have A104 := Aside0.mk A1040
                 clear A1040
                 replace H := Option.bind_eq_some_iff.mp H
                 obtain ⟨⟨t737, t738, t739, t740⟩, A1050, H⟩ := H
                 replace H : ((plan_Keeps.f t733 t734 t737 t738 t739 t740).bind fun bt741 => (if bt741.2 = 0 then (tensilelaw09_PlanFewest.j4 kj69 (Int.tmod (wrap64 (a0)) 31) t730 bt741.1 a1_0 a1_1 a1_2 a1_3 a2_0 l2_1 t726 t727) else (none))) = some r := H
                 have A105 := Aside0.mk A1050
                 clear A1050
                 replace H := Option.bind_eq_some_iff.mp H
                 obtain ⟨⟨t741, t742⟩, A1060, H⟩ := H
                 replace H : (if t742 = 0 then (tensilelaw09_PlanFewest.j4 kj69 (Int.tmod (wrap64 (a0)) 31) t730 t741 a1_0 a1_1 a1_2 a1_3 a2_0 l2_1 t726 t727) else (none)) = some r := H
                 have A106 := Aside0.mk A1060
                 clear A1060
                 by_cases c107 : t742 = 0
                 ·
                  as_aux_lemma =>
                  rw [if_pos c107] at H
                  have c107b0 : (t742 == 0) = true := beq_iff_eq.mpr c107
                  have c107b1 : (t742 != 0) = false := bne_eq_false_iff_eq.mpr c107
                  clear c107
                  (first | rw [c107b0] | (simp only [i64_w, i32_w]; rw [c107b0]) | skip)
                  have H' := Aside0.mk H
                  clear H
                  try go_wp2
                  have n0_ := Aside0.mk (k2 HO_700001.out)
                  have n1_ := Aside0.mk (k2 HO_732001.out)
                  have n2_ := Aside0.mk (b1 BK686.out)
                  have n3_ := Aside0.mk (b1 BK687.out)
                  have n4_ := Aside0.mk (b1 BK699.out)
                  have n5_ := Aside0.mk (b1 BK731.out)
                  have n6_ := Aside0.mk (b7 HB.out)
                  clear HO_700001
                  clear HO_732001
                  clear BK686
                  clear BK687
                  clear BK699
                  clear BK731
                  clear HB
                  have HO_700001 := n0_
                  have HO_732001 := n1_
                  have BK686 := n2_
                  have BK687 := n3_
                  have BK699 := n4_
                  have BK731 := n5_
                  have HB := n6_
                  clear n0_ n1_ n2_ n3_ n4_ n5_ n6_
                  refine start_ (n := 10) (S := fun w' => w'.cell? ⟨gb687, 0, none⟩ = some (.int .i64 a2_0) ∧ w'.cell? ⟨gb687, 1, none⟩ = some (.slice A2_1 l2_1.length c2_1) ∧ w'.cell? ⟨gb686, 0, none⟩ = some (.int .i64 a1_0) ∧ w'.cell? ⟨gb686, 1, none⟩ = some (.int .i64 a1_1) ∧ w'.cell? ⟨gb686, 2, none⟩ = some (.int .i64 a1_2) ∧ w'.cell? ⟨gb686, 3, none⟩ = some (.int .i64 a1_3)) (ds := []) #[ff,ff,ff,ff,ff,ff,ff,ff,ff,ff] (by kernel_rfl) rfl rfl ⟨(b4 BK687.out 0).trans rfl, (b4 BK687.out 1).trans rfl, (b4 BK686.out 0).trans rfl, (b4 BK686.out 1).trans rfl, (b4 BK686.out 2).trans rfl, (b4 BK686.out 3).trans rfl⟩ (fun hHeld => ?_); refine with_tabW tensilelaw09_PlanFewest.tab21 tensilelaw09_PlanFewest.bits21 (fun HT_ HW_ => ?_)
                  generalize wc.drew = w108 at HO_700001 HO_732001 BK686 BK687 BK699 BK731 HB hHeld ⊢
                  refine take_ (i := 0) (N := some 142) (v := ?_) (a' := ?_) #[tt,ff,ff,ff,ff,ff,ff,ff,ff,ff] rfl rfl (take_ofW HT_.out HW_.out (by kernel_rfl)) (fun _ _ _ h => h) (Or.inl ⟨by rfl, ?_⟩) hHeld ?_ ?_
                  rotate_left
                  ·
                   rintro w' ⟨s0, s1, s2, s3, s4, s5⟩
                   go_simp
                   with_reducible rfl
                  rotate_left
                  ·
                   simp only [Act.put, l1, l2, l3, i64_w, i32_w]
                   rfl
                  refine take_ (i := 2) (N := some 144) (v := ?_) (a' := ?_) #[tt,ff,tt,ff,ff,ff,ff,ff,ff,ff] rfl rfl (take_ofW HT_.out HW_.out (by kernel_rfl)) (fun _ _ _ h => h) (Or.inl ⟨by rfl, ?_⟩) hHeld ?_ ?_
                  rotate_left
                  ·
                   rintro w' ⟨s0, s1, s2, s3, s4, s5⟩
                   go_simp
                   with_reducible rfl
                  rotate_left
                  ·
                   simp only [Act.put, l1, l2, l3, i64_w, i32_w]
                   rfl
                  refine one_ (i := 1) (N := some 143) #[tt,tt,tt,ff,ff,ff,ff,ff,ff,ff] rfl rfl (one_of HT_.out (by kernel_rfl)) (by decide) (fun K hK => ?_)
                  refine goes_ Try.func17 (by kernel_rfl) rfl #[.agg #[.int .i64 a2_0, .slice A2_1 l2_1.length c2_1]] (by rfl) rfl rfl (by (try simp only [List.map_toArray, List.map_cons, List.map_nil]); first | done | rfl | (simp only [List.length_drop, List.length_take]; rfl)) ?_
                  with_reducible refine (tensilelaw09_Plan.calls kj69 a2_0 _ _ l2_1 t733 t734 _ ?side1 ?side2 A104.out).mono ?_
                  (case side1 => repeat (first | exact (Kd.C_below HR2_1.out HB.out) | (with_reducible refine k13 ?_ _) | (with_reducible refine k14 ?_ _) | (with_reducible refine k15 ?_)))
                  (case side2 => exact HC2_1.out)
                  rintro e w109 ⟨v735, rfl, ho0, hb⟩
                  refine ⟨_, rfl, ?_⟩
                  have n0_ := Aside0.mk (k6 (by (with_reducible repeat (first | apply k0 | apply k1 | apply k2)); exact HO_700001.out) (k7 ho0) hb)
                  have n1_ := Aside0.mk (k6 (by (with_reducible repeat (first | apply k0 | apply k1 | apply k2)); exact HO_732001.out) (k7 ho0) hb)
                  have n2_ := Aside0.mk (k12 (k4 (k4 ho0 (k5 (by (with_reducible repeat (first | apply k0 | apply k1 | apply k2)); exact HO_700001.out))) (k5 (by (with_reducible repeat (first | apply k0 | apply k1 | apply k2)); exact HO_732001.out))) (b12 (by repeat (first | (with_reducible first | exact HB.out | apply b8 | apply b6 | apply b7 | refine b3 ?_ GE686.out | refine b3 ?_ GE687.out | refine b3 ?_ GE699.out | refine b3 ?_ GE731.out) | exact HB.out))))
                  have n3_ := Aside0.mk (b5 (g := gb686) (o := .cells #[.int .i64 a1_0, .int .i64 a1_1, .int .i64 a1_2, .int .i64 a1_3] 64 (0, 0)) (by (with_reducible repeat (first | refine b0 ?_ _ | refine b1 ?_ | refine b2 ?_ _)); exact BK686.out) hb)
                  have n4_ := Aside0.mk (b5 (g := gb687) (o := .cells #[.int .i64 a2_0, .slice A2_1 l2_1.length c2_1] 24 (0, 0)) (by (with_reducible repeat (first | refine b0 ?_ _ | refine b1 ?_ | refine b2 ?_ _)); exact BK687.out) hb)
                  have n5_ := Aside0.mk (b5 (g := gb699) (o := .cells #[.int .i64 t694, .slice (some ad711) t695.length co23] 31 (0, 0)) (by (with_reducible repeat (first | refine b0 ?_ _ | refine b1 ?_ | refine b2 ?_ _)); exact BK699.out) hb)
                  have n6_ := Aside0.mk (b5 (g := gb731) (o := .cells #[.int .i64 t726, .slice Ao81 t727.length co81] 31 (0, 0)) (by (with_reducible repeat (first | refine b0 ?_ _ | refine b1 ?_ | refine b2 ?_ _)); exact BK731.out) hb)
                  have n7_ := Aside0.mk (b13 (by repeat (first | (with_reducible first | exact HB.out | apply b8 | apply b6 | apply b7 | refine b3 ?_ GE686.out | refine b3 ?_ GE687.out | refine b3 ?_ GE699.out | refine b3 ?_ GE731.out) | exact HB.out)) hb)
                  clear HO_700001
                  clear HO_732001
                  clear BK686
                  clear BK687
                  clear BK699
                  clear BK731
                  clear HB
                  have HO_700001 := n0_
                  have HO_732001 := n1_
                  have HO736 := n2_
                  have BK686 := n3_
                  have BK687 := n4_
                  have BK699 := n5_
                  have BK731 := n6_
                  have HB := n7_
                  clear n0_ n1_ n2_ n3_ n4_ n5_ n6_ n7_
                  (try clear hb)
                  (try clear hb2)
                  (try clear hk)
                  (try clear hi)
                  (try clear ho0)
                  refine hK.out _ _ ⟨(b4 BK687.out 0).trans rfl, (b4 BK687.out 1).trans rfl, (b4 BK686.out 0).trans rfl, (b4 BK686.out 1).trans rfl, (b4 BK686.out 2).trans rfl, (b4 BK686.out 3).trans rfl⟩ (fun hHeld => ?_)
                  clear hK K
                  refine norm_ (a' := ?_) ?_ ?_
                  rotate_left
                  ·
                   show Act.put _ (some 143) _ = _
                   simp only [Act.put, l1, l2, l3, i64_w, i32_w]
                   rfl
                  refine one_ (i := 3) (N := some 145) #[tt,tt,tt,tt,ff,ff,ff,ff,ff,ff] rfl rfl (one_of HT_.out (by kernel_rfl)) (by decide) (fun K hK => ?_)
                  refine goes_ Try.func32 (by kernel_rfl) rfl #[.agg #[.int .i64 a1_0, .int .i64 a1_1, .int .i64 a1_2, .int .i64 a1_3]] (by rfl) rfl rfl (by (try simp only [List.map_toArray, List.map_cons, List.map_nil]); first | done | rfl | (simp only [List.length_drop, List.length_take]; rfl)) ?_
                  with_reducible refine (tensilelaw09_Demand.calls a1_0 a1_1 a1_2 a1_3 t737 t738 t739 t740 _ A105.out).mono ?_
                  rintro e w110 ⟨rfl, hb⟩
                  refine ⟨_, rfl, ?_⟩
                  have n0_ := Aside0.mk (k3 (by (with_reducible repeat (first | apply k0 | apply k1 | apply k2)); exact HO_700001.out) hb)
                  have n1_ := Aside0.mk (k3 (by (with_reducible repeat (first | apply k0 | apply k1 | apply k2)); exact HO_732001.out) hb)
                  have n2_ := Aside0.mk (k3 (by (with_reducible repeat (first | apply k0 | apply k1 | apply k2)); exact HO736.out) hb)
                  have n3_ := Aside0.mk (b5 (g := gb686) (o := .cells #[.int .i64 a1_0, .int .i64 a1_1, .int .i64 a1_2, .int .i64 a1_3] 64 (0, 0)) (by (with_reducible repeat (first | refine b0 ?_ _ | refine b1 ?_ | refine b2 ?_ _)); exact BK686.out) hb)
                  have n4_ := Aside0.mk (b5 (g := gb687) (o := .cells #[.int .i64 a2_0, .slice A2_1 l2_1.length c2_1] 24 (0, 0)) (by (with_reducible repeat (first | refine b0 ?_ _ | refine b1 ?_ | refine b2 ?_ _)); exact BK687.out) hb)
                  have n5_ := Aside0.mk (b5 (g := gb699) (o := .cells #[.int .i64 t694, .slice (some ad711) t695.length co23] 31 (0, 0)) (by (with_reducible repeat (first | refine b0 ?_ _ | refine b1 ?_ | refine b2 ?_ _)); exact BK699.out) hb)
                  have n6_ := Aside0.mk (b5 (g := gb731) (o := .cells #[.int .i64 t726, .slice Ao81 t727.length co81] 31 (0, 0)) (by (with_reducible repeat (first | refine b0 ?_ _ | refine b1 ?_ | refine b2 ?_ _)); exact BK731.out) hb)
                  have n7_ := Aside0.mk (b13 (by repeat (first | (with_reducible first | exact HB.out | apply b8 | apply b6 | apply b7 | refine b3 ?_ GE686.out | refine b3 ?_ GE687.out | refine b3 ?_ GE699.out | refine b3 ?_ GE731.out) | exact HB.out)) hb)
                  clear HO_700001
                  clear HO_732001
                  clear HO736
                  clear BK686
                  clear BK687
                  clear BK699
                  clear BK731
                  clear HB
                  have HO_700001 := n0_
                  have HO_732001 := n1_
                  have HO736 := n2_
                  have BK686 := n3_
                  have BK687 := n4_
                  have BK699 := n5_
                  have BK731 := n6_
                  have HB := n7_
                  clear n0_ n1_ n2_ n3_ n4_ n5_ n6_ n7_
                  (try clear hb)
                  (try clear hb2)
                  (try clear hk)
                  (try clear hi)
                  obtain ⟨Ao111, co111, eo111⟩ := Kd.R_slice HO736.out
                  (first | subst eo111 | (injection eo111 with f1_ f2_ f3_; have f4_ := f1_.symm; have f5_ := f3_.symm; clear f1_ f2_ f3_; subst f4_; subst f5_))
                  refine hK.out _ _ ⟨(b4 BK687.out 0).trans rfl, (b4 BK687.out 1).trans rfl, (b4 BK686.out 0).trans rfl, (b4 BK686.out 1).trans rfl, (b4 BK686.out 2).trans rfl, (b4 BK686.out 3).trans rfl⟩ (fun hHeld => ?_)
                  clear hK K
                  refine norm_ (a' := ?_) ?_ ?_
                  rotate_left
                  ·
                   show Act.put _ (some 145) _ = _
                   simp only [Act.put, l1, l2, l3, i64_w, i32_w]
                   rfl
                  refine one_ (i := 4) (N := some 146) #[tt,tt,tt,tt,tt,ff,ff,ff,ff,ff] rfl rfl (one_of HT_.out (by kernel_rfl)) (by decide) (fun K hK => ?_)
                  refine goes_ Try.func31 (by kernel_rfl) rfl #[.agg #[.int .i64 t733, .slice Ao111 t734.length co111], .agg #[.int .i64 t737, .int .i64 t738, .int .i64 t739, .int .i64 t740]] (by rfl) rfl rfl (by (try simp only [List.map_toArray, List.map_cons, List.map_nil]); first | done | rfl | (simp only [List.length_drop, List.length_take]; rfl)) ?_
                  with_reducible refine (plan_Keeps.calls t733 _ _ t734 t737 t738 t739 t740 t741 t742 _ ?side1 ?side2 A106.out).mono ?_
                  (case side1 => repeat (first | exact (k9 HO736.out).2.2 | (with_reducible refine k13 ?_ _) | (with_reducible refine k14 ?_ _) | (with_reducible refine k15 ?_)))
                  (case side2 => exact (k9 HO736.out).2.1)
                  rintro e w112 ⟨rfl, hb⟩
                  refine ⟨_, rfl, ?_⟩
                  have n0_ := Aside0.mk (k3 (by (with_reducible repeat (first | apply k0 | apply k1 | apply k2)); exact HO_700001.out) hb)
                  have n1_ := Aside0.mk (k3 (by (with_reducible repeat (first | apply k0 | apply k1 | apply k2)); exact HO_732001.out) hb)
                  have n2_ := Aside0.mk (k3 (by (with_reducible repeat (first | apply k0 | apply k1 | apply k2)); exact HO736.out) hb)
                  have n3_ := Aside0.mk (b5 (g := gb686) (o := .cells #[.int .i64 a1_0, .int .i64 a1_1, .int .i64 a1_2, .int .i64 a1_3] 64 (0, 0)) (by (with_reducible repeat (first | refine b0 ?_ _ | refine b1 ?_ | refine b2 ?_ _)); exact BK686.out) hb)
                  have n4_ := Aside0.mk (b5 (g := gb687) (o := .cells #[.int .i64 a2_0, .slice A2_1 l2_1.length c2_1] 24 (0, 0)) (by (with_reducible repeat (first | refine b0 ?_ _ | refine b1 ?_ | refine b2 ?_ _)); exact BK687.out) hb)
                  have n5_ := Aside0.mk (b5 (g := gb699) (o := .cells #[.int .i64 t694, .slice (some ad711) t695.length co23] 31 (0, 0)) (by (with_reducible repeat (first | refine b0 ?_ _ | refine b1 ?_ | refine b2 ?_ _)); exact BK699.out) hb)
                  have n6_ := Aside0.mk (b5 (g := gb731) (o := .cells #[.int .i64 t726, .slice Ao81 t727.length co81] 31 (0, 0)) (by (with_reducible repeat (first | refine b0 ?_ _ | refine b1 ?_ | refine b2 ?_ _)); exact BK731.out) hb)
                  have n7_ := Aside0.mk (b13 (by repeat (first | (with_reducible first | exact HB.out | apply b8 | apply b6 | apply b7 | refine b3 ?_ GE686.out | refine b3 ?_ GE687.out | refine b3 ?_ GE699.out | refine b3 ?_ GE731.out) | exact HB.out)) hb)
                  clear HO_700001
                  clear HO_732001
                  clear HO736
                  clear BK686
                  clear BK687
                  clear BK699
                  clear BK731
                  clear HB
                  have HO_700001 := n0_
                  have HO_732001 := n1_
                  have HO736 := n2_
                  have BK686 := n3_
                  have BK687 := n4_
                  have BK699 := n5_
                  have BK731 := n6_
                  have HB := n7_
                  clear n0_ n1_ n2_ n3_ n4_ n5_ n6_ n7_
                  (try clear hb)
                  (try clear hb2)
                  (try clear hk)
                  (try clear hi)
                  refine hK.out _ _ ⟨(b4 BK687.out 0).trans rfl, (b4 BK687.out 1).trans rfl, (b4 BK686.out 0).trans rfl, (b4 BK686.out 1).trans rfl, (b4 BK686.out 2).trans rfl, (b4 BK686.out 3).trans rfl⟩ (fun hHeld => ?_)
                  clear hK K
                  refine norm_ (a' := ?_) ?_ ?_
                  rotate_left
                  ·
                   show Act.put _ (some 146) _ = _
                   simp only [Act.put, l1, l2, l3, i64_w, i32_w]
                   rfl
                  refine pure_ (i := 5) (N := some 141) (v := ?_) (a' := ?_) #[tt,tt,tt,tt,tt,tt,ff,ff,ff,ff] rfl rfl (any_of HT_.out (by kernel_rfl)) (fun _ _ _ h => h) (Or.inl ⟨by rfl, ?_⟩) ?_ ?_
                  rotate_left
                  ·
                   intro w'
                   go_simp
                   with_reducible rfl
                  rotate_left
                  ·
                   simp only [Act.put, l1, l2, l3, i64_w, i32_w]
                   rfl
                  refine pure_ (i := 6) (N := some 147) (v := ?_) (a' := ?_) #[tt,tt,tt,tt,tt,tt,tt,ff,ff,ff] rfl rfl (any_of HT_.out (by kernel_rfl)) (fun _ _ _ h => h) (Or.inl ⟨by rfl, ?_⟩) ?_ ?_
                  rotate_left
                  ·
                   intro w'
                   go_simp
                   with_reducible rfl
                  rotate_left
                  ·
                   simp only [Act.put, l1, l2, l3, i64_w, i32_w]
                   rfl
                  refine pure_ (i := 7) (N := some 148) (v := ?_) (a' := ?_) #[tt,tt,tt,tt,tt,tt,tt,tt,ff,ff] rfl rfl (any_of HT_.out (by kernel_rfl)) (fun _ _ _ h => h) (Or.inl ⟨by rfl, ?_⟩) ?_ ?_
                  rotate_left
                  ·
                   intro w'
                   go_simp
                   with_reducible rfl
                  rotate_left
                  ·
                   simp only [Act.put, l1, l2, l3, i64_w, i32_w]
                   rfl
                  refine pure_ (i := 8) (N := some 23) (v := ?_) (a' := ?_) #[tt,tt,tt,tt,tt,tt,tt,tt,tt,ff] rfl rfl (any_of HT_.out (by kernel_rfl)) (fun _ _ _ h => h) (Or.inl ⟨by rfl, ?_⟩) ?_ ?_
                  rotate_left
                  ·
                   intro w'
                   go_simp
                   with_reducible rfl
                  rotate_left
                  ·
                   simp only [Act.put, l1, l2, l3, i64_w, i32_w]
                   rfl
                  refine pure_ (i := 9) (N := some 24) (v := ?_) (a' := ?_) #[tt,tt,tt,tt,tt,tt,tt,tt,tt,tt] rfl rfl (any_of HT_.out (by kernel_rfl)) (fun _ _ _ h => h) (Or.inl ⟨by rfl, ?_⟩) ?_ ?_
                  rotate_left
                  ·
                   intro w'
                   go_simp
                   with_reducible rfl
                  rotate_left
                  ·
                   simp only [Act.put, l1, l2, l3, i64_w, i32_w]
                   rfl
                  refine done_ (done_of HT_.out (by kernel_rfl)) ?_
                  try go_wp2
                  go_meet
                  case rel => exact ⟨_, (t741), (by first | rfl | (simp; done) | (simp [*]; done)), H', ⟨by have := HJ9.out; have := HJ38.out; have := HJ46.out; have := HJ69.out; first | omega | exact Nat.le_refl _⟩, ⟨by (with_reducible repeat (first | apply k0 | apply k1 | apply k2)); exact k10 HO_700001.out (fun _ hk => hk.1)⟩, ⟨by (with_reducible repeat (first | apply k0 | apply k1 | apply k2)); exact k10 HO_732001.out (fun _ hk => hk.1)⟩, ⟨by (with_reducible repeat (first | refine b0 ?_ _ | refine b1 ?_ | refine b2 ?_ _)); exact BK686.out⟩, ⟨by (with_reducible repeat (first | refine b0 ?_ _ | refine b1 ?_ | refine b2 ?_ _)); exact BK687.out⟩, ⟨by (with_reducible repeat (first | refine b0 ?_ _ | refine b1 ?_ | refine b2 ?_ _)); exact BK699.out⟩, ⟨by (with_reducible repeat (first | refine b0 ?_ _ | refine b1 ?_ | refine b2 ?_ _)); exact BK731.out⟩, ⟨by repeat (first | (with_reducible first | exact HB.out | apply b8 | apply b6 | apply b7 | refine b3 ?_ GE686.out | refine b3 ?_ GE687.out | refine b3 ?_ GE699.out | refine b3 ?_ GE731.out) | exact HB.out)⟩⟩
                 ·
                  rw [if_neg c107] at H
                  exact absurd H (by simp)
                ·
                 replace c103 := Bool.eq_false_iff.mpr c103
                 subst c103
                 have H1 : (tensilelaw09_PlanFewest.j4 kj69 (Int.tmod (wrap64 (a0)) 31) t730 false a1_0 a1_1 a1_2 a1_3 a2_0 l2_1 t726 t727) = some r := by rw [if_neg (show ¬ (false = true) by decide)] at H; exact H
                 clear H
                 have H := H1
                 clear H1
                 have H' := Aside0.mk H
                 clear H
                 go_wp2
                 go_meet
                 case rel => exact ⟨_, (false), (by first | rfl | (simp; done) | (simp [*]; done)), H', ⟨by have := HJ9.out; have := HJ38.out; have := HJ46.out; have := HJ69.out; first | omega | exact Nat.le_refl _⟩, ⟨by (with_reducible repeat (first | apply k0 | apply k1 | apply k2)); exact HO_700001.out⟩, ⟨by (with_reducible repeat (first | apply k0 | apply k1 | apply k2)); exact HO_732001.out⟩, ⟨by (with_reducible repeat (first | refine b0 ?_ _ | refine b1 ?_ | refine b2 ?_ _)); exact BK686.out⟩, ⟨by (with_reducible repeat (first | refine b0 ?_ _ | refine b1 ?_ | refine b2 ?_ _)); exact BK687.out⟩, ⟨by (with_reducible repeat (first | refine b0 ?_ _ | refine b1 ?_ | refine b2 ?_ _)); exact BK699.out⟩, ⟨by (with_reducible repeat (first | refine b0 ?_ _ | refine b1 ?_ | refine b2 ?_ _)); exact BK731.out⟩, ⟨by repeat (first | (with_reducible first | exact HB.out | apply b8 | apply b6 | apply b7 | refine b3 ?_ GE686.out | refine b3 ?_ GE687.out | refine b3 ?_ GE699.out | refine b3 ?_ GE731.out) | exact HB.out)⟩⟩
               case rest =>
                clear HC102
                try clear c1
                try clear c2
                try clear p2
                try clear c3
                try clear c4
                try clear c5
                try clear c6
                try clear p6
                try clear c7
                try clear c7b0
                try clear c7b1
                try clear p7
                try clear q7
                try clear hx7
                try clear qi7
                try clear c8
                try clear c9
                try clear c10
                try clear c13
                try clear c15
                try clear c17
                try clear c20
                try clear c21
                try clear c24
                try clear c24b0
                try clear c24b1
                try clear c26
                try clear c27
                try clear c27b0
                try clear c27b1
                try clear c28
                try clear c28b0
                try clear c28b1
                try clear c29
                try clear c30
                try clear c31
                try clear c32
                try clear c33
                try clear c35
                try clear c36
                try clear c43
                try clear c43b0
                try clear c43b1
                try clear c44
                try clear c45
                try clear c45b0
                try clear c45b1
                try clear c46
                try clear c46b0
                try clear c46b1
                try clear c48
                try clear c49
                try clear c51
                try clear c51b0
                try clear c52
                try clear c52b0
                try clear c52b1
                try clear c55
                try clear c55b0
                try clear c55b1
                try clear c56
                try clear c60
                try clear c61
                try clear p64
                try clear c65
                try clear c65b0
                try clear c71
                try clear p71
                try clear q71
                try clear hx71
                try clear qi71
                try clear c72
                try clear c77
                try clear c78
                try clear c79
                try clear c83
                try clear c84
                try clear c84b0
                try clear c84b1
                try clear c85
                try clear c86
                try clear c87
                try clear c91
                try clear c92
                try clear c93
                try clear c97
                try clear c98
                try clear c99
                try clear c103
                try clear c107
                try clear c107b0
                try clear c107b1
                try clear hcz100_0
                try clear hcz100_1
                try clear hcz14_0
                try clear hcz14_1
                try clear hcz14_2
                try clear hcz14_3
                try clear hcz16_0
                try clear hcz16_1
                try clear hcz16_2
                try clear hcz16_3
                try clear hcz22_0
                try clear hcz22_1
                try clear hcz31_0
                try clear hcz31_1
                try clear hcz35_0
                try clear hcz35_1
                try clear hcz50_0
                try clear hcz50_1
                try clear hcz62_0
                try clear hcz62_1
                try clear hcz62_2
                try clear hcz62_3
                try clear hcz73_0
                try clear hcz73_1
                try clear hcz73_2
                try clear hcz73_3
                try clear hcz80_0
                try clear hcz80_1
                try clear hcz88_0
                try clear hcz88_1
                try clear hcz90_0
                try clear hcz90_1
                try clear hcz94_0
                try clear hcz94_1
                try clear hcz96_0
                try clear hcz96_1
                try clear hfz100_0
                try clear hfz100_1
                try clear hfz14_0
                try clear hfz14_1
                try clear hfz14_2
                try clear hfz14_3
                try clear hfz16_0
                try clear hfz16_1
                try clear hfz16_2
                try clear hfz16_3
                try clear hfz22_0
                try clear hfz22_1
                try clear hfz31_0
                try clear hfz31_1
                try clear hfz35_0
                try clear hfz35_1
                try clear hfz50_0
                try clear hfz50_1
                try clear hfz62_0
                try clear hfz62_1
                try clear hfz62_2
                try clear hfz62_3
                try clear hfz73_0
                try clear hfz73_1
                try clear hfz73_2
                try clear hfz73_3
                try clear hfz80_0
                try clear hfz80_1
                try clear hfz88_0
                try clear hfz88_1
                try clear hfz90_0
                try clear hfz90_1
                try clear hfz94_0
                try clear hfz94_1
                try clear hfz96_0
                try clear hfz96_1
                try clear hx711_0
                try clear hx711_1
                try clear hx711_2
                try clear p2
                try clear p6
                try clear p64
                try clear p7
                try clear p71
                try clear p711
                try clear q7
                try clear q71
                try clear q711
                obtain ⟨kq, x22_101, rfl, HA, HJ101, HO_700001, HO_732001, BK686, BK687, BK699, BK731, HB⟩ := hcut
                cases kq with
                | zero => exact absurd HA.out (by simp [tensilelaw09_PlanFewest.j4])
                | succ kj101 =>
                 have H := HA.out
                 clear HA
                 simp only [tensilelaw09_PlanFewest.j4] at H
                 by_cases c113 : t730 = 0
                 ·
                  as_aux_lemma =>
                  rw [if_pos c113] at H
                  have c113b0 : (t730 == 0) = true := beq_iff_eq.mpr c113
                  have c113b1 : (t730 != 0) = false := bne_eq_false_iff_eq.mpr c113
                  clear c113
                  have HC114 := Aside0.mk H
                  clear H
                  go_upto_region 27 with (fail)
                  go_cut [178] (fun v178 wc => ∃ (kq : Nat) (x178_113 : Bool), v178 = .bool x178_113 ∧ Aside0 (tensilelaw09_PlanFewest.j5 kq x22_101 x178_113 a1_0 a1_1 a1_2 a1_3 a2_0 l2_1 t726 t727 = some r) ∧ Aside0 (kq ≤ kj101) ∧ Aside0 (Kd.R k61 61 wc w.heap.size (fun k_ => some k_ ≠ ((.slice Ao81 t727.length co81) : Value).ownBlock) (.slice (some ad711) t695.length co23) t695) ∧ Aside0 (Kd.R k61 61 wc w.heap.size (fun k_ => some k_ ≠ ((.slice (some ad711) t695.length co23) : Value).ownBlock) (.slice Ao81 t727.length co81) t727) ∧ Aside0 (wc.heap[gb686]? = some (.cells #[.int .i64 a1_0, .int .i64 a1_1, .int .i64 a1_2, .int .i64 a1_3] 64 (0, 0))) ∧ Aside0 (wc.heap[gb687]? = some (.cells #[.int .i64 a2_0, (.slice A2_1 l2_1.length c2_1)] 24 (0, 0))) ∧ Aside0 (wc.heap[gb699]? = some (.cells #[.int .i64 t694, (.slice (some ad711) t695.length co23)] 31 (0, 0))) ∧ Aside0 (wc.heap[gb731]? = some (.cells #[.int .i64 t726, (.slice Ao81 t727.length co81)] 31 (0, 0))) ∧ Aside0 (Below w.heap.size w wc))
                  case first =>
                   have H := HC114.out
                   clear HC114
                   replace H := Option.bind_eq_some_iff.mp H
                   obtain ⟨⟨t744, t745⟩, A1150, H⟩ := H
                   replace H : ((tensileref09_Fault.f kj101 t744 t745).bind fun t748 => (if t748 = 0 then (if (t727.length : Int) = 2 then (tensilelaw09_PlanFewest.j5 kj101 x22_101 (t726 != (Int.tmod (wrap64 (a0)) 31)) a1_0 a1_1 a1_2 a1_3 a2_0 l2_1 t726 t727) else (none)) else (none))) = some r := H
                   have A115 := Aside0.mk A1150
                   clear A1150
                   replace H := Option.bind_eq_some_iff.mp H
                   obtain ⟨t748, A1160, H⟩ := H
                   replace H : (if t748 = 0 then (if (t727.length : Int) = 2 then (tensilelaw09_PlanFewest.j5 kj101 x22_101 (t726 != (Int.tmod (wrap64 (a0)) 31)) a1_0 a1_1 a1_2 a1_3 a2_0 l2_1 t726 t727) else (none)) else (none)) = some r := H
                   have A116 := Aside0.mk A1160
                   clear A1160
                   by_cases c117 : t748 = 0
                   ·
                    rw [if_pos c117] at H
                    have c117b0 : (t748 == 0) = true := beq_iff_eq.mpr c117
                    have c117b1 : (t748 != 0) = false := bne_eq_false_iff_eq.mpr c117
                    clear c117
                    (first | rw [c117b0] | (simp only [i64_w, i32_w]; rw [c117b0]) | skip)
                    by_cases c118 : (t727.length : Int) = 2
                    ·
                     rw [if_pos c118] at H
                     have c118b0 : ((t727.length : Int) == 2) = true := beq_iff_eq.mpr c118
                     have c118b1 : ((t727.length : Int) != 2) = false := bne_eq_false_iff_eq.mpr c118
                     clear c118
                     have H' := Aside0.mk H
                     clear H
                     have hnb119 := NB731_686.out
                     have hnc119 := NB686_731.out
                     have hnb120 := NB731_687.out
                     have hnc120 := NB687_731.out
                     have hnb121 := NB731_699.out
                     have hnc121 := NB699_731.out
                     have hcz122_0 : wc.cell? ⟨gb731, 0, none⟩ = some (.int .i64 t726) := (b4 BK731.out 0).trans rfl
                     have hcz122_1 : wc.cell? ⟨gb731, 1, none⟩ = some (.slice Ao81 t727.length co81) := (b4 BK731.out 1).trans rfl
                     have hfz122_0 := b9 BK731.out 0
                     have hfz122_1 := b9 BK731.out 1
                     go_wp2_with (first | ((with_reducible refine gate_callee (f := 38) rfl ?_); refine goesL_ (some 164) rfl rfl Try.func38 (by kernel_rfl) rfl #[.agg #[.int .i64 t726, .slice Ao81 t727.length co81]] rfl (by (try simp only [List.map_toArray, List.map_cons, List.map_nil]); first | done | rfl | (simp only [List.length_drop, List.length_take]; rfl)) ?_; (with_reducible refine (tensilelaw09_Back.calls kj101 t726 _ _ t727 t744 t745 _ ?side1 ?side2 A115.out).mono ?_); (case side1 => repeat (first | exact (k9 HO_732001.out).2.2 | (with_reducible refine k13 ?_ _) | (with_reducible refine k14 ?_ _) | (with_reducible refine k15 ?_))); (case side2 => exact (k9 HO_732001.out).2.1); rintro e w123 ⟨v746, rfl, ho0, hb⟩; refine ⟨_, rfl, ?_⟩; have n0_ := Aside0.mk (k3 (by (with_reducible repeat (first | apply k0 | apply k1 | apply k2)); exact HO_700001.out) hb); have n1_ := Aside0.mk (k3 (by (with_reducible repeat (first | apply k0 | apply k1 | apply k2)); exact HO_732001.out) hb); have n2_ := Aside0.mk (k12 ho0 (b12 (by repeat (first | (with_reducible first | exact HB.out | apply b8 | apply b6 | apply b7 | refine b3 ?_ GE686.out | refine b3 ?_ GE687.out | refine b3 ?_ GE699.out | refine b3 ?_ GE731.out) | exact HB.out)))); have n3_ := Aside0.mk (b5 (g := gb686) (o := .cells #[.int .i64 a1_0, .int .i64 a1_1, .int .i64 a1_2, .int .i64 a1_3] 64 (0, 0)) (by (with_reducible repeat (first | refine b0 ?_ _ | refine b1 ?_ | refine b2 ?_ _)); exact BK686.out) hb); have n4_ := Aside0.mk (b5 (g := gb687) (o := .cells #[.int .i64 a2_0, .slice A2_1 l2_1.length c2_1] 24 (0, 0)) (by (with_reducible repeat (first | refine b0 ?_ _ | refine b1 ?_ | refine b2 ?_ _)); exact BK687.out) hb); have n5_ := Aside0.mk (b5 (g := gb699) (o := .cells #[.int .i64 t694, .slice (some ad711) t695.length co23] 31 (0, 0)) (by (with_reducible repeat (first | refine b0 ?_ _ | refine b1 ?_ | refine b2 ?_ _)); exact BK699.out) hb); have n6_ := Aside0.mk (b5 (g := gb731) (o := .cells #[.int .i64 t726, .slice Ao81 t727.length co81] 31 (0, 0)) (by (with_reducible repeat (first | refine b0 ?_ _ | refine b1 ?_ | refine b2 ?_ _)); exact BK731.out) hb); have n7_ := Aside0.mk (b13 (by repeat (first | (with_reducible first | exact HB.out | apply b8 | apply b6 | apply b7 | refine b3 ?_ GE686.out | refine b3 ?_ GE687.out | refine b3 ?_ GE699.out | refine b3 ?_ GE731.out) | exact HB.out)) hb); clear HO_700001; clear HO_732001; clear BK686; clear BK687; clear BK699; clear BK731; clear HB; have HO_700001 := n0_; have HO_732001 := n1_; have HO747 := n2_; have BK686 := n3_; have BK687 := n4_; have BK699 := n5_; have BK731 := n6_; have HB := n7_; clear n0_ n1_ n2_ n3_ n4_ n5_ n6_ n7_; (try clear hb); (try clear hb2); (try clear hk); (try clear hi); (try clear ho0); obtain ⟨Ao124, co124, eo124⟩ := Kd.R_slice HO747.out; subst eo124) | ((with_reducible refine gate_callee (f := 37) rfl ?_); refine goesL_ (some 165) rfl rfl Try.func37 (by kernel_rfl) rfl #[.agg #[.int .i64 t744, .slice Ao124 t745.length co124]] rfl (by (try simp only [List.map_toArray, List.map_cons, List.map_nil]); first | done | rfl | (simp only [List.length_drop, List.length_take]; rfl)) ?_; (with_reducible refine (tensileref09_Fault.calls kj101 t744 _ _ t745 t748 _ ?side1 ?side2 A116.out).mono ?_); (case side1 => repeat (first | exact (k9 HO747.out).2.2 | (with_reducible refine k13 ?_ _) | (with_reducible refine k14 ?_ _) | (with_reducible refine k15 ?_))); (case side2 => exact (k9 HO747.out).2.1); rintro e w125 ⟨rfl, hb⟩; refine ⟨_, rfl, ?_⟩; have n0_ := Aside0.mk (k3 (by (with_reducible repeat (first | apply k0 | apply k1 | apply k2)); exact HO_700001.out) hb); have n1_ := Aside0.mk (k3 (by (with_reducible repeat (first | apply k0 | apply k1 | apply k2)); exact HO_732001.out) hb); have n2_ := Aside0.mk (k3 (by (with_reducible repeat (first | apply k0 | apply k1 | apply k2)); exact HO747.out) hb); have n3_ := Aside0.mk (b5 (g := gb686) (o := .cells #[.int .i64 a1_0, .int .i64 a1_1, .int .i64 a1_2, .int .i64 a1_3] 64 (0, 0)) (by (with_reducible repeat (first | refine b0 ?_ _ | refine b1 ?_ | refine b2 ?_ _)); exact BK686.out) hb); have n4_ := Aside0.mk (b5 (g := gb687) (o := .cells #[.int .i64 a2_0, .slice A2_1 l2_1.length c2_1] 24 (0, 0)) (by (with_reducible repeat (first | refine b0 ?_ _ | refine b1 ?_ | refine b2 ?_ _)); exact BK687.out) hb); have n5_ := Aside0.mk (b5 (g := gb699) (o := .cells #[.int .i64 t694, .slice (some ad711) t695.length co23] 31 (0, 0)) (by (with_reducible repeat (first | refine b0 ?_ _ | refine b1 ?_ | refine b2 ?_ _)); exact BK699.out) hb); have n6_ := Aside0.mk (b5 (g := gb731) (o := .cells #[.int .i64 t726, .slice Ao81 t727.length co81] 31 (0, 0)) (by (with_reducible repeat (first | refine b0 ?_ _ | refine b1 ?_ | refine b2 ?_ _)); exact BK731.out) hb); have n7_ := Aside0.mk (b13 (by repeat (first | (with_reducible first | exact HB.out | apply b8 | apply b6 | apply b7 | refine b3 ?_ GE686.out | refine b3 ?_ GE687.out | refine b3 ?_ GE699.out | refine b3 ?_ GE731.out) | exact HB.out)) hb); clear HO_700001; clear HO_732001; clear HO747; clear BK686; clear BK687; clear BK699; clear BK731; clear HB; have HO_700001 := n0_; have HO_732001 := n1_; have HO747 := n2_; have BK686 := n3_; have BK687 := n4_; have BK699 := n5_; have BK731 := n6_; have HB := n7_; clear n0_ n1_ n2_ n3_ n4_ n5_ n6_ n7_; (try clear hb); (try clear hb2); (try clear hk); (try clear hi); have hcz126_0 : w125.cell? ⟨gb731, 0, none⟩ = some (.int .i64 t726) := (b4 BK731.out 0).trans rfl; have hcz126_1 : w125.cell? ⟨gb731, 1, none⟩ = some (.slice Ao81 t727.length co81) := (b4 BK731.out 1).trans rfl; have hfz126_0 := b9 BK731.out 0; have hfz126_1 := b9 BK731.out 1))
                     go_meet
                     case rel => exact ⟨_, ((t726 != (Int.tmod (wrap64 (a0)) 31))), (by first | rfl | (simp; done) | (simp [*]; done)), H', ⟨by have := HJ9.out; have := HJ38.out; have := HJ46.out; have := HJ69.out; have := HJ101.out; first | omega | exact Nat.le_refl _⟩, ⟨by (with_reducible repeat (first | apply k0 | apply k1 | apply k2)); exact HO_700001.out⟩, ⟨by (with_reducible repeat (first | apply k0 | apply k1 | apply k2)); exact HO_732001.out⟩, ⟨by (with_reducible repeat (first | refine b0 ?_ _ | refine b1 ?_ | refine b2 ?_ _)); exact BK686.out⟩, ⟨by (with_reducible repeat (first | refine b0 ?_ _ | refine b1 ?_ | refine b2 ?_ _)); exact BK687.out⟩, ⟨by (with_reducible repeat (first | refine b0 ?_ _ | refine b1 ?_ | refine b2 ?_ _)); exact BK699.out⟩, ⟨by (with_reducible repeat (first | refine b0 ?_ _ | refine b1 ?_ | refine b2 ?_ _)); exact BK731.out⟩, ⟨by repeat (first | (with_reducible first | exact HB.out | apply b8 | apply b6 | apply b7 | refine b3 ?_ GE686.out | refine b3 ?_ GE687.out | refine b3 ?_ GE699.out | refine b3 ?_ GE731.out) | exact HB.out)⟩⟩
                    ·
                     rw [if_neg c118] at H
                     exact absurd H (by simp)
                   ·
                    rw [if_neg c117] at H
                    exact absurd H (by simp)
                  case rest =>
                   clear HC114
                   try clear c1
                   try clear c2
                   try clear p2
                   try clear c3
                   try clear c4
                   try clear c5
                   try clear c6
                   try clear p6
                   try clear c7
                   try clear c7b0
                   try clear c7b1
                   try clear p7
                   try clear q7
                   try clear hx7
                   try clear qi7
                   try clear c8
                   try clear c9
                   try clear c10
                   try clear c11
                   try clear c12
                   try clear c13
                   try clear c15
                   try clear c17
                   try clear c20
                   try clear c21
                   try clear c24
                   try clear c24b0
                   try clear c24b1
                   try clear c26
                   try clear c27
                   try clear c27b0
                   try clear c27b1
                   try clear c28
                   try clear c28b0
                   try clear c28b1
                   try clear c29
                   try clear c30
                   try clear c31
                   try clear c32
                   try clear c33
                   try clear c35
                   try clear c36
                   try clear c37
                   try clear c38
                   try clear c43
                   try clear c43b0
                   try clear c43b1
                   try clear c44
                   try clear c45
                   try clear c45b0
                   try clear c45b1
                   try clear c46
                   try clear c46b0
                   try clear c46b1
                   try clear c48
                   try clear c49
                   try clear c51
                   try clear c51b0
                   try clear c52
                   try clear c52b0
                   try clear c52b1
                   try clear c55
                   try clear c55b0
                   try clear c55b1
                   try clear c56
                   try clear c60
                   try clear c61
                   try clear p64
                   try clear c65
                   try clear c65b0
                   try clear c71
                   try clear p71
                   try clear q71
                   try clear hx71
                   try clear qi71
                   try clear c72
                   try clear c77
                   try clear c78
                   try clear c79
                   try clear c83
                   try clear c84
                   try clear c84b0
                   try clear c84b1
                   try clear c85
                   try clear c86
                   try clear c87
                   try clear c91
                   try clear c92
                   try clear c93
                   try clear c97
                   try clear c98
                   try clear c99
                   try clear c103
                   try clear c107
                   try clear c107b0
                   try clear c107b1
                   try clear c113
                   try clear c113b0
                   try clear c113b1
                   try clear c117
                   try clear c117b0
                   try clear c117b1
                   try clear c118
                   try clear c118b0
                   try clear c118b1
                   try clear c119
                   try clear c120
                   try clear c121
                   try clear hcz100_0
                   try clear hcz100_1
                   try clear hcz122_0
                   try clear hcz122_1
                   try clear hcz126_0
                   try clear hcz126_1
                   try clear hcz14_0
                   try clear hcz14_1
                   try clear hcz14_2
                   try clear hcz14_3
                   try clear hcz16_0
                   try clear hcz16_1
                   try clear hcz16_2
                   try clear hcz16_3
                   try clear hcz22_0
                   try clear hcz22_1
                   try clear hcz31_0
                   try clear hcz31_1
                   try clear hcz35_0
                   try clear hcz35_1
                   try clear hcz50_0
                   try clear hcz50_1
                   try clear hcz62_0
                   try clear hcz62_1
                   try clear hcz62_2
                   try clear hcz62_3
                   try clear hcz73_0
                   try clear hcz73_1
                   try clear hcz73_2
                   try clear hcz73_3
                   try clear hcz80_0
                   try clear hcz80_1
                   try clear hcz88_0
                   try clear hcz88_1
                   try clear hcz90_0
                   try clear hcz90_1
                   try clear hcz94_0
                   try clear hcz94_1
                   try clear hcz96_0
                   try clear hcz96_1
                   try clear hfz100_0
                   try clear hfz100_1
                   try clear hfz122_0
                   try clear hfz122_1
                   try clear hfz126_0
                   try clear hfz126_1
                   try clear hfz14_0
                   try clear hfz14_1
                   try clear hfz14_2
                   try clear hfz14_3
                   try clear hfz16_0
                   try clear hfz16_1
                   try clear hfz16_2
                   try clear hfz16_3
                   try clear hfz22_0
                   try clear hfz22_1
                   try clear hfz31_0
                   try clear hfz31_1
                   try clear hfz35_0
                   try clear hfz35_1
                   try clear hfz50_0
                   try clear hfz50_1
                   try clear hfz62_0
                   try clear hfz62_1
                   try clear hfz62_2
                   try clear hfz62_3
                   try clear hfz73_0
                   try clear hfz73_1
                   try clear hfz73_2
                   try clear hfz73_3
                   try clear hfz80_0
                   try clear hfz80_1
                   try clear hfz88_0
                   try clear hfz88_1
                   try clear hfz90_0
                   try clear hfz90_1
                   try clear hfz94_0
                   try clear hfz94_1
                   try clear hfz96_0
                   try clear hfz96_1
                   try clear hx711_0
                   try clear hx711_1
                   try clear hx711_2
                   try clear p2
                   try clear p6
                   try clear p64
                   try clear p7
                   try clear p71
                   try clear p711
                   try clear q7
                   try clear q71
                   try clear q711
                   obtain ⟨kq, x178_113, rfl, HA, HJ113, HO_700001, HO_732001, BK686, BK687, BK699, BK731, HB⟩ := hcut
                   cases kq with
                   | zero => exact absurd HA.out (by simp [tensilelaw09_PlanFewest.j5])
                   | succ kj113 =>
                    have H := HA.out
                    clear HA
                    simp only [tensilelaw09_PlanFewest.j5] at H
                    by_cases c127 : x178_113 = true
                    ·
                     subst c127
                     have H1 : (none) = some r := by rw [if_pos rfl] at H; exact H
                     clear H
                     have H := H1
                     clear H1
                     exact absurd H (by simp)
                    ·
                     as_aux_lemma =>
                     replace c127 := Bool.eq_false_iff.mpr c127
                     subst c127
                     have H1 : ((tensilelaw09_Demand.f a1_0 a1_1 a1_2 a1_3).bind fun bt749 => ((plan_Keeps.f t726 t727 bt749.1 bt749.2.1 bt749.2.2.1 bt749.2.2.2).bind fun bt753 => ((plan_Mean.f t726 t727 a1_0).bind fun bt755 => (if bt753.2 = 0 then (if bt753.1 = true then (tensilelaw09_PlanFewest.j6 kj113 x22_101 (bt755.2.2 != 0) a1_0 a1_1 a1_2 a1_3 a2_0 l2_1 bt755.1 bt755.2.1) else (none)) else (none))))) = some r := by rw [if_neg (show ¬ (false = true) by decide)] at H; exact H
                     clear H
                     have H := H1
                     clear H1
                     replace H := Option.bind_eq_some_iff.mp H
                     obtain ⟨⟨t749, t750, t751, t752⟩, A1280, H⟩ := H
                     replace H : ((plan_Keeps.f t726 t727 t749 t750 t751 t752).bind fun bt753 => ((plan_Mean.f t726 t727 a1_0).bind fun bt755 => (if bt753.2 = 0 then (if bt753.1 = true then (tensilelaw09_PlanFewest.j6 kj113 x22_101 (bt755.2.2 != 0) a1_0 a1_1 a1_2 a1_3 a2_0 l2_1 bt755.1 bt755.2.1) else (none)) else (none)))) = some r := H
                     have A128 := Aside0.mk A1280
                     clear A1280
                     replace H := Option.bind_eq_some_iff.mp H
                     obtain ⟨⟨t753, t754⟩, A1290, H⟩ := H
                     replace H : ((plan_Mean.f t726 t727 a1_0).bind fun bt755 => (if t754 = 0 then (if t753 = true then (tensilelaw09_PlanFewest.j6 kj113 x22_101 (bt755.2.2 != 0) a1_0 a1_1 a1_2 a1_3 a2_0 l2_1 bt755.1 bt755.2.1) else (none)) else (none))) = some r := H
                     have A129 := Aside0.mk A1290
                     clear A1290
                     replace H := Option.bind_eq_some_iff.mp H
                     obtain ⟨⟨t755, t756, t757⟩, A1300, H⟩ := H
                     replace H : (if t754 = 0 then (if t753 = true then (tensilelaw09_PlanFewest.j6 kj113 x22_101 (t757 != 0) a1_0 a1_1 a1_2 a1_3 a2_0 l2_1 t755 t756) else (none)) else (none)) = some r := H
                     have A130 := Aside0.mk A1300
                     clear A1300
                     have HC131 := Aside0.mk H
                     clear H
                     try go_wp2
                     have n0_ := Aside0.mk (k2 HO_700001.out)
                     have n1_ := Aside0.mk (k2 HO_732001.out)
                     have n2_ := Aside0.mk (b1 BK686.out)
                     have n3_ := Aside0.mk (b1 BK687.out)
                     have n4_ := Aside0.mk (b1 BK699.out)
                     have n5_ := Aside0.mk (b1 BK731.out)
                     have n6_ := Aside0.mk (b7 HB.out)
                     clear HO_700001
                     clear HO_732001
                     clear BK686
                     clear BK687
                     clear BK699
                     clear BK731
                     clear HB
                     have HO_700001 := n0_
                     have HO_732001 := n1_
                     have BK686 := n2_
                     have BK687 := n3_
                     have BK699 := n4_
                     have BK731 := n5_
                     have HB := n6_
                     clear n0_ n1_ n2_ n3_ n4_ n5_ n6_
                     refine start_ (n := 9) (S := fun w' => w'.cell? ⟨gb731, 0, none⟩ = some (.int .i64 t726) ∧ w'.cell? ⟨gb731, 1, none⟩ = some (.slice Ao81 t727.length co81) ∧ w'.cell? ⟨gb686, 0, none⟩ = some (.int .i64 a1_0) ∧ w'.cell? ⟨gb686, 1, none⟩ = some (.int .i64 a1_1) ∧ w'.cell? ⟨gb686, 2, none⟩ = some (.int .i64 a1_2) ∧ w'.cell? ⟨gb686, 3, none⟩ = some (.int .i64 a1_3)) (ds := []) #[ff,ff,ff,ff,ff,ff,ff,ff,ff] (by kernel_rfl) rfl rfl ⟨(b4 BK731.out 0).trans rfl, (b4 BK731.out 1).trans rfl, (b4 BK686.out 0).trans rfl, (b4 BK686.out 1).trans rfl, (b4 BK686.out 2).trans rfl, (b4 BK686.out 3).trans rfl⟩ (fun hHeld => ?_); refine with_tabW tensilelaw09_PlanFewest.tab29 tensilelaw09_PlanFewest.bits29 (fun HT_ HW_ => ?_)
                     generalize wc.drew = w132 at HO_700001 HO_732001 BK686 BK687 BK699 BK731 HB hHeld ⊢
                     refine take_ (i := 0) (N := some 180) (v := ?_) (a' := ?_) #[tt,ff,ff,ff,ff,ff,ff,ff,ff] rfl rfl (take_ofW HT_.out HW_.out (by kernel_rfl)) (fun _ _ _ h => h) (Or.inl ⟨by rfl, ?_⟩) hHeld ?_ ?_
                     rotate_left
                     ·
                      rintro w' ⟨s0, s1, s2, s3, s4, s5⟩
                      go_simp
                      with_reducible rfl
                     rotate_left
                     ·
                      simp only [Act.put, l1, l2, l3, i64_w, i32_w]
                      rfl
                     refine take_ (i := 1) (N := some 181) (v := ?_) (a' := ?_) #[tt,tt,ff,ff,ff,ff,ff,ff,ff] rfl rfl (take_ofW HT_.out HW_.out (by kernel_rfl)) (fun _ _ _ h => h) (Or.inl ⟨by rfl, ?_⟩) hHeld ?_ ?_
                     rotate_left
                     ·
                      rintro w' ⟨s0, s1, s2, s3, s4, s5⟩
                      go_simp
                      with_reducible rfl
                     rotate_left
                     ·
                      simp only [Act.put, l1, l2, l3, i64_w, i32_w]
                      rfl
                     refine one_ (i := 2) (N := some 182) #[tt,tt,tt,ff,ff,ff,ff,ff,ff] rfl rfl (one_of HT_.out (by kernel_rfl)) (by decide) (fun K hK => ?_)
                     refine goes_ Try.func32 (by kernel_rfl) rfl #[.agg #[.int .i64 a1_0, .int .i64 a1_1, .int .i64 a1_2, .int .i64 a1_3]] (by rfl) rfl rfl (by (try simp only [List.map_toArray, List.map_cons, List.map_nil]); first | done | rfl | (simp only [List.length_drop, List.length_take]; rfl)) ?_
                     with_reducible refine (tensilelaw09_Demand.calls a1_0 a1_1 a1_2 a1_3 t749 t750 t751 t752 _ A128.out).mono ?_
                     rintro e w133 ⟨rfl, hb⟩
                     refine ⟨_, rfl, ?_⟩
                     have n0_ := Aside0.mk (k3 (by (with_reducible repeat (first | apply k0 | apply k1 | apply k2)); exact HO_700001.out) hb)
                     have n1_ := Aside0.mk (k3 (by (with_reducible repeat (first | apply k0 | apply k1 | apply k2)); exact HO_732001.out) hb)
                     have n2_ := Aside0.mk (b5 (g := gb686) (o := .cells #[.int .i64 a1_0, .int .i64 a1_1, .int .i64 a1_2, .int .i64 a1_3] 64 (0, 0)) (by (with_reducible repeat (first | refine b0 ?_ _ | refine b1 ?_ | refine b2 ?_ _)); exact BK686.out) hb)
                     have n3_ := Aside0.mk (b5 (g := gb687) (o := .cells #[.int .i64 a2_0, .slice A2_1 l2_1.length c2_1] 24 (0, 0)) (by (with_reducible repeat (first | refine b0 ?_ _ | refine b1 ?_ | refine b2 ?_ _)); exact BK687.out) hb)
                     have n4_ := Aside0.mk (b5 (g := gb699) (o := .cells #[.int .i64 t694, .slice (some ad711) t695.length co23] 31 (0, 0)) (by (with_reducible repeat (first | refine b0 ?_ _ | refine b1 ?_ | refine b2 ?_ _)); exact BK699.out) hb)
                     have n5_ := Aside0.mk (b5 (g := gb731) (o := .cells #[.int .i64 t726, .slice Ao81 t727.length co81] 31 (0, 0)) (by (with_reducible repeat (first | refine b0 ?_ _ | refine b1 ?_ | refine b2 ?_ _)); exact BK731.out) hb)
                     have n6_ := Aside0.mk (b13 (by repeat (first | (with_reducible first | exact HB.out | apply b8 | apply b6 | apply b7 | refine b3 ?_ GE686.out | refine b3 ?_ GE687.out | refine b3 ?_ GE699.out | refine b3 ?_ GE731.out) | exact HB.out)) hb)
                     clear HO_700001
                     clear HO_732001
                     clear BK686
                     clear BK687
                     clear BK699
                     clear BK731
                     clear HB
                     have HO_700001 := n0_
                     have HO_732001 := n1_
                     have BK686 := n2_
                     have BK687 := n3_
                     have BK699 := n4_
                     have BK731 := n5_
                     have HB := n6_
                     clear n0_ n1_ n2_ n3_ n4_ n5_ n6_
                     (try clear hb)
                     (try clear hb2)
                     (try clear hk)
                     (try clear hi)
                     refine hK.out _ _ ⟨(b4 BK731.out 0).trans rfl, (b4 BK731.out 1).trans rfl, (b4 BK686.out 0).trans rfl, (b4 BK686.out 1).trans rfl, (b4 BK686.out 2).trans rfl, (b4 BK686.out 3).trans rfl⟩ (fun hHeld => ?_)
                     clear hK K
                     refine norm_ (a' := ?_) ?_ ?_
                     rotate_left
                     ·
                      show Act.put _ (some 182) _ = _
                      simp only [Act.put, l1, l2, l3, i64_w, i32_w]
                      rfl
                     refine one_ (i := 3) (N := some 183) #[tt,tt,tt,tt,ff,ff,ff,ff,ff] rfl rfl (one_of HT_.out (by kernel_rfl)) (by decide) (fun K hK => ?_)
                     refine goes_ Try.func31 (by kernel_rfl) rfl #[.agg #[.int .i64 t726, .slice Ao81 t727.length co81], .agg #[.int .i64 t749, .int .i64 t750, .int .i64 t751, .int .i64 t752]] (by rfl) rfl rfl (by (try simp only [List.map_toArray, List.map_cons, List.map_nil]); first | done | rfl | (simp only [List.length_drop, List.length_take]; rfl)) ?_
                     with_reducible refine (plan_Keeps.calls t726 _ _ t727 t749 t750 t751 t752 t753 t754 _ ?side1 ?side2 A129.out).mono ?_
                     (case side1 => repeat (first | exact (k9 HO_732001.out).2.2 | (with_reducible refine k13 ?_ _) | (with_reducible refine k14 ?_ _) | (with_reducible refine k15 ?_)))
                     (case side2 => exact (k9 HO_732001.out).2.1)
                     rintro e w134 ⟨rfl, hb⟩
                     refine ⟨_, rfl, ?_⟩
                     have n0_ := Aside0.mk (k3 (by (with_reducible repeat (first | apply k0 | apply k1 | apply k2)); exact HO_700001.out) hb)
                     have n1_ := Aside0.mk (k3 (by (with_reducible repeat (first | apply k0 | apply k1 | apply k2)); exact HO_732001.out) hb)
                     have n2_ := Aside0.mk (b5 (g := gb686) (o := .cells #[.int .i64 a1_0, .int .i64 a1_1, .int .i64 a1_2, .int .i64 a1_3] 64 (0, 0)) (by (with_reducible repeat (first | refine b0 ?_ _ | refine b1 ?_ | refine b2 ?_ _)); exact BK686.out) hb)
                     have n3_ := Aside0.mk (b5 (g := gb687) (o := .cells #[.int .i64 a2_0, .slice A2_1 l2_1.length c2_1] 24 (0, 0)) (by (with_reducible repeat (first | refine b0 ?_ _ | refine b1 ?_ | refine b2 ?_ _)); exact BK687.out) hb)
                     have n4_ := Aside0.mk (b5 (g := gb699) (o := .cells #[.int .i64 t694, .slice (some ad711) t695.length co23] 31 (0, 0)) (by (with_reducible repeat (first | refine b0 ?_ _ | refine b1 ?_ | refine b2 ?_ _)); exact BK699.out) hb)
                     have n5_ := Aside0.mk (b5 (g := gb731) (o := .cells #[.int .i64 t726, .slice Ao81 t727.length co81] 31 (0, 0)) (by (with_reducible repeat (first | refine b0 ?_ _ | refine b1 ?_ | refine b2 ?_ _)); exact BK731.out) hb)
                     have n6_ := Aside0.mk (b13 (by repeat (first | (with_reducible first | exact HB.out | apply b8 | apply b6 | apply b7 | refine b3 ?_ GE686.out | refine b3 ?_ GE687.out | refine b3 ?_ GE699.out | refine b3 ?_ GE731.out) | exact HB.out)) hb)
                     clear HO_700001
                     clear HO_732001
                     clear BK686
                     clear BK687
                     clear BK699
                     clear BK731
                     clear HB
                     have HO_700001 := n0_
                     have HO_732001 := n1_
                     have BK686 := n2_
                     have BK687 := n3_
                     have BK699 := n4_
                     have BK731 := n5_
                     have HB := n6_
                     clear n0_ n1_ n2_ n3_ n4_ n5_ n6_
                     (try clear hb)
                     (try clear hb2)
                     (try clear hk)
                     (try clear hi)
                     refine hK.out _ _ ⟨(b4 BK731.out 0).trans rfl, (b4 BK731.out 1).trans rfl, (b4 BK686.out 0).trans rfl, (b4 BK686.out 1).trans rfl, (b4 BK686.out 2).trans rfl, (b4 BK686.out 3).trans rfl⟩ (fun hHeld => ?_)
                     clear hK K
                     refine norm_ (a' := ?_) ?_ ?_
                     rotate_left
                     ·
                      show Act.put _ (some 183) _ = _
                      simp only [Act.put, l1, l2, l3, i64_w, i32_w]
                      rfl
                     refine pure_ (i := 4) (N := some 179) (v := ?_) (a' := ?_) #[tt,tt,tt,tt,tt,ff,ff,ff,ff] rfl rfl (any_of HT_.out (by kernel_rfl)) (fun _ _ _ h => h) (Or.inl ⟨by rfl, ?_⟩) ?_ ?_
                     rotate_left
                     ·
                      intro w'
                      go_simp
                      with_reducible rfl
                     rotate_left
                     ·
                      simp only [Act.put, l1, l2, l3, i64_w, i32_w]
                      rfl
                     refine pure_ (i := 5) (N := some 184) (v := ?_) (a' := ?_) #[tt,tt,tt,tt,tt,tt,ff,ff,ff] rfl rfl (any_of HT_.out (by kernel_rfl)) (fun _ _ _ h => h) (Or.inl ⟨by rfl, ?_⟩) ?_ ?_
                     rotate_left
                     ·
                      intro w'
                      go_simp
                      with_reducible rfl
                     rotate_left
                     ·
                      simp only [Act.put, l1, l2, l3, i64_w, i32_w]
                      rfl
                     refine pure_ (i := 6) (N := some 185) (v := ?_) (a' := ?_) #[tt,tt,tt,tt,tt,tt,tt,ff,ff] rfl rfl (any_of HT_.out (by kernel_rfl)) (fun _ _ _ h => h) (Or.inl ⟨by rfl, ?_⟩) ?_ ?_
                     rotate_left
                     ·
                      intro w'
                      go_simp
                      with_reducible rfl
                     rotate_left
                     ·
                      simp only [Act.put, l1, l2, l3, i64_w, i32_w]
                      rfl
                     refine pure_ (i := 7) (N := some 25) (v := ?_) (a' := ?_) #[tt,tt,tt,tt,tt,tt,tt,tt,ff] rfl rfl (any_of HT_.out (by kernel_rfl)) (fun _ _ _ h => h) (Or.inl ⟨by rfl, ?_⟩) ?_ ?_
                     rotate_left
                     ·
                      intro w'
                      go_simp
                      with_reducible rfl
                     rotate_left
                     ·
                      simp only [Act.put, l1, l2, l3, i64_w, i32_w]
                      rfl
                     refine pure_ (i := 8) (N := some 26) (v := ?_) (a' := ?_) #[tt,tt,tt,tt,tt,tt,tt,tt,tt] rfl rfl (any_of HT_.out (by kernel_rfl)) (fun _ _ _ h => h) (Or.inl ⟨by rfl, ?_⟩) ?_ ?_
                     rotate_left
                     ·
                      intro w'
                      go_simp
                      with_reducible rfl
                     rotate_left
                     ·
                      simp only [Act.put, l1, l2, l3, i64_w, i32_w]
                      rfl
                     refine done_ (done_of HT_.out (by kernel_rfl)) ?_
                     have hnb135 := NB731_686.out
                     have hnc135 := NB686_731.out
                     have hnb136 := NB731_687.out
                     have hnc136 := NB687_731.out
                     have hnb137 := NB731_699.out
                     have hnc137 := NB699_731.out
                     have hcz138_0 : w134.cell? ⟨gb731, 0, none⟩ = some (.int .i64 t726) := (b4 BK731.out 0).trans rfl
                     have hcz138_1 : w134.cell? ⟨gb731, 1, none⟩ = some (.slice Ao81 t727.length co81) := (b4 BK731.out 1).trans rfl
                     have hfz138_0 := b9 BK731.out 0
                     have hfz138_1 := b9 BK731.out 1
                     have hnb139 := NB686_687.out
                     have hnc139 := NB687_686.out
                     have hnb140 := NB686_699.out
                     have hnc140 := NB699_686.out
                     have hcz141_0 : w134.cell? ⟨gb686, 0, none⟩ = some (.int .i64 a1_0) := (b4 BK686.out 0).trans rfl
                     have hcz141_1 : w134.cell? ⟨gb686, 1, none⟩ = some (.int .i64 a1_1) := (b4 BK686.out 1).trans rfl
                     have hcz141_2 : w134.cell? ⟨gb686, 2, none⟩ = some (.int .i64 a1_2) := (b4 BK686.out 2).trans rfl
                     have hcz141_3 : w134.cell? ⟨gb686, 3, none⟩ = some (.int .i64 a1_3) := (b4 BK686.out 3).trans rfl
                     have hfz141_0 := b9 BK686.out 0
                     have hfz141_1 := b9 BK686.out 1
                     have hfz141_2 := b9 BK686.out 2
                     have hfz141_3 := b9 BK686.out 3
                     go_upto_region 31 with (first | ((with_reducible refine gate_callee (f := 23) rfl ?_); refine goesL_ (some 190) rfl rfl Try.func23 (by kernel_rfl) rfl #[.agg #[.int .i64 t726, .slice Ao81 t727.length co81], .int .i64 a1_0] rfl (by (try simp only [List.map_toArray, List.map_cons, List.map_nil]); first | done | rfl | (simp only [List.length_drop, List.length_take]; rfl)) ?_; (with_reducible refine (plan_Mean.calls t726 _ _ t727 a1_0 t755 t756 t757 _ ?side1 ?side2 A130.out).mono ?_); (case side1 => repeat (first | exact (k9 HO_732001.out).2.2 | (with_reducible refine k13 ?_ _) | (with_reducible refine k14 ?_ _) | (with_reducible refine k15 ?_))); (case side2 => exact (k9 HO_732001.out).2.1); rintro e w142 ⟨rfl, hb⟩; refine ⟨_, rfl, ?_⟩; have n0_ := Aside0.mk (k3 (by (with_reducible repeat (first | apply k0 | apply k1 | apply k2)); exact HO_700001.out) hb); have n1_ := Aside0.mk (k3 (by (with_reducible repeat (first | apply k0 | apply k1 | apply k2)); exact HO_732001.out) hb); have n2_ := Aside0.mk (b5 (g := gb686) (o := .cells #[.int .i64 a1_0, .int .i64 a1_1, .int .i64 a1_2, .int .i64 a1_3] 64 (0, 0)) (by (with_reducible repeat (first | refine b0 ?_ _ | refine b1 ?_ | refine b2 ?_ _)); exact BK686.out) hb); have n3_ := Aside0.mk (b5 (g := gb687) (o := .cells #[.int .i64 a2_0, .slice A2_1 l2_1.length c2_1] 24 (0, 0)) (by (with_reducible repeat (first | refine b0 ?_ _ | refine b1 ?_ | refine b2 ?_ _)); exact BK687.out) hb); have n4_ := Aside0.mk (b5 (g := gb699) (o := .cells #[.int .i64 t694, .slice (some ad711) t695.length co23] 31 (0, 0)) (by (with_reducible repeat (first | refine b0 ?_ _ | refine b1 ?_ | refine b2 ?_ _)); exact BK699.out) hb); have n5_ := Aside0.mk (b5 (g := gb731) (o := .cells #[.int .i64 t726, .slice Ao81 t727.length co81] 31 (0, 0)) (by (with_reducible repeat (first | refine b0 ?_ _ | refine b1 ?_ | refine b2 ?_ _)); exact BK731.out) hb); have n6_ := Aside0.mk (b13 (by repeat (first | (with_reducible first | exact HB.out | apply b8 | apply b6 | apply b7 | refine b3 ?_ GE686.out | refine b3 ?_ GE687.out | refine b3 ?_ GE699.out | refine b3 ?_ GE731.out) | exact HB.out)) hb); clear HO_700001; clear HO_732001; clear BK686; clear BK687; clear BK699; clear BK731; clear HB; have HO_700001 := n0_; have HO_732001 := n1_; have BK686 := n2_; have BK687 := n3_; have BK699 := n4_; have BK731 := n5_; have HB := n6_; clear n0_ n1_ n2_ n3_ n4_ n5_ n6_; (try clear hb); (try clear hb2); (try clear hk); (try clear hi)) | ((with_reducible refine gate_dst (N := 27) rfl ?_); (try (refine gate_guard (by rfl) ?_; dsimp only)); refine box_event ?hg (N := 27) ?hd (cs := #[.int .i64 0, .int .i64 0]) (t := 34) ?hr ?_; (case hd => rfl); (case hg => rfl); (case hr => first | (go_simp; done) | (go_simp; rfl)); intro gb758 hg w143 hbox hb; have n0_ := Aside0.mk (k3 (by (with_reducible repeat (first | apply k0 | apply k1 | apply k2)); exact HO_700001.out) hb); have n1_ := Aside0.mk (k3 (by (with_reducible repeat (first | apply k0 | apply k1 | apply k2)); exact HO_732001.out) hb); have n2_ := Aside0.mk (b5 (g := gb686) (o := .cells #[.int .i64 a1_0, .int .i64 a1_1, .int .i64 a1_2, .int .i64 a1_3] 64 (0, 0)) (by (with_reducible repeat (first | refine b0 ?_ _ | refine b1 ?_ | refine b2 ?_ _)); exact BK686.out) hb); have n3_ := Aside0.mk (b5 (g := gb687) (o := .cells #[.int .i64 a2_0, .slice A2_1 l2_1.length c2_1] 24 (0, 0)) (by (with_reducible repeat (first | refine b0 ?_ _ | refine b1 ?_ | refine b2 ?_ _)); exact BK687.out) hb); have n4_ := Aside0.mk (b5 (g := gb699) (o := .cells #[.int .i64 t694, .slice (some ad711) t695.length co23] 31 (0, 0)) (by (with_reducible repeat (first | refine b0 ?_ _ | refine b1 ?_ | refine b2 ?_ _)); exact BK699.out) hb); have n5_ := Aside0.mk (b5 (g := gb731) (o := .cells #[.int .i64 t726, .slice Ao81 t727.length co81] 31 (0, 0)) (by (with_reducible repeat (first | refine b0 ?_ _ | refine b1 ?_ | refine b2 ?_ _)); exact BK731.out) hb); have n6_ := Aside0.mk (b13 (by repeat (first | (with_reducible first | exact HB.out | apply b8 | apply b6 | apply b7 | refine b3 ?_ GE686.out | refine b3 ?_ GE687.out | refine b3 ?_ GE699.out | refine b3 ?_ GE731.out) | exact HB.out)) hb); have n7_ := Aside0.mk (hbox); have n8_ := Aside0.mk ((by rw [hg]; exact (b12 (by repeat (first | (with_reducible first | exact HB.out | apply b8 | apply b6 | apply b7 | refine b3 ?_ GE686.out | refine b3 ?_ GE687.out | refine b3 ?_ GE699.out | refine b3 ?_ GE731.out) | exact HB.out))) : w.heap.size ≤ gb758)); have n9_ := Aside0.mk ((by rw [hg]; exact (b12 (by repeat (first | (with_reducible first | exact HB.out | apply b8 | apply b6 | apply b7 | refine b3 ?_ GE686.out | refine b3 ?_ GE687.out | refine b3 ?_ GE699.out | refine b3 ?_ GE731.out) | exact HB.out))) : w.heap.size ≤ gb758)); have n10_ := Aside0.mk ((by rw [hg]; exact Nat.ne_of_lt (b10 (g := gb686) (o := .cells #[.int .i64 a1_0, .int .i64 a1_1, .int .i64 a1_2, .int .i64 a1_3] 64 (0, 0)) (by (with_reducible repeat (first | refine b0 ?_ _ | refine b1 ?_ | refine b2 ?_ _)); exact BK686.out)) : gb686 ≠ gb758)); have n11_ := Aside0.mk ((by rw [hg]; exact Nat.ne_of_gt (b10 (g := gb686) (o := .cells #[.int .i64 a1_0, .int .i64 a1_1, .int .i64 a1_2, .int .i64 a1_3] 64 (0, 0)) (by (with_reducible repeat (first | refine b0 ?_ _ | refine b1 ?_ | refine b2 ?_ _)); exact BK686.out)) : gb758 ≠ gb686)); have n12_ := Aside0.mk ((by rw [hg]; exact Nat.ne_of_lt (b10 (g := gb687) (o := .cells #[.int .i64 a2_0, .slice A2_1 l2_1.length c2_1] 24 (0, 0)) (by (with_reducible repeat (first | refine b0 ?_ _ | refine b1 ?_ | refine b2 ?_ _)); exact BK687.out)) : gb687 ≠ gb758)); have n13_ := Aside0.mk ((by rw [hg]; exact Nat.ne_of_gt (b10 (g := gb687) (o := .cells #[.int .i64 a2_0, .slice A2_1 l2_1.length c2_1] 24 (0, 0)) (by (with_reducible repeat (first | refine b0 ?_ _ | refine b1 ?_ | refine b2 ?_ _)); exact BK687.out)) : gb758 ≠ gb687)); have n14_ := Aside0.mk ((by rw [hg]; exact Nat.ne_of_lt (b10 (g := gb699) (o := .cells #[.int .i64 t694, .slice (some ad711) t695.length co23] 31 (0, 0)) (by (with_reducible repeat (first | refine b0 ?_ _ | refine b1 ?_ | refine b2 ?_ _)); exact BK699.out)) : gb699 ≠ gb758)); have n15_ := Aside0.mk ((by rw [hg]; exact Nat.ne_of_gt (b10 (g := gb699) (o := .cells #[.int .i64 t694, .slice (some ad711) t695.length co23] 31 (0, 0)) (by (with_reducible repeat (first | refine b0 ?_ _ | refine b1 ?_ | refine b2 ?_ _)); exact BK699.out)) : gb758 ≠ gb699)); have n16_ := Aside0.mk ((by rw [hg]; exact Nat.ne_of_lt (b10 (g := gb731) (o := .cells #[.int .i64 t726, .slice Ao81 t727.length co81] 31 (0, 0)) (by (with_reducible repeat (first | refine b0 ?_ _ | refine b1 ?_ | refine b2 ?_ _)); exact BK731.out)) : gb731 ≠ gb758)); have n17_ := Aside0.mk ((by rw [hg]; exact Nat.ne_of_gt (b10 (g := gb731) (o := .cells #[.int .i64 t726, .slice Ao81 t727.length co81] 31 (0, 0)) (by (with_reducible repeat (first | refine b0 ?_ _ | refine b1 ?_ | refine b2 ?_ _)); exact BK731.out)) : gb758 ≠ gb731)); clear HO_700001; clear HO_732001; clear BK686; clear BK687; clear BK699; clear BK731; clear HB; have HO_700001 := n0_; have HO_732001 := n1_; have BK686 := n2_; have BK687 := n3_; have BK699 := n4_; have BK731 := n5_; have HB := n6_; have BK758 := n7_; have GW758 := n8_; have GE758 := n9_; have NB686_758 := n10_; have NB758_686 := n11_; have NB687_758 := n12_; have NB758_687 := n13_; have NB699_758 := n14_; have NB758_699 := n15_; have NB731_758 := n16_; have NB758_731 := n17_; clear n0_ n1_ n2_ n3_ n4_ n5_ n6_ n7_ n8_ n9_ n10_ n11_ n12_ n13_ n14_ n15_ n16_ n17_; clear hb hbox hg; have hnb144 := NB758_686.out; have hnc144 := NB686_758.out; have hnb145 := NB758_687.out; have hnc145 := NB687_758.out; have hnb146 := NB758_699.out; have hnc146 := NB699_758.out; have hnb147 := NB758_731.out; have hnc147 := NB731_758.out; have hcz148_0 : w143.cell? ⟨gb758, 0, none⟩ = some (.int .i64 0) := (b4 BK758.out 0).trans rfl; have hcz148_1 : w143.cell? ⟨gb758, 1, none⟩ = some (.int .i64 0) := (b4 BK758.out 1).trans rfl; have hfz148_0 := b9 BK758.out 0; have hfz148_1 := b9 BK758.out 1))
                     (try simp only [Act.put, l1, l2, l3])
                     go_cut [202] (fun v202 wc => ∃ (kq : Nat) (x202_130 : Bool), v202 = .bool x202_130 ∧ Aside0 (tensilelaw09_PlanFewest.j6 kq x22_101 x202_130 a1_0 a1_1 a1_2 a1_3 a2_0 l2_1 t755 t756 = some r) ∧ Aside0 (kq ≤ kj113) ∧ Aside0 (Kd.R k61 61 wc w.heap.size (fun k_ => some k_ ≠ ((.slice Ao81 t727.length co81) : Value).ownBlock) (.slice (some ad711) t695.length co23) t695) ∧ Aside0 (Kd.R k61 61 wc w.heap.size (fun k_ => some k_ ≠ ((.slice (some ad711) t695.length co23) : Value).ownBlock) (.slice Ao81 t727.length co81) t727) ∧ Aside0 (wc.heap[gb686]? = some (.cells #[.int .i64 a1_0, .int .i64 a1_1, .int .i64 a1_2, .int .i64 a1_3] 64 (0, 0))) ∧ Aside0 (wc.heap[gb687]? = some (.cells #[.int .i64 a2_0, (.slice A2_1 l2_1.length c2_1)] 24 (0, 0))) ∧ Aside0 (wc.heap[gb699]? = some (.cells #[.int .i64 t694, (.slice (some ad711) t695.length co23)] 31 (0, 0))) ∧ Aside0 (wc.heap[gb731]? = some (.cells #[.int .i64 t726, (.slice Ao81 t727.length co81)] 31 (0, 0))) ∧ Aside0 (wc.heap[gb758]? = some (.cells #[.int .i64 t755, .int .i64 t756] 34 (0, 0))) ∧ Aside0 (Below w.heap.size w wc))
                     case first =>
                      have H := HC131.out
                      clear HC131
                      by_cases c149 : t754 = 0
                      ·
                       rw [if_pos c149] at H
                       have c149b0 : (t754 == 0) = true := beq_iff_eq.mpr c149
                       have c149b1 : (t754 != 0) = false := bne_eq_false_iff_eq.mpr c149
                       clear c149
                       (first | rw [c149b0] | (simp only [i64_w, i32_w]; rw [c149b0]) | skip)
                       by_cases c150 : t753 = true
                       ·
                        subst c150
                        have H1 : (tensilelaw09_PlanFewest.j6 kj113 x22_101 (t757 != 0) a1_0 a1_1 a1_2 a1_3 a2_0 l2_1 t755 t756) = some r := by rw [if_pos rfl] at H; exact H
                        clear H
                        have H := H1
                        clear H1
                        have H' := Aside0.mk H
                        clear H
                        go_wp2
                        go_meet
                        case rel => exact ⟨_, ((t757 != 0)), (by first | rfl | (simp; done) | (simp [*]; done)), H', ⟨by have := HJ9.out; have := HJ38.out; have := HJ46.out; have := HJ69.out; have := HJ101.out; have := HJ113.out; first | omega | exact Nat.le_refl _⟩, ⟨by (with_reducible repeat (first | apply k0 | apply k1 | apply k2)); exact k10 (k8 (p := ⟨gb758, 1, none⟩) (k8 (p := ⟨gb758, 0, none⟩) (k11 HO_700001.out BK758.out (by decide)) (fun _ hk => hk.2) (.int .i64 t755)) (fun _ hk => hk.2) (.int .i64 t756)) (fun _ hk => hk.1)⟩, ⟨by (with_reducible repeat (first | apply k0 | apply k1 | apply k2)); exact k10 (k8 (p := ⟨gb758, 1, none⟩) (k8 (p := ⟨gb758, 0, none⟩) (k11 HO_732001.out BK758.out (by decide)) (fun _ hk => hk.2) (.int .i64 t755)) (fun _ hk => hk.2) (.int .i64 t756)) (fun _ hk => hk.1)⟩, ⟨by (with_reducible repeat (first | refine b0 ?_ _ | refine b1 ?_ | refine b2 ?_ _)); refine b11 ?_ NB686_758.out _; (with_reducible repeat (first | refine b0 ?_ _ | refine b1 ?_ | refine b2 ?_ _)); refine b11 ?_ NB686_758.out _; (with_reducible repeat (first | refine b0 ?_ _ | refine b1 ?_ | refine b2 ?_ _)); exact BK686.out⟩, ⟨by (with_reducible repeat (first | refine b0 ?_ _ | refine b1 ?_ | refine b2 ?_ _)); refine b11 ?_ NB687_758.out _; (with_reducible repeat (first | refine b0 ?_ _ | refine b1 ?_ | refine b2 ?_ _)); refine b11 ?_ NB687_758.out _; (with_reducible repeat (first | refine b0 ?_ _ | refine b1 ?_ | refine b2 ?_ _)); exact BK687.out⟩, ⟨by (with_reducible repeat (first | refine b0 ?_ _ | refine b1 ?_ | refine b2 ?_ _)); refine b11 ?_ NB699_758.out _; (with_reducible repeat (first | refine b0 ?_ _ | refine b1 ?_ | refine b2 ?_ _)); refine b11 ?_ NB699_758.out _; (with_reducible repeat (first | refine b0 ?_ _ | refine b1 ?_ | refine b2 ?_ _)); exact BK699.out⟩, ⟨by (with_reducible repeat (first | refine b0 ?_ _ | refine b1 ?_ | refine b2 ?_ _)); refine b11 ?_ NB731_758.out _; (with_reducible repeat (first | refine b0 ?_ _ | refine b1 ?_ | refine b2 ?_ _)); refine b11 ?_ NB731_758.out _; (with_reducible repeat (first | refine b0 ?_ _ | refine b1 ?_ | refine b2 ?_ _)); exact BK731.out⟩, ⟨by (with_reducible repeat (first | refine b0 ?_ _ | refine b1 ?_ | refine b2 ?_ _)); refine blk_put (cs := #[.int .i64 t755, .int .i64 0]) ?_ 1 _ rfl; (with_reducible repeat (first | refine b0 ?_ _ | refine b1 ?_ | refine b2 ?_ _)); refine blk_put (cs := #[.int .i64 0, .int .i64 0]) ?_ 0 _ rfl; (with_reducible repeat (first | refine b0 ?_ _ | refine b1 ?_ | refine b2 ?_ _)); exact BK758.out⟩, ⟨by repeat (first | (with_reducible first | exact HB.out | apply b8 | apply b6 | apply b7 | refine b3 ?_ GE686.out | refine b3 ?_ GE687.out | refine b3 ?_ GE699.out | refine b3 ?_ GE731.out | refine b3 ?_ GE758.out) | exact HB.out)⟩⟩
                       ·
                        replace c150 := Bool.eq_false_iff.mpr c150
                        subst c150
                        have H1 : (none) = some r := by rw [if_neg (show ¬ (false = true) by decide)] at H; exact H
                        clear H
                        have H := H1
                        clear H1
                        exact absurd H (by simp)
                      ·
                       rw [if_neg c149] at H
                       exact absurd H (by simp)
                     case rest =>
                      clear HC131
                      try clear c1
                      try clear c2
                      try clear p2
                      try clear c3
                      try clear c4
                      try clear c5
                      try clear c6
                      try clear p6
                      try clear c7
                      try clear c7b0
                      try clear c7b1
                      try clear p7
                      try clear q7
                      try clear hx7
                      try clear qi7
                      try clear c8
                      try clear c9
                      try clear c10
                      try clear c11
                      try clear c12
                      try clear c13
                      try clear c14
                      try clear c15
                      try clear c17
                      try clear c20
                      try clear c21
                      try clear c23
                      try clear c24
                      try clear c24b0
                      try clear c24b1
                      try clear c26
                      try clear c27
                      try clear c27b0
                      try clear c27b1
                      try clear c28
                      try clear c28b0
                      try clear c28b1
                      try clear c29
                      try clear c30
                      try clear c31
                      try clear c32
                      try clear c33
                      try clear c35
                      try clear c36
                      try clear c37
                      try clear c38
                      try clear c43
                      try clear c43b0
                      try clear c43b1
                      try clear c44
                      try clear c45
                      try clear c45b0
                      try clear c45b1
                      try clear c46
                      try clear c46b0
                      try clear c46b1
                      try clear c48
                      try clear c49
                      try clear c51
                      try clear c51b0
                      try clear c52
                      try clear c52b0
                      try clear c52b1
                      try clear c55
                      try clear c55b0
                      try clear c55b1
                      try clear c56
                      try clear c60
                      try clear c61
                      try clear p64
                      try clear c65
                      try clear c65b0
                      try clear c71
                      try clear p71
                      try clear q71
                      try clear hx71
                      try clear qi71
                      try clear c72
                      try clear c77
                      try clear c78
                      try clear c79
                      try clear c83
                      try clear c84
                      try clear c84b0
                      try clear c84b1
                      try clear c85
                      try clear c86
                      try clear c87
                      try clear c91
                      try clear c92
                      try clear c93
                      try clear c97
                      try clear c98
                      try clear c99
                      try clear c103
                      try clear c107
                      try clear c107b0
                      try clear c107b1
                      try clear c113
                      try clear c113b0
                      try clear c113b1
                      try clear c117
                      try clear c117b0
                      try clear c117b1
                      try clear c118
                      try clear c118b0
                      try clear c118b1
                      try clear c119
                      try clear c120
                      try clear c121
                      try clear c127
                      try clear c135
                      try clear c136
                      try clear c137
                      try clear c139
                      try clear c140
                      try clear c144
                      try clear c145
                      try clear c146
                      try clear c147
                      try clear c149
                      try clear c149b0
                      try clear c149b1
                      try clear c150
                      try clear hcz100_0
                      try clear hcz100_1
                      try clear hcz122_0
                      try clear hcz122_1
                      try clear hcz126_0
                      try clear hcz126_1
                      try clear hcz138_0
                      try clear hcz138_1
                      try clear hcz141_0
                      try clear hcz141_1
                      try clear hcz141_2
                      try clear hcz141_3
                      try clear hcz148_0
                      try clear hcz148_1
                      try clear hcz14_0
                      try clear hcz14_1
                      try clear hcz14_2
                      try clear hcz14_3
                      try clear hcz16_0
                      try clear hcz16_1
                      try clear hcz16_2
                      try clear hcz16_3
                      try clear hcz22_0
                      try clear hcz22_1
                      try clear hcz31_0
                      try clear hcz31_1
                      try clear hcz35_0
                      try clear hcz35_1
                      try clear hcz50_0
                      try clear hcz50_1
                      try clear hcz62_0
                      try clear hcz62_1
                      try clear hcz62_2
                      try clear hcz62_3
                      try clear hcz73_0
                      try clear hcz73_1
                      try clear hcz73_2
                      try clear hcz73_3
                      try clear hcz80_0
                      try clear hcz80_1
                      try clear hcz88_0
                      try clear hcz88_1
                      try clear hcz90_0
                      try clear hcz90_1
                      try clear hcz94_0
                      try clear hcz94_1
                      try clear hcz96_0
                      try clear hcz96_1
                      try clear hfz100_0
                      try clear hfz100_1
                      try clear hfz122_0
                      try clear hfz122_1
                      try clear hfz126_0
                      try clear hfz126_1
                      try clear hfz138_0
                      try clear hfz138_1
                      try clear hfz141_0
                      try clear hfz141_1
                      try clear hfz141_2
                      try clear hfz141_3
                      try clear hfz148_0
                      try clear hfz148_1
                      try clear hfz14_0
                      try clear hfz14_1
                      try clear hfz14_2
                      try clear hfz14_3
                      try clear hfz16_0
                      try clear hfz16_1
                      try clear hfz16_2
                      try clear hfz16_3
                      try clear hfz22_0
                      try clear hfz22_1
                      try clear hfz31_0
                      try clear hfz31_1
                      try clear hfz35_0
                      try clear hfz35_1
                      try clear hfz50_0
                      try clear hfz50_1
                      try clear hfz62_0
                      try clear hfz62_1
                      try clear hfz62_2
                      try clear hfz62_3
                      try clear hfz73_0
                      try clear hfz73_1
                      try clear hfz73_2
                      try clear hfz73_3
                      try clear hfz80_0
                      try clear hfz80_1
                      try clear hfz88_0
                      try clear hfz88_1
                      try clear hfz90_0
                      try clear hfz90_1
                      try clear hfz94_0
                      try clear hfz94_1
                      try clear hfz96_0
                      try clear hfz96_1
                      try clear hx711_0
                      try clear hx711_1
                      try clear hx711_2
                      try clear p2
                      try clear p6
                      try clear p64
                      try clear p7
                      try clear p71
                      try clear p711
                      try clear q7
                      try clear q71
                      try clear q711
                      obtain ⟨kq, x202_130, rfl, HA, HJ130, HO_700001, HO_732001, BK686, BK687, BK699, BK731, BK758, HB⟩ := hcut
                      cases kq with
                      | zero => exact absurd HA.out (by simp [tensilelaw09_PlanFewest.j6])
                      | succ kj130 =>
                       have H := HA.out
                       clear HA
                       simp only [tensilelaw09_PlanFewest.j6] at H
                       by_cases c151 : x202_130 = true
                       ·
                        subst c151
                        have H1 : (none) = some r := by rw [if_pos rfl] at H; exact H
                        clear H
                        have H := H1
                        clear H1
                        exact absurd H (by simp)
                       ·
                        as_aux_lemma =>
                        replace c151 := Bool.eq_false_iff.mpr c151
                        subst c151
                        have H1 : (if x22_101 = true then ((tensilelaw09_Plan.f kj130 a2_0 l2_1).bind fun bt760 => ((plan_Mean.f bt760.1 bt760.2 a1_0).bind fun bt764 => (if bt764.2.2 = 0 then ((tensilelaw09_least.f t755 t756 bt764.1 bt764.2.1).bind fun t768 => (if t768 = true then ((tensilelaw09_wakes.f).bind fun t769 => (some t769)) else (none))) else (none)))) else ((tensilelaw09_wakes.f).bind fun t759 => (some t759))) = some r := by rw [if_neg (show ¬ (false = true) by decide)] at H; exact H
                        clear H
                        have H := H1
                        clear H1
                        by_cases c152 : x22_101 = true
                        ·
                         as_aux_lemma =>
                         subst c152
                         have H1 : ((tensilelaw09_Plan.f kj130 a2_0 l2_1).bind fun bt760 => ((plan_Mean.f bt760.1 bt760.2 a1_0).bind fun bt764 => (if bt764.2.2 = 0 then ((tensilelaw09_least.f t755 t756 bt764.1 bt764.2.1).bind fun t768 => (if t768 = true then ((tensilelaw09_wakes.f).bind fun t769 => (some t769)) else (none))) else (none)))) = some r := by rw [if_pos rfl] at H; exact H
                         clear H
                         have H := H1
                         clear H1
                         replace H := Option.bind_eq_some_iff.mp H
                         obtain ⟨⟨t760, t761⟩, A1530, H⟩ := H
                         replace H : ((plan_Mean.f t760 t761 a1_0).bind fun bt764 => (if bt764.2.2 = 0 then ((tensilelaw09_least.f t755 t756 bt764.1 bt764.2.1).bind fun t768 => (if t768 = true then ((tensilelaw09_wakes.f).bind fun t769 => (some t769)) else (none))) else (none))) = some r := H
                         have A153 := Aside0.mk A1530
                         clear A1530
                         replace H := Option.bind_eq_some_iff.mp H
                         obtain ⟨⟨t764, t765, t766⟩, A1540, H⟩ := H
                         replace H : (if t766 = 0 then ((tensilelaw09_least.f t755 t756 t764 t765).bind fun t768 => (if t768 = true then ((tensilelaw09_wakes.f).bind fun t769 => (some t769)) else (none))) else (none)) = some r := H
                         have A154 := Aside0.mk A1540
                         clear A1540
                         by_cases c155 : t766 = 0
                         ·
                          as_aux_lemma =>
                          rw [if_pos c155] at H
                          have c155b0 : (t766 == 0) = true := beq_iff_eq.mpr c155
                          have c155b1 : (t766 != 0) = false := bne_eq_false_iff_eq.mpr c155
                          clear c155
                          replace H := Option.bind_eq_some_iff.mp H
                          obtain ⟨t768, A1560, H⟩ := H
                          replace H : (if t768 = true then ((tensilelaw09_wakes.f).bind fun t769 => (some t769)) else (none)) = some r := H
                          have A156 := Aside0.mk A1560
                          clear A1560
                          by_cases c157 : t768 = true
                          ·
                           as_aux_lemma =>
                           subst c157
                           have H1 : ((tensilelaw09_wakes.f).bind fun t769 => (some t769)) = some r := by rw [if_pos rfl] at H; exact H
                           clear H
                           have H := H1
                           clear H1
                           replace H := Option.bind_eq_some_iff.mp H
                           obtain ⟨t769, A1580, H⟩ := H
                           replace H : (some t769) = some r := H
                           have A158 := Aside0.mk A1580
                           clear A1580
                           obtain rfl := Option.some.inj H
                           try go_wp2
                           have n0_ := Aside0.mk (k2 HO_700001.out)
                           have n1_ := Aside0.mk (k2 HO_732001.out)
                           have n2_ := Aside0.mk (b1 BK686.out)
                           have n3_ := Aside0.mk (b1 BK687.out)
                           have n4_ := Aside0.mk (b1 BK699.out)
                           have n5_ := Aside0.mk (b1 BK731.out)
                           have n6_ := Aside0.mk (b1 BK758.out)
                           have n7_ := Aside0.mk (b7 HB.out)
                           clear HO_700001
                           clear HO_732001
                           clear BK686
                           clear BK687
                           clear BK699
                           clear BK731
                           clear BK758
                           clear HB
                           have HO_700001 := n0_
                           have HO_732001 := n1_
                           have BK686 := n2_
                           have BK687 := n3_
                           have BK699 := n4_
                           have BK731 := n5_
                           have BK758 := n6_
                           have HB := n7_
                           clear n0_ n1_ n2_ n3_ n4_ n5_ n6_ n7_
                           refine start_ (n := 11) (S := fun w' => w'.cell? ⟨gb687, 0, none⟩ = some (.int .i64 a2_0) ∧ w'.cell? ⟨gb687, 1, none⟩ = some (.slice A2_1 l2_1.length c2_1) ∧ w'.cell? ⟨gb686, 0, none⟩ = some (.int .i64 a1_0) ∧ w'.cell? ⟨gb686, 1, none⟩ = some (.int .i64 a1_1) ∧ w'.cell? ⟨gb686, 2, none⟩ = some (.int .i64 a1_2) ∧ w'.cell? ⟨gb686, 3, none⟩ = some (.int .i64 a1_3)) (ds := []) #[ff,ff,ff,ff,ff,ff,ff,ff,ff,ff,ff] (by kernel_rfl) rfl rfl ⟨(b4 BK687.out 0).trans rfl, (b4 BK687.out 1).trans rfl, (b4 BK686.out 0).trans rfl, (b4 BK686.out 1).trans rfl, (b4 BK686.out 2).trans rfl, (b4 BK686.out 3).trans rfl⟩ (fun hHeld => ?_); refine with_tabW tensilelaw09_PlanFewest.tab35 tensilelaw09_PlanFewest.bits35 (fun HT_ HW_ => ?_)
                           generalize wc.drew = w159 at HO_700001 HO_732001 BK686 BK687 BK699 BK731 BK758 HB hHeld ⊢
                           refine pure_ (i := 2) (N := some 209) (v := ?_) (a' := ?_) #[ff,ff,tt,ff,ff,ff,ff,ff,ff,ff,ff] rfl rfl (any_of HT_.out (by kernel_rfl)) (fun _ _ _ h => h) (Or.inl ⟨by rfl, ?_⟩) ?_ ?_
                           rotate_left
                           ·
                            intro w'
                            go_simp
                            with_reducible rfl
                           rotate_left
                           ·
                            simp only [Act.put, l1, l2, l3, i64_w, i32_w]
                            rfl
                           refine take_ (i := 0) (N := some 207) (v := ?_) (a' := ?_) #[tt,ff,tt,ff,ff,ff,ff,ff,ff,ff,ff] rfl rfl (take_ofW HT_.out HW_.out (by kernel_rfl)) (fun _ _ _ h => h) (Or.inl ⟨by rfl, ?_⟩) hHeld ?_ ?_
                           rotate_left
                           ·
                            rintro w' ⟨s0, s1, s2, s3, s4, s5⟩
                            go_simp
                            with_reducible rfl
                           rotate_left
                           ·
                            simp only [Act.put, l1, l2, l3, i64_w, i32_w]
                            rfl
                           refine take_ (i := 3) (N := some 210) (v := ?_) (a' := ?_) #[tt,ff,tt,tt,ff,ff,ff,ff,ff,ff,ff] rfl rfl (take_ofW HT_.out HW_.out (by kernel_rfl)) (fun _ _ _ h => h) (Or.inl ⟨by rfl, ?_⟩) hHeld ?_ ?_
                           rotate_left
                           ·
                            rintro w' ⟨s0, s1, s2, s3, s4, s5⟩
                            go_simp
                            with_reducible rfl
                           rotate_left
                           ·
                            simp only [Act.put, l1, l2, l3, i64_w, i32_w]
                            rfl
                           refine join_ (σ := Value × Nat) 2 #[tt,tt,tt,tt,tt,tt,tt,tt,tt,ff,ff] (fun s_ => [(208, .agg #[.int .i64 t760, s_.1]), (211, .tuple #[.agg #[.int .i64 t764, .int .i64 t765], .int .i64 t766]), (29, .pointer (some ⟨s_.2, 0, none⟩)), (206, .tuple #[.agg #[.int .i64 t764, .int .i64 t765], .int .i64 t766]), (212, .agg #[.int .i64 t764, .int .i64 t765]), (213, .int .i64 t766)]) (fun s_ w' => (w'.cell? ⟨gb687, 0, none⟩ = some (.int .i64 a2_0) ∧ w'.cell? ⟨gb687, 1, none⟩ = some (.slice A2_1 l2_1.length c2_1) ∧ w'.cell? ⟨gb686, 0, none⟩ = some (.int .i64 a1_0) ∧ w'.cell? ⟨gb686, 1, none⟩ = some (.int .i64 a1_1) ∧ w'.cell? ⟨gb686, 2, none⟩ = some (.int .i64 a1_2) ∧ w'.cell? ⟨gb686, 3, none⟩ = some (.int .i64 a1_3)) ∧ (Kd.R k61 61 w' w.heap.size (fun k_ => some k_ ≠ (.slice (some ad711) t695.length co23 : Value).ownBlock ∧ some k_ ≠ (.slice Ao81 t727.length co81 : Value).ownBlock) s_.1 t761) ∧ (Kd.R k61 61 w' w.heap.size (fun k_ => some k_ ≠ (s_.1 : Value).ownBlock ∧ some k_ ≠ (.slice Ao81 t727.length co81 : Value).ownBlock) (.slice (some ad711) t695.length co23) t695) ∧ (Kd.R k61 61 w' w.heap.size (fun k_ => some k_ ≠ (s_.1 : Value).ownBlock ∧ some k_ ≠ (.slice (some ad711) t695.length co23 : Value).ownBlock) (.slice Ao81 t727.length co81) t727) ∧ (w'.heap[gb686]? = some (.cells #[.int .i64 a1_0, .int .i64 a1_1, .int .i64 a1_2, .int .i64 a1_3] 64 (0, 0))) ∧ (w'.heap[gb687]? = some (.cells #[.int .i64 a2_0, .slice A2_1 l2_1.length c2_1] 24 (0, 0))) ∧ (w'.heap[gb699]? = some (.cells #[.int .i64 t694, .slice (some ad711) t695.length co23] 31 (0, 0))) ∧ (w'.heap[gb731]? = some (.cells #[.int .i64 t726, .slice Ao81 t727.length co81] 31 (0, 0))) ∧ (w'.heap[gb758]? = some (.cells #[.int .i64 t755, .int .i64 t756] 34 (0, 0))) ∧ (w'.heap[s_.2]? = some (.cells #[.int .i64 0, .int .i64 0] 34 (0, 0))) ∧ (w.heap.size ≤ s_.2) ∧ (w.heap.size ≤ s_.2) ∧ (gb686 ≠ s_.2) ∧ (s_.2 ≠ gb686) ∧ (gb687 ≠ s_.2) ∧ (s_.2 ≠ gb687) ∧ (gb699 ≠ s_.2) ∧ (s_.2 ≠ gb699) ∧ (gb731 ≠ s_.2) ∧ (s_.2 ≠ gb731) ∧ (gb758 ≠ s_.2) ∧ (s_.2 ≠ gb758) ∧ (Below w.heap.size w w')) ?_ ?_
                           rotate_left
                           ·
                            as_aux_lemma =>
                            intro hCont
                            refine two_ (i := 1) (j := 8) (Ni := some 208) (Nj := some 29) #[tt,tt,tt,tt,ff,ff,ff,ff,ff,ff,ff] #[tt,ff,tt,tt,ff,ff,ff,ff,tt,ff,ff] rfl rfl rfl rfl (two_of HT_.out (by kernel_rfl)) (by decide) (by decide) (fun K hK => ?_) (fun K hK => ?_)
                            ·
                             as_aux_lemma =>
                             skip
                             refine goes_ Try.func17 (by kernel_rfl) rfl #[.agg #[.int .i64 a2_0, .slice A2_1 l2_1.length c2_1]] (by rfl) rfl rfl (by (try simp only [List.map_toArray, List.map_cons, List.map_nil]); first | done | rfl | (simp only [List.length_drop, List.length_take]; rfl)) ?_
                             with_reducible refine (tensilelaw09_Plan.calls kj130 a2_0 _ _ l2_1 t760 t761 _ ?side1 ?side2 A153.out).mono ?_
                             (case side1 => repeat (first | exact (Kd.C_below HR2_1.out HB.out) | (with_reducible refine k13 ?_ _) | (with_reducible refine k14 ?_ _) | (with_reducible refine k15 ?_)))
                             (case side2 => exact HC2_1.out)
                             rintro e w160 ⟨v762, rfl, ho0, hb⟩
                             refine ⟨_, rfl, ?_⟩
                             have n0_ := Aside0.mk (k6 (by (with_reducible repeat (first | apply k0 | apply k1 | apply k2)); exact HO_700001.out) (k7 ho0) hb)
                             have n1_ := Aside0.mk (k6 (by (with_reducible repeat (first | apply k0 | apply k1 | apply k2)); exact HO_732001.out) (k7 ho0) hb)
                             have n2_ := Aside0.mk (k12 (k4 (k4 ho0 (k5 (by (with_reducible repeat (first | apply k0 | apply k1 | apply k2)); exact HO_700001.out))) (k5 (by (with_reducible repeat (first | apply k0 | apply k1 | apply k2)); exact HO_732001.out))) (b12 (by repeat (first | (with_reducible first | exact HB.out | apply b8 | apply b6 | apply b7 | refine b3 ?_ GE686.out | refine b3 ?_ GE687.out | refine b3 ?_ GE699.out | refine b3 ?_ GE731.out | refine b3 ?_ GE758.out) | exact HB.out))))
                             have n3_ := Aside0.mk (b5 (g := gb686) (o := .cells #[.int .i64 a1_0, .int .i64 a1_1, .int .i64 a1_2, .int .i64 a1_3] 64 (0, 0)) (by (with_reducible repeat (first | refine b0 ?_ _ | refine b1 ?_ | refine b2 ?_ _)); exact BK686.out) hb)
                             have n4_ := Aside0.mk (b5 (g := gb687) (o := .cells #[.int .i64 a2_0, .slice A2_1 l2_1.length c2_1] 24 (0, 0)) (by (with_reducible repeat (first | refine b0 ?_ _ | refine b1 ?_ | refine b2 ?_ _)); exact BK687.out) hb)
                             have n5_ := Aside0.mk (b5 (g := gb699) (o := .cells #[.int .i64 t694, .slice (some ad711) t695.length co23] 31 (0, 0)) (by (with_reducible repeat (first | refine b0 ?_ _ | refine b1 ?_ | refine b2 ?_ _)); exact BK699.out) hb)
                             have n6_ := Aside0.mk (b5 (g := gb731) (o := .cells #[.int .i64 t726, .slice Ao81 t727.length co81] 31 (0, 0)) (by (with_reducible repeat (first | refine b0 ?_ _ | refine b1 ?_ | refine b2 ?_ _)); exact BK731.out) hb)
                             have n7_ := Aside0.mk (b5 (g := gb758) (o := .cells #[.int .i64 t755, .int .i64 t756] 34 (0, 0)) (by (with_reducible repeat (first | refine b0 ?_ _ | refine b1 ?_ | refine b2 ?_ _)); exact BK758.out) hb)
                             have n8_ := Aside0.mk (b13 (by repeat (first | (with_reducible first | exact HB.out | apply b8 | apply b6 | apply b7 | refine b3 ?_ GE686.out | refine b3 ?_ GE687.out | refine b3 ?_ GE699.out | refine b3 ?_ GE731.out | refine b3 ?_ GE758.out) | exact HB.out)) hb)
                             clear HO_700001
                             clear HO_732001
                             clear BK686
                             clear BK687
                             clear BK699
                             clear BK731
                             clear BK758
                             clear HB
                             have HO_700001 := n0_
                             have HO_732001 := n1_
                             have HO763 := n2_
                             have BK686 := n3_
                             have BK687 := n4_
                             have BK699 := n5_
                             have BK731 := n6_
                             have BK758 := n7_
                             have HB := n8_
                             clear n0_ n1_ n2_ n3_ n4_ n5_ n6_ n7_ n8_
                             (try clear hb)
                             (try clear hb2)
                             (try clear hk)
                             (try clear hi)
                             (try clear ho0)
                             obtain ⟨Ao161, co161, eo161⟩ := Kd.R_slice HO763.out
                             (first | subst eo161 | (injection eo161 with f1_ f2_ f3_; have f4_ := f1_.symm; have f5_ := f3_.symm; clear f1_ f2_ f3_; subst f4_; subst f5_))
                             refine hK.out _ _ ⟨(b4 BK687.out 0).trans rfl, (b4 BK687.out 1).trans rfl, (b4 BK686.out 0).trans rfl, (b4 BK686.out 1).trans rfl, (b4 BK686.out 2).trans rfl, (b4 BK686.out 3).trans rfl⟩ (fun hHeld => ?_)
                             clear hK K
                             refine norm_ (a' := ?_) ?_ ?_
                             rotate_left
                             ·
                              show Act.put _ (some 208) _ = _
                              simp only [Act.put, l1, l2, l3, i64_w, i32_w]
                              rfl
                             refine two_ (i := 4) (j := 8) (Ni := some 211) (Nj := some 29) #[tt,tt,tt,tt,tt,ff,ff,ff,ff,ff,ff] #[tt,tt,tt,tt,ff,ff,ff,ff,tt,ff,ff] rfl rfl rfl rfl (two_of HT_.out (by kernel_rfl)) (by decide) (by decide) (fun K hK => ?_) (fun K hK => ?_)
                             ·
                              as_aux_lemma =>
                              skip
                              refine goes_ Try.func23 (by kernel_rfl) rfl #[.agg #[.int .i64 t760, .slice Ao161 t761.length co161], .int .i64 a1_0] (by rfl) rfl rfl (by (try simp only [List.map_toArray, List.map_cons, List.map_nil]); first | done | rfl | (simp only [List.length_drop, List.length_take]; rfl)) ?_
                              with_reducible refine (plan_Mean.calls t760 _ _ t761 a1_0 t764 t765 t766 _ ?side1 ?side2 A154.out).mono ?_
                              (case side1 => repeat (first | exact (k9 HO763.out).2.2 | (with_reducible refine k13 ?_ _) | (with_reducible refine k14 ?_ _) | (with_reducible refine k15 ?_)))
                              (case side2 => exact (k9 HO763.out).2.1)
                              rintro e w162 ⟨rfl, hb⟩
                              refine ⟨_, rfl, ?_⟩
                              have n0_ := Aside0.mk (k3 (by (with_reducible repeat (first | apply k0 | apply k1 | apply k2)); exact HO_700001.out) hb)
                              have n1_ := Aside0.mk (k3 (by (with_reducible repeat (first | apply k0 | apply k1 | apply k2)); exact HO_732001.out) hb)
                              have n2_ := Aside0.mk (k3 (by (with_reducible repeat (first | apply k0 | apply k1 | apply k2)); exact HO763.out) hb)
                              have n3_ := Aside0.mk (b5 (g := gb686) (o := .cells #[.int .i64 a1_0, .int .i64 a1_1, .int .i64 a1_2, .int .i64 a1_3] 64 (0, 0)) (by (with_reducible repeat (first | refine b0 ?_ _ | refine b1 ?_ | refine b2 ?_ _)); exact BK686.out) hb)
                              have n4_ := Aside0.mk (b5 (g := gb687) (o := .cells #[.int .i64 a2_0, .slice A2_1 l2_1.length c2_1] 24 (0, 0)) (by (with_reducible repeat (first | refine b0 ?_ _ | refine b1 ?_ | refine b2 ?_ _)); exact BK687.out) hb)
                              have n5_ := Aside0.mk (b5 (g := gb699) (o := .cells #[.int .i64 t694, .slice (some ad711) t695.length co23] 31 (0, 0)) (by (with_reducible repeat (first | refine b0 ?_ _ | refine b1 ?_ | refine b2 ?_ _)); exact BK699.out) hb)
                              have n6_ := Aside0.mk (b5 (g := gb731) (o := .cells #[.int .i64 t726, .slice Ao81 t727.length co81] 31 (0, 0)) (by (with_reducible repeat (first | refine b0 ?_ _ | refine b1 ?_ | refine b2 ?_ _)); exact BK731.out) hb)
                              have n7_ := Aside0.mk (b5 (g := gb758) (o := .cells #[.int .i64 t755, .int .i64 t756] 34 (0, 0)) (by (with_reducible repeat (first | refine b0 ?_ _ | refine b1 ?_ | refine b2 ?_ _)); exact BK758.out) hb)
                              have n8_ := Aside0.mk (b13 (by repeat (first | (with_reducible first | exact HB.out | apply b8 | apply b6 | apply b7 | refine b3 ?_ GE686.out | refine b3 ?_ GE687.out | refine b3 ?_ GE699.out | refine b3 ?_ GE731.out | refine b3 ?_ GE758.out) | exact HB.out)) hb)
                              clear HO_700001
                              clear HO_732001
                              clear HO763
                              clear BK686
                              clear BK687
                              clear BK699
                              clear BK731
                              clear BK758
                              clear HB
                              have HO_700001 := n0_
                              have HO_732001 := n1_
                              have HO763 := n2_
                              have BK686 := n3_
                              have BK687 := n4_
                              have BK699 := n5_
                              have BK731 := n6_
                              have BK758 := n7_
                              have HB := n8_
                              clear n0_ n1_ n2_ n3_ n4_ n5_ n6_ n7_ n8_
                              (try clear hb)
                              (try clear hb2)
                              (try clear hk)
                              (try clear hi)
                              refine hK.out _ _ ⟨(b4 BK687.out 0).trans rfl, (b4 BK687.out 1).trans rfl, (b4 BK686.out 0).trans rfl, (b4 BK686.out 1).trans rfl, (b4 BK686.out 2).trans rfl, (b4 BK686.out 3).trans rfl⟩ (fun hHeld => ?_)
                              clear hK K
                              refine norm_ (a' := ?_) ?_ ?_
                              rotate_left
                              ·
                               show Act.put _ (some 211) _ = _
                               simp only [Act.put, l1, l2, l3, i64_w, i32_w]
                               rfl
                              refine pure_ (i := 5) (N := some 206) (v := ?_) (a' := ?_) #[tt,tt,tt,tt,tt,tt,ff,ff,ff,ff,ff] rfl rfl (any_of HT_.out (by kernel_rfl)) (fun _ _ _ h => h) (Or.inl ⟨by rfl, ?_⟩) ?_ ?_
                              rotate_left
                              ·
                               intro w'
                               go_simp
                               with_reducible rfl
                              rotate_left
                              ·
                               simp only [Act.put, l1, l2, l3, i64_w, i32_w]
                               rfl
                              refine pure_ (i := 6) (N := some 212) (v := ?_) (a' := ?_) #[tt,tt,tt,tt,tt,tt,tt,ff,ff,ff,ff] rfl rfl (any_of HT_.out (by kernel_rfl)) (fun _ _ _ h => h) (Or.inl ⟨by rfl, ?_⟩) ?_ ?_
                              rotate_left
                              ·
                               intro w'
                               go_simp
                               with_reducible rfl
                              rotate_left
                              ·
                               simp only [Act.put, l1, l2, l3, i64_w, i32_w]
                               rfl
                              refine pure_ (i := 7) (N := some 213) (v := ?_) (a' := ?_) #[tt,tt,tt,tt,tt,tt,tt,tt,ff,ff,ff] rfl rfl (any_of HT_.out (by kernel_rfl)) (fun _ _ _ h => h) (Or.inl ⟨by rfl, ?_⟩) ?_ ?_
                              rotate_left
                              ·
                               intro w'
                               go_simp
                               with_reducible rfl
                              rotate_left
                              ·
                               simp only [Act.put, l1, l2, l3, i64_w, i32_w]
                               rfl
                              refine one_ (i := 8) (N := some 29) #[tt,tt,tt,tt,tt,tt,tt,tt,tt,ff,ff] rfl rfl (one_of HT_.out (by kernel_rfl)) (by decide) (fun K hK => ?_)
                              refine box_step ?hg (N := 29) ?hd (cs := #[.int .i64 0, .int .i64 0]) (t := 34) ?hr ?_; (case hd => rfl); (case hg => rfl); (case hr => first | (go_simp; done) | (go_simp; rfl))
                              intro gb767 hg w163 hbox hb
                              have n0_ := Aside0.mk (k3 (by (with_reducible repeat (first | apply k0 | apply k1 | apply k2)); exact HO_700001.out) hb)
                              have n1_ := Aside0.mk (k3 (by (with_reducible repeat (first | apply k0 | apply k1 | apply k2)); exact HO_732001.out) hb)
                              have n2_ := Aside0.mk (k3 (by (with_reducible repeat (first | apply k0 | apply k1 | apply k2)); exact HO763.out) hb)
                              have n3_ := Aside0.mk (b5 (g := gb686) (o := .cells #[.int .i64 a1_0, .int .i64 a1_1, .int .i64 a1_2, .int .i64 a1_3] 64 (0, 0)) (by (with_reducible repeat (first | refine b0 ?_ _ | refine b1 ?_ | refine b2 ?_ _)); exact BK686.out) hb)
                              have n4_ := Aside0.mk (b5 (g := gb687) (o := .cells #[.int .i64 a2_0, .slice A2_1 l2_1.length c2_1] 24 (0, 0)) (by (with_reducible repeat (first | refine b0 ?_ _ | refine b1 ?_ | refine b2 ?_ _)); exact BK687.out) hb)
                              have n5_ := Aside0.mk (b5 (g := gb699) (o := .cells #[.int .i64 t694, .slice (some ad711) t695.length co23] 31 (0, 0)) (by (with_reducible repeat (first | refine b0 ?_ _ | refine b1 ?_ | refine b2 ?_ _)); exact BK699.out) hb)
                              have n6_ := Aside0.mk (b5 (g := gb731) (o := .cells #[.int .i64 t726, .slice Ao81 t727.length co81] 31 (0, 0)) (by (with_reducible repeat (first | refine b0 ?_ _ | refine b1 ?_ | refine b2 ?_ _)); exact BK731.out) hb)
                              have n7_ := Aside0.mk (b5 (g := gb758) (o := .cells #[.int .i64 t755, .int .i64 t756] 34 (0, 0)) (by (with_reducible repeat (first | refine b0 ?_ _ | refine b1 ?_ | refine b2 ?_ _)); exact BK758.out) hb)
                              have n8_ := Aside0.mk (b13 (by repeat (first | (with_reducible first | exact HB.out | apply b8 | apply b6 | apply b7 | refine b3 ?_ GE686.out | refine b3 ?_ GE687.out | refine b3 ?_ GE699.out | refine b3 ?_ GE731.out | refine b3 ?_ GE758.out) | exact HB.out)) hb)
                              have n9_ := Aside0.mk (hbox)
                              have n10_ := Aside0.mk ((by rw [hg]; exact (b12 (by repeat (first | (with_reducible first | exact HB.out | apply b8 | apply b6 | apply b7 | refine b3 ?_ GE686.out | refine b3 ?_ GE687.out | refine b3 ?_ GE699.out | refine b3 ?_ GE731.out | refine b3 ?_ GE758.out) | exact HB.out))) : w.heap.size ≤ gb767))
                              have n11_ := Aside0.mk ((by rw [hg]; exact (b12 (by repeat (first | (with_reducible first | exact HB.out | apply b8 | apply b6 | apply b7 | refine b3 ?_ GE686.out | refine b3 ?_ GE687.out | refine b3 ?_ GE699.out | refine b3 ?_ GE731.out | refine b3 ?_ GE758.out) | exact HB.out))) : w.heap.size ≤ gb767))
                              have n12_ := Aside0.mk ((by rw [hg]; exact Nat.ne_of_lt (b10 (g := gb686) (o := .cells #[.int .i64 a1_0, .int .i64 a1_1, .int .i64 a1_2, .int .i64 a1_3] 64 (0, 0)) (by (with_reducible repeat (first | refine b0 ?_ _ | refine b1 ?_ | refine b2 ?_ _)); exact BK686.out)) : gb686 ≠ gb767))
                              have n13_ := Aside0.mk ((by rw [hg]; exact Nat.ne_of_gt (b10 (g := gb686) (o := .cells #[.int .i64 a1_0, .int .i64 a1_1, .int .i64 a1_2, .int .i64 a1_3] 64 (0, 0)) (by (with_reducible repeat (first | refine b0 ?_ _ | refine b1 ?_ | refine b2 ?_ _)); exact BK686.out)) : gb767 ≠ gb686))
                              have n14_ := Aside0.mk ((by rw [hg]; exact Nat.ne_of_lt (b10 (g := gb687) (o := .cells #[.int .i64 a2_0, .slice A2_1 l2_1.length c2_1] 24 (0, 0)) (by (with_reducible repeat (first | refine b0 ?_ _ | refine b1 ?_ | refine b2 ?_ _)); exact BK687.out)) : gb687 ≠ gb767))
                              have n15_ := Aside0.mk ((by rw [hg]; exact Nat.ne_of_gt (b10 (g := gb687) (o := .cells #[.int .i64 a2_0, .slice A2_1 l2_1.length c2_1] 24 (0, 0)) (by (with_reducible repeat (first | refine b0 ?_ _ | refine b1 ?_ | refine b2 ?_ _)); exact BK687.out)) : gb767 ≠ gb687))
                              have n16_ := Aside0.mk ((by rw [hg]; exact Nat.ne_of_lt (b10 (g := gb699) (o := .cells #[.int .i64 t694, .slice (some ad711) t695.length co23] 31 (0, 0)) (by (with_reducible repeat (first | refine b0 ?_ _ | refine b1 ?_ | refine b2 ?_ _)); exact BK699.out)) : gb699 ≠ gb767))
                              have n17_ := Aside0.mk ((by rw [hg]; exact Nat.ne_of_gt (b10 (g := gb699) (o := .cells #[.int .i64 t694, .slice (some ad711) t695.length co23] 31 (0, 0)) (by (with_reducible repeat (first | refine b0 ?_ _ | refine b1 ?_ | refine b2 ?_ _)); exact BK699.out)) : gb767 ≠ gb699))
                              have n18_ := Aside0.mk ((by rw [hg]; exact Nat.ne_of_lt (b10 (g := gb731) (o := .cells #[.int .i64 t726, .slice Ao81 t727.length co81] 31 (0, 0)) (by (with_reducible repeat (first | refine b0 ?_ _ | refine b1 ?_ | refine b2 ?_ _)); exact BK731.out)) : gb731 ≠ gb767))
                              have n19_ := Aside0.mk ((by rw [hg]; exact Nat.ne_of_gt (b10 (g := gb731) (o := .cells #[.int .i64 t726, .slice Ao81 t727.length co81] 31 (0, 0)) (by (with_reducible repeat (first | refine b0 ?_ _ | refine b1 ?_ | refine b2 ?_ _)); exact BK731.out)) : gb767 ≠ gb731))
                              have n20_ := Aside0.mk ((by rw [hg]; exact Nat.ne_of_lt (b10 (g := gb758) (o := .cells #[.int .i64 t755, .int .i64 t756] 34 (0, 0)) (by (with_reducible repeat (first | refine b0 ?_ _ | refine b1 ?_ | refine b2 ?_ _)); exact BK758.out)) : gb758 ≠ gb767))
                              have n21_ := Aside0.mk ((by rw [hg]; exact Nat.ne_of_gt (b10 (g := gb758) (o := .cells #[.int .i64 t755, .int .i64 t756] 34 (0, 0)) (by (with_reducible repeat (first | refine b0 ?_ _ | refine b1 ?_ | refine b2 ?_ _)); exact BK758.out)) : gb767 ≠ gb758))
                              clear HO_700001
                              clear HO_732001
                              clear HO763
                              clear BK686
                              clear BK687
                              clear BK699
                              clear BK731
                              clear BK758
                              clear HB
                              have HO_700001 := n0_
                              have HO_732001 := n1_
                              have HO763 := n2_
                              have BK686 := n3_
                              have BK687 := n4_
                              have BK699 := n5_
                              have BK731 := n6_
                              have BK758 := n7_
                              have HB := n8_
                              have BK767 := n9_
                              have GW767 := n10_
                              have GE767 := n11_
                              have NB686_767 := n12_
                              have NB767_686 := n13_
                              have NB687_767 := n14_
                              have NB767_687 := n15_
                              have NB699_767 := n16_
                              have NB767_699 := n17_
                              have NB731_767 := n18_
                              have NB767_731 := n19_
                              have NB758_767 := n20_
                              have NB767_758 := n21_
                              clear n0_ n1_ n2_ n3_ n4_ n5_ n6_ n7_ n8_ n9_ n10_ n11_ n12_ n13_ n14_ n15_ n16_ n17_ n18_ n19_ n20_ n21_
                              clear hb hbox hg
                              refine hK.out _ _ ⟨(b4 BK687.out 0).trans rfl, (b4 BK687.out 1).trans rfl, (b4 BK686.out 0).trans rfl, (b4 BK686.out 1).trans rfl, (b4 BK686.out 2).trans rfl, (b4 BK686.out 3).trans rfl⟩ (fun hHeld => ?_)
                              clear hK K
                              refine norm_ (a' := ?_) ?_ ?_
                              rotate_left
                              ·
                               show Act.put _ (some 29) _ = _
                               simp only [Act.put, l1, l2, l3, i64_w, i32_w]
                               rfl
                              exact norm_ (by simp only [putAll, Act.put, l1, l2, l3]) (hCont (.slice Ao161 t761.length co161, gb767) _ ⟨hHeld, (by (with_reducible repeat (first | apply k0 | apply k1 | apply k2)); exact k10 HO763.out (fun _ hk => ⟨hk.1.2, hk.2⟩)), (by (with_reducible repeat (first | apply k0 | apply k1 | apply k2)); exact k10 HO_700001.out (fun _ hk => ⟨hk.2, hk.1⟩)), (by (with_reducible repeat (first | apply k0 | apply k1 | apply k2)); exact k10 HO_732001.out (fun _ hk => ⟨hk.2, hk.1⟩)), (by (with_reducible repeat (first | refine b0 ?_ _ | refine b1 ?_ | refine b2 ?_ _)); exact BK686.out), (by (with_reducible repeat (first | refine b0 ?_ _ | refine b1 ?_ | refine b2 ?_ _)); exact BK687.out), (by (with_reducible repeat (first | refine b0 ?_ _ | refine b1 ?_ | refine b2 ?_ _)); exact BK699.out), (by (with_reducible repeat (first | refine b0 ?_ _ | refine b1 ?_ | refine b2 ?_ _)); exact BK731.out), (by (with_reducible repeat (first | refine b0 ?_ _ | refine b1 ?_ | refine b2 ?_ _)); exact BK758.out), (by (with_reducible repeat (first | refine b0 ?_ _ | refine b1 ?_ | refine b2 ?_ _)); exact BK767.out), GW767.out, GE767.out, NB686_767.out, NB767_686.out, NB687_767.out, NB767_687.out, NB699_767.out, NB767_699.out, NB731_767.out, NB767_731.out, NB758_767.out, NB767_758.out, (by repeat (first | (with_reducible first | exact HB.out | apply b8 | apply b6 | apply b7 | refine b3 ?_ GE686.out | refine b3 ?_ GE687.out | refine b3 ?_ GE699.out | refine b3 ?_ GE731.out | refine b3 ?_ GE758.out | refine b3 ?_ GE767.out) | exact HB.out))⟩)
                             ·
                              as_aux_lemma =>
                              skip
                              refine box_step ?hg (N := 29) ?hd (cs := #[.int .i64 0, .int .i64 0]) (t := 34) ?hr ?_; (case hd => rfl); (case hg => rfl); (case hr => first | (go_simp; done) | (go_simp; rfl))
                              intro gb767 hg w161 hbox hb
                              have n0_ := Aside0.mk (k3 (by (with_reducible repeat (first | apply k0 | apply k1 | apply k2)); exact HO_700001.out) hb)
                              have n1_ := Aside0.mk (k3 (by (with_reducible repeat (first | apply k0 | apply k1 | apply k2)); exact HO_732001.out) hb)
                              have n2_ := Aside0.mk (k3 (by (with_reducible repeat (first | apply k0 | apply k1 | apply k2)); exact HO763.out) hb)
                              have n3_ := Aside0.mk (b5 (g := gb686) (o := .cells #[.int .i64 a1_0, .int .i64 a1_1, .int .i64 a1_2, .int .i64 a1_3] 64 (0, 0)) (by (with_reducible repeat (first | refine b0 ?_ _ | refine b1 ?_ | refine b2 ?_ _)); exact BK686.out) hb)
                              have n4_ := Aside0.mk (b5 (g := gb687) (o := .cells #[.int .i64 a2_0, .slice A2_1 l2_1.length c2_1] 24 (0, 0)) (by (with_reducible repeat (first | refine b0 ?_ _ | refine b1 ?_ | refine b2 ?_ _)); exact BK687.out) hb)
                              have n5_ := Aside0.mk (b5 (g := gb699) (o := .cells #[.int .i64 t694, .slice (some ad711) t695.length co23] 31 (0, 0)) (by (with_reducible repeat (first | refine b0 ?_ _ | refine b1 ?_ | refine b2 ?_ _)); exact BK699.out) hb)
                              have n6_ := Aside0.mk (b5 (g := gb731) (o := .cells #[.int .i64 t726, .slice Ao81 t727.length co81] 31 (0, 0)) (by (with_reducible repeat (first | refine b0 ?_ _ | refine b1 ?_ | refine b2 ?_ _)); exact BK731.out) hb)
                              have n7_ := Aside0.mk (b5 (g := gb758) (o := .cells #[.int .i64 t755, .int .i64 t756] 34 (0, 0)) (by (with_reducible repeat (first | refine b0 ?_ _ | refine b1 ?_ | refine b2 ?_ _)); exact BK758.out) hb)
                              have n8_ := Aside0.mk (b13 (by repeat (first | (with_reducible first | exact HB.out | apply b8 | apply b6 | apply b7 | refine b3 ?_ GE686.out | refine b3 ?_ GE687.out | refine b3 ?_ GE699.out | refine b3 ?_ GE731.out | refine b3 ?_ GE758.out) | exact HB.out)) hb)
                              have n9_ := Aside0.mk (hbox)
                              have n10_ := Aside0.mk ((by rw [hg]; exact (b12 (by repeat (first | (with_reducible first | exact HB.out | apply b8 | apply b6 | apply b7 | refine b3 ?_ GE686.out | refine b3 ?_ GE687.out | refine b3 ?_ GE699.out | refine b3 ?_ GE731.out | refine b3 ?_ GE758.out) | exact HB.out))) : w.heap.size ≤ gb767))
                              have n11_ := Aside0.mk ((by rw [hg]; exact (b12 (by repeat (first | (with_reducible first | exact HB.out | apply b8 | apply b6 | apply b7 | refine b3 ?_ GE686.out | refine b3 ?_ GE687.out | refine b3 ?_ GE699.out | refine b3 ?_ GE731.out | refine b3 ?_ GE758.out) | exact HB.out))) : w.heap.size ≤ gb767))
                              have n12_ := Aside0.mk ((by rw [hg]; exact Nat.ne_of_lt (b10 (g := gb686) (o := .cells #[.int .i64 a1_0, .int .i64 a1_1, .int .i64 a1_2, .int .i64 a1_3] 64 (0, 0)) (by (with_reducible repeat (first | refine b0 ?_ _ | refine b1 ?_ | refine b2 ?_ _)); exact BK686.out)) : gb686 ≠ gb767))
                              have n13_ := Aside0.mk ((by rw [hg]; exact Nat.ne_of_gt (b10 (g := gb686) (o := .cells #[.int .i64 a1_0, .int .i64 a1_1, .int .i64 a1_2, .int .i64 a1_3] 64 (0, 0)) (by (with_reducible repeat (first | refine b0 ?_ _ | refine b1 ?_ | refine b2 ?_ _)); exact BK686.out)) : gb767 ≠ gb686))
                              have n14_ := Aside0.mk ((by rw [hg]; exact Nat.ne_of_lt (b10 (g := gb687) (o := .cells #[.int .i64 a2_0, .slice A2_1 l2_1.length c2_1] 24 (0, 0)) (by (with_reducible repeat (first | refine b0 ?_ _ | refine b1 ?_ | refine b2 ?_ _)); exact BK687.out)) : gb687 ≠ gb767))
                              have n15_ := Aside0.mk ((by rw [hg]; exact Nat.ne_of_gt (b10 (g := gb687) (o := .cells #[.int .i64 a2_0, .slice A2_1 l2_1.length c2_1] 24 (0, 0)) (by (with_reducible repeat (first | refine b0 ?_ _ | refine b1 ?_ | refine b2 ?_ _)); exact BK687.out)) : gb767 ≠ gb687))
                              have n16_ := Aside0.mk ((by rw [hg]; exact Nat.ne_of_lt (b10 (g := gb699) (o := .cells #[.int .i64 t694, .slice (some ad711) t695.length co23] 31 (0, 0)) (by (with_reducible repeat (first | refine b0 ?_ _ | refine b1 ?_ | refine b2 ?_ _)); exact BK699.out)) : gb699 ≠ gb767))
                              have n17_ := Aside0.mk ((by rw [hg]; exact Nat.ne_of_gt (b10 (g := gb699) (o := .cells #[.int .i64 t694, .slice (some ad711) t695.length co23] 31 (0, 0)) (by (with_reducible repeat (first | refine b0 ?_ _ | refine b1 ?_ | refine b2 ?_ _)); exact BK699.out)) : gb767 ≠ gb699))
                              have n18_ := Aside0.mk ((by rw [hg]; exact Nat.ne_of_lt (b10 (g := gb731) (o := .cells #[.int .i64 t726, .slice Ao81 t727.length co81] 31 (0, 0)) (by (with_reducible repeat (first | refine b0 ?_ _ | refine b1 ?_ | refine b2 ?_ _)); exact BK731.out)) : gb731 ≠ gb767))
                              have n19_ := Aside0.mk ((by rw [hg]; exact Nat.ne_of_gt (b10 (g := gb731) (o := .cells #[.int .i64 t726, .slice Ao81 t727.length co81] 31 (0, 0)) (by (with_reducible repeat (first | refine b0 ?_ _ | refine b1 ?_ | refine b2 ?_ _)); exact BK731.out)) : gb767 ≠ gb731))
                              have n20_ := Aside0.mk ((by rw [hg]; exact Nat.ne_of_lt (b10 (g := gb758) (o := .cells #[.int .i64 t755, .int .i64 t756] 34 (0, 0)) (by (with_reducible repeat (first | refine b0 ?_ _ | refine b1 ?_ | refine b2 ?_ _)); exact BK758.out)) : gb758 ≠ gb767))
                              have n21_ := Aside0.mk ((by rw [hg]; exact Nat.ne_of_gt (b10 (g := gb758) (o := .cells #[.int .i64 t755, .int .i64 t756] 34 (0, 0)) (by (with_reducible repeat (first | refine b0 ?_ _ | refine b1 ?_ | refine b2 ?_ _)); exact BK758.out)) : gb767 ≠ gb758))
                              clear HO_700001
                              clear HO_732001
                              clear HO763
                              clear BK686
                              clear BK687
                              clear BK699
                              clear BK731
                              clear BK758
                              clear HB
                              have HO_700001 := n0_
                              have HO_732001 := n1_
                              have HO763 := n2_
                              have BK686 := n3_
                              have BK687 := n4_
                              have BK699 := n5_
                              have BK731 := n6_
                              have BK758 := n7_
                              have HB := n8_
                              have BK767 := n9_
                              have GW767 := n10_
                              have GE767 := n11_
                              have NB686_767 := n12_
                              have NB767_686 := n13_
                              have NB687_767 := n14_
                              have NB767_687 := n15_
                              have NB699_767 := n16_
                              have NB767_699 := n17_
                              have NB731_767 := n18_
                              have NB767_731 := n19_
                              have NB758_767 := n20_
                              have NB767_758 := n21_
                              clear n0_ n1_ n2_ n3_ n4_ n5_ n6_ n7_ n8_ n9_ n10_ n11_ n12_ n13_ n14_ n15_ n16_ n17_ n18_ n19_ n20_ n21_
                              clear hb hbox hg
                              obtain ⟨Ao162, co162, eo162⟩ := Kd.R_slice HO763.out
                              (first | subst eo162 | (injection eo162 with f1_ f2_ f3_; have f4_ := f1_.symm; have f5_ := f3_.symm; clear f1_ f2_ f3_; subst f4_; subst f5_))
                              refine hK.out _ _ ⟨(b4 BK687.out 0).trans rfl, (b4 BK687.out 1).trans rfl, (b4 BK686.out 0).trans rfl, (b4 BK686.out 1).trans rfl, (b4 BK686.out 2).trans rfl, (b4 BK686.out 3).trans rfl⟩ (fun hHeld => ?_)
                              clear hK K
                              refine norm_ (a' := ?_) ?_ ?_
                              rotate_left
                              ·
                               show Act.put _ (some 29) _ = _
                               simp only [Act.put, l1, l2, l3, i64_w, i32_w]
                               rfl
                              refine one_ (i := 4) (N := some 211) #[tt,tt,tt,tt,tt,ff,ff,ff,tt,ff,ff] rfl rfl (one_of HT_.out (by kernel_rfl)) (by decide) (fun K hK => ?_)
                              refine goes_ Try.func23 (by kernel_rfl) rfl #[.agg #[.int .i64 t760, .slice Ao162 t761.length co162], .int .i64 a1_0] (by rfl) rfl rfl (by (try simp only [List.map_toArray, List.map_cons, List.map_nil]); first | done | rfl | (simp only [List.length_drop, List.length_take]; rfl)) ?_
                              with_reducible refine (plan_Mean.calls t760 _ _ t761 a1_0 t764 t765 t766 _ ?side1 ?side2 A154.out).mono ?_
                              (case side1 => repeat (first | exact (k9 HO763.out).2.2 | (with_reducible refine k13 ?_ _) | (with_reducible refine k14 ?_ _) | (with_reducible refine k15 ?_)))
                              (case side2 => exact (k9 HO763.out).2.1)
                              rintro e w163 ⟨rfl, hb⟩
                              refine ⟨_, rfl, ?_⟩
                              have n0_ := Aside0.mk (k3 (by (with_reducible repeat (first | apply k0 | apply k1 | apply k2)); exact HO_700001.out) hb)
                              have n1_ := Aside0.mk (k3 (by (with_reducible repeat (first | apply k0 | apply k1 | apply k2)); exact HO_732001.out) hb)
                              have n2_ := Aside0.mk (k3 (by (with_reducible repeat (first | apply k0 | apply k1 | apply k2)); exact HO763.out) hb)
                              have n3_ := Aside0.mk (b5 (g := gb686) (o := .cells #[.int .i64 a1_0, .int .i64 a1_1, .int .i64 a1_2, .int .i64 a1_3] 64 (0, 0)) (by (with_reducible repeat (first | refine b0 ?_ _ | refine b1 ?_ | refine b2 ?_ _)); exact BK686.out) hb)
                              have n4_ := Aside0.mk (b5 (g := gb687) (o := .cells #[.int .i64 a2_0, .slice A2_1 l2_1.length c2_1] 24 (0, 0)) (by (with_reducible repeat (first | refine b0 ?_ _ | refine b1 ?_ | refine b2 ?_ _)); exact BK687.out) hb)
                              have n5_ := Aside0.mk (b5 (g := gb699) (o := .cells #[.int .i64 t694, .slice (some ad711) t695.length co23] 31 (0, 0)) (by (with_reducible repeat (first | refine b0 ?_ _ | refine b1 ?_ | refine b2 ?_ _)); exact BK699.out) hb)
                              have n6_ := Aside0.mk (b5 (g := gb731) (o := .cells #[.int .i64 t726, .slice Ao81 t727.length co81] 31 (0, 0)) (by (with_reducible repeat (first | refine b0 ?_ _ | refine b1 ?_ | refine b2 ?_ _)); exact BK731.out) hb)
                              have n7_ := Aside0.mk (b5 (g := gb758) (o := .cells #[.int .i64 t755, .int .i64 t756] 34 (0, 0)) (by (with_reducible repeat (first | refine b0 ?_ _ | refine b1 ?_ | refine b2 ?_ _)); exact BK758.out) hb)
                              have n8_ := Aside0.mk (b5 (g := gb767) (o := .cells #[.int .i64 0, .int .i64 0] 34 (0, 0)) (by (with_reducible repeat (first | refine b0 ?_ _ | refine b1 ?_ | refine b2 ?_ _)); exact BK767.out) hb)
                              have n9_ := Aside0.mk (b13 (by repeat (first | (with_reducible first | exact HB.out | apply b8 | apply b6 | apply b7 | refine b3 ?_ GE686.out | refine b3 ?_ GE687.out | refine b3 ?_ GE699.out | refine b3 ?_ GE731.out | refine b3 ?_ GE758.out | refine b3 ?_ GE767.out) | exact HB.out)) hb)
                              clear HO_700001
                              clear HO_732001
                              clear HO763
                              clear BK686
                              clear BK687
                              clear BK699
                              clear BK731
                              clear BK758
                              clear BK767
                              clear HB
                              have HO_700001 := n0_
                              have HO_732001 := n1_
                              have HO763 := n2_
                              have BK686 := n3_
                              have BK687 := n4_
                              have BK699 := n5_
                              have BK731 := n6_
                              have BK758 := n7_
                              have BK767 := n8_
                              have HB := n9_
                              clear n0_ n1_ n2_ n3_ n4_ n5_ n6_ n7_ n8_ n9_
                              (try clear hb)
                              (try clear hb2)
                              (try clear hk)
                              (try clear hi)
                              refine hK.out _ _ ⟨(b4 BK687.out 0).trans rfl, (b4 BK687.out 1).trans rfl, (b4 BK686.out 0).trans rfl, (b4 BK686.out 1).trans rfl, (b4 BK686.out 2).trans rfl, (b4 BK686.out 3).trans rfl⟩ (fun hHeld => ?_)
                              clear hK K
                              refine norm_ (a' := ?_) ?_ ?_
                              rotate_left
                              ·
                               show Act.put _ (some 211) _ = _
                               simp only [Act.put, l1, l2, l3, i64_w, i32_w]
                               rfl
                              refine pure_ (i := 5) (N := some 206) (v := ?_) (a' := ?_) #[tt,tt,tt,tt,tt,tt,ff,ff,tt,ff,ff] rfl rfl (any_of HT_.out (by kernel_rfl)) (fun _ _ _ h => h) (Or.inl ⟨by rfl, ?_⟩) ?_ ?_
                              rotate_left
                              ·
                               intro w'
                               go_simp
                               with_reducible rfl
                              rotate_left
                              ·
                               simp only [Act.put, l1, l2, l3, i64_w, i32_w]
                               rfl
                              refine pure_ (i := 6) (N := some 212) (v := ?_) (a' := ?_) #[tt,tt,tt,tt,tt,tt,tt,ff,tt,ff,ff] rfl rfl (any_of HT_.out (by kernel_rfl)) (fun _ _ _ h => h) (Or.inl ⟨by rfl, ?_⟩) ?_ ?_
                              rotate_left
                              ·
                               intro w'
                               go_simp
                               with_reducible rfl
                              rotate_left
                              ·
                               simp only [Act.put, l1, l2, l3, i64_w, i32_w]
                               rfl
                              refine pure_ (i := 7) (N := some 213) (v := ?_) (a' := ?_) #[tt,tt,tt,tt,tt,tt,tt,tt,tt,ff,ff] rfl rfl (any_of HT_.out (by kernel_rfl)) (fun _ _ _ h => h) (Or.inl ⟨by rfl, ?_⟩) ?_ ?_
                              rotate_left
                              ·
                               intro w'
                               go_simp
                               with_reducible rfl
                              rotate_left
                              ·
                               simp only [Act.put, l1, l2, l3, i64_w, i32_w]
                               rfl
                              exact norm_ (by simp only [putAll, Act.put, l1, l2, l3]) (hCont (.slice Ao162 t761.length co162, gb767) _ ⟨hHeld, (by (with_reducible repeat (first | apply k0 | apply k1 | apply k2)); exact k10 HO763.out (fun _ hk => ⟨hk.1.2, hk.2⟩)), (by (with_reducible repeat (first | apply k0 | apply k1 | apply k2)); exact k10 HO_700001.out (fun _ hk => ⟨hk.2, hk.1⟩)), (by (with_reducible repeat (first | apply k0 | apply k1 | apply k2)); exact k10 HO_732001.out (fun _ hk => ⟨hk.2, hk.1⟩)), (by (with_reducible repeat (first | refine b0 ?_ _ | refine b1 ?_ | refine b2 ?_ _)); exact BK686.out), (by (with_reducible repeat (first | refine b0 ?_ _ | refine b1 ?_ | refine b2 ?_ _)); exact BK687.out), (by (with_reducible repeat (first | refine b0 ?_ _ | refine b1 ?_ | refine b2 ?_ _)); exact BK699.out), (by (with_reducible repeat (first | refine b0 ?_ _ | refine b1 ?_ | refine b2 ?_ _)); exact BK731.out), (by (with_reducible repeat (first | refine b0 ?_ _ | refine b1 ?_ | refine b2 ?_ _)); exact BK758.out), (by (with_reducible repeat (first | refine b0 ?_ _ | refine b1 ?_ | refine b2 ?_ _)); exact BK767.out), GW767.out, GE767.out, NB686_767.out, NB767_686.out, NB687_767.out, NB767_687.out, NB699_767.out, NB767_699.out, NB731_767.out, NB767_731.out, NB758_767.out, NB767_758.out, (by repeat (first | (with_reducible first | exact HB.out | apply b8 | apply b6 | apply b7 | refine b3 ?_ GE686.out | refine b3 ?_ GE687.out | refine b3 ?_ GE699.out | refine b3 ?_ GE731.out | refine b3 ?_ GE758.out | refine b3 ?_ GE767.out) | exact HB.out))⟩)
                            ·
                             as_aux_lemma =>
                             skip
                             refine box_step ?hg (N := 29) ?hd (cs := #[.int .i64 0, .int .i64 0]) (t := 34) ?hr ?_; (case hd => rfl); (case hg => rfl); (case hr => first | (go_simp; done) | (go_simp; rfl))
                             intro gb767 hg w160 hbox hb
                             have n0_ := Aside0.mk (k3 (by (with_reducible repeat (first | apply k0 | apply k1 | apply k2)); exact HO_700001.out) hb)
                             have n1_ := Aside0.mk (k3 (by (with_reducible repeat (first | apply k0 | apply k1 | apply k2)); exact HO_732001.out) hb)
                             have n2_ := Aside0.mk (b5 (g := gb686) (o := .cells #[.int .i64 a1_0, .int .i64 a1_1, .int .i64 a1_2, .int .i64 a1_3] 64 (0, 0)) (by (with_reducible repeat (first | refine b0 ?_ _ | refine b1 ?_ | refine b2 ?_ _)); exact BK686.out) hb)
                             have n3_ := Aside0.mk (b5 (g := gb687) (o := .cells #[.int .i64 a2_0, .slice A2_1 l2_1.length c2_1] 24 (0, 0)) (by (with_reducible repeat (first | refine b0 ?_ _ | refine b1 ?_ | refine b2 ?_ _)); exact BK687.out) hb)
                             have n4_ := Aside0.mk (b5 (g := gb699) (o := .cells #[.int .i64 t694, .slice (some ad711) t695.length co23] 31 (0, 0)) (by (with_reducible repeat (first | refine b0 ?_ _ | refine b1 ?_ | refine b2 ?_ _)); exact BK699.out) hb)
                             have n5_ := Aside0.mk (b5 (g := gb731) (o := .cells #[.int .i64 t726, .slice Ao81 t727.length co81] 31 (0, 0)) (by (with_reducible repeat (first | refine b0 ?_ _ | refine b1 ?_ | refine b2 ?_ _)); exact BK731.out) hb)
                             have n6_ := Aside0.mk (b5 (g := gb758) (o := .cells #[.int .i64 t755, .int .i64 t756] 34 (0, 0)) (by (with_reducible repeat (first | refine b0 ?_ _ | refine b1 ?_ | refine b2 ?_ _)); exact BK758.out) hb)
                             have n7_ := Aside0.mk (b13 (by repeat (first | (with_reducible first | exact HB.out | apply b8 | apply b6 | apply b7 | refine b3 ?_ GE686.out | refine b3 ?_ GE687.out | refine b3 ?_ GE699.out | refine b3 ?_ GE731.out | refine b3 ?_ GE758.out) | exact HB.out)) hb)
                             have n8_ := Aside0.mk (hbox)
                             have n9_ := Aside0.mk ((by rw [hg]; exact (b12 (by repeat (first | (with_reducible first | exact HB.out | apply b8 | apply b6 | apply b7 | refine b3 ?_ GE686.out | refine b3 ?_ GE687.out | refine b3 ?_ GE699.out | refine b3 ?_ GE731.out | refine b3 ?_ GE758.out) | exact HB.out))) : w.heap.size ≤ gb767))
                             have n10_ := Aside0.mk ((by rw [hg]; exact (b12 (by repeat (first | (with_reducible first | exact HB.out | apply b8 | apply b6 | apply b7 | refine b3 ?_ GE686.out | refine b3 ?_ GE687.out | refine b3 ?_ GE699.out | refine b3 ?_ GE731.out | refine b3 ?_ GE758.out) | exact HB.out))) : w.heap.size ≤ gb767))
                             have n11_ := Aside0.mk ((by rw [hg]; exact Nat.ne_of_lt (b10 (g := gb686) (o := .cells #[.int .i64 a1_0, .int .i64 a1_1, .int .i64 a1_2, .int .i64 a1_3] 64 (0, 0)) (by (with_reducible repeat (first | refine b0 ?_ _ | refine b1 ?_ | refine b2 ?_ _)); exact BK686.out)) : gb686 ≠ gb767))
                             have n12_ := Aside0.mk ((by rw [hg]; exact Nat.ne_of_gt (b10 (g := gb686) (o := .cells #[.int .i64 a1_0, .int .i64 a1_1, .int .i64 a1_2, .int .i64 a1_3] 64 (0, 0)) (by (with_reducible repeat (first | refine b0 ?_ _ | refine b1 ?_ | refine b2 ?_ _)); exact BK686.out)) : gb767 ≠ gb686))
                             have n13_ := Aside0.mk ((by rw [hg]; exact Nat.ne_of_lt (b10 (g := gb687) (o := .cells #[.int .i64 a2_0, .slice A2_1 l2_1.length c2_1] 24 (0, 0)) (by (with_reducible repeat (first | refine b0 ?_ _ | refine b1 ?_ | refine b2 ?_ _)); exact BK687.out)) : gb687 ≠ gb767))
                             have n14_ := Aside0.mk ((by rw [hg]; exact Nat.ne_of_gt (b10 (g := gb687) (o := .cells #[.int .i64 a2_0, .slice A2_1 l2_1.length c2_1] 24 (0, 0)) (by (with_reducible repeat (first | refine b0 ?_ _ | refine b1 ?_ | refine b2 ?_ _)); exact BK687.out)) : gb767 ≠ gb687))
                             have n15_ := Aside0.mk ((by rw [hg]; exact Nat.ne_of_lt (b10 (g := gb699) (o := .cells #[.int .i64 t694, .slice (some ad711) t695.length co23] 31 (0, 0)) (by (with_reducible repeat (first | refine b0 ?_ _ | refine b1 ?_ | refine b2 ?_ _)); exact BK699.out)) : gb699 ≠ gb767))
                             have n16_ := Aside0.mk ((by rw [hg]; exact Nat.ne_of_gt (b10 (g := gb699) (o := .cells #[.int .i64 t694, .slice (some ad711) t695.length co23] 31 (0, 0)) (by (with_reducible repeat (first | refine b0 ?_ _ | refine b1 ?_ | refine b2 ?_ _)); exact BK699.out)) : gb767 ≠ gb699))
                             have n17_ := Aside0.mk ((by rw [hg]; exact Nat.ne_of_lt (b10 (g := gb731) (o := .cells #[.int .i64 t726, .slice Ao81 t727.length co81] 31 (0, 0)) (by (with_reducible repeat (first | refine b0 ?_ _ | refine b1 ?_ | refine b2 ?_ _)); exact BK731.out)) : gb731 ≠ gb767))
                             have n18_ := Aside0.mk ((by rw [hg]; exact Nat.ne_of_gt (b10 (g := gb731) (o := .cells #[.int .i64 t726, .slice Ao81 t727.length co81] 31 (0, 0)) (by (with_reducible repeat (first | refine b0 ?_ _ | refine b1 ?_ | refine b2 ?_ _)); exact BK731.out)) : gb767 ≠ gb731))
                             have n19_ := Aside0.mk ((by rw [hg]; exact Nat.ne_of_lt (b10 (g := gb758) (o := .cells #[.int .i64 t755, .int .i64 t756] 34 (0, 0)) (by (with_reducible repeat (first | refine b0 ?_ _ | refine b1 ?_ | refine b2 ?_ _)); exact BK758.out)) : gb758 ≠ gb767))
                             have n20_ := Aside0.mk ((by rw [hg]; exact Nat.ne_of_gt (b10 (g := gb758) (o := .cells #[.int .i64 t755, .int .i64 t756] 34 (0, 0)) (by (with_reducible repeat (first | refine b0 ?_ _ | refine b1 ?_ | refine b2 ?_ _)); exact BK758.out)) : gb767 ≠ gb758))
                             clear HO_700001
                             clear HO_732001
                             clear BK686
                             clear BK687
                             clear BK699
                             clear BK731
                             clear BK758
                             clear HB
                             have HO_700001 := n0_
                             have HO_732001 := n1_
                             have BK686 := n2_
                             have BK687 := n3_
                             have BK699 := n4_
                             have BK731 := n5_
                             have BK758 := n6_
                             have HB := n7_
                             have BK767 := n8_
                             have GW767 := n9_
                             have GE767 := n10_
                             have NB686_767 := n11_
                             have NB767_686 := n12_
                             have NB687_767 := n13_
                             have NB767_687 := n14_
                             have NB699_767 := n15_
                             have NB767_699 := n16_
                             have NB731_767 := n17_
                             have NB767_731 := n18_
                             have NB758_767 := n19_
                             have NB767_758 := n20_
                             clear n0_ n1_ n2_ n3_ n4_ n5_ n6_ n7_ n8_ n9_ n10_ n11_ n12_ n13_ n14_ n15_ n16_ n17_ n18_ n19_ n20_
                             clear hb hbox hg
                             refine hK.out _ _ ⟨(b4 BK687.out 0).trans rfl, (b4 BK687.out 1).trans rfl, (b4 BK686.out 0).trans rfl, (b4 BK686.out 1).trans rfl, (b4 BK686.out 2).trans rfl, (b4 BK686.out 3).trans rfl⟩ (fun hHeld => ?_)
                             clear hK K
                             refine norm_ (a' := ?_) ?_ ?_
                             rotate_left
                             ·
                              show Act.put _ (some 29) _ = _
                              simp only [Act.put, l1, l2, l3, i64_w, i32_w]
                              rfl
                             refine one_ (i := 1) (N := some 208) #[tt,tt,tt,tt,ff,ff,ff,ff,tt,ff,ff] rfl rfl (one_of HT_.out (by kernel_rfl)) (by decide) (fun K hK => ?_)
                             refine goes_ Try.func17 (by kernel_rfl) rfl #[.agg #[.int .i64 a2_0, .slice A2_1 l2_1.length c2_1]] (by rfl) rfl rfl (by (try simp only [List.map_toArray, List.map_cons, List.map_nil]); first | done | rfl | (simp only [List.length_drop, List.length_take]; rfl)) ?_
                             with_reducible refine (tensilelaw09_Plan.calls kj130 a2_0 _ _ l2_1 t760 t761 _ ?side1 ?side2 A153.out).mono ?_
                             (case side1 => repeat (first | exact (Kd.C_below HR2_1.out HB.out) | (with_reducible refine k13 ?_ _) | (with_reducible refine k14 ?_ _) | (with_reducible refine k15 ?_)))
                             (case side2 => exact HC2_1.out)
                             rintro e w161 ⟨v762, rfl, ho0, hb⟩
                             refine ⟨_, rfl, ?_⟩
                             have n0_ := Aside0.mk (k6 (by (with_reducible repeat (first | apply k0 | apply k1 | apply k2)); exact HO_700001.out) (k7 ho0) hb)
                             have n1_ := Aside0.mk (k6 (by (with_reducible repeat (first | apply k0 | apply k1 | apply k2)); exact HO_732001.out) (k7 ho0) hb)
                             have n2_ := Aside0.mk (k12 (k4 (k4 ho0 (k5 (by (with_reducible repeat (first | apply k0 | apply k1 | apply k2)); exact HO_700001.out))) (k5 (by (with_reducible repeat (first | apply k0 | apply k1 | apply k2)); exact HO_732001.out))) (b12 (by repeat (first | (with_reducible first | exact HB.out | apply b8 | apply b6 | apply b7 | refine b3 ?_ GE686.out | refine b3 ?_ GE687.out | refine b3 ?_ GE699.out | refine b3 ?_ GE731.out | refine b3 ?_ GE758.out | refine b3 ?_ GE767.out) | exact HB.out))))
                             have n3_ := Aside0.mk (b5 (g := gb686) (o := .cells #[.int .i64 a1_0, .int .i64 a1_1, .int .i64 a1_2, .int .i64 a1_3] 64 (0, 0)) (by (with_reducible repeat (first | refine b0 ?_ _ | refine b1 ?_ | refine b2 ?_ _)); exact BK686.out) hb)
                             have n4_ := Aside0.mk (b5 (g := gb687) (o := .cells #[.int .i64 a2_0, .slice A2_1 l2_1.length c2_1] 24 (0, 0)) (by (with_reducible repeat (first | refine b0 ?_ _ | refine b1 ?_ | refine b2 ?_ _)); exact BK687.out) hb)
                             have n5_ := Aside0.mk (b5 (g := gb699) (o := .cells #[.int .i64 t694, .slice (some ad711) t695.length co23] 31 (0, 0)) (by (with_reducible repeat (first | refine b0 ?_ _ | refine b1 ?_ | refine b2 ?_ _)); exact BK699.out) hb)
                             have n6_ := Aside0.mk (b5 (g := gb731) (o := .cells #[.int .i64 t726, .slice Ao81 t727.length co81] 31 (0, 0)) (by (with_reducible repeat (first | refine b0 ?_ _ | refine b1 ?_ | refine b2 ?_ _)); exact BK731.out) hb)
                             have n7_ := Aside0.mk (b5 (g := gb758) (o := .cells #[.int .i64 t755, .int .i64 t756] 34 (0, 0)) (by (with_reducible repeat (first | refine b0 ?_ _ | refine b1 ?_ | refine b2 ?_ _)); exact BK758.out) hb)
                             have n8_ := Aside0.mk (b5 (g := gb767) (o := .cells #[.int .i64 0, .int .i64 0] 34 (0, 0)) (by (with_reducible repeat (first | refine b0 ?_ _ | refine b1 ?_ | refine b2 ?_ _)); exact BK767.out) hb)
                             have n9_ := Aside0.mk (b13 (by repeat (first | (with_reducible first | exact HB.out | apply b8 | apply b6 | apply b7 | refine b3 ?_ GE686.out | refine b3 ?_ GE687.out | refine b3 ?_ GE699.out | refine b3 ?_ GE731.out | refine b3 ?_ GE758.out | refine b3 ?_ GE767.out) | exact HB.out)) hb)
                             clear HO_700001
                             clear HO_732001
                             clear BK686
                             clear BK687
                             clear BK699
                             clear BK731
                             clear BK758
                             clear BK767
                             clear HB
                             have HO_700001 := n0_
                             have HO_732001 := n1_
                             have HO763 := n2_
                             have BK686 := n3_
                             have BK687 := n4_
                             have BK699 := n5_
                             have BK731 := n6_
                             have BK758 := n7_
                             have BK767 := n8_
                             have HB := n9_
                             clear n0_ n1_ n2_ n3_ n4_ n5_ n6_ n7_ n8_ n9_
                             (try clear hb)
                             (try clear hb2)
                             (try clear hk)
                             (try clear hi)
                             (try clear ho0)
                             obtain ⟨Ao162, co162, eo162⟩ := Kd.R_slice HO763.out
                             (first | subst eo162 | (injection eo162 with f1_ f2_ f3_; have f4_ := f1_.symm; have f5_ := f3_.symm; clear f1_ f2_ f3_; subst f4_; subst f5_))
                             refine hK.out _ _ ⟨(b4 BK687.out 0).trans rfl, (b4 BK687.out 1).trans rfl, (b4 BK686.out 0).trans rfl, (b4 BK686.out 1).trans rfl, (b4 BK686.out 2).trans rfl, (b4 BK686.out 3).trans rfl⟩ (fun hHeld => ?_)
                             clear hK K
                             refine norm_ (a' := ?_) ?_ ?_
                             rotate_left
                             ·
                              show Act.put _ (some 208) _ = _
                              simp only [Act.put, l1, l2, l3, i64_w, i32_w]
                              rfl
                             refine one_ (i := 4) (N := some 211) #[tt,tt,tt,tt,tt,ff,ff,ff,tt,ff,ff] rfl rfl (one_of HT_.out (by kernel_rfl)) (by decide) (fun K hK => ?_)
                             refine goes_ Try.func23 (by kernel_rfl) rfl #[.agg #[.int .i64 t760, .slice Ao162 t761.length co162], .int .i64 a1_0] (by rfl) rfl rfl (by (try simp only [List.map_toArray, List.map_cons, List.map_nil]); first | done | rfl | (simp only [List.length_drop, List.length_take]; rfl)) ?_
                             with_reducible refine (plan_Mean.calls t760 _ _ t761 a1_0 t764 t765 t766 _ ?side1 ?side2 A154.out).mono ?_
                             (case side1 => repeat (first | exact (k9 HO763.out).2.2 | (with_reducible refine k13 ?_ _) | (with_reducible refine k14 ?_ _) | (with_reducible refine k15 ?_)))
                             (case side2 => exact (k9 HO763.out).2.1)
                             rintro e w163 ⟨rfl, hb⟩
                             refine ⟨_, rfl, ?_⟩
                             have n0_ := Aside0.mk (k3 (by (with_reducible repeat (first | apply k0 | apply k1 | apply k2)); exact HO_700001.out) hb)
                             have n1_ := Aside0.mk (k3 (by (with_reducible repeat (first | apply k0 | apply k1 | apply k2)); exact HO_732001.out) hb)
                             have n2_ := Aside0.mk (k3 (by (with_reducible repeat (first | apply k0 | apply k1 | apply k2)); exact HO763.out) hb)
                             have n3_ := Aside0.mk (b5 (g := gb686) (o := .cells #[.int .i64 a1_0, .int .i64 a1_1, .int .i64 a1_2, .int .i64 a1_3] 64 (0, 0)) (by (with_reducible repeat (first | refine b0 ?_ _ | refine b1 ?_ | refine b2 ?_ _)); exact BK686.out) hb)
                             have n4_ := Aside0.mk (b5 (g := gb687) (o := .cells #[.int .i64 a2_0, .slice A2_1 l2_1.length c2_1] 24 (0, 0)) (by (with_reducible repeat (first | refine b0 ?_ _ | refine b1 ?_ | refine b2 ?_ _)); exact BK687.out) hb)
                             have n5_ := Aside0.mk (b5 (g := gb699) (o := .cells #[.int .i64 t694, .slice (some ad711) t695.length co23] 31 (0, 0)) (by (with_reducible repeat (first | refine b0 ?_ _ | refine b1 ?_ | refine b2 ?_ _)); exact BK699.out) hb)
                             have n6_ := Aside0.mk (b5 (g := gb731) (o := .cells #[.int .i64 t726, .slice Ao81 t727.length co81] 31 (0, 0)) (by (with_reducible repeat (first | refine b0 ?_ _ | refine b1 ?_ | refine b2 ?_ _)); exact BK731.out) hb)
                             have n7_ := Aside0.mk (b5 (g := gb758) (o := .cells #[.int .i64 t755, .int .i64 t756] 34 (0, 0)) (by (with_reducible repeat (first | refine b0 ?_ _ | refine b1 ?_ | refine b2 ?_ _)); exact BK758.out) hb)
                             have n8_ := Aside0.mk (b5 (g := gb767) (o := .cells #[.int .i64 0, .int .i64 0] 34 (0, 0)) (by (with_reducible repeat (first | refine b0 ?_ _ | refine b1 ?_ | refine b2 ?_ _)); exact BK767.out) hb)
                             have n9_ := Aside0.mk (b13 (by repeat (first | (with_reducible first | exact HB.out | apply b8 | apply b6 | apply b7 | refine b3 ?_ GE686.out | refine b3 ?_ GE687.out | refine b3 ?_ GE699.out | refine b3 ?_ GE731.out | refine b3 ?_ GE758.out | refine b3 ?_ GE767.out) | exact HB.out)) hb)
                             clear HO_700001
                             clear HO_732001
                             clear HO763
                             clear BK686
                             clear BK687
                             clear BK699
                             clear BK731
                             clear BK758
                             clear BK767
                             clear HB
                             have HO_700001 := n0_
                             have HO_732001 := n1_
                             have HO763 := n2_
                             have BK686 := n3_
                             have BK687 := n4_
                             have BK699 := n5_
                             have BK731 := n6_
                             have BK758 := n7_
                             have BK767 := n8_
                             have HB := n9_
                             clear n0_ n1_ n2_ n3_ n4_ n5_ n6_ n7_ n8_ n9_
                             (try clear hb)
                             (try clear hb2)
                             (try clear hk)
                             (try clear hi)
                             refine hK.out _ _ ⟨(b4 BK687.out 0).trans rfl, (b4 BK687.out 1).trans rfl, (b4 BK686.out 0).trans rfl, (b4 BK686.out 1).trans rfl, (b4 BK686.out 2).trans rfl, (b4 BK686.out 3).trans rfl⟩ (fun hHeld => ?_)
                             clear hK K
                             refine norm_ (a' := ?_) ?_ ?_
                             rotate_left
                             ·
                              show Act.put _ (some 211) _ = _
                              simp only [Act.put, l1, l2, l3, i64_w, i32_w]
                              rfl
                             refine pure_ (i := 5) (N := some 206) (v := ?_) (a' := ?_) #[tt,tt,tt,tt,tt,tt,ff,ff,tt,ff,ff] rfl rfl (any_of HT_.out (by kernel_rfl)) (fun _ _ _ h => h) (Or.inl ⟨by rfl, ?_⟩) ?_ ?_
                             rotate_left
                             ·
                              intro w'
                              go_simp
                              with_reducible rfl
                             rotate_left
                             ·
                              simp only [Act.put, l1, l2, l3, i64_w, i32_w]
                              rfl
                             refine pure_ (i := 6) (N := some 212) (v := ?_) (a' := ?_) #[tt,tt,tt,tt,tt,tt,tt,ff,tt,ff,ff] rfl rfl (any_of HT_.out (by kernel_rfl)) (fun _ _ _ h => h) (Or.inl ⟨by rfl, ?_⟩) ?_ ?_
                             rotate_left
                             ·
                              intro w'
                              go_simp
                              with_reducible rfl
                             rotate_left
                             ·
                              simp only [Act.put, l1, l2, l3, i64_w, i32_w]
                              rfl
                             refine pure_ (i := 7) (N := some 213) (v := ?_) (a' := ?_) #[tt,tt,tt,tt,tt,tt,tt,tt,tt,ff,ff] rfl rfl (any_of HT_.out (by kernel_rfl)) (fun _ _ _ h => h) (Or.inl ⟨by rfl, ?_⟩) ?_ ?_
                             rotate_left
                             ·
                              intro w'
                              go_simp
                              with_reducible rfl
                             rotate_left
                             ·
                              simp only [Act.put, l1, l2, l3, i64_w, i32_w]
                              rfl
                             exact norm_ (by simp only [putAll, Act.put, l1, l2, l3]) (hCont (.slice Ao162 t761.length co162, gb767) _ ⟨hHeld, (by (with_reducible repeat (first | apply k0 | apply k1 | apply k2)); exact k10 HO763.out (fun _ hk => ⟨hk.1.2, hk.2⟩)), (by (with_reducible repeat (first | apply k0 | apply k1 | apply k2)); exact k10 HO_700001.out (fun _ hk => ⟨hk.2, hk.1⟩)), (by (with_reducible repeat (first | apply k0 | apply k1 | apply k2)); exact k10 HO_732001.out (fun _ hk => ⟨hk.2, hk.1⟩)), (by (with_reducible repeat (first | refine b0 ?_ _ | refine b1 ?_ | refine b2 ?_ _)); exact BK686.out), (by (with_reducible repeat (first | refine b0 ?_ _ | refine b1 ?_ | refine b2 ?_ _)); exact BK687.out), (by (with_reducible repeat (first | refine b0 ?_ _ | refine b1 ?_ | refine b2 ?_ _)); exact BK699.out), (by (with_reducible repeat (first | refine b0 ?_ _ | refine b1 ?_ | refine b2 ?_ _)); exact BK731.out), (by (with_reducible repeat (first | refine b0 ?_ _ | refine b1 ?_ | refine b2 ?_ _)); exact BK758.out), (by (with_reducible repeat (first | refine b0 ?_ _ | refine b1 ?_ | refine b2 ?_ _)); exact BK767.out), GW767.out, GE767.out, NB686_767.out, NB767_686.out, NB687_767.out, NB767_687.out, NB699_767.out, NB767_699.out, NB731_767.out, NB767_731.out, NB758_767.out, NB767_758.out, (by repeat (first | (with_reducible first | exact HB.out | apply b8 | apply b6 | apply b7 | refine b3 ?_ GE686.out | refine b3 ?_ GE687.out | refine b3 ?_ GE699.out | refine b3 ?_ GE731.out | refine b3 ?_ GE758.out | refine b3 ?_ GE767.out) | exact HB.out))⟩)
                           rintro ⟨v762, gb767⟩ w164 ⟨hS_, h0_, h1_, h2_, h3_, h4_, h5_, h6_, h7_, h8_, h9_, h10_, h11_, h12_, h13_, h14_, h15_, h16_, h17_, h18_, h19_, h20_, h21_⟩
                           have n0_ : Aside0 (Kd.R k61 61 w164 w.heap.size (fun k_ => some k_ ≠ (.slice (some ad711) t695.length co23 : Value).ownBlock ∧ some k_ ≠ (.slice Ao81 t727.length co81 : Value).ownBlock) v762 t761) := ⟨h0_⟩
                           have n1_ : Aside0 (Kd.R k61 61 w164 w.heap.size (fun k_ => some k_ ≠ (v762 : Value).ownBlock ∧ some k_ ≠ (.slice Ao81 t727.length co81 : Value).ownBlock) (.slice (some ad711) t695.length co23) t695) := ⟨h1_⟩
                           have n2_ : Aside0 (Kd.R k61 61 w164 w.heap.size (fun k_ => some k_ ≠ (v762 : Value).ownBlock ∧ some k_ ≠ (.slice (some ad711) t695.length co23 : Value).ownBlock) (.slice Ao81 t727.length co81) t727) := ⟨h2_⟩
                           have n3_ : Aside0 (w164.heap[gb686]? = some (.cells #[.int .i64 a1_0, .int .i64 a1_1, .int .i64 a1_2, .int .i64 a1_3] 64 (0, 0))) := ⟨h3_⟩
                           have n4_ : Aside0 (w164.heap[gb687]? = some (.cells #[.int .i64 a2_0, .slice A2_1 l2_1.length c2_1] 24 (0, 0))) := ⟨h4_⟩
                           have n5_ : Aside0 (w164.heap[gb699]? = some (.cells #[.int .i64 t694, .slice (some ad711) t695.length co23] 31 (0, 0))) := ⟨h5_⟩
                           have n6_ : Aside0 (w164.heap[gb731]? = some (.cells #[.int .i64 t726, .slice Ao81 t727.length co81] 31 (0, 0))) := ⟨h6_⟩
                           have n7_ : Aside0 (w164.heap[gb758]? = some (.cells #[.int .i64 t755, .int .i64 t756] 34 (0, 0))) := ⟨h7_⟩
                           have n8_ : Aside0 (w164.heap[gb767]? = some (.cells #[.int .i64 0, .int .i64 0] 34 (0, 0))) := ⟨h8_⟩
                           have n9_ : Aside0 (w.heap.size ≤ gb767) := ⟨h9_⟩
                           have n10_ : Aside0 (w.heap.size ≤ gb767) := ⟨h10_⟩
                           have n11_ : Aside0 (gb686 ≠ gb767) := ⟨h11_⟩
                           have n12_ : Aside0 (gb767 ≠ gb686) := ⟨h12_⟩
                           have n13_ : Aside0 (gb687 ≠ gb767) := ⟨h13_⟩
                           have n14_ : Aside0 (gb767 ≠ gb687) := ⟨h14_⟩
                           have n15_ : Aside0 (gb699 ≠ gb767) := ⟨h15_⟩
                           have n16_ : Aside0 (gb767 ≠ gb699) := ⟨h16_⟩
                           have n17_ : Aside0 (gb731 ≠ gb767) := ⟨h17_⟩
                           have n18_ : Aside0 (gb767 ≠ gb731) := ⟨h18_⟩
                           have n19_ : Aside0 (gb758 ≠ gb767) := ⟨h19_⟩
                           have n20_ : Aside0 (gb767 ≠ gb758) := ⟨h20_⟩
                           have n21_ : Aside0 (Below w.heap.size w w164) := ⟨h21_⟩
                           clear HO_700001
                           clear HO_732001
                           clear BK686
                           clear BK687
                           clear BK699
                           clear BK731
                           clear BK758
                           clear HB
                           clear h0_ h1_ h2_ h3_ h4_ h5_ h6_ h7_ h8_ h9_ h10_ h11_ h12_ h13_ h14_ h15_ h16_ h17_ h18_ h19_ h20_ h21_
                           have HO763 := n0_
                           have HO_700001 := n1_
                           have HO_732001 := n2_
                           have BK686 := n3_
                           have BK687 := n4_
                           have BK699 := n5_
                           have BK731 := n6_
                           have BK758 := n7_
                           have BK767 := n8_
                           have GW767 := n9_
                           have GE767 := n10_
                           have NB686_767 := n11_
                           have NB767_686 := n12_
                           have NB687_767 := n13_
                           have NB767_687 := n14_
                           have NB699_767 := n15_
                           have NB767_699 := n16_
                           have NB731_767 := n17_
                           have NB767_731 := n18_
                           have NB758_767 := n19_
                           have NB767_758 := n20_
                           have HB := n21_
                           clear n0_ n1_ n2_ n3_ n4_ n5_ n6_ n7_ n8_ n9_ n10_ n11_ n12_ n13_ n14_ n15_ n16_ n17_ n18_ n19_ n20_ n21_
                           have hHeld : w164.cell? ⟨gb687, 0, none⟩ = some (.int .i64 a2_0) ∧ w164.cell? ⟨gb687, 1, none⟩ = some (.slice A2_1 l2_1.length c2_1) ∧ w164.cell? ⟨gb686, 0, none⟩ = some (.int .i64 a1_0) ∧ w164.cell? ⟨gb686, 1, none⟩ = some (.int .i64 a1_1) ∧ w164.cell? ⟨gb686, 2, none⟩ = some (.int .i64 a1_2) ∧ w164.cell? ⟨gb686, 3, none⟩ = some (.int .i64 a1_3) := hS_
                           refine norm_ (a' := ?_) ?_ ?_
                           rotate_left
                           ·
                            simp only [putAll, Act.put, l1, l2, l3]
                            rfl
                           refine one_ (i := 9) (N := none) #[tt,tt,tt,tt,tt,tt,tt,tt,tt,tt,ff] rfl rfl (one_of HT_.out (by kernel_rfl)) (by decide) (fun K hK => ?_)
                           have hs165 : w164.cell? ⟨gb767, 0, none⟩ = some (.int .i64 0) := (b4 BK767.out 0).trans rfl
                           have hfs165 := b9 BK767.out 0
                           have hns165_0 := NB686_767.out
                           have hns165_1 := NB687_767.out
                           have hns165_2 := NB699_767.out
                           have hns165_3 := NB731_767.out
                           have hns165_4 := NB758_767.out
                           have hms165_0 := NB767_686.out
                           have hms165_1 := NB767_687.out
                           have hms165_2 := NB767_699.out
                           have hms165_3 := NB767_731.out
                           have hms165_4 := NB767_758.out
                           have hs166 : w164.cell? ⟨gb767, 1, none⟩ = some (.int .i64 0) := (b4 BK767.out 1).trans rfl
                           have hfs166 := b9 BK767.out 1
                           have hns166_0 := NB686_767.out
                           have hns166_1 := NB687_767.out
                           have hns166_2 := NB699_767.out
                           have hns166_3 := NB731_767.out
                           have hns166_4 := NB758_767.out
                           have hms166_0 := NB767_686.out
                           have hms166_1 := NB767_687.out
                           have hms166_2 := NB767_699.out
                           have hms166_3 := NB767_731.out
                           have hms166_4 := NB767_758.out
                           refine skip_ (w1 := ?_) (by rfl) rfl ?_ ?_
                           rotate_left
                           ·
                            go_simp
                            rfl
                           refine hK.out _ _ ⟨((cell_far (p := ⟨gb767, _, none⟩) NB687_767.out _).trans (((cell_far (p := ⟨gb767, _, none⟩) NB687_767.out _).trans (hHeld.1)))), ((cell_far (p := ⟨gb767, _, none⟩) NB687_767.out _).trans (((cell_far (p := ⟨gb767, _, none⟩) NB687_767.out _).trans (hHeld.2.1)))), ((cell_far (p := ⟨gb767, _, none⟩) NB686_767.out _).trans (((cell_far (p := ⟨gb767, _, none⟩) NB686_767.out _).trans (hHeld.2.2.1)))), ((cell_far (p := ⟨gb767, _, none⟩) NB686_767.out _).trans (((cell_far (p := ⟨gb767, _, none⟩) NB686_767.out _).trans (hHeld.2.2.2.1)))), ((cell_far (p := ⟨gb767, _, none⟩) NB686_767.out _).trans (((cell_far (p := ⟨gb767, _, none⟩) NB686_767.out _).trans (hHeld.2.2.2.2.1)))), ((cell_far (p := ⟨gb767, _, none⟩) NB686_767.out _).trans (((cell_far (p := ⟨gb767, _, none⟩) NB686_767.out _).trans (hHeld.2.2.2.2.2))))⟩ (fun hHeld => ?_)
                           clear hK K
                           refine pure_ (i := 10) (N := some 30) (v := ?_) (a' := ?_) #[tt,tt,tt,tt,tt,tt,tt,tt,tt,tt,tt] rfl rfl (any_of HT_.out (by kernel_rfl)) (fun _ _ _ h => h) (Or.inl ⟨by rfl, ?_⟩) ?_ ?_
                           rotate_left
                           ·
                            intro w'
                            go_simp
                            with_reducible rfl
                           rotate_left
                           ·
                            simp only [Act.put, l1, l2, l3, i64_w, i32_w]
                            rfl
                           refine done_ (done_of HT_.out (by kernel_rfl)) ?_
                           have hnb167 := NB758_686.out
                           have hnc167 := NB686_758.out
                           have hnb168 := NB758_687.out
                           have hnc168 := NB687_758.out
                           have hnb169 := NB758_699.out
                           have hnc169 := NB699_758.out
                           have hnb170 := NB758_731.out
                           have hnc170 := NB731_758.out
                           have hnb171 := NB758_767.out
                           have hnc171 := NB767_758.out
                           have hcz172_0 : w164.cell? ⟨gb758, 0, none⟩ = some (.int .i64 t755) := (b4 BK758.out 0).trans rfl
                           have hcz172_1 : w164.cell? ⟨gb758, 1, none⟩ = some (.int .i64 t756) := (b4 BK758.out 1).trans rfl
                           have hfz172_0 := b9 BK758.out 0
                           have hfz172_1 := b9 BK758.out 1
                           have hnb173 := NB767_686.out
                           have hnc173 := NB686_767.out
                           have hnb174 := NB767_687.out
                           have hnc174 := NB687_767.out
                           have hnb175 := NB767_699.out
                           have hnc175 := NB699_767.out
                           have hnb176 := NB767_731.out
                           have hnc176 := NB731_767.out
                           have hcz177_0 : w164.cell? ⟨gb767, 0, none⟩ = some (.int .i64 0) := (b4 BK767.out 0).trans rfl
                           have hcz177_1 : w164.cell? ⟨gb767, 1, none⟩ = some (.int .i64 0) := (b4 BK767.out 1).trans rfl
                           have hfz177_0 := b9 BK767.out 0
                           have hfz177_1 := b9 BK767.out 1
                           try go_wp2_with (first | (go_at_call 28; (with_reducible refine (tensilelaw09_least.calls t755 t756 t764 t765 true _ A156.out).mono ?_); rintro e w178 ⟨rfl, hb⟩; have n0_ := Aside0.mk (k3 (by (with_reducible repeat (first | apply k0 | apply k1 | apply k2)); exact (k10 (k8 (p := ⟨gb767, 1, none⟩) (k8 (p := ⟨gb767, 0, none⟩) (k11 HO_700001.out BK767.out (by decide)) (fun _ hk => hk.2) (.int .i64 t764)) (fun _ hk => hk.2) (.int .i64 t765)) (fun _ h_ => h_.1))) hb); have n1_ := Aside0.mk (k3 (by (with_reducible repeat (first | apply k0 | apply k1 | apply k2)); exact (k10 (k8 (p := ⟨gb767, 1, none⟩) (k8 (p := ⟨gb767, 0, none⟩) (k11 HO_732001.out BK767.out (by decide)) (fun _ hk => hk.2) (.int .i64 t764)) (fun _ hk => hk.2) (.int .i64 t765)) (fun _ h_ => h_.1))) hb); have n2_ := Aside0.mk (k3 (by (with_reducible repeat (first | apply k0 | apply k1 | apply k2)); exact (k10 (k8 (p := ⟨gb767, 1, none⟩) (k8 (p := ⟨gb767, 0, none⟩) (k11 HO763.out BK767.out (by decide)) (fun _ hk => hk.2) (.int .i64 t764)) (fun _ hk => hk.2) (.int .i64 t765)) (fun _ h_ => h_.1))) hb); have n3_ := Aside0.mk (b5 (g := gb686) (o := .cells #[.int .i64 a1_0, .int .i64 a1_1, .int .i64 a1_2, .int .i64 a1_3] 64 (0, 0)) (by (with_reducible repeat (first | refine b0 ?_ _ | refine b1 ?_ | refine b2 ?_ _)); refine b11 ?_ NB686_767.out _; (with_reducible repeat (first | refine b0 ?_ _ | refine b1 ?_ | refine b2 ?_ _)); refine b11 ?_ NB686_767.out _; (with_reducible repeat (first | refine b0 ?_ _ | refine b1 ?_ | refine b2 ?_ _)); exact BK686.out) hb); have n4_ := Aside0.mk (b5 (g := gb687) (o := .cells #[.int .i64 a2_0, .slice A2_1 l2_1.length c2_1] 24 (0, 0)) (by (with_reducible repeat (first | refine b0 ?_ _ | refine b1 ?_ | refine b2 ?_ _)); refine b11 ?_ NB687_767.out _; (with_reducible repeat (first | refine b0 ?_ _ | refine b1 ?_ | refine b2 ?_ _)); refine b11 ?_ NB687_767.out _; (with_reducible repeat (first | refine b0 ?_ _ | refine b1 ?_ | refine b2 ?_ _)); exact BK687.out) hb); have n5_ := Aside0.mk (b5 (g := gb699) (o := .cells #[.int .i64 t694, .slice (some ad711) t695.length co23] 31 (0, 0)) (by (with_reducible repeat (first | refine b0 ?_ _ | refine b1 ?_ | refine b2 ?_ _)); refine b11 ?_ NB699_767.out _; (with_reducible repeat (first | refine b0 ?_ _ | refine b1 ?_ | refine b2 ?_ _)); refine b11 ?_ NB699_767.out _; (with_reducible repeat (first | refine b0 ?_ _ | refine b1 ?_ | refine b2 ?_ _)); exact BK699.out) hb); have n6_ := Aside0.mk (b5 (g := gb731) (o := .cells #[.int .i64 t726, .slice Ao81 t727.length co81] 31 (0, 0)) (by (with_reducible repeat (first | refine b0 ?_ _ | refine b1 ?_ | refine b2 ?_ _)); refine b11 ?_ NB731_767.out _; (with_reducible repeat (first | refine b0 ?_ _ | refine b1 ?_ | refine b2 ?_ _)); refine b11 ?_ NB731_767.out _; (with_reducible repeat (first | refine b0 ?_ _ | refine b1 ?_ | refine b2 ?_ _)); exact BK731.out) hb); have n7_ := Aside0.mk (b5 (g := gb758) (o := .cells #[.int .i64 t755, .int .i64 t756] 34 (0, 0)) (by (with_reducible repeat (first | refine b0 ?_ _ | refine b1 ?_ | refine b2 ?_ _)); refine b11 ?_ NB758_767.out _; (with_reducible repeat (first | refine b0 ?_ _ | refine b1 ?_ | refine b2 ?_ _)); refine b11 ?_ NB758_767.out _; (with_reducible repeat (first | refine b0 ?_ _ | refine b1 ?_ | refine b2 ?_ _)); exact BK758.out) hb); have n8_ := Aside0.mk (b5 (g := gb767) (o := .cells #[.int .i64 t764, .int .i64 t765] 34 (0, 0)) (by (with_reducible repeat (first | refine b0 ?_ _ | refine b1 ?_ | refine b2 ?_ _)); refine blk_put (cs := #[.int .i64 t764, .int .i64 0]) ?_ 1 _ rfl; (with_reducible repeat (first | refine b0 ?_ _ | refine b1 ?_ | refine b2 ?_ _)); refine blk_put (cs := #[.int .i64 0, .int .i64 0]) ?_ 0 _ rfl; (with_reducible repeat (first | refine b0 ?_ _ | refine b1 ?_ | refine b2 ?_ _)); exact BK767.out) hb); have n9_ := Aside0.mk (b13 (by repeat (first | (with_reducible first | exact HB.out | apply b8 | apply b6 | apply b7 | refine b3 ?_ GE686.out | refine b3 ?_ GE687.out | refine b3 ?_ GE699.out | refine b3 ?_ GE731.out | refine b3 ?_ GE758.out | refine b3 ?_ GE767.out) | exact HB.out)) hb); clear HO_700001; clear HO_732001; clear HO763; clear BK686; clear BK687; clear BK699; clear BK731; clear BK758; clear BK767; clear HB; have HO_700001 := n0_; have HO_732001 := n1_; have HO763 := n2_; have BK686 := n3_; have BK687 := n4_; have BK699 := n5_; have BK731 := n6_; have BK758 := n7_; have BK767 := n8_; have HB := n9_; clear n0_ n1_ n2_ n3_ n4_ n5_ n6_ n7_ n8_ n9_; (try clear hb); (try clear hb2); (try clear hk); (try clear hi)) | (go_at_call 15; (with_reducible refine (tensilelaw09_wakes.calls  t769 _ A158.out).mono ?_); rintro e w179 ⟨rfl, hb⟩; have n0_ := Aside0.mk (k3 (by (with_reducible repeat (first | apply k0 | apply k1 | apply k2)); exact HO_700001.out) hb); have n1_ := Aside0.mk (k3 (by (with_reducible repeat (first | apply k0 | apply k1 | apply k2)); exact HO_732001.out) hb); have n2_ := Aside0.mk (k3 (by (with_reducible repeat (first | apply k0 | apply k1 | apply k2)); exact HO763.out) hb); have n3_ := Aside0.mk (b5 (g := gb686) (o := .cells #[.int .i64 a1_0, .int .i64 a1_1, .int .i64 a1_2, .int .i64 a1_3] 64 (0, 0)) (by (with_reducible repeat (first | refine b0 ?_ _ | refine b1 ?_ | refine b2 ?_ _)); exact BK686.out) hb); have n4_ := Aside0.mk (b5 (g := gb687) (o := .cells #[.int .i64 a2_0, .slice A2_1 l2_1.length c2_1] 24 (0, 0)) (by (with_reducible repeat (first | refine b0 ?_ _ | refine b1 ?_ | refine b2 ?_ _)); exact BK687.out) hb); have n5_ := Aside0.mk (b5 (g := gb699) (o := .cells #[.int .i64 t694, .slice (some ad711) t695.length co23] 31 (0, 0)) (by (with_reducible repeat (first | refine b0 ?_ _ | refine b1 ?_ | refine b2 ?_ _)); exact BK699.out) hb); have n6_ := Aside0.mk (b5 (g := gb731) (o := .cells #[.int .i64 t726, .slice Ao81 t727.length co81] 31 (0, 0)) (by (with_reducible repeat (first | refine b0 ?_ _ | refine b1 ?_ | refine b2 ?_ _)); exact BK731.out) hb); have n7_ := Aside0.mk (b5 (g := gb758) (o := .cells #[.int .i64 t755, .int .i64 t756] 34 (0, 0)) (by (with_reducible repeat (first | refine b0 ?_ _ | refine b1 ?_ | refine b2 ?_ _)); exact BK758.out) hb); have n8_ := Aside0.mk (b5 (g := gb767) (o := .cells #[.int .i64 t764, .int .i64 t765] 34 (0, 0)) (by (with_reducible repeat (first | refine b0 ?_ _ | refine b1 ?_ | refine b2 ?_ _)); exact BK767.out) hb); have n9_ := Aside0.mk (b13 (by repeat (first | (with_reducible first | exact HB.out | apply b8 | apply b6 | apply b7 | refine b3 ?_ GE686.out | refine b3 ?_ GE687.out | refine b3 ?_ GE699.out | refine b3 ?_ GE731.out | refine b3 ?_ GE758.out | refine b3 ?_ GE767.out) | exact HB.out)) hb); clear HO_700001; clear HO_732001; clear HO763; clear BK686; clear BK687; clear BK699; clear BK731; clear BK758; clear BK767; clear HB; have HO_700001 := n0_; have HO_732001 := n1_; have HO763 := n2_; have BK686 := n3_; have BK687 := n4_; have BK699 := n5_; have BK731 := n6_; have BK758 := n7_; have BK767 := n8_; have HB := n9_; clear n0_ n1_ n2_ n3_ n4_ n5_ n6_ n7_ n8_ n9_; (try clear hb); (try clear hb2); (try clear hk); (try clear hi)))
                           go_ret
                           exact ⟨by first | rfl | (simp [errW_none, errW_some] <;> rfl) | (simp [*, errW_none, errW_some] <;> rfl), by repeat (first | (with_reducible first | exact HB.out | apply b8 | apply b6 | apply b7 | refine b3 ?_ GE686.out | refine b3 ?_ GE687.out | refine b3 ?_ GE699.out | refine b3 ?_ GE731.out | refine b3 ?_ GE758.out | refine b3 ?_ GE767.out) | exact HB.out)⟩
                          ·
                           replace c157 := Bool.eq_false_iff.mpr c157
                           subst c157
                           have H1 : (none) = some r := by rw [if_neg (show ¬ (false = true) by decide)] at H; exact H
                           clear H
                           have H := H1
                           clear H1
                           exact absurd H (by simp)
                         ·
                          rw [if_neg c155] at H
                          exact absurd H (by simp)
                        ·
                         replace c152 := Bool.eq_false_iff.mpr c152
                         subst c152
                         have H1 : ((tensilelaw09_wakes.f).bind fun t759 => (some t759)) = some r := by rw [if_neg (show ¬ (false = true) by decide)] at H; exact H
                         clear H
                         have H := H1
                         clear H1
                         replace H := Option.bind_eq_some_iff.mp H
                         obtain ⟨t759, A1800, H⟩ := H
                         replace H : (some t759) = some r := H
                         have A180 := Aside0.mk A1800
                         clear A1800
                         obtain rfl := Option.some.inj H
                         go_wp2_with (first | ((with_reducible refine gate_callee (f := 15) rfl ?_); refine goesL_ (some 205) rfl rfl Try.func15 (by kernel_rfl) rfl #[] rfl (by (try simp only [List.map_toArray, List.map_cons, List.map_nil]); first | done | rfl | (simp only [List.length_drop, List.length_take]; rfl)) ?_; (with_reducible refine (tensilelaw09_wakes.calls  t759 _ A180.out).mono ?_); rintro e w181 ⟨rfl, hb⟩; refine ⟨_, rfl, ?_⟩; have n0_ := Aside0.mk (k3 (by (with_reducible repeat (first | apply k0 | apply k1 | apply k2)); exact HO_700001.out) hb); have n1_ := Aside0.mk (k3 (by (with_reducible repeat (first | apply k0 | apply k1 | apply k2)); exact HO_732001.out) hb); have n2_ := Aside0.mk (b5 (g := gb686) (o := .cells #[.int .i64 a1_0, .int .i64 a1_1, .int .i64 a1_2, .int .i64 a1_3] 64 (0, 0)) (by (with_reducible repeat (first | refine b0 ?_ _ | refine b1 ?_ | refine b2 ?_ _)); exact BK686.out) hb); have n3_ := Aside0.mk (b5 (g := gb687) (o := .cells #[.int .i64 a2_0, .slice A2_1 l2_1.length c2_1] 24 (0, 0)) (by (with_reducible repeat (first | refine b0 ?_ _ | refine b1 ?_ | refine b2 ?_ _)); exact BK687.out) hb); have n4_ := Aside0.mk (b5 (g := gb699) (o := .cells #[.int .i64 t694, .slice (some ad711) t695.length co23] 31 (0, 0)) (by (with_reducible repeat (first | refine b0 ?_ _ | refine b1 ?_ | refine b2 ?_ _)); exact BK699.out) hb); have n5_ := Aside0.mk (b5 (g := gb731) (o := .cells #[.int .i64 t726, .slice Ao81 t727.length co81] 31 (0, 0)) (by (with_reducible repeat (first | refine b0 ?_ _ | refine b1 ?_ | refine b2 ?_ _)); exact BK731.out) hb); have n6_ := Aside0.mk (b5 (g := gb758) (o := .cells #[.int .i64 t755, .int .i64 t756] 34 (0, 0)) (by (with_reducible repeat (first | refine b0 ?_ _ | refine b1 ?_ | refine b2 ?_ _)); exact BK758.out) hb); have n7_ := Aside0.mk (b13 (by repeat (first | (with_reducible first | exact HB.out | apply b8 | apply b6 | apply b7 | refine b3 ?_ GE686.out | refine b3 ?_ GE687.out | refine b3 ?_ GE699.out | refine b3 ?_ GE731.out | refine b3 ?_ GE758.out) | exact HB.out)) hb); clear HO_700001; clear HO_732001; clear BK686; clear BK687; clear BK699; clear BK731; clear BK758; clear HB; have HO_700001 := n0_; have HO_732001 := n1_; have BK686 := n2_; have BK687 := n3_; have BK699 := n4_; have BK731 := n5_; have BK758 := n6_; have HB := n7_; clear n0_ n1_ n2_ n3_ n4_ n5_ n6_ n7_; (try clear hb); (try clear hb2); (try clear hk); (try clear hi)))
                         go_ret
                         exact ⟨by first | rfl | (simp [errW_none, errW_some] <;> rfl) | (simp [*, errW_none, errW_some] <;> rfl), by repeat (first | (with_reducible first | exact HB.out | apply b8 | apply b6 | apply b7 | refine b3 ?_ GE686.out | refine b3 ?_ GE687.out | refine b3 ?_ GE699.out | refine b3 ?_ GE731.out | refine b3 ?_ GE758.out) | exact HB.out)⟩
                 ·
                  rw [if_neg c113] at H
                  have c113b0 : (t730 == 0) = false := beq_eq_false_iff_ne.mpr c113
                  have c113b1 : (t730 != 0) = true := bne_iff_ne.mpr c113
                  by_cases c182 : t730 = 9
                  ·
                   rw [if_pos c182] at H
                   have c182b0 : (t730 == 9) = true := beq_iff_eq.mpr c182
                   have c182b1 : (t730 != 9) = false := bne_eq_false_iff_eq.mpr c182
                   clear c182
                   by_cases c183 : x22_101 = true
                   ·
                    subst c183
                    have H1 : (none) = some r := by rw [if_pos rfl] at H; exact H
                    clear H
                    have H := H1
                    clear H1
                    exact absurd H (by simp)
                   ·
                    replace c183 := Bool.eq_false_iff.mpr c183
                    subst c183
                    have H1 : ((tensilelaw09_wakes.f).bind fun t743 => (some t743)) = some r := by rw [if_neg (show ¬ (false = true) by decide)] at H; exact H
                    clear H
                    have H := H1
                    clear H1
                    replace H := Option.bind_eq_some_iff.mp H
                    obtain ⟨t743, A1840, H⟩ := H
                    replace H : (some t743) = some r := H
                    have A184 := Aside0.mk A1840
                    clear A1840
                    obtain rfl := Option.some.inj H
                    go_wp2_with (first | (go_at_call 15; (with_reducible refine (tensilelaw09_wakes.calls  t743 _ A184.out).mono ?_); rintro e w185 ⟨rfl, hb⟩; have n0_ := Aside0.mk (k3 (by (with_reducible repeat (first | apply k0 | apply k1 | apply k2)); exact HO_700001.out) hb); have n1_ := Aside0.mk (k3 (by (with_reducible repeat (first | apply k0 | apply k1 | apply k2)); exact HO_732001.out) hb); have n2_ := Aside0.mk (b5 (g := gb686) (o := .cells #[.int .i64 a1_0, .int .i64 a1_1, .int .i64 a1_2, .int .i64 a1_3] 64 (0, 0)) (by (with_reducible repeat (first | refine b0 ?_ _ | refine b1 ?_ | refine b2 ?_ _)); exact BK686.out) hb); have n3_ := Aside0.mk (b5 (g := gb687) (o := .cells #[.int .i64 a2_0, .slice A2_1 l2_1.length c2_1] 24 (0, 0)) (by (with_reducible repeat (first | refine b0 ?_ _ | refine b1 ?_ | refine b2 ?_ _)); exact BK687.out) hb); have n4_ := Aside0.mk (b5 (g := gb699) (o := .cells #[.int .i64 t694, .slice (some ad711) t695.length co23] 31 (0, 0)) (by (with_reducible repeat (first | refine b0 ?_ _ | refine b1 ?_ | refine b2 ?_ _)); exact BK699.out) hb); have n5_ := Aside0.mk (b5 (g := gb731) (o := .cells #[.int .i64 t726, .slice Ao81 t727.length co81] 31 (0, 0)) (by (with_reducible repeat (first | refine b0 ?_ _ | refine b1 ?_ | refine b2 ?_ _)); exact BK731.out) hb); have n6_ := Aside0.mk (b13 (by repeat (first | (with_reducible first | exact HB.out | apply b8 | apply b6 | apply b7 | refine b3 ?_ GE686.out | refine b3 ?_ GE687.out | refine b3 ?_ GE699.out | refine b3 ?_ GE731.out) | exact HB.out)) hb); clear HO_700001; clear HO_732001; clear BK686; clear BK687; clear BK699; clear BK731; clear HB; have HO_700001 := n0_; have HO_732001 := n1_; have BK686 := n2_; have BK687 := n3_; have BK699 := n4_; have BK731 := n5_; have HB := n6_; clear n0_ n1_ n2_ n3_ n4_ n5_ n6_; (try clear hb); (try clear hb2); (try clear hk); (try clear hi)))
                    go_ret
                    exact ⟨by first | rfl | (simp [errW_none, errW_some] <;> rfl) | (simp [*, errW_none, errW_some] <;> rfl), by repeat (first | (with_reducible first | exact HB.out | apply b8 | apply b6 | apply b7 | refine b3 ?_ GE686.out | refine b3 ?_ GE687.out | refine b3 ?_ GE699.out | refine b3 ?_ GE731.out) | exact HB.out)⟩
                  ·
                   rw [if_neg c182] at H
                   exact absurd H (by simp)
         ·
          rw [if_neg c46] at H
          exact absurd H (by simp)
 ·
  rw [if_neg c7] at H
  have c7b0 : (t688 == 0) = false := beq_eq_false_iff_ne.mpr c7
  have c7b1 : (t688 != 0) = true := bne_iff_ne.mpr c7
  replace H := Option.bind_eq_some_iff.mp H
  obtain ⟨t689, A1860, H⟩ := H
  replace H : (some t689) = some r := H
  have A186 := Aside0.mk A1860
  clear A1860
  obtain rfl := Option.some.inj H
  go_enter Try.func13, Try.ntmps13
  go_wp2_with (first | ((with_reducible refine gate_dst (N := 6) rfl ?_); (try (refine gate_guard (by rfl) ?_; dsimp only)); refine box_event ?hg (N := 6) ?hd (cs := #[.int .i64 a1_0, .int .i64 a1_1, .int .i64 a1_2, .int .i64 a1_3]) (t := 64) ?hr ?_; (case hd => rfl); (case hg => rfl); (case hr => first | (go_simp; done) | (go_simp; rfl)); intro gb686 hg w187 hbox hb; have n0_ := Aside0.mk (b13 (by repeat (first | (with_reducible first | exact HB.out | apply b8 | apply b6 | apply b7) | exact HB.out)) hb); have n1_ := Aside0.mk (hbox); have n2_ := Aside0.mk ((by rw [hg]; exact (b12 (by repeat (first | (with_reducible first | exact HB.out | apply b8 | apply b6 | apply b7) | exact HB.out))) : w.heap.size ≤ gb686)); have n3_ := Aside0.mk ((by rw [hg]; exact (b12 (by repeat (first | (with_reducible first | exact HB.out | apply b8 | apply b6 | apply b7) | exact HB.out))) : w.heap.size ≤ gb686)); clear HB; have HB := n0_; have BK686 := n1_; have GW686 := n2_; have GE686 := n3_; clear n0_ n1_ n2_ n3_; clear hb hbox hg) | ((with_reducible refine gate_dst (N := 7) rfl ?_); (try (refine gate_guard (by rfl) ?_; dsimp only)); refine box_event ?hg (N := 7) ?hd (cs := #[.int .i64 a2_0, .slice A2_1 l2_1.length c2_1]) (t := 24) ?hr ?_; (case hd => rfl); (case hg => rfl); (case hr => first | (go_simp; done) | (go_simp; rfl)); intro gb687 hg w188 hbox hb; have n0_ := Aside0.mk (b5 (g := gb686) (o := .cells #[.int .i64 a1_0, .int .i64 a1_1, .int .i64 a1_2, .int .i64 a1_3] 64 (0, 0)) (by (with_reducible repeat (first | refine b0 ?_ _ | refine b1 ?_ | refine b2 ?_ _)); exact BK686.out) hb); have n1_ := Aside0.mk (b13 (by repeat (first | (with_reducible first | exact HB.out | apply b8 | apply b6 | apply b7 | refine b3 ?_ GE686.out) | exact HB.out)) hb); have n2_ := Aside0.mk (hbox); have n3_ := Aside0.mk ((by rw [hg]; exact (b12 (by repeat (first | (with_reducible first | exact HB.out | apply b8 | apply b6 | apply b7 | refine b3 ?_ GE686.out) | exact HB.out))) : w.heap.size ≤ gb687)); have n4_ := Aside0.mk ((by rw [hg]; exact (b12 (by repeat (first | (with_reducible first | exact HB.out | apply b8 | apply b6 | apply b7 | refine b3 ?_ GE686.out) | exact HB.out))) : w.heap.size ≤ gb687)); have n5_ := Aside0.mk ((by rw [hg]; exact Nat.ne_of_lt (b10 (g := gb686) (o := .cells #[.int .i64 a1_0, .int .i64 a1_1, .int .i64 a1_2, .int .i64 a1_3] 64 (0, 0)) (by (with_reducible repeat (first | refine b0 ?_ _ | refine b1 ?_ | refine b2 ?_ _)); exact BK686.out)) : gb686 ≠ gb687)); have n6_ := Aside0.mk ((by rw [hg]; exact Nat.ne_of_gt (b10 (g := gb686) (o := .cells #[.int .i64 a1_0, .int .i64 a1_1, .int .i64 a1_2, .int .i64 a1_3] 64 (0, 0)) (by (with_reducible repeat (first | refine b0 ?_ _ | refine b1 ?_ | refine b2 ?_ _)); exact BK686.out)) : gb687 ≠ gb686)); clear BK686; clear HB; have BK686 := n0_; have HB := n1_; have BK687 := n2_; have GW687 := n3_; have GE687 := n4_; have NB686_687 := n5_; have NB687_686 := n6_; clear n0_ n1_ n2_ n3_ n4_ n5_ n6_; clear hb hbox hg; have hnb189 := NB686_687.out; have hnc189 := NB687_686.out; have hcz190_0 : w188.cell? ⟨gb686, 0, none⟩ = some (.int .i64 a1_0) := (b4 BK686.out 0).trans rfl; have hcz190_1 : w188.cell? ⟨gb686, 1, none⟩ = some (.int .i64 a1_1) := (b4 BK686.out 1).trans rfl; have hcz190_2 : w188.cell? ⟨gb686, 2, none⟩ = some (.int .i64 a1_2) := (b4 BK686.out 2).trans rfl; have hcz190_3 : w188.cell? ⟨gb686, 3, none⟩ = some (.int .i64 a1_3) := (b4 BK686.out 3).trans rfl; have hfz190_0 := b9 BK686.out 0; have hfz190_1 := b9 BK686.out 1; have hfz190_2 := b9 BK686.out 2; have hfz190_3 := b9 BK686.out 3) | ((with_reducible refine gate_callee (f := 36) rfl ?_); refine goesL_ (some 36) rfl rfl Try.func36 (by kernel_rfl) rfl #[.int .i64 (Int.tmod (wrap64 (a0)) 31), .int .i64 30, .agg #[.int .i64 a1_0, .int .i64 a1_1, .int .i64 a1_2, .int .i64 a1_3]] rfl (by (try simp only [List.map_toArray, List.map_cons, List.map_nil]); first | done | rfl | (simp only [List.length_drop, List.length_take]; rfl)) ?_; (with_reducible refine (tensilelaw09_asked.calls (Int.tmod (wrap64 (a0)) 31) 30 a1_0 a1_1 a1_2 a1_3 t688 _ A6.out).mono ?_); rintro e w191 ⟨rfl, hb⟩; refine ⟨_, rfl, ?_⟩; have n0_ := Aside0.mk (b5 (g := gb686) (o := .cells #[.int .i64 a1_0, .int .i64 a1_1, .int .i64 a1_2, .int .i64 a1_3] 64 (0, 0)) (by (with_reducible repeat (first | refine b0 ?_ _ | refine b1 ?_ | refine b2 ?_ _)); exact BK686.out) hb); have n1_ := Aside0.mk (b5 (g := gb687) (o := .cells #[.int .i64 a2_0, .slice A2_1 l2_1.length c2_1] 24 (0, 0)) (by (with_reducible repeat (first | refine b0 ?_ _ | refine b1 ?_ | refine b2 ?_ _)); exact BK687.out) hb); have n2_ := Aside0.mk (b13 (by repeat (first | (with_reducible first | exact HB.out | apply b8 | apply b6 | apply b7 | refine b3 ?_ GE686.out | refine b3 ?_ GE687.out) | exact HB.out)) hb); clear BK686; clear BK687; clear HB; have BK686 := n0_; have BK687 := n1_; have HB := n2_; clear n0_ n1_ n2_; (try clear hb); (try clear hb2); (try clear hk); (try clear hi)) | ((with_reducible refine gate_callee (f := 15) rfl ?_); refine goesL_ (some 38) rfl rfl Try.func15 (by kernel_rfl) rfl #[] rfl (by (try simp only [List.map_toArray, List.map_cons, List.map_nil]); first | done | rfl | (simp only [List.length_drop, List.length_take]; rfl)) ?_; (with_reducible refine (tensilelaw09_wakes.calls  t689 _ A186.out).mono ?_); rintro e w192 ⟨rfl, hb⟩; refine ⟨_, rfl, ?_⟩; have n0_ := Aside0.mk (b5 (g := gb686) (o := .cells #[.int .i64 a1_0, .int .i64 a1_1, .int .i64 a1_2, .int .i64 a1_3] 64 (0, 0)) (by (with_reducible repeat (first | refine b0 ?_ _ | refine b1 ?_ | refine b2 ?_ _)); exact BK686.out) hb); have n1_ := Aside0.mk (b5 (g := gb687) (o := .cells #[.int .i64 a2_0, .slice A2_1 l2_1.length c2_1] 24 (0, 0)) (by (with_reducible repeat (first | refine b0 ?_ _ | refine b1 ?_ | refine b2 ?_ _)); exact BK687.out) hb); have n2_ := Aside0.mk (b13 (by repeat (first | (with_reducible first | exact HB.out | apply b8 | apply b6 | apply b7 | refine b3 ?_ GE686.out | refine b3 ?_ GE687.out) | exact HB.out)) hb); clear BK686; clear BK687; clear HB; have BK686 := n0_; have BK687 := n1_; have HB := n2_; clear n0_ n1_ n2_; (try clear hb); (try clear hb2); (try clear hk); (try clear hi)))
  go_ret
  exact ⟨by first | rfl | (simp [errW_none, errW_some] <;> rfl) | (simp [*, errW_none, errW_some] <;> rfl), by repeat (first | (with_reducible first | exact HB.out | apply b8 | apply b6 | apply b7 | refine b3 ?_ GE686.out | refine b3 ?_ GE687.out) | exact HB.out)⟩

end Go.Proofs.Ytigpnafpdmdmhaa.P
