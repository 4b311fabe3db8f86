/- The statement PlanMeans: whatever the input (its guards are the law's own), the call returns true, and each argument reads as it did. -/
import Derived.Test.YtigpnafpdmdmhaaB2
import Derived.Test.YtigpnafpdmdmhaaB3
import Derived.Test.YtigpnafpdmdmhaaB1
import Derived.Test.YtigpnafpdmdmhaaB0
import Derived.Test.YtigpnafpdmdmhaaRows
import Derived.WalkKit
import Derived.ProofKit
import Derived.OpenShut
import Derived.ShutString
import Derived.ChangeOld
import Derived.Below
import Derived.SizedLaws
set_option linter.unusedVariables false
set_option linter.unusedSimpArgs false
namespace Go.Proofs.Ytigpnafpdmdmhaa.P
open Go.RowKit Go.Proofs.YtigpnafpdmdmhaaW.PrintWords Go.Proofs.YtigpnafpdmdmhaaW.PrintLast

/-! ### tensileref09_Lowest: function 45 -/
def tensileref09_Lowest.l0 : Nat → Int → Int → Int → Int → Option (Int × Int)
  | 0, _, _, _, _ => none
  | k + 1, x0, x1, x6, x7 => if x7 > 0 then (if x7 = 0 then (none) else (tensileref09_Lowest.l0 k x0 x1 x7 (Int.tmod x6 x7))) else (if x6 = 0 then (none) else (some (wrap64 (Int.tdiv x0 x6), wrap64 (Int.tdiv x1 x6))))
def tensileref09_Lowest.f (k : Nat) (a0 : Int) (a1 : Int) : Option (Int × Int) := tensileref09_Lowest.l0 k a0 a1 a0 a1
theorem tensileref09_Lowest.mono_l : ∀ k, (∀ y0 y1 y2 y3, LeO (tensileref09_Lowest.l0 k y0 y1 y2 y3) (tensileref09_Lowest.l0 (k + 1) y0 y1 y2 y3))
  | 0 => fun _ _ _ _ r h => by simp [tensileref09_Lowest.l0] at h
  | k + 1 => by
    have ih0 := tensileref09_Lowest.mono_l k
    · intro y0 y1 y2 y3
      unfold tensileref09_Lowest.l0
      repeat' first
      | (with_reducible exact ih0 _ _ _ _)
      | (with_reducible exact LeO.refl _)
      | (with_reducible exact LeO.none _)
      | (with_reducible refine LeO.ite ?_ ?_)
      | (with_reducible refine LeO.bind ?_ (fun _ => ?_))
      | exact ih0 _ _ _ _
      | exact LeO.none _
      | refine LeO.ite ?_ ?_
      | refine LeO.bind ?_ (fun _ => ?_)
theorem tensileref09_Lowest.mono : ∀ a0 a1 k, LeO (tensileref09_Lowest.f k a0 a1) (tensileref09_Lowest.f (k + 1) a0 a1) := by
  intro a0 a1 k
  have ih0 := tensileref09_Lowest.mono_l k
  unfold tensileref09_Lowest.f
  repeat' first
      | (with_reducible exact ih0 _ _ _ _)
      | (with_reducible exact LeO.refl _)
      | (with_reducible exact LeO.none _)
      | (with_reducible refine LeO.ite ?_ ?_)
      | (with_reducible refine LeO.bind ?_ (fun _ => ?_))
      | exact ih0 _ _ _ _
      | exact LeO.none _
      | refine LeO.ite ?_ ?_
      | refine LeO.bind ?_ (fun _ => ?_)
set_option maxHeartbeats 8000000 in
set_option maxRecDepth 100000 in
theorem tensileref09_Lowest.calls (k : Nat) (a0 : Int) (a1 : Int) (r1 : Int) (r2 : Int) (w : World) (h : tensileref09_Lowest.f k a0 a1 = some (r1, r2)) :
    Calls Try.prog 45 #[.int .i64 a0, .int .i64 a1] w fun e w' => e = .returned (.tuple #[.int .i64 r1, .int .i64 r2]) ∧ Drawn0 w w' := by
  have H : (tensileref09_Lowest.l0 k a0 a1 a0 a1) = some (r1, r2) := h
  clear h
  have H' := Aside0.mk H
  clear H
  go_enter Try.func45, Try.ntmps45
  go_wp2
  repeat (go_quiet (fail); try go_wp2)
  go_loopg [6, 7] k (fun kq v6 v7 w' => ∃ (x6_1 : Int) (x7_1 : Int), v6 = .int .i64 x6_1 ∧ v7 = .int .i64 x7_1 ∧ Aside0 (tensileref09_Lowest.l0 kq a0 a1 x6_1 x7_1 = some (r1, r2)) ∧ Aside0 (kq ≤ k) ∧ Drawn0 w w')
  case atStart => exact ⟨(a0), (a1), (by first | rfl | (simp; done) | (simp [*]; done)), (by first | rfl | (simp; done) | (simp [*]; done)), H', ⟨Nat.le_refl _⟩, by repeat (first | exact Drawn0.refl _ | apply Drawn0.step)⟩
  case round =>
    clear H'
    try clear p2
    obtain ⟨x6_1, x7_1, rfl, rfl, HA, HK1, ⟨m1, rfl⟩⟩ := hrel
    cases gk with
    | zero => exact absurd HA.out (by simp [tensileref09_Lowest.l0])
    | succ k1 =>
      have H := HA.out
      clear HA
      simp only [tensileref09_Lowest.l0] at H
      by_cases c3 : x7_1 > 0
      · rw [if_pos c3] at H
        have c3b0 : decide (0 < x7_1) = true := decide_eq_true c3
        clear c3
        by_cases c4 : x7_1 = 0
        · rw [if_pos c4] at H
          exact absurd H (by simp)
        · rw [if_neg c4] at H
          have c4b0 : (x7_1 == 0) = false := beq_eq_false_iff_ne.mpr c4
          have c4b1 : (x7_1 != 0) = true := bne_iff_ne.mpr c4
          have H' := Aside0.mk H
          clear H
          go_wp2
          repeat (go_quiet (fail); try go_wp2)
          go_roundg k1
          case measure => have := HK1.out; omega
          case rel => exact ⟨(x7_1), (Int.tmod x6_1 x7_1), (by first | rfl | (simp; done) | (simp [*]; done)), (by first | rfl | (simp; done) | (simp [*]; done)), H', ⟨by have := HK1.out; omega⟩, by repeat (first | exact Drawn0.refl _ | apply Drawn0.step)⟩
      · rw [if_neg c3] at H
        have c3b0 : decide (0 < x7_1) = false := decide_eq_false c3
        clear c3
        by_cases c5 : x6_1 = 0
        · rw [if_pos c5] at H
          exact absurd H (by simp)
        · rw [if_neg c5] at H
          have c5b0 : (x6_1 == 0) = false := beq_eq_false_iff_ne.mpr c5
          have c5b1 : (x6_1 != 0) = true := bne_iff_ne.mpr c5
          simp only [Option.some.injEq, Prod.mk.injEq] at H
          obtain ⟨rfl, rfl⟩ := H
          go_wp2
          repeat (go_quiet (fail); try go_wp2)
          go_ret2
          exact ⟨by first | rfl | (simp; done) | (simp [*]; done), by repeat (first | exact Drawn0.refl _ | apply Drawn0.step)⟩

end Go.Proofs.Ytigpnafpdmdmhaa.P

namespace Go.Proofs.Ytigpnafpdmdmhaa.P
open Go.RowKit Go.Proofs.YtigpnafpdmdmhaaW.PrintWords Go.Proofs.YtigpnafpdmdmhaaW.PrintLast

/-! ### tensilelaw09_is: function 22 -/
def tensilelaw09_is.f (k : Nat) (a0_0 : Int) (a0_1 : Int) (a1 : Int) (a2 : Int) : Option (Bool) := (tensileref09_Lowest.f k a1 a2).bind fun bt274 => (if a0_0 = bt274.1 then (some (a0_1 == bt274.2)) else (some false))
theorem tensilelaw09_is.mono : ∀ a0 a1 a2 a3 k, LeO (tensilelaw09_is.f k a0 a1 a2 a3) (tensilelaw09_is.f (k + 1) a0 a1 a2 a3) := by
  intro a0 a1 a2 a3 k
  unfold tensilelaw09_is.f
  repeat' first
      | (with_reducible exact tensileref09_Lowest.mono _ _ _)
      | (with_reducible exact LeO.refl _)
      | (with_reducible exact LeO.none _)
      | (with_reducible refine LeO.ite ?_ ?_)
      | (with_reducible refine LeO.bind ?_ (fun _ => ?_))
      | exact tensileref09_Lowest.mono _ _ _
      | exact LeO.none _
      | refine LeO.ite ?_ ?_
      | refine LeO.bind ?_ (fun _ => ?_)
set_option maxHeartbeats 8000000 in
set_option maxRecDepth 100000 in
theorem tensilelaw09_is.calls (k : Nat) (a0_0 : Int) (a0_1 : Int) (a1 : Int) (a2 : Int) (r : Bool) (w : World) (h : tensilelaw09_is.f k a0_0 a0_1 a1 a2 = some r) :
    Calls Try.prog 22 #[.agg #[.int .i64 a0_0, .int .i64 a0_1], .int .i64 a1, .int .i64 a2] w fun e w' => e = .returned (.bool r) ∧ Below w.heap.size w w' := by
  have hu34 := Try.underlying34
  have HB := Aside0.mk (Below.refl w.heap.size w)
  have H : ((tensileref09_Lowest.f k a1 a2).bind fun bt274 => (if a0_0 = bt274.1 then (some (a0_1 == bt274.2)) else (some false))) = some r := h
  clear h
  replace H := Option.bind_eq_some_iff.mp H
  obtain ⟨⟨t274, t275⟩, A40, H⟩ := H
  replace H : (if a0_0 = t274 then (some (a0_1 == t275)) else (some false)) = some r := H
  have A4 := Aside0.mk A40
  clear A40
  by_cases c5 : a0_0 = t274
  · rw [if_pos c5] at H
    have c5b0 : (a0_0 == t274) = true := beq_iff_eq.mpr c5
    have c5b1 : (a0_0 != t274) = false := bne_eq_false_iff_eq.mpr c5
    clear c5
    obtain rfl := Option.some.inj H
    go_enter Try.func22, Try.ntmps22
    go_wp2_with (first | ((with_reducible refine gate_dst (N := 3) rfl ?_); refine box_event ?hg (N := 3) ?hd (cs := #[.int .i64 a0_0, .int .i64 a0_1]) (t := 34) ?hr ?_; (case hd => rfl); (case hg => rfl); (case hr => first | (go_simp; done) | (go_simp; rfl)); intro gb273 hg w6 hbox hb; have n0_ := Aside0.mk (below_step (by repeat (first | (with_reducible first | exact HB.out | apply below_alloc | apply pw_below_drewN | apply below_drew1) | exact HB.out)) hb); have n1_ := Aside0.mk (hbox); have n2_ := Aside0.mk ((by rw [hg]; exact (below_size (by repeat (first | (with_reducible first | exact HB.out | apply below_alloc | apply pw_below_drewN | apply below_drew1) | exact HB.out))) : w.heap.size ≤ gb273)); have n3_ := Aside0.mk ((by rw [hg]; exact (below_size (by repeat (first | (with_reducible first | exact HB.out | apply below_alloc | apply pw_below_drewN | apply below_drew1) | exact HB.out))) : w.heap.size ≤ gb273)); clear HB; have HB := n0_; have BK273 := n1_; have GW273 := n2_; have GE273 := n3_; clear n0_ n1_ n2_ n3_; clear hb hbox hg) | ((with_reducible refine gate_callee (f := 45) rfl ?_); refine goesL_ (some 12) rfl rfl Try.func45 (by kernel_rfl) rfl #[.int .i64 a1, .int .i64 a2] rfl (by (try simp only [List.map_toArray, List.map_cons, List.map_nil]); first | done | rfl | (simp only [List.length_drop, List.length_take]; rfl)) ?_; (with_reducible refine (tensileref09_Lowest.calls k a1 a2 t274 t275 _ A4.out).mono ?_); rintro e w' ⟨rfl, ⟨nd, rfl⟩⟩; refine ⟨_, rfl, ?_⟩; have hcz7_0 : w6.cell? ⟨gb273, 0, none⟩ = some (.int .i64 a0_0) := (blk_cell BK273.out 0).trans rfl; have hcz7_1 : w6.cell? ⟨gb273, 1, none⟩ = some (.int .i64 a0_1) := (blk_cell BK273.out 1).trans rfl; have hfz7_0 := blk_frozen BK273.out 0; have hfz7_1 := blk_frozen BK273.out 1))
    go_ret
    exact ⟨by first | rfl | (simp [errW_none, errW_some] <;> rfl) | (simp [*, errW_none, errW_some] <;> rfl), by repeat (first | (with_reducible first | exact HB.out | apply below_alloc | apply pw_below_drewN | apply below_drew1 | refine below_set ?_ GE273.out) | exact HB.out)⟩
  · rw [if_neg c5] at H
    have c5b0 : (a0_0 == t274) = false := beq_eq_false_iff_ne.mpr c5
    have c5b1 : (a0_0 != t274) = true := bne_iff_ne.mpr c5
    obtain rfl := Option.some.inj H
    go_enter Try.func22, Try.ntmps22
    go_wp2_with (first | ((with_reducible refine gate_dst (N := 3) rfl ?_); refine box_event ?hg (N := 3) ?hd (cs := #[.int .i64 a0_0, .int .i64 a0_1]) (t := 34) ?hr ?_; (case hd => rfl); (case hg => rfl); (case hr => first | (go_simp; done) | (go_simp; rfl)); intro gb273 hg w8 hbox hb; have n0_ := Aside0.mk (below_step (by repeat (first | (with_reducible first | exact HB.out | apply below_alloc | apply pw_below_drewN | apply below_drew1) | exact HB.out)) hb); have n1_ := Aside0.mk (hbox); have n2_ := Aside0.mk ((by rw [hg]; exact (below_size (by repeat (first | (with_reducible first | exact HB.out | apply below_alloc | apply pw_below_drewN | apply below_drew1) | exact HB.out))) : w.heap.size ≤ gb273)); have n3_ := Aside0.mk ((by rw [hg]; exact (below_size (by repeat (first | (with_reducible first | exact HB.out | apply below_alloc | apply pw_below_drewN | apply below_drew1) | exact HB.out))) : w.heap.size ≤ gb273)); clear HB; have HB := n0_; have BK273 := n1_; have GW273 := n2_; have GE273 := n3_; clear n0_ n1_ n2_ n3_; clear hb hbox hg) | ((with_reducible refine gate_callee (f := 45) rfl ?_); refine goesL_ (some 12) rfl rfl Try.func45 (by kernel_rfl) rfl #[.int .i64 a1, .int .i64 a2] rfl (by (try simp only [List.map_toArray, List.map_cons, List.map_nil]); first | done | rfl | (simp only [List.length_drop, List.length_take]; rfl)) ?_; (with_reducible refine (tensileref09_Lowest.calls k a1 a2 t274 t275 _ A4.out).mono ?_); rintro e w' ⟨rfl, ⟨nd, rfl⟩⟩; refine ⟨_, rfl, ?_⟩; have hcz9_0 : w8.cell? ⟨gb273, 0, none⟩ = some (.int .i64 a0_0) := (blk_cell BK273.out 0).trans rfl; have hcz9_1 : w8.cell? ⟨gb273, 1, none⟩ = some (.int .i64 a0_1) := (blk_cell BK273.out 1).trans rfl; have hfz9_0 := blk_frozen BK273.out 0; have hfz9_1 := blk_frozen BK273.out 1))
    go_ret
    exact ⟨by first | rfl | (simp [errW_none, errW_some] <;> rfl) | (simp [*, errW_none, errW_some] <;> rfl), by repeat (first | (with_reducible first | exact HB.out | apply below_alloc | apply pw_below_drewN | apply below_drew1 | refine below_set ?_ GE273.out) | exact HB.out)⟩

end Go.Proofs.Ytigpnafpdmdmhaa.P

namespace Go.Proofs.Ytigpnafpdmdmhaa.P
open Go.RowKit Go.Proofs.YtigpnafpdmdmhaaW.PrintWords Go.Proofs.YtigpnafpdmdmhaaW.PrintLast

attribute [local go_sem high] eqA34
/-! ### tensilelaw09_PlanMeans: function 4 -/
mutual
def tensilelaw09_PlanMeans.j0 : Nat → Int → Int → Int → Bool → Int → List (S57) → Int → Int → Option (Bool)
  | 0, _, _, _, _, _, _, _, _ => none
  | k + 1, x1, x6, x7, x30, x302000, x302001, x312000, x312001 => if x30 = true then (tensilelaw09_PlanMeans.j1 k x1 x6 2 x302000 x302001 x312000 x312001) else (tensilelaw09_PlanMeans.j1 k x1 x6 x7 x302000 x302001 x312000 x312001)
def tensilelaw09_PlanMeans.j1 : Nat → Int → Int → Int → Int → List (S57) → Int → Int → Option (Bool)
  | 0, _, _, _, _, _, _, _ => none
  | k + 1, x1, x6, x7, x302000, x302001, x312000, x312001 => if x7 = 0 then ((tensileref09_All.f k x302000 x302001 x1).bind fun bt314 => (if x6 = 0 then ((tensilelaw09_is.f k x312000 x312001 bt314.2.1 bt314.2.2).bind fun t318 => (if t318 = true then ((tensilelaw09_wakes.f).bind fun t319 => (some t319)) else (some false))) else (some false))) else (if x6 = x7 then (if (x312000 == 0 && (x312001 == 0)) = true then ((tensilelaw09_wakes.f).bind fun t320 => (some t320)) else (some false)) else (some false))
end
def tensilelaw09_PlanMeans.f (k : Nat) (a0_0 : Int) (l0_1 : List (S57)) (a1 : Int) : Option (Bool) := (tensilelaw09_Thin.f a0_0 l0_1).bind fun t302 => (if t302 = true then ((tensilelaw09_Plan.f k a0_0 l0_1).bind fun bt304 => ((plan_Mean.f bt304.1 bt304.2 a1).bind fun bt308 => ((tensilelaw09_fault.f k a0_0 l0_1).bind fun t312 => (if t312 = 0 then ((tensileref09_In.f a1 0 a0_0).bind fun t313 => (tensilelaw09_PlanMeans.j0 k a1 bt308.2.2 t312 (!t313) a0_0 l0_1 bt308.1 bt308.2.1)) else (tensilelaw09_PlanMeans.j0 k a1 bt308.2.2 t312 false a0_0 l0_1 bt308.1 bt308.2.1))))) else ((tensilelaw09_wakes.f).bind fun t303 => (some t303)))
theorem tensilelaw09_PlanMeans.mono_l : ∀ k, (∀ y0 y1 y2 y3 y4 y5 y6 y7, LeO (tensilelaw09_PlanMeans.j0 k y0 y1 y2 y3 y4 y5 y6 y7) (tensilelaw09_PlanMeans.j0 (k + 1) y0 y1 y2 y3 y4 y5 y6 y7)) ∧ (∀ y0 y1 y2 y3 y4 y5 y6, LeO (tensilelaw09_PlanMeans.j1 k y0 y1 y2 y3 y4 y5 y6) (tensilelaw09_PlanMeans.j1 (k + 1) y0 y1 y2 y3 y4 y5 y6))
  | 0 => ⟨fun _ _ _ _ _ _ _ _ r h => by simp [tensilelaw09_PlanMeans.j0] at h, fun _ _ _ _ _ _ _ r h => by simp [tensilelaw09_PlanMeans.j1] at h⟩
  | k + 1 => by
    obtain ⟨ih0, ih1⟩ := tensilelaw09_PlanMeans.mono_l k
    refine ⟨?_, ?_⟩
    · intro y0 y1 y2 y3 y4 y5 y6 y7
      unfold tensilelaw09_PlanMeans.j0
      repeat' first
      | (with_reducible exact ih0 _ _ _ _ _ _ _ _)
      | (with_reducible exact ih1 _ _ _ _ _ _ _)
      | (with_reducible exact tensilelaw09_Plan.mono _ _ _)
      | (with_reducible exact tensilelaw09_fault.mono _ _ _)
      | (with_reducible exact tensilelaw09_is.mono _ _ _ _ _)
      | (with_reducible exact tensileref09_All.mono _ _ _ _)
      | (with_reducible exact LeO.refl _)
      | (with_reducible exact LeO.none _)
      | (with_reducible refine LeO.ite ?_ ?_)
      | (with_reducible refine LeO.bind ?_ (fun _ => ?_))
      | exact ih0 _ _ _ _ _ _ _ _
      | exact ih1 _ _ _ _ _ _ _
      | exact tensilelaw09_Plan.mono _ _ _
      | exact tensilelaw09_fault.mono _ _ _
      | exact tensilelaw09_is.mono _ _ _ _ _
      | exact tensileref09_All.mono _ _ _ _
      | exact LeO.none _
      | refine LeO.ite ?_ ?_
      | refine LeO.bind ?_ (fun _ => ?_)
    · intro y0 y1 y2 y3 y4 y5 y6
      unfold tensilelaw09_PlanMeans.j1
      repeat' first
      | (with_reducible exact ih0 _ _ _ _ _ _ _ _)
      | (with_reducible exact ih1 _ _ _ _ _ _ _)
      | (with_reducible exact tensilelaw09_Plan.mono _ _ _)
      | (with_reducible exact tensilelaw09_fault.mono _ _ _)
      | (with_reducible exact tensilelaw09_is.mono _ _ _ _ _)
      | (with_reducible exact tensileref09_All.mono _ _ _ _)
      | (with_reducible exact LeO.refl _)
      | (with_reducible exact LeO.none _)
      | (with_reducible refine LeO.ite ?_ ?_)
      | (with_reducible refine LeO.bind ?_ (fun _ => ?_))
      | exact ih0 _ _ _ _ _ _ _ _
      | exact ih1 _ _ _ _ _ _ _
      | exact tensilelaw09_Plan.mono _ _ _
      | exact tensilelaw09_fault.mono _ _ _
      | exact tensilelaw09_is.mono _ _ _ _ _
      | exact tensileref09_All.mono _ _ _ _
      | exact LeO.none _
      | refine LeO.ite ?_ ?_
      | refine LeO.bind ?_ (fun _ => ?_)
theorem tensilelaw09_PlanMeans.mono : ∀ a0 a1 a2 k, LeO (tensilelaw09_PlanMeans.f k a0 a1 a2) (tensilelaw09_PlanMeans.f (k + 1) a0 a1 a2) := by
  intro a0 a1 a2 k
  obtain ⟨ih0, ih1⟩ := tensilelaw09_PlanMeans.mono_l k
  unfold tensilelaw09_PlanMeans.f
  repeat' first
      | (with_reducible exact ih0 _ _ _ _ _ _ _ _)
      | (with_reducible exact ih1 _ _ _ _ _ _ _)
      | (with_reducible exact tensilelaw09_Plan.mono _ _ _)
      | (with_reducible exact tensilelaw09_fault.mono _ _ _)
      | (with_reducible exact tensilelaw09_is.mono _ _ _ _ _)
      | (with_reducible exact tensileref09_All.mono _ _ _ _)
      | (with_reducible exact LeO.refl _)
      | (with_reducible exact LeO.none _)
      | (with_reducible refine LeO.ite ?_ ?_)
      | (with_reducible refine LeO.bind ?_ (fun _ => ?_))
      | exact ih0 _ _ _ _ _ _ _ _
      | exact ih1 _ _ _ _ _ _ _
      | exact tensilelaw09_Plan.mono _ _ _
      | exact tensilelaw09_fault.mono _ _ _
      | exact tensilelaw09_is.mono _ _ _ _ _
      | exact tensileref09_All.mono _ _ _ _
      | exact LeO.none _
      | refine LeO.ite ?_ ?_
      | refine LeO.bind ?_ (fun _ => ?_)
set_option maxHeartbeats 8000000 in
set_option maxRecDepth 100000 in
theorem tensilelaw09_PlanMeans.calls (k : Nat) (a0_0 : Int) (A0_1 : Option Addr) (c0_1 : Nat) (l0_1 : List (S57)) (a1 : Int) (r : Bool) (w : World) (hr0_1 : Kd.C k57 w A0_1 l0_1.length l0_1) (hc0_1 : l0_1.length ≤ c0_1) (h : tensilelaw09_PlanMeans.f k a0_0 l0_1 a1 = some r) :
    Calls Try.prog 4 #[.agg #[.int .i64 a0_0, .slice A0_1 l0_1.length c0_1], .int .i64 a1] w fun e w' => e = .returned (.bool r) ∧ Below w.heap.size w w' := by
  have hu24 := Try.underlying24
  have hu34 := Try.underlying34
  have hu40 := Try.underlying40
  have HR0_1 := Aside0.mk hr0_1
  have HC0_1 := Aside0.mk hc0_1
  clear hr0_1 hc0_1
  have HB := Aside0.mk (Below.refl w.heap.size w)
  have H : ((tensilelaw09_Thin.f a0_0 l0_1).bind fun t302 => (if t302 = true then ((tensilelaw09_Plan.f k a0_0 l0_1).bind fun bt304 => ((plan_Mean.f bt304.1 bt304.2 a1).bind fun bt308 => ((tensilelaw09_fault.f k a0_0 l0_1).bind fun t312 => (if t312 = 0 then ((tensileref09_In.f a1 0 a0_0).bind fun t313 => (tensilelaw09_PlanMeans.j0 k a1 bt308.2.2 t312 (!t313) a0_0 l0_1 bt308.1 bt308.2.1)) else (tensilelaw09_PlanMeans.j0 k a1 bt308.2.2 t312 false a0_0 l0_1 bt308.1 bt308.2.1))))) else ((tensilelaw09_wakes.f).bind fun t303 => (some t303)))) = some r := h
  clear h
  replace H := Option.bind_eq_some_iff.mp H
  obtain ⟨t302, A30, H⟩ := H
  replace H : (if t302 = true then ((tensilelaw09_Plan.f k a0_0 l0_1).bind fun bt304 => ((plan_Mean.f bt304.1 bt304.2 a1).bind fun bt308 => ((tensilelaw09_fault.f k a0_0 l0_1).bind fun t312 => (if t312 = 0 then ((tensileref09_In.f a1 0 a0_0).bind fun t313 => (tensilelaw09_PlanMeans.j0 k a1 bt308.2.2 t312 (!t313) a0_0 l0_1 bt308.1 bt308.2.1)) else (tensilelaw09_PlanMeans.j0 k a1 bt308.2.2 t312 false a0_0 l0_1 bt308.1 bt308.2.1))))) else ((tensilelaw09_wakes.f).bind fun t303 => (some t303))) = some r := H
  have A3 := Aside0.mk A30
  clear A30
  by_cases c4 : t302 = true
  · subst c4
    have H1 : ((tensilelaw09_Plan.f k a0_0 l0_1).bind fun bt304 => ((plan_Mean.f bt304.1 bt304.2 a1).bind fun bt308 => ((tensilelaw09_fault.f k a0_0 l0_1).bind fun t312 => (if t312 = 0 then ((tensileref09_In.f a1 0 a0_0).bind fun t313 => (tensilelaw09_PlanMeans.j0 k a1 bt308.2.2 t312 (!t313) a0_0 l0_1 bt308.1 bt308.2.1)) else (tensilelaw09_PlanMeans.j0 k a1 bt308.2.2 t312 false a0_0 l0_1 bt308.1 bt308.2.1))))) = some r := by rw [if_pos rfl] at H; exact H
    clear H
    have H := H1
    clear H1
    replace H := Option.bind_eq_some_iff.mp H
    obtain ⟨⟨t304, t305⟩, A50, H⟩ := H
    replace H : ((plan_Mean.f t304 t305 a1).bind fun bt308 => ((tensilelaw09_fault.f k a0_0 l0_1).bind fun t312 => (if t312 = 0 then ((tensileref09_In.f a1 0 a0_0).bind fun t313 => (tensilelaw09_PlanMeans.j0 k a1 bt308.2.2 t312 (!t313) a0_0 l0_1 bt308.1 bt308.2.1)) else (tensilelaw09_PlanMeans.j0 k a1 bt308.2.2 t312 false a0_0 l0_1 bt308.1 bt308.2.1)))) = some r := H
    have A5 := Aside0.mk A50
    clear A50
    replace H := Option.bind_eq_some_iff.mp H
    obtain ⟨⟨t308, t309, t310⟩, A60, H⟩ := H
    replace H : ((tensilelaw09_fault.f k a0_0 l0_1).bind fun t312 => (if t312 = 0 then ((tensileref09_In.f a1 0 a0_0).bind fun t313 => (tensilelaw09_PlanMeans.j0 k a1 t310 t312 (!t313) a0_0 l0_1 t308 t309)) else (tensilelaw09_PlanMeans.j0 k a1 t310 t312 false a0_0 l0_1 t308 t309))) = some r := H
    have A6 := Aside0.mk A60
    clear A60
    replace H := Option.bind_eq_some_iff.mp H
    obtain ⟨t312, A70, H⟩ := H
    replace H : (if t312 = 0 then ((tensileref09_In.f a1 0 a0_0).bind fun t313 => (tensilelaw09_PlanMeans.j0 k a1 t310 t312 (!t313) a0_0 l0_1 t308 t309)) else (tensilelaw09_PlanMeans.j0 k a1 t310 t312 false a0_0 l0_1 t308 t309)) = some r := H
    have A7 := Aside0.mk A70
    clear A70
    have HC8 := Aside0.mk H
    clear H
    go_enter Try.func4, Try.ntmps4
    go_upto_region 5 with (first | ((with_reducible refine gate_dst (N := 2) rfl ?_); refine box_event ?hg (N := 2) ?hd (cs := #[.int .i64 a0_0, .slice A0_1 l0_1.length c0_1]) (t := 24) ?hr ?_; (case hd => rfl); (case hg => rfl); (case hr => first | (go_simp; done) | (go_simp; rfl)); intro gb301 hg w9 hbox hb; have n0_ := Aside0.mk (below_step (by repeat (first | (with_reducible first | exact HB.out | apply below_alloc | apply pw_below_drewN | apply below_drew1) | exact HB.out)) hb); have n1_ := Aside0.mk (hbox); have n2_ := Aside0.mk ((by rw [hg]; exact (below_size (by repeat (first | (with_reducible first | exact HB.out | apply below_alloc | apply pw_below_drewN | apply below_drew1) | exact HB.out))) : w.heap.size ≤ gb301)); have n3_ := Aside0.mk ((by rw [hg]; exact (below_size (by repeat (first | (with_reducible first | exact HB.out | apply below_alloc | apply pw_below_drewN | apply below_drew1) | exact HB.out))) : w.heap.size ≤ gb301)); clear HB; have HB := n0_; have BK301 := n1_; have GW301 := n2_; have GE301 := n3_; clear n0_ n1_ n2_ n3_; clear hb hbox hg; have hcz10_0 : w9.cell? ⟨gb301, 0, none⟩ = some (.int .i64 a0_0) := (blk_cell BK301.out 0).trans rfl; have hcz10_1 : w9.cell? ⟨gb301, 1, none⟩ = some (.slice A0_1 l0_1.length c0_1) := (blk_cell BK301.out 1).trans rfl; have hfz10_0 := blk_frozen BK301.out 0; have hfz10_1 := blk_frozen BK301.out 1) | ((with_reducible refine gate_callee (f := 14) rfl ?_); refine goesL_ (some 10) rfl rfl Try.func14 (by kernel_rfl) rfl #[.agg #[.int .i64 a0_0, .slice A0_1 l0_1.length c0_1]] rfl (by (try simp only [List.map_toArray, List.map_cons, List.map_nil]); first | done | rfl | (simp only [List.length_drop, List.length_take]; rfl)) ?_; (with_reducible refine (tensilelaw09_Thin.calls a0_0 _ _ l0_1 true _ ?side1 ?side2 A3.out).mono ?_); (case side1 => repeat (first | exact (Kd.C_below HR0_1.out HB.out) | (with_reducible refine Kd.C_alloc ?_ _) | (with_reducible refine Kd.C_drewN ?_ _) | (with_reducible refine Kd.C_drew ?_))); (case side2 => exact HC0_1.out); rintro e w11 ⟨rfl, hb⟩; refine ⟨_, rfl, ?_⟩; have n0_ := Aside0.mk (blk_below (g := gb301) (o := .cells #[.int .i64 a0_0, .slice A0_1 l0_1.length c0_1] 24 (0, 0)) (by (with_reducible repeat (first | refine blk_drewN ?_ _ | refine blk_drew ?_ | refine blk_alloc ?_ _)); exact BK301.out) hb); have n1_ := Aside0.mk (below_step (by repeat (first | (with_reducible first | exact HB.out | apply below_alloc | apply pw_below_drewN | apply below_drew1 | refine below_set ?_ GE301.out) | exact HB.out)) hb); clear BK301; clear HB; have BK301 := n0_; have HB := n1_; clear n0_ n1_; (try clear hb); (try clear hb2); (try clear hk); (try clear hi); have hcz12_0 : w11.cell? ⟨gb301, 0, none⟩ = some (.int .i64 a0_0) := (blk_cell BK301.out 0).trans rfl; have hcz12_1 : w11.cell? ⟨gb301, 1, none⟩ = some (.slice A0_1 l0_1.length c0_1) := (blk_cell BK301.out 1).trans rfl; have hfz12_0 := blk_frozen BK301.out 0; have hfz12_1 := blk_frozen BK301.out 1) | ((with_reducible refine gate_callee (f := 17) rfl ?_); refine goesL_ (some 15) rfl rfl Try.func17 (by kernel_rfl) rfl #[.agg #[.int .i64 a0_0, .slice A0_1 l0_1.length c0_1]] rfl (by (try simp only [List.map_toArray, List.map_cons, List.map_nil]); first | done | rfl | (simp only [List.length_drop, List.length_take]; rfl)) ?_; (with_reducible refine (tensilelaw09_Plan.calls k a0_0 _ _ l0_1 t304 t305 _ ?side1 ?side2 A5.out).mono ?_); (case side1 => repeat (first | exact (Kd.C_below HR0_1.out HB.out) | (with_reducible refine Kd.C_alloc ?_ _) | (with_reducible refine Kd.C_drewN ?_ _) | (with_reducible refine Kd.C_drew ?_))); (case side2 => exact HC0_1.out); rintro e w13 ⟨v306, rfl, ho0, hb⟩; refine ⟨_, rfl, ?_⟩; have n0_ := Aside0.mk (Kd.R_lower ho0 (below_size (by repeat (first | (with_reducible first | exact HB.out | apply below_alloc | apply pw_below_drewN | apply below_drew1 | refine below_set ?_ GE301.out) | exact HB.out)))); have n1_ := Aside0.mk (blk_below (g := gb301) (o := .cells #[.int .i64 a0_0, .slice A0_1 l0_1.length c0_1] 24 (0, 0)) (by (with_reducible repeat (first | refine blk_drewN ?_ _ | refine blk_drew ?_ | refine blk_alloc ?_ _)); exact BK301.out) hb); have n2_ := Aside0.mk (below_step (by repeat (first | (with_reducible first | exact HB.out | apply below_alloc | apply pw_below_drewN | apply below_drew1 | refine below_set ?_ GE301.out) | exact HB.out)) hb); clear BK301; clear HB; have HO307 := n0_; have BK301 := n1_; have HB := n2_; clear n0_ n1_ n2_; (try clear hb); (try clear hb2); (try clear hk); (try clear hi); (try clear ho0); obtain ⟨Ao14, co14, eo14⟩ := Kd.R_slice HO307.out; subst eo14) | ((with_reducible refine gate_callee (f := 23) rfl ?_); refine goesL_ (some 17) rfl rfl Try.func23 (by kernel_rfl) rfl #[.agg #[.int .i64 t304, .slice Ao14 t305.length co14], .int .i64 a1] rfl (by (try simp only [List.map_toArray, List.map_cons, List.map_nil]); first | done | rfl | (simp only [List.length_drop, List.length_take]; rfl)) ?_; (with_reducible refine (plan_Mean.calls t304 _ _ t305 a1 t308 t309 t310 _ ?side1 ?side2 A6.out).mono ?_); (case side1 => repeat (first | exact (Kd.R_reads' HO307.out).2.2 | (with_reducible refine Kd.C_alloc ?_ _) | (with_reducible refine Kd.C_drewN ?_ _) | (with_reducible refine Kd.C_drew ?_))); (case side2 => exact (Kd.R_reads' HO307.out).2.1); rintro e w15 ⟨rfl, hb⟩; refine ⟨_, rfl, ?_⟩; have n0_ := Aside0.mk (Kd.R_below (by (with_reducible repeat (first | apply Kd.R_alloc | apply Kd.R_drewN | apply Kd.R_drew)); exact HO307.out) hb); have n1_ := Aside0.mk (blk_below (g := gb301) (o := .cells #[.int .i64 a0_0, .slice A0_1 l0_1.length c0_1] 24 (0, 0)) (by (with_reducible repeat (first | refine blk_drewN ?_ _ | refine blk_drew ?_ | refine blk_alloc ?_ _)); exact BK301.out) hb); have n2_ := Aside0.mk (below_step (by repeat (first | (with_reducible first | exact HB.out | apply below_alloc | apply pw_below_drewN | apply below_drew1 | refine below_set ?_ GE301.out) | exact HB.out)) hb); clear HO307; clear BK301; clear HB; have HO307 := n0_; have BK301 := n1_; have HB := n2_; clear n0_ n1_ n2_; (try clear hb); (try clear hb2); (try clear hk); (try clear hi)) | ((with_reducible refine gate_dst (N := 5) rfl ?_); refine box_event ?hg (N := 5) ?hd (cs := #[.int .i64 0, .int .i64 0]) (t := 34) ?hr ?_; (case hd => rfl); (case hg => rfl); (case hr => first | (go_simp; done) | (go_simp; rfl)); intro gb311 hg w16 hbox hb; have n0_ := Aside0.mk (Kd.R_below (by (with_reducible repeat (first | apply Kd.R_alloc | apply Kd.R_drewN | apply Kd.R_drew)); exact HO307.out) hb); have n1_ := Aside0.mk (blk_below (g := gb301) (o := .cells #[.int .i64 a0_0, .slice A0_1 l0_1.length c0_1] 24 (0, 0)) (by (with_reducible repeat (first | refine blk_drewN ?_ _ | refine blk_drew ?_ | refine blk_alloc ?_ _)); exact BK301.out) hb); have n2_ := Aside0.mk (below_step (by repeat (first | (with_reducible first | exact HB.out | apply below_alloc | apply pw_below_drewN | apply below_drew1 | refine below_set ?_ GE301.out) | exact HB.out)) hb); have n3_ := Aside0.mk (hbox); have n4_ := Aside0.mk ((by rw [hg]; exact (below_size (by repeat (first | (with_reducible first | exact HB.out | apply below_alloc | apply pw_below_drewN | apply below_drew1 | refine below_set ?_ GE301.out) | exact HB.out))) : w.heap.size ≤ gb311)); have n5_ := Aside0.mk ((by rw [hg]; exact (below_size (by repeat (first | (with_reducible first | exact HB.out | apply below_alloc | apply pw_below_drewN | apply below_drew1 | refine below_set ?_ GE301.out) | exact HB.out))) : w.heap.size ≤ gb311)); have n6_ := Aside0.mk ((by rw [hg]; exact Nat.ne_of_lt (blk_lt (g := gb301) (o := .cells #[.int .i64 a0_0, .slice A0_1 l0_1.length c0_1] 24 (0, 0)) (by (with_reducible repeat (first | refine blk_drewN ?_ _ | refine blk_drew ?_ | refine blk_alloc ?_ _)); exact BK301.out)) : gb301 ≠ gb311)); have n7_ := Aside0.mk ((by rw [hg]; exact Nat.ne_of_gt (blk_lt (g := gb301) (o := .cells #[.int .i64 a0_0, .slice A0_1 l0_1.length c0_1] 24 (0, 0)) (by (with_reducible repeat (first | refine blk_drewN ?_ _ | refine blk_drew ?_ | refine blk_alloc ?_ _)); exact BK301.out)) : gb311 ≠ gb301)); clear HO307; clear BK301; clear HB; have HO307 := n0_; have BK301 := n1_; have HB := n2_; have BK311 := n3_; have GW311 := n4_; have GE311 := n5_; have NB301_311 := n6_; have NB311_301 := n7_; clear n0_ n1_ n2_ n3_ n4_ n5_ n6_ n7_; clear hb hbox hg; have hnb17 := NB311_301.out; have hnc17 := NB301_311.out; have hcz18_0 : w16.cell? ⟨gb311, 0, none⟩ = some (.int .i64 0) := (blk_cell BK311.out 0).trans rfl; have hcz18_1 : w16.cell? ⟨gb311, 1, none⟩ = some (.int .i64 0) := (blk_cell BK311.out 1).trans rfl; have hfz18_0 := blk_frozen BK311.out 0; have hfz18_1 := blk_frozen BK311.out 1; have hcz19_0 : w16.cell? ⟨gb301, 0, none⟩ = some (.int .i64 a0_0) := (blk_cell BK301.out 0).trans rfl; have hcz19_1 : w16.cell? ⟨gb301, 1, none⟩ = some (.slice A0_1 l0_1.length c0_1) := (blk_cell BK301.out 1).trans rfl; have hfz19_0 := blk_frozen BK301.out 0; have hfz19_1 := blk_frozen BK301.out 1) | ((with_reducible refine gate_callee (f := 19) rfl ?_); refine goesL_ (some 21) rfl rfl Try.func19 (by kernel_rfl) rfl #[.agg #[.int .i64 a0_0, .slice A0_1 l0_1.length c0_1]] rfl (by (try simp only [List.map_toArray, List.map_cons, List.map_nil]); first | done | rfl | (simp only [List.length_drop, List.length_take]; rfl)) ?_; (with_reducible refine (tensilelaw09_fault.calls k a0_0 _ _ l0_1 t312 _ ?side1 ?side2 A7.out).mono ?_); (case side1 => exact Kd.C_below HR0_1.out (by repeat (first | (with_reducible first | exact HB.out | apply below_alloc | apply pw_below_drewN | apply below_drew1 | refine below_set ?_ GE301.out | refine below_set ?_ GE311.out) | exact HB.out))); (case side2 => exact HC0_1.out); rintro e w20 ⟨rfl, hb⟩; refine ⟨_, rfl, ?_⟩; have n0_ := Aside0.mk (Kd.R_below (by (with_reducible repeat (first | apply Kd.R_alloc | apply Kd.R_drewN | apply Kd.R_drew)); exact (Kd.R_mono (Kd.R_far (p := ⟨gb311, 1, none⟩) (Kd.R_far (p := ⟨gb311, 0, none⟩) (Kd.R_types HO307.out BK311.out (by decide)) (fun _ hk => hk.2) (.int .i64 t308)) (fun _ hk => hk.2) (.int .i64 t309)) (fun _ h_ => h_.1))) hb); have n1_ := Aside0.mk (blk_below (g := gb301) (o := .cells #[.int .i64 a0_0, .slice A0_1 l0_1.length c0_1] 24 (0, 0)) (by (with_reducible repeat (first | refine blk_drewN ?_ _ | refine blk_drew ?_ | refine blk_alloc ?_ _)); refine blk_far ?_ NB301_311.out _; (with_reducible repeat (first | refine blk_drewN ?_ _ | refine blk_drew ?_ | refine blk_alloc ?_ _)); refine blk_far ?_ NB301_311.out _; (with_reducible repeat (first | refine blk_drewN ?_ _ | refine blk_drew ?_ | refine blk_alloc ?_ _)); exact BK301.out) hb); have n2_ := Aside0.mk (blk_below (g := gb311) (o := .cells #[.int .i64 t308, .int .i64 t309] 34 (0, 0)) (by (with_reducible repeat (first | refine blk_drewN ?_ _ | refine blk_drew ?_ | refine blk_alloc ?_ _)); refine blk_put (cs := #[.int .i64 t308, .int .i64 0]) ?_ 1 _ rfl; (with_reducible repeat (first | refine blk_drewN ?_ _ | refine blk_drew ?_ | refine blk_alloc ?_ _)); refine blk_put (cs := #[.int .i64 0, .int .i64 0]) ?_ 0 _ rfl; (with_reducible repeat (first | refine blk_drewN ?_ _ | refine blk_drew ?_ | refine blk_alloc ?_ _)); exact BK311.out) hb); have n3_ := Aside0.mk (below_step (by repeat (first | (with_reducible first | exact HB.out | apply below_alloc | apply pw_below_drewN | apply below_drew1 | refine below_set ?_ GE301.out | refine below_set ?_ GE311.out) | exact HB.out)) hb); clear HO307; clear BK301; clear BK311; clear HB; have HO307 := n0_; have BK301 := n1_; have BK311 := n2_; have HB := n3_; clear n0_ n1_ n2_ n3_; (try clear hb); (try clear hb2); (try clear hk); (try clear hi)))
    (try simp only [Act.put, List.setIfInBounds_toArray, List.set_cons_zero, List.set_cons_succ])
    go_cut [30] (fun v30 wc => ∃ (kq : Nat) (x30_7 : Bool), v30 = .bool x30_7 ∧ Aside0 (tensilelaw09_PlanMeans.j0 kq a1 t310 t312 x30_7 a0_0 l0_1 t308 t309 = some r) ∧ Aside0 (kq ≤ k) ∧ Aside0 (wc.heap[gb301]? = some (.cells #[.int .i64 a0_0, (.slice A0_1 l0_1.length c0_1)] 24 (0, 0))) ∧ Aside0 (wc.heap[gb311]? = some (.cells #[.int .i64 t308, .int .i64 t309] 34 (0, 0))) ∧ Aside0 (Below w.heap.size w wc))
    case first =>
      have H := HC8.out
      clear HC8
      by_cases c21 : t312 = 0
      · rw [if_pos c21] at H
        have c21b0 : (t312 == 0) = true := beq_iff_eq.mpr c21
        have c21b1 : (t312 != 0) = false := bne_eq_false_iff_eq.mpr c21
        clear c21
        (first | rw [c21b0] | (simp only [i64_w, i32_w]; rw [c21b0]) | skip)
        replace H := Option.bind_eq_some_iff.mp H
        obtain ⟨t313, A220, H⟩ := H
        replace H : (tensilelaw09_PlanMeans.j0 k a1 t310 t312 (!t313) a0_0 l0_1 t308 t309) = some r := H
        have A22 := Aside0.mk A220
        clear A220
        have H' := Aside0.mk H
        clear H
        have hnb23 := NB301_311.out
        have hnc23 := NB311_301.out
        have hcz24_0 : w20.cell? ⟨gb301, 0, none⟩ = some (.int .i64 a0_0) := (blk_cell BK301.out 0).trans rfl
        have hcz24_1 : w20.cell? ⟨gb301, 1, none⟩ = some (.slice A0_1 l0_1.length c0_1) := (blk_cell BK301.out 1).trans rfl
        have hfz24_0 := blk_frozen BK301.out 0
        have hfz24_1 := blk_frozen BK301.out 1
        go_wp2_with (first | (go_at_call 20; (with_reducible refine (tensileref09_In.calls a1 0 a0_0 t313 _ A22.out).mono ?_); rintro e w' ⟨rfl, ⟨nd, rfl⟩⟩))
        go_meet
        case rel => exact ⟨_, (!t313), (by first | rfl | (simp; done) | (simp [*]; done)), H', ⟨by first | omega | exact Nat.le_refl _⟩, ⟨by (with_reducible repeat (first | refine blk_drewN ?_ _ | refine blk_drew ?_ | refine blk_alloc ?_ _)); exact BK301.out⟩, ⟨by (with_reducible repeat (first | refine blk_drewN ?_ _ | refine blk_drew ?_ | refine blk_alloc ?_ _)); exact BK311.out⟩, ⟨by repeat (first | (with_reducible first | exact HB.out | apply below_alloc | apply pw_below_drewN | apply below_drew1 | refine below_set ?_ GE301.out | refine below_set ?_ GE311.out) | exact HB.out)⟩⟩
      · rw [if_neg c21] at H
        have c21b0 : (t312 == 0) = false := beq_eq_false_iff_ne.mpr c21
        have c21b1 : (t312 != 0) = true := bne_iff_ne.mpr c21
        (first | rw [c21b0] | (simp only [i64_w, i32_w]; rw [c21b0]) | skip)
        have H' := Aside0.mk H
        clear H
        go_wp2
        go_meet
        case rel => exact ⟨_, (false), (by first | rfl | (simp; done) | (simp [*]; done)), H', ⟨by first | omega | exact Nat.le_refl _⟩, ⟨by (with_reducible repeat (first | refine blk_drewN ?_ _ | refine blk_drew ?_ | refine blk_alloc ?_ _)); exact BK301.out⟩, ⟨by (with_reducible repeat (first | refine blk_drewN ?_ _ | refine blk_drew ?_ | refine blk_alloc ?_ _)); exact BK311.out⟩, ⟨by repeat (first | (with_reducible first | exact HB.out | apply below_alloc | apply pw_below_drewN | apply below_drew1 | refine below_set ?_ GE301.out | refine below_set ?_ GE311.out) | exact HB.out)⟩⟩
    case rest =>
      clear HC8
      try clear c1
      try clear c2
      try clear p2
      try clear c4
      try clear c14
      try clear c17
      try clear c19
      try clear c21
      try clear c21b0
      try clear c21b1
      try clear c23
      try clear hcz10_0
      try clear hcz10_1
      try clear hcz12_0
      try clear hcz12_1
      try clear hcz18_0
      try clear hcz18_1
      try clear hcz19_0
      try clear hcz19_1
      try clear hcz24_0
      try clear hcz24_1
      try clear hfz10_0
      try clear hfz10_1
      try clear hfz12_0
      try clear hfz12_1
      try clear hfz18_0
      try clear hfz18_1
      try clear hfz19_0
      try clear hfz19_1
      try clear hfz24_0
      try clear hfz24_1
      obtain ⟨kq, x30_7, rfl, HA, HJ7, BK301, BK311, HB⟩ := hcut
      cases kq with
      | zero => exact absurd HA.out (by simp [tensilelaw09_PlanMeans.j0])
      | succ kj7 =>
        have H := HA.out
        clear HA
        simp only [tensilelaw09_PlanMeans.j0] at H
        have HC25 := Aside0.mk H
        clear H
        go_upto_if 30 with (fail)
        go_cut [7] (fun v7 wc => ∃ (kq : Nat) (x7_24 : Int), v7 = .int .i64 x7_24 ∧ Aside0 (tensilelaw09_PlanMeans.j1 kq a1 t310 x7_24 a0_0 l0_1 t308 t309 = some r) ∧ Aside0 (kq ≤ kj7) ∧ Aside0 (wc.heap[gb301]? = some (.cells #[.int .i64 a0_0, (.slice A0_1 l0_1.length c0_1)] 24 (0, 0))) ∧ Aside0 (wc.heap[gb311]? = some (.cells #[.int .i64 t308, .int .i64 t309] 34 (0, 0))) ∧ Aside0 (Below w.heap.size w wc))
        case first =>
          have H := HC25.out
          clear HC25
          by_cases c26 : x30_7 = true
          · subst c26
            have H1 : (tensilelaw09_PlanMeans.j1 kj7 a1 t310 2 a0_0 l0_1 t308 t309) = some r := by rw [if_pos rfl] at H; exact H
            clear H
            have H := H1
            clear H1
            have H' := Aside0.mk H
            clear H
            go_wp2
            go_meet
            case rel => exact ⟨_, (2), (by first | rfl | (simp; done) | (simp [*]; done)), H', ⟨by have := HJ7.out; first | omega | exact Nat.le_refl _⟩, ⟨by (with_reducible repeat (first | refine blk_drewN ?_ _ | refine blk_drew ?_ | refine blk_alloc ?_ _)); exact BK301.out⟩, ⟨by (with_reducible repeat (first | refine blk_drewN ?_ _ | refine blk_drew ?_ | refine blk_alloc ?_ _)); exact BK311.out⟩, ⟨by repeat (first | (with_reducible first | exact HB.out | apply below_alloc | apply pw_below_drewN | apply below_drew1 | refine below_set ?_ GE301.out | refine below_set ?_ GE311.out) | exact HB.out)⟩⟩
          · replace c26 := Bool.eq_false_iff.mpr c26
            subst c26
            have H1 : (tensilelaw09_PlanMeans.j1 kj7 a1 t310 t312 a0_0 l0_1 t308 t309) = some r := by rw [if_neg (show ¬ (false = true) by decide)] at H; exact H
            clear H
            have H := H1
            clear H1
            have H' := Aside0.mk H
            clear H
            go_wp2
            go_meet
            case rel => exact ⟨_, (t312), (by first | rfl | (simp; done) | (simp [*]; done)), H', ⟨by have := HJ7.out; first | omega | exact Nat.le_refl _⟩, ⟨by (with_reducible repeat (first | refine blk_drewN ?_ _ | refine blk_drew ?_ | refine blk_alloc ?_ _)); exact BK301.out⟩, ⟨by (with_reducible repeat (first | refine blk_drewN ?_ _ | refine blk_drew ?_ | refine blk_alloc ?_ _)); exact BK311.out⟩, ⟨by repeat (first | (with_reducible first | exact HB.out | apply below_alloc | apply pw_below_drewN | apply below_drew1 | refine below_set ?_ GE301.out | refine below_set ?_ GE311.out) | exact HB.out)⟩⟩
        case rest =>
          clear HC25
          try clear c1
          try clear c2
          try clear p2
          try clear c4
          try clear c14
          try clear c17
          try clear c19
          try clear c21
          try clear c21b0
          try clear c21b1
          try clear c23
          try clear c26
          try clear hcz10_0
          try clear hcz10_1
          try clear hcz12_0
          try clear hcz12_1
          try clear hcz18_0
          try clear hcz18_1
          try clear hcz19_0
          try clear hcz19_1
          try clear hcz24_0
          try clear hcz24_1
          try clear hfz10_0
          try clear hfz10_1
          try clear hfz12_0
          try clear hfz12_1
          try clear hfz18_0
          try clear hfz18_1
          try clear hfz19_0
          try clear hfz19_1
          try clear hfz24_0
          try clear hfz24_1
          try clear p2
          obtain ⟨kq, x7_24, rfl, HA, HJ24, BK301, BK311, HB⟩ := hcut
          cases kq with
          | zero => exact absurd HA.out (by simp [tensilelaw09_PlanMeans.j1])
          | succ kj24 =>
            have H := HA.out
            clear HA
            simp only [tensilelaw09_PlanMeans.j1] at H
            by_cases c27 : x7_24 = 0
            · rw [if_pos c27] at H
              have c27b0 : (x7_24 == 0) = true := beq_iff_eq.mpr c27
              have c27b1 : (x7_24 != 0) = false := bne_eq_false_iff_eq.mpr c27
              clear c27
              replace H := Option.bind_eq_some_iff.mp H
              obtain ⟨⟨t314, t315, t316⟩, A280, H⟩ := H
              replace H : (if t310 = 0 then ((tensilelaw09_is.f kj24 t308 t309 t315 t316).bind fun t318 => (if t318 = true then ((tensilelaw09_wakes.f).bind fun t319 => (some t319)) else (some false))) else (some false)) = some r := H
              have A28 := Aside0.mk A280
              clear A280
              by_cases c29 : t310 = 0
              · rw [if_pos c29] at H
                have c29b0 : (t310 == 0) = true := beq_iff_eq.mpr c29
                have c29b1 : (t310 != 0) = false := bne_eq_false_iff_eq.mpr c29
                clear c29
                replace H := Option.bind_eq_some_iff.mp H
                obtain ⟨t318, A300, H⟩ := H
                replace H : (if t318 = true then ((tensilelaw09_wakes.f).bind fun t319 => (some t319)) else (some false)) = some r := H
                have A30 := Aside0.mk A300
                clear A300
                by_cases c31 : t318 = true
                · subst c31
                  have H1 : ((tensilelaw09_wakes.f).bind fun t319 => (some t319)) = some r := by rw [if_pos rfl] at H; exact H
                  clear H
                  have H := H1
                  clear H1
                  replace H := Option.bind_eq_some_iff.mp H
                  obtain ⟨t319, A320, H⟩ := H
                  replace H : (some t319) = some r := H
                  have A32 := Aside0.mk A320
                  clear A320
                  obtain rfl := Option.some.inj H
                  have hnb33 := NB301_311.out
                  have hnc33 := NB311_301.out
                  have hcz34_0 : wc.cell? ⟨gb301, 0, none⟩ = some (.int .i64 a0_0) := (blk_cell BK301.out 0).trans rfl
                  have hcz34_1 : wc.cell? ⟨gb301, 1, none⟩ = some (.slice A0_1 l0_1.length c0_1) := (blk_cell BK301.out 1).trans rfl
                  have hfz34_0 := blk_frozen BK301.out 0
                  have hfz34_1 := blk_frozen BK301.out 1
                  go_wp2_with (first | ((with_reducible refine gate_callee (f := 21) rfl ?_); refine goesL_ (some 46) rfl rfl Try.func21 (by kernel_rfl) rfl #[.agg #[.int .i64 a0_0, .slice A0_1 l0_1.length c0_1], .int .i64 a1] rfl (by (try simp only [List.map_toArray, List.map_cons, List.map_nil]); first | done | rfl | (simp only [List.length_drop, List.length_take]; rfl)) ?_; (with_reducible refine (tensileref09_All.calls kj24 a0_0 _ _ l0_1 a1 t314 t315 t316 _ ?side1 ?side2 A28.out).mono ?_); (case side1 => repeat (first | exact (Kd.C_below HR0_1.out HB.out) | (with_reducible refine Kd.C_alloc ?_ _) | (with_reducible refine Kd.C_drewN ?_ _) | (with_reducible refine Kd.C_drew ?_))); (case side2 => exact HC0_1.out); rintro e w35 ⟨rfl, hb⟩; refine ⟨_, rfl, ?_⟩; have n0_ := Aside0.mk (blk_below (g := gb301) (o := .cells #[.int .i64 a0_0, .slice A0_1 l0_1.length c0_1] 24 (0, 0)) (by (with_reducible repeat (first | refine blk_drewN ?_ _ | refine blk_drew ?_ | refine blk_alloc ?_ _)); exact BK301.out) hb); have n1_ := Aside0.mk (blk_below (g := gb311) (o := .cells #[.int .i64 t308, .int .i64 t309] 34 (0, 0)) (by (with_reducible repeat (first | refine blk_drewN ?_ _ | refine blk_drew ?_ | refine blk_alloc ?_ _)); exact BK311.out) hb); have n2_ := Aside0.mk (below_step (by repeat (first | (with_reducible first | exact HB.out | apply below_alloc | apply pw_below_drewN | apply below_drew1 | refine below_set ?_ GE301.out | refine below_set ?_ GE311.out) | exact HB.out)) hb); clear BK301; clear BK311; clear HB; have BK301 := n0_; have BK311 := n1_; have HB := n2_; clear n0_ n1_ n2_; (try clear hb); (try clear hb2); (try clear hk); (try clear hi)) | ((with_reducible refine gate_dst (N := 8) rfl ?_); refine box_event ?hg (N := 8) ?hd (cs := #[.int .i64 0, .int .i64 0, .int .i64 0]) (t := 40) ?hr ?_; (case hd => rfl); (case hg => rfl); (case hr => first | (go_simp; done) | (go_simp; rfl)); intro gb317 hg w36 hbox hb; have n0_ := Aside0.mk (blk_below (g := gb301) (o := .cells #[.int .i64 a0_0, .slice A0_1 l0_1.length c0_1] 24 (0, 0)) (by (with_reducible repeat (first | refine blk_drewN ?_ _ | refine blk_drew ?_ | refine blk_alloc ?_ _)); exact BK301.out) hb); have n1_ := Aside0.mk (blk_below (g := gb311) (o := .cells #[.int .i64 t308, .int .i64 t309] 34 (0, 0)) (by (with_reducible repeat (first | refine blk_drewN ?_ _ | refine blk_drew ?_ | refine blk_alloc ?_ _)); exact BK311.out) hb); have n2_ := Aside0.mk (below_step (by repeat (first | (with_reducible first | exact HB.out | apply below_alloc | apply pw_below_drewN | apply below_drew1 | refine below_set ?_ GE301.out | refine below_set ?_ GE311.out) | exact HB.out)) hb); have n3_ := Aside0.mk (hbox); have n4_ := Aside0.mk ((by rw [hg]; exact (below_size (by repeat (first | (with_reducible first | exact HB.out | apply below_alloc | apply pw_below_drewN | apply below_drew1 | refine below_set ?_ GE301.out | refine below_set ?_ GE311.out) | exact HB.out))) : w.heap.size ≤ gb317)); have n5_ := Aside0.mk ((by rw [hg]; exact (below_size (by repeat (first | (with_reducible first | exact HB.out | apply below_alloc | apply pw_below_drewN | apply below_drew1 | refine below_set ?_ GE301.out | refine below_set ?_ GE311.out) | exact HB.out))) : w.heap.size ≤ gb317)); have n6_ := Aside0.mk ((by rw [hg]; exact Nat.ne_of_lt (blk_lt (g := gb301) (o := .cells #[.int .i64 a0_0, .slice A0_1 l0_1.length c0_1] 24 (0, 0)) (by (with_reducible repeat (first | refine blk_drewN ?_ _ | refine blk_drew ?_ | refine blk_alloc ?_ _)); exact BK301.out)) : gb301 ≠ gb317)); have n7_ := Aside0.mk ((by rw [hg]; exact Nat.ne_of_gt (blk_lt (g := gb301) (o := .cells #[.int .i64 a0_0, .slice A0_1 l0_1.length c0_1] 24 (0, 0)) (by (with_reducible repeat (first | refine blk_drewN ?_ _ | refine blk_drew ?_ | refine blk_alloc ?_ _)); exact BK301.out)) : gb317 ≠ gb301)); have n8_ := Aside0.mk ((by rw [hg]; exact Nat.ne_of_lt (blk_lt (g := gb311) (o := .cells #[.int .i64 t308, .int .i64 t309] 34 (0, 0)) (by (with_reducible repeat (first | refine blk_drewN ?_ _ | refine blk_drew ?_ | refine blk_alloc ?_ _)); exact BK311.out)) : gb311 ≠ gb317)); have n9_ := Aside0.mk ((by rw [hg]; exact Nat.ne_of_gt (blk_lt (g := gb311) (o := .cells #[.int .i64 t308, .int .i64 t309] 34 (0, 0)) (by (with_reducible repeat (first | refine blk_drewN ?_ _ | refine blk_drew ?_ | refine blk_alloc ?_ _)); exact BK311.out)) : gb317 ≠ gb311)); clear BK301; clear BK311; clear HB; have BK301 := n0_; have BK311 := n1_; have HB := n2_; have BK317 := n3_; have GW317 := n4_; have GE317 := n5_; have NB301_317 := n6_; have NB317_301 := n7_; have NB311_317 := n8_; have NB317_311 := n9_; clear n0_ n1_ n2_ n3_ n4_ n5_ n6_ n7_ n8_ n9_; clear hb hbox hg; have hnb37 := NB317_301.out; have hnc37 := NB301_317.out; have hnb38 := NB317_311.out; have hnc38 := NB311_317.out; have hcz39_0 : w36.cell? ⟨gb317, 0, none⟩ = some (.int .i64 0) := (blk_cell BK317.out 0).trans rfl; have hcz39_1 : w36.cell? ⟨gb317, 1, none⟩ = some (.int .i64 0) := (blk_cell BK317.out 1).trans rfl; have hcz39_2 : w36.cell? ⟨gb317, 2, none⟩ = some (.int .i64 0) := (blk_cell BK317.out 2).trans rfl; have hfz39_0 := blk_frozen BK317.out 0; have hfz39_1 := blk_frozen BK317.out 1; have hfz39_2 := blk_frozen BK317.out 2; have hcz40_0 : w36.cell? ⟨gb311, 0, none⟩ = some (.int .i64 t308) := (blk_cell BK311.out 0).trans rfl; have hcz40_1 : w36.cell? ⟨gb311, 1, none⟩ = some (.int .i64 t309) := (blk_cell BK311.out 1).trans rfl; have hfz40_0 := blk_frozen BK311.out 0; have hfz40_1 := blk_frozen BK311.out 1) | (go_at_call 22; (with_reducible refine (tensilelaw09_is.calls kj24 t308 t309 t315 t316 true _ A30.out).mono ?_); rintro e w41 ⟨rfl, hb⟩; have n0_ := Aside0.mk (blk_below (g := gb301) (o := .cells #[.int .i64 a0_0, .slice A0_1 l0_1.length c0_1] 24 (0, 0)) (by (with_reducible repeat (first | refine blk_drewN ?_ _ | refine blk_drew ?_ | refine blk_alloc ?_ _)); refine blk_far ?_ NB301_317.out _; (with_reducible repeat (first | refine blk_drewN ?_ _ | refine blk_drew ?_ | refine blk_alloc ?_ _)); refine blk_far ?_ NB301_317.out _; (with_reducible repeat (first | refine blk_drewN ?_ _ | refine blk_drew ?_ | refine blk_alloc ?_ _)); refine blk_far ?_ NB301_317.out _; (with_reducible repeat (first | refine blk_drewN ?_ _ | refine blk_drew ?_ | refine blk_alloc ?_ _)); exact BK301.out) hb); have n1_ := Aside0.mk (blk_below (g := gb311) (o := .cells #[.int .i64 t308, .int .i64 t309] 34 (0, 0)) (by (with_reducible repeat (first | refine blk_drewN ?_ _ | refine blk_drew ?_ | refine blk_alloc ?_ _)); refine blk_far ?_ NB311_317.out _; (with_reducible repeat (first | refine blk_drewN ?_ _ | refine blk_drew ?_ | refine blk_alloc ?_ _)); refine blk_far ?_ NB311_317.out _; (with_reducible repeat (first | refine blk_drewN ?_ _ | refine blk_drew ?_ | refine blk_alloc ?_ _)); refine blk_far ?_ NB311_317.out _; (with_reducible repeat (first | refine blk_drewN ?_ _ | refine blk_drew ?_ | refine blk_alloc ?_ _)); exact BK311.out) hb); have n2_ := Aside0.mk (blk_below (g := gb317) (o := .cells #[.int .i64 t314, .int .i64 t315, .int .i64 t316] 40 (0, 0)) (by (with_reducible repeat (first | refine blk_drewN ?_ _ | refine blk_drew ?_ | refine blk_alloc ?_ _)); refine blk_put (cs := #[.int .i64 t314, .int .i64 t315, .int .i64 0]) ?_ 2 _ rfl; (with_reducible repeat (first | refine blk_drewN ?_ _ | refine blk_drew ?_ | refine blk_alloc ?_ _)); refine blk_put (cs := #[.int .i64 t314, .int .i64 0, .int .i64 0]) ?_ 1 _ rfl; (with_reducible repeat (first | refine blk_drewN ?_ _ | refine blk_drew ?_ | refine blk_alloc ?_ _)); refine blk_put (cs := #[.int .i64 0, .int .i64 0, .int .i64 0]) ?_ 0 _ rfl; (with_reducible repeat (first | refine blk_drewN ?_ _ | refine blk_drew ?_ | refine blk_alloc ?_ _)); exact BK317.out) hb); have n3_ := Aside0.mk (below_step (by repeat (first | (with_reducible first | exact HB.out | apply below_alloc | apply pw_below_drewN | apply below_drew1 | refine below_set ?_ GE301.out | refine below_set ?_ GE311.out | refine below_set ?_ GE317.out) | exact HB.out)) hb); clear BK301; clear BK311; clear BK317; clear HB; have BK301 := n0_; have BK311 := n1_; have BK317 := n2_; have HB := n3_; clear n0_ n1_ n2_ n3_; (try clear hb); (try clear hb2); (try clear hk); (try clear hi)) | (go_at_call 15; (with_reducible refine (tensilelaw09_wakes.calls  t319 _ A32.out).mono ?_); rintro e w42 ⟨rfl, hb⟩; have n0_ := Aside0.mk (blk_below (g := gb301) (o := .cells #[.int .i64 a0_0, .slice A0_1 l0_1.length c0_1] 24 (0, 0)) (by (with_reducible repeat (first | refine blk_drewN ?_ _ | refine blk_drew ?_ | refine blk_alloc ?_ _)); exact BK301.out) hb); have n1_ := Aside0.mk (blk_below (g := gb311) (o := .cells #[.int .i64 t308, .int .i64 t309] 34 (0, 0)) (by (with_reducible repeat (first | refine blk_drewN ?_ _ | refine blk_drew ?_ | refine blk_alloc ?_ _)); exact BK311.out) hb); have n2_ := Aside0.mk (blk_below (g := gb317) (o := .cells #[.int .i64 t314, .int .i64 t315, .int .i64 t316] 40 (0, 0)) (by (with_reducible repeat (first | refine blk_drewN ?_ _ | refine blk_drew ?_ | refine blk_alloc ?_ _)); exact BK317.out) hb); have n3_ := Aside0.mk (below_step (by repeat (first | (with_reducible first | exact HB.out | apply below_alloc | apply pw_below_drewN | apply below_drew1 | refine below_set ?_ GE301.out | refine below_set ?_ GE311.out | refine below_set ?_ GE317.out) | exact HB.out)) hb); clear BK301; clear BK311; clear BK317; clear HB; have BK301 := n0_; have BK311 := n1_; have BK317 := n2_; have HB := n3_; clear n0_ n1_ n2_ n3_; (try clear hb); (try clear hb2); (try clear hk); (try clear hi)))
                  go_ret
                  exact ⟨by first | rfl | (simp [errW_none, errW_some] <;> rfl) | (simp [*, errW_none, errW_some] <;> rfl), by repeat (first | (with_reducible first | exact HB.out | apply below_alloc | apply pw_below_drewN | apply below_drew1 | refine below_set ?_ GE301.out | refine below_set ?_ GE311.out | refine below_set ?_ GE317.out) | exact HB.out)⟩
                · replace c31 := Bool.eq_false_iff.mpr c31
                  subst c31
                  have H1 : (some false) = some r := by rw [if_neg (show ¬ (false = true) by decide)] at H; exact H
                  clear H
                  have H := H1
                  clear H1
                  obtain rfl := Option.some.inj H
                  have hnb43 := NB301_311.out
                  have hnc43 := NB311_301.out
                  have hcz44_0 : wc.cell? ⟨gb301, 0, none⟩ = some (.int .i64 a0_0) := (blk_cell BK301.out 0).trans rfl
                  have hcz44_1 : wc.cell? ⟨gb301, 1, none⟩ = some (.slice A0_1 l0_1.length c0_1) := (blk_cell BK301.out 1).trans rfl
                  have hfz44_0 := blk_frozen BK301.out 0
                  have hfz44_1 := blk_frozen BK301.out 1
                  go_wp2_with (first | ((with_reducible refine gate_callee (f := 21) rfl ?_); refine goesL_ (some 46) rfl rfl Try.func21 (by kernel_rfl) rfl #[.agg #[.int .i64 a0_0, .slice A0_1 l0_1.length c0_1], .int .i64 a1] rfl (by (try simp only [List.map_toArray, List.map_cons, List.map_nil]); first | done | rfl | (simp only [List.length_drop, List.length_take]; rfl)) ?_; (with_reducible refine (tensileref09_All.calls kj24 a0_0 _ _ l0_1 a1 t314 t315 t316 _ ?side1 ?side2 A28.out).mono ?_); (case side1 => repeat (first | exact (Kd.C_below HR0_1.out HB.out) | (with_reducible refine Kd.C_alloc ?_ _) | (with_reducible refine Kd.C_drewN ?_ _) | (with_reducible refine Kd.C_drew ?_))); (case side2 => exact HC0_1.out); rintro e w45 ⟨rfl, hb⟩; refine ⟨_, rfl, ?_⟩; have n0_ := Aside0.mk (blk_below (g := gb301) (o := .cells #[.int .i64 a0_0, .slice A0_1 l0_1.length c0_1] 24 (0, 0)) (by (with_reducible repeat (first | refine blk_drewN ?_ _ | refine blk_drew ?_ | refine blk_alloc ?_ _)); exact BK301.out) hb); have n1_ := Aside0.mk (blk_below (g := gb311) (o := .cells #[.int .i64 t308, .int .i64 t309] 34 (0, 0)) (by (with_reducible repeat (first | refine blk_drewN ?_ _ | refine blk_drew ?_ | refine blk_alloc ?_ _)); exact BK311.out) hb); have n2_ := Aside0.mk (below_step (by repeat (first | (with_reducible first | exact HB.out | apply below_alloc | apply pw_below_drewN | apply below_drew1 | refine below_set ?_ GE301.out | refine below_set ?_ GE311.out) | exact HB.out)) hb); clear BK301; clear BK311; clear HB; have BK301 := n0_; have BK311 := n1_; have HB := n2_; clear n0_ n1_ n2_; (try clear hb); (try clear hb2); (try clear hk); (try clear hi)) | ((with_reducible refine gate_dst (N := 8) rfl ?_); refine box_event ?hg (N := 8) ?hd (cs := #[.int .i64 0, .int .i64 0, .int .i64 0]) (t := 40) ?hr ?_; (case hd => rfl); (case hg => rfl); (case hr => first | (go_simp; done) | (go_simp; rfl)); intro gb317 hg w46 hbox hb; have n0_ := Aside0.mk (blk_below (g := gb301) (o := .cells #[.int .i64 a0_0, .slice A0_1 l0_1.length c0_1] 24 (0, 0)) (by (with_reducible repeat (first | refine blk_drewN ?_ _ | refine blk_drew ?_ | refine blk_alloc ?_ _)); exact BK301.out) hb); have n1_ := Aside0.mk (blk_below (g := gb311) (o := .cells #[.int .i64 t308, .int .i64 t309] 34 (0, 0)) (by (with_reducible repeat (first | refine blk_drewN ?_ _ | refine blk_drew ?_ | refine blk_alloc ?_ _)); exact BK311.out) hb); have n2_ := Aside0.mk (below_step (by repeat (first | (with_reducible first | exact HB.out | apply below_alloc | apply pw_below_drewN | apply below_drew1 | refine below_set ?_ GE301.out | refine below_set ?_ GE311.out) | exact HB.out)) hb); have n3_ := Aside0.mk (hbox); have n4_ := Aside0.mk ((by rw [hg]; exact (below_size (by repeat (first | (with_reducible first | exact HB.out | apply below_alloc | apply pw_below_drewN | apply below_drew1 | refine below_set ?_ GE301.out | refine below_set ?_ GE311.out) | exact HB.out))) : w.heap.size ≤ gb317)); have n5_ := Aside0.mk ((by rw [hg]; exact (below_size (by repeat (first | (with_reducible first | exact HB.out | apply below_alloc | apply pw_below_drewN | apply below_drew1 | refine below_set ?_ GE301.out | refine below_set ?_ GE311.out) | exact HB.out))) : w.heap.size ≤ gb317)); have n6_ := Aside0.mk ((by rw [hg]; exact Nat.ne_of_lt (blk_lt (g := gb301) (o := .cells #[.int .i64 a0_0, .slice A0_1 l0_1.length c0_1] 24 (0, 0)) (by (with_reducible repeat (first | refine blk_drewN ?_ _ | refine blk_drew ?_ | refine blk_alloc ?_ _)); exact BK301.out)) : gb301 ≠ gb317)); have n7_ := Aside0.mk ((by rw [hg]; exact Nat.ne_of_gt (blk_lt (g := gb301) (o := .cells #[.int .i64 a0_0, .slice A0_1 l0_1.length c0_1] 24 (0, 0)) (by (with_reducible repeat (first | refine blk_drewN ?_ _ | refine blk_drew ?_ | refine blk_alloc ?_ _)); exact BK301.out)) : gb317 ≠ gb301)); have n8_ := Aside0.mk ((by rw [hg]; exact Nat.ne_of_lt (blk_lt (g := gb311) (o := .cells #[.int .i64 t308, .int .i64 t309] 34 (0, 0)) (by (with_reducible repeat (first | refine blk_drewN ?_ _ | refine blk_drew ?_ | refine blk_alloc ?_ _)); exact BK311.out)) : gb311 ≠ gb317)); have n9_ := Aside0.mk ((by rw [hg]; exact Nat.ne_of_gt (blk_lt (g := gb311) (o := .cells #[.int .i64 t308, .int .i64 t309] 34 (0, 0)) (by (with_reducible repeat (first | refine blk_drewN ?_ _ | refine blk_drew ?_ | refine blk_alloc ?_ _)); exact BK311.out)) : gb317 ≠ gb311)); clear BK301; clear BK311; clear HB; have BK301 := n0_; have BK311 := n1_; have HB := n2_; have BK317 := n3_; have GW317 := n4_; have GE317 := n5_; have NB301_317 := n6_; have NB317_301 := n7_; have NB311_317 := n8_; have NB317_311 := n9_; clear n0_ n1_ n2_ n3_ n4_ n5_ n6_ n7_ n8_ n9_; clear hb hbox hg; have hnb47 := NB317_301.out; have hnc47 := NB301_317.out; have hnb48 := NB317_311.out; have hnc48 := NB311_317.out; have hcz49_0 : w46.cell? ⟨gb317, 0, none⟩ = some (.int .i64 0) := (blk_cell BK317.out 0).trans rfl; have hcz49_1 : w46.cell? ⟨gb317, 1, none⟩ = some (.int .i64 0) := (blk_cell BK317.out 1).trans rfl; have hcz49_2 : w46.cell? ⟨gb317, 2, none⟩ = some (.int .i64 0) := (blk_cell BK317.out 2).trans rfl; have hfz49_0 := blk_frozen BK317.out 0; have hfz49_1 := blk_frozen BK317.out 1; have hfz49_2 := blk_frozen BK317.out 2; have hcz50_0 : w46.cell? ⟨gb311, 0, none⟩ = some (.int .i64 t308) := (blk_cell BK311.out 0).trans rfl; have hcz50_1 : w46.cell? ⟨gb311, 1, none⟩ = some (.int .i64 t309) := (blk_cell BK311.out 1).trans rfl; have hfz50_0 := blk_frozen BK311.out 0; have hfz50_1 := blk_frozen BK311.out 1) | (go_at_call 22; (with_reducible refine (tensilelaw09_is.calls kj24 t308 t309 t315 t316 false _ A30.out).mono ?_); rintro e w51 ⟨rfl, hb⟩; have n0_ := Aside0.mk (blk_below (g := gb301) (o := .cells #[.int .i64 a0_0, .slice A0_1 l0_1.length c0_1] 24 (0, 0)) (by (with_reducible repeat (first | refine blk_drewN ?_ _ | refine blk_drew ?_ | refine blk_alloc ?_ _)); refine blk_far ?_ NB301_317.out _; (with_reducible repeat (first | refine blk_drewN ?_ _ | refine blk_drew ?_ | refine blk_alloc ?_ _)); refine blk_far ?_ NB301_317.out _; (with_reducible repeat (first | refine blk_drewN ?_ _ | refine blk_drew ?_ | refine blk_alloc ?_ _)); refine blk_far ?_ NB301_317.out _; (with_reducible repeat (first | refine blk_drewN ?_ _ | refine blk_drew ?_ | refine blk_alloc ?_ _)); exact BK301.out) hb); have n1_ := Aside0.mk (blk_below (g := gb311) (o := .cells #[.int .i64 t308, .int .i64 t309] 34 (0, 0)) (by (with_reducible repeat (first | refine blk_drewN ?_ _ | refine blk_drew ?_ | refine blk_alloc ?_ _)); refine blk_far ?_ NB311_317.out _; (with_reducible repeat (first | refine blk_drewN ?_ _ | refine blk_drew ?_ | refine blk_alloc ?_ _)); refine blk_far ?_ NB311_317.out _; (with_reducible repeat (first | refine blk_drewN ?_ _ | refine blk_drew ?_ | refine blk_alloc ?_ _)); refine blk_far ?_ NB311_317.out _; (with_reducible repeat (first | refine blk_drewN ?_ _ | refine blk_drew ?_ | refine blk_alloc ?_ _)); exact BK311.out) hb); have n2_ := Aside0.mk (blk_below (g := gb317) (o := .cells #[.int .i64 t314, .int .i64 t315, .int .i64 t316] 40 (0, 0)) (by (with_reducible repeat (first | refine blk_drewN ?_ _ | refine blk_drew ?_ | refine blk_alloc ?_ _)); refine blk_put (cs := #[.int .i64 t314, .int .i64 t315, .int .i64 0]) ?_ 2 _ rfl; (with_reducible repeat (first | refine blk_drewN ?_ _ | refine blk_drew ?_ | refine blk_alloc ?_ _)); refine blk_put (cs := #[.int .i64 t314, .int .i64 0, .int .i64 0]) ?_ 1 _ rfl; (with_reducible repeat (first | refine blk_drewN ?_ _ | refine blk_drew ?_ | refine blk_alloc ?_ _)); refine blk_put (cs := #[.int .i64 0, .int .i64 0, .int .i64 0]) ?_ 0 _ rfl; (with_reducible repeat (first | refine blk_drewN ?_ _ | refine blk_drew ?_ | refine blk_alloc ?_ _)); exact BK317.out) hb); have n3_ := Aside0.mk (below_step (by repeat (first | (with_reducible first | exact HB.out | apply below_alloc | apply pw_below_drewN | apply below_drew1 | refine below_set ?_ GE301.out | refine below_set ?_ GE311.out | refine below_set ?_ GE317.out) | exact HB.out)) hb); clear BK301; clear BK311; clear BK317; clear HB; have BK301 := n0_; have BK311 := n1_; have BK317 := n2_; have HB := n3_; clear n0_ n1_ n2_ n3_; (try clear hb); (try clear hb2); (try clear hk); (try clear hi)))
                  go_ret
                  exact ⟨by first | rfl | (simp [errW_none, errW_some] <;> rfl) | (simp [*, errW_none, errW_some] <;> rfl), by repeat (first | (with_reducible first | exact HB.out | apply below_alloc | apply pw_below_drewN | apply below_drew1 | refine below_set ?_ GE301.out | refine below_set ?_ GE311.out | refine below_set ?_ GE317.out) | exact HB.out)⟩
              · rw [if_neg c29] at H
                have c29b0 : (t310 == 0) = false := beq_eq_false_iff_ne.mpr c29
                have c29b1 : (t310 != 0) = true := bne_iff_ne.mpr c29
                obtain rfl := Option.some.inj H
                have hnb52 := NB301_311.out
                have hnc52 := NB311_301.out
                have hcz53_0 : wc.cell? ⟨gb301, 0, none⟩ = some (.int .i64 a0_0) := (blk_cell BK301.out 0).trans rfl
                have hcz53_1 : wc.cell? ⟨gb301, 1, none⟩ = some (.slice A0_1 l0_1.length c0_1) := (blk_cell BK301.out 1).trans rfl
                have hfz53_0 := blk_frozen BK301.out 0
                have hfz53_1 := blk_frozen BK301.out 1
                go_wp2_with (first | ((with_reducible refine gate_callee (f := 21) rfl ?_); refine goesL_ (some 46) rfl rfl Try.func21 (by kernel_rfl) rfl #[.agg #[.int .i64 a0_0, .slice A0_1 l0_1.length c0_1], .int .i64 a1] rfl (by (try simp only [List.map_toArray, List.map_cons, List.map_nil]); first | done | rfl | (simp only [List.length_drop, List.length_take]; rfl)) ?_; (with_reducible refine (tensileref09_All.calls kj24 a0_0 _ _ l0_1 a1 t314 t315 t316 _ ?side1 ?side2 A28.out).mono ?_); (case side1 => repeat (first | exact (Kd.C_below HR0_1.out HB.out) | (with_reducible refine Kd.C_alloc ?_ _) | (with_reducible refine Kd.C_drewN ?_ _) | (with_reducible refine Kd.C_drew ?_))); (case side2 => exact HC0_1.out); rintro e w54 ⟨rfl, hb⟩; refine ⟨_, rfl, ?_⟩; have n0_ := Aside0.mk (blk_below (g := gb301) (o := .cells #[.int .i64 a0_0, .slice A0_1 l0_1.length c0_1] 24 (0, 0)) (by (with_reducible repeat (first | refine blk_drewN ?_ _ | refine blk_drew ?_ | refine blk_alloc ?_ _)); exact BK301.out) hb); have n1_ := Aside0.mk (blk_below (g := gb311) (o := .cells #[.int .i64 t308, .int .i64 t309] 34 (0, 0)) (by (with_reducible repeat (first | refine blk_drewN ?_ _ | refine blk_drew ?_ | refine blk_alloc ?_ _)); exact BK311.out) hb); have n2_ := Aside0.mk (below_step (by repeat (first | (with_reducible first | exact HB.out | apply below_alloc | apply pw_below_drewN | apply below_drew1 | refine below_set ?_ GE301.out | refine below_set ?_ GE311.out) | exact HB.out)) hb); clear BK301; clear BK311; clear HB; have BK301 := n0_; have BK311 := n1_; have HB := n2_; clear n0_ n1_ n2_; (try clear hb); (try clear hb2); (try clear hk); (try clear hi)) | ((with_reducible refine gate_dst (N := 8) rfl ?_); refine box_event ?hg (N := 8) ?hd (cs := #[.int .i64 0, .int .i64 0, .int .i64 0]) (t := 40) ?hr ?_; (case hd => rfl); (case hg => rfl); (case hr => first | (go_simp; done) | (go_simp; rfl)); intro gb317 hg w55 hbox hb; have n0_ := Aside0.mk (blk_below (g := gb301) (o := .cells #[.int .i64 a0_0, .slice A0_1 l0_1.length c0_1] 24 (0, 0)) (by (with_reducible repeat (first | refine blk_drewN ?_ _ | refine blk_drew ?_ | refine blk_alloc ?_ _)); exact BK301.out) hb); have n1_ := Aside0.mk (blk_below (g := gb311) (o := .cells #[.int .i64 t308, .int .i64 t309] 34 (0, 0)) (by (with_reducible repeat (first | refine blk_drewN ?_ _ | refine blk_drew ?_ | refine blk_alloc ?_ _)); exact BK311.out) hb); have n2_ := Aside0.mk (below_step (by repeat (first | (with_reducible first | exact HB.out | apply below_alloc | apply pw_below_drewN | apply below_drew1 | refine below_set ?_ GE301.out | refine below_set ?_ GE311.out) | exact HB.out)) hb); have n3_ := Aside0.mk (hbox); have n4_ := Aside0.mk ((by rw [hg]; exact (below_size (by repeat (first | (with_reducible first | exact HB.out | apply below_alloc | apply pw_below_drewN | apply below_drew1 | refine below_set ?_ GE301.out | refine below_set ?_ GE311.out) | exact HB.out))) : w.heap.size ≤ gb317)); have n5_ := Aside0.mk ((by rw [hg]; exact (below_size (by repeat (first | (with_reducible first | exact HB.out | apply below_alloc | apply pw_below_drewN | apply below_drew1 | refine below_set ?_ GE301.out | refine below_set ?_ GE311.out) | exact HB.out))) : w.heap.size ≤ gb317)); have n6_ := Aside0.mk ((by rw [hg]; exact Nat.ne_of_lt (blk_lt (g := gb301) (o := .cells #[.int .i64 a0_0, .slice A0_1 l0_1.length c0_1] 24 (0, 0)) (by (with_reducible repeat (first | refine blk_drewN ?_ _ | refine blk_drew ?_ | refine blk_alloc ?_ _)); exact BK301.out)) : gb301 ≠ gb317)); have n7_ := Aside0.mk ((by rw [hg]; exact Nat.ne_of_gt (blk_lt (g := gb301) (o := .cells #[.int .i64 a0_0, .slice A0_1 l0_1.length c0_1] 24 (0, 0)) (by (with_reducible repeat (first | refine blk_drewN ?_ _ | refine blk_drew ?_ | refine blk_alloc ?_ _)); exact BK301.out)) : gb317 ≠ gb301)); have n8_ := Aside0.mk ((by rw [hg]; exact Nat.ne_of_lt (blk_lt (g := gb311) (o := .cells #[.int .i64 t308, .int .i64 t309] 34 (0, 0)) (by (with_reducible repeat (first | refine blk_drewN ?_ _ | refine blk_drew ?_ | refine blk_alloc ?_ _)); exact BK311.out)) : gb311 ≠ gb317)); have n9_ := Aside0.mk ((by rw [hg]; exact Nat.ne_of_gt (blk_lt (g := gb311) (o := .cells #[.int .i64 t308, .int .i64 t309] 34 (0, 0)) (by (with_reducible repeat (first | refine blk_drewN ?_ _ | refine blk_drew ?_ | refine blk_alloc ?_ _)); exact BK311.out)) : gb317 ≠ gb311)); clear BK301; clear BK311; clear HB; have BK301 := n0_; have BK311 := n1_; have HB := n2_; have BK317 := n3_; have GW317 := n4_; have GE317 := n5_; have NB301_317 := n6_; have NB317_301 := n7_; have NB311_317 := n8_; have NB317_311 := n9_; clear n0_ n1_ n2_ n3_ n4_ n5_ n6_ n7_ n8_ n9_; clear hb hbox hg; have hnb56 := NB317_301.out; have hnc56 := NB301_317.out; have hnb57 := NB317_311.out; have hnc57 := NB311_317.out; have hcz58_0 : w55.cell? ⟨gb317, 0, none⟩ = some (.int .i64 0) := (blk_cell BK317.out 0).trans rfl; have hcz58_1 : w55.cell? ⟨gb317, 1, none⟩ = some (.int .i64 0) := (blk_cell BK317.out 1).trans rfl; have hcz58_2 : w55.cell? ⟨gb317, 2, none⟩ = some (.int .i64 0) := (blk_cell BK317.out 2).trans rfl; have hfz58_0 := blk_frozen BK317.out 0; have hfz58_1 := blk_frozen BK317.out 1; have hfz58_2 := blk_frozen BK317.out 2))
                go_ret
                exact ⟨by first | rfl | (simp [errW_none, errW_some] <;> rfl) | (simp [*, errW_none, errW_some] <;> rfl), by repeat (first | (with_reducible first | exact HB.out | apply below_alloc | apply pw_below_drewN | apply below_drew1 | refine below_set ?_ GE301.out | refine below_set ?_ GE311.out | refine below_set ?_ GE317.out) | exact HB.out)⟩
            · rw [if_neg c27] at H
              have c27b0 : (x7_24 == 0) = false := beq_eq_false_iff_ne.mpr c27
              have c27b1 : (x7_24 != 0) = true := bne_iff_ne.mpr c27
              by_cases c59 : t310 = x7_24
              · rw [if_pos c59] at H
                have c59b0 : (t310 == x7_24) = true := beq_iff_eq.mpr c59
                have c59b1 : (t310 != x7_24) = false := bne_eq_false_iff_eq.mpr c59
                clear c59
                by_cases c60 : (t308 == 0 && (t309 == 0)) = true
                · rw [if_pos c60] at H
                  have c60b0 : (t308 == 0 && (t309 == 0)) = true := c60
                  (try (have c60b1 : decide (t308 = 0 && (t309 == 0)) = true := by simpa using c60))
                  (try (have c60b2 : (t308 == 0 && (t309 == 0)) = true := by simpa using c60))
                  clear c60
                  replace H := Option.bind_eq_some_iff.mp H
                  obtain ⟨t320, A610, H⟩ := H
                  replace H : (some t320) = some r := H
                  have A61 := Aside0.mk A610
                  clear A610
                  obtain rfl := Option.some.inj H
                  have hnb62 := NB311_301.out
                  have hnc62 := NB301_311.out
                  have hcz63_0 : wc.cell? ⟨gb311, 0, none⟩ = some (.int .i64 t308) := (blk_cell BK311.out 0).trans rfl
                  have hcz63_1 : wc.cell? ⟨gb311, 1, none⟩ = some (.int .i64 t309) := (blk_cell BK311.out 1).trans rfl
                  have hfz63_0 := blk_frozen BK311.out 0
                  have hfz63_1 := blk_frozen BK311.out 1
                  go_wp2_with (first | (go_at_call 15; (with_reducible refine (tensilelaw09_wakes.calls  t320 _ A61.out).mono ?_); rintro e w64 ⟨rfl, hb⟩; have n0_ := Aside0.mk (blk_below (g := gb301) (o := .cells #[.int .i64 a0_0, .slice A0_1 l0_1.length c0_1] 24 (0, 0)) (by (with_reducible repeat (first | refine blk_drewN ?_ _ | refine blk_drew ?_ | refine blk_alloc ?_ _)); exact BK301.out) hb); have n1_ := Aside0.mk (blk_below (g := gb311) (o := .cells #[.int .i64 t308, .int .i64 t309] 34 (0, 0)) (by (with_reducible repeat (first | refine blk_drewN ?_ _ | refine blk_drew ?_ | refine blk_alloc ?_ _)); exact BK311.out) hb); have n2_ := Aside0.mk (below_step (by repeat (first | (with_reducible first | exact HB.out | apply below_alloc | apply pw_below_drewN | apply below_drew1 | refine below_set ?_ GE301.out | refine below_set ?_ GE311.out) | exact HB.out)) hb); clear BK301; clear BK311; clear HB; have BK301 := n0_; have BK311 := n1_; have HB := n2_; clear n0_ n1_ n2_; (try clear hb); (try clear hb2); (try clear hk); (try clear hi)))
                  go_ret
                  exact ⟨by first | rfl | (simp [errW_none, errW_some] <;> rfl) | (simp [*, errW_none, errW_some] <;> rfl), by repeat (first | (with_reducible first | exact HB.out | apply below_alloc | apply pw_below_drewN | apply below_drew1 | refine below_set ?_ GE301.out | refine below_set ?_ GE311.out) | exact HB.out)⟩
                · rw [if_neg c60] at H
                  have c60b0 : (t308 == 0 && (t309 == 0)) = false := by simpa using c60
                  (try (have c60b1 : decide (t308 = 0 && (t309 == 0)) = false := by simpa using c60))
                  (try (have c60b2 : (t308 == 0 && (t309 == 0)) = false := by simpa using c60))
                  (try (have c60b3 : ¬ (t308 = 0 && (t309 == 0)) := by simpa using c60))
                  clear c60
                  obtain rfl := Option.some.inj H
                  have hnb65 := NB311_301.out
                  have hnc65 := NB301_311.out
                  have hcz66_0 : wc.cell? ⟨gb311, 0, none⟩ = some (.int .i64 t308) := (blk_cell BK311.out 0).trans rfl
                  have hcz66_1 : wc.cell? ⟨gb311, 1, none⟩ = some (.int .i64 t309) := (blk_cell BK311.out 1).trans rfl
                  have hfz66_0 := blk_frozen BK311.out 0
                  have hfz66_1 := blk_frozen BK311.out 1
                  go_wp2
                  go_ret
                  exact ⟨by first | rfl | (simp [errW_none, errW_some] <;> rfl) | (simp [*, errW_none, errW_some] <;> rfl), by repeat (first | (with_reducible first | exact HB.out | apply below_alloc | apply pw_below_drewN | apply below_drew1 | refine below_set ?_ GE301.out | refine below_set ?_ GE311.out) | exact HB.out)⟩
              · rw [if_neg c59] at H
                have c59b0 : (t310 == x7_24) = false := beq_eq_false_iff_ne.mpr c59
                have c59b1 : (t310 != x7_24) = true := bne_iff_ne.mpr c59
                obtain rfl := Option.some.inj H
                go_wp2
                go_ret
                exact ⟨by first | rfl | (simp [errW_none, errW_some] <;> rfl) | (simp [*, errW_none, errW_some] <;> rfl), by repeat (first | (with_reducible first | exact HB.out | apply below_alloc | apply pw_below_drewN | apply below_drew1 | refine below_set ?_ GE301.out | refine below_set ?_ GE311.out) | exact HB.out)⟩
  · replace c4 := Bool.eq_false_iff.mpr c4
    subst c4
    have H1 : ((tensilelaw09_wakes.f).bind fun t303 => (some t303)) = some r := by rw [if_neg (show ¬ (false = true) by decide)] at H; exact H
    clear H
    have H := H1
    clear H1
    replace H := Option.bind_eq_some_iff.mp H
    obtain ⟨t303, A670, H⟩ := H
    replace H : (some t303) = some r := H
    have A67 := Aside0.mk A670
    clear A670
    obtain rfl := Option.some.inj H
    go_enter Try.func4, Try.ntmps4
    go_wp2_with (first | ((with_reducible refine gate_dst (N := 2) rfl ?_); refine box_event ?hg (N := 2) ?hd (cs := #[.int .i64 a0_0, .slice A0_1 l0_1.length c0_1]) (t := 24) ?hr ?_; (case hd => rfl); (case hg => rfl); (case hr => first | (go_simp; done) | (go_simp; rfl)); intro gb301 hg w68 hbox hb; have n0_ := Aside0.mk (below_step (by repeat (first | (with_reducible first | exact HB.out | apply below_alloc | apply pw_below_drewN | apply below_drew1) | exact HB.out)) hb); have n1_ := Aside0.mk (hbox); have n2_ := Aside0.mk ((by rw [hg]; exact (below_size (by repeat (first | (with_reducible first | exact HB.out | apply below_alloc | apply pw_below_drewN | apply below_drew1) | exact HB.out))) : w.heap.size ≤ gb301)); have n3_ := Aside0.mk ((by rw [hg]; exact (below_size (by repeat (first | (with_reducible first | exact HB.out | apply below_alloc | apply pw_below_drewN | apply below_drew1) | exact HB.out))) : w.heap.size ≤ gb301)); clear HB; have HB := n0_; have BK301 := n1_; have GW301 := n2_; have GE301 := n3_; clear n0_ n1_ n2_ n3_; clear hb hbox hg; have hcz69_0 : w68.cell? ⟨gb301, 0, none⟩ = some (.int .i64 a0_0) := (blk_cell BK301.out 0).trans rfl; have hcz69_1 : w68.cell? ⟨gb301, 1, none⟩ = some (.slice A0_1 l0_1.length c0_1) := (blk_cell BK301.out 1).trans rfl; have hfz69_0 := blk_frozen BK301.out 0; have hfz69_1 := blk_frozen BK301.out 1) | ((with_reducible refine gate_callee (f := 14) rfl ?_); refine goesL_ (some 10) rfl rfl Try.func14 (by kernel_rfl) rfl #[.agg #[.int .i64 a0_0, .slice A0_1 l0_1.length c0_1]] rfl (by (try simp only [List.map_toArray, List.map_cons, List.map_nil]); first | done | rfl | (simp only [List.length_drop, List.length_take]; rfl)) ?_; (with_reducible refine (tensilelaw09_Thin.calls a0_0 _ _ l0_1 false _ ?side1 ?side2 A3.out).mono ?_); (case side1 => repeat (first | exact (Kd.C_below HR0_1.out HB.out) | (with_reducible refine Kd.C_alloc ?_ _) | (with_reducible refine Kd.C_drewN ?_ _) | (with_reducible refine Kd.C_drew ?_))); (case side2 => exact HC0_1.out); rintro e w70 ⟨rfl, hb⟩; refine ⟨_, rfl, ?_⟩; have n0_ := Aside0.mk (blk_below (g := gb301) (o := .cells #[.int .i64 a0_0, .slice A0_1 l0_1.length c0_1] 24 (0, 0)) (by (with_reducible repeat (first | refine blk_drewN ?_ _ | refine blk_drew ?_ | refine blk_alloc ?_ _)); exact BK301.out) hb); have n1_ := Aside0.mk (below_step (by repeat (first | (with_reducible first | exact HB.out | apply below_alloc | apply pw_below_drewN | apply below_drew1 | refine below_set ?_ GE301.out) | exact HB.out)) hb); clear BK301; clear HB; have BK301 := n0_; have HB := n1_; clear n0_ n1_; (try clear hb); (try clear hb2); (try clear hk); (try clear hi)) | ((with_reducible refine gate_callee (f := 15) rfl ?_); refine goesL_ (some 12) rfl rfl Try.func15 (by kernel_rfl) rfl #[] rfl (by (try simp only [List.map_toArray, List.map_cons, List.map_nil]); first | done | rfl | (simp only [List.length_drop, List.length_take]; rfl)) ?_; (with_reducible refine (tensilelaw09_wakes.calls  t303 _ A67.out).mono ?_); rintro e w71 ⟨rfl, hb⟩; refine ⟨_, rfl, ?_⟩; have n0_ := Aside0.mk (blk_below (g := gb301) (o := .cells #[.int .i64 a0_0, .slice A0_1 l0_1.length c0_1] 24 (0, 0)) (by (with_reducible repeat (first | refine blk_drewN ?_ _ | refine blk_drew ?_ | refine blk_alloc ?_ _)); exact BK301.out) hb); have n1_ := Aside0.mk (below_step (by repeat (first | (with_reducible first | exact HB.out | apply below_alloc | apply pw_below_drewN | apply below_drew1 | refine below_set ?_ GE301.out) | exact HB.out)) hb); clear BK301; clear HB; have BK301 := n0_; have HB := n1_; clear n0_ n1_; (try clear hb); (try clear hb2); (try clear hk); (try clear hi)))
    go_ret
    exact ⟨by first | rfl | (simp [errW_none, errW_some] <;> rfl) | (simp [*, errW_none, errW_some] <;> rfl), by repeat (first | (with_reducible first | exact HB.out | apply below_alloc | apply pw_below_drewN | apply below_drew1 | refine below_set ?_ GE301.out) | exact HB.out)⟩

end Go.Proofs.Ytigpnafpdmdmhaa.P

namespace Go.Proofs.Ytigpnafpdmdmhaa.Pure
open Go.RowKit Go.Proofs.Ytigpnafpdmdmhaa.P

/-- A stage of the reference as the program's. -/
def c61 (s : S57) : S61 := ⟨s.f0, s.f1, s.f2⟩
/-- A stage of the reference as the hand contracts tell it. -/
def cSt (s : S57) : Hand.Stg := ⟨s.f0, s.f1, s.f2⟩
theorem toStg_c61 (l : List S57) : toStg (l.map c61) = l.map cSt := by
  unfold toStg
  rw [List.map_map]
  rfl

theorem plan_f (a : Int) (l : List S57) (hl : l.length ≤ 5) : ∀ k, 7 ≤ k → tensilelaw09_Plan.f k a l = some (a, l.map c61) := by
  intro k hk
  obtain ⟨k, rfl⟩ : ∃ m, k = m + 7 := ⟨k - 7, by omega⟩
  match l, hl with
  | [], _ => rfl
  | [_], _ => simp [tensilelaw09_Plan.f, tensilelaw09_Plan.l0, rd_T57, c61, wrap64]
  | [_, _], _ => simp [tensilelaw09_Plan.f, tensilelaw09_Plan.l0, rd_T57, c61, wrap64]
  | [_, _, _], _ => simp [tensilelaw09_Plan.f, tensilelaw09_Plan.l0, rd_T57, c61, wrap64]
  | [_, _, _, _], _ => simp [tensilelaw09_Plan.f, tensilelaw09_Plan.l0, rd_T57, c61, wrap64]
  | [_, _, _, _, _], _ => simp [tensilelaw09_Plan.f, tensilelaw09_Plan.l0, rd_T57, c61, wrap64]

theorem fits_in {n : Int} (h : Fits n) : -9223372036854775808 ≤ n ∧ n ≤ 9223372036854775807 := by
  unfold Fits Lit.wf at h
  rw [Bool.and_eq_true, decide_eq_true_eq, decide_eq_true_eq] at h
  exact h

/-- What the reference's loop asks of each stage. -/
def okFrom (lot : Int) : Int → Option S57 → List S57 → Prop
  | _, _, [] => True
  | taken, prev, s :: l => (1 ≤ s.f0 ∧ s.f0 ≤ 30 ∧ taken + s.f0 ≤ lot) ∧ (-1 ≤ s.f1 ∧ s.f1 ≤ 30) ∧ (s.f1 < s.f2 ∧ s.f2 ≤ taken + s.f0 + 1) ∧ (∀ p, prev = some p → p.f1 ≤ s.f1 ∧ p.f2 ≤ s.f2) ∧ (l = [] → s.f2 = s.f1 + 1) ∧ okFrom lot (taken + s.f0) (some s) l

instance okDec (lot : Int) : ∀ (l : List S57) (taken : Int) (prev : Option S57), Decidable (okFrom lot taken prev l)
  | [], _, _ => isTrue trivial
  | s :: l, taken, prev => by
    have := okDec lot l (taken + s.f0) (some s)
    have h2 : Decidable (∀ p, prev = some p → p.f1 ≤ s.f1 ∧ p.f2 ≤ s.f2) := match prev with
      | none => isTrue (fun _ h => by cases h)
      | some p => if h : p.f1 ≤ s.f1 ∧ p.f2 ≤ s.f2 then isTrue (fun q hq => by cases hq; exact h) else isFalse (fun hq => h (hq p rfl))
    have h3 : Decidable (l = []) := match l with
      | [] => isTrue rfl
      | _ :: _ => isFalse (fun h => by cases h)
    unfold okFrom
    infer_instance

end Go.Proofs.Ytigpnafpdmdmhaa.Pure

namespace Go.Proofs.Ytigpnafpdmdmhaa.Pure
open Go.RowKit Go.Proofs.Ytigpnafpdmdmhaa.P
open Hand (Stg)

theorem In_f (a b c : Int) : tensileref09_In.f a b c = some (decide (b ≤ a ∧ a ≤ c)) := by
  unfold tensileref09_In.f
  split
  · rename_i h; simp [show b ≤ a from h]
  · rename_i h; simp [show ¬ b ≤ a from h]

theorem rd_pre (pre : List S57) (s : S57) (suf : List S57) : rd_T57 (pre ++ s :: suf) (pre.length : Int) = s := by
  unfold rd_T57
  rw [Int.toNat_natCast, List.getD_eq_getElem?_getD, List.getElem?_append_right (Nat.le_refl _), Nat.sub_self]
  rfl

/-- What is asked of the stages, from so many pieces and the limits of the stage before on. -/
def good (lot : Int) : Int → Int → Int → List Stg → Prop
  | _, _, _, [] => True
  | t, pa, pr, s :: l => (1 ≤ s.take ∧ t + s.take ≤ lot) ∧ (pa ≤ s.accept ∧ s.accept < s.reject ∧ s.reject ≤ t + s.take + 1 ∧ pr ≤ s.reject) ∧ (l = [] → s.reject = s.accept + 1) ∧ good lot (t + s.take) s.accept s.reject l

theorem good_cons (lot t pa pr : Int) (s : Stg) (l : List Stg) : good lot t pa pr (s :: l) ↔ ((1 ≤ s.take ∧ t + s.take ≤ lot) ∧ (pa ≤ s.accept ∧ s.accept < s.reject ∧ s.reject ≤ t + s.take + 1 ∧ pr ≤ s.reject) ∧ (l = [] → s.reject = s.accept + 1) ∧ good lot (t + s.take) s.accept s.reject l) := Iff.rfl
theorem if_iff {P Q : Prop} [Decidable P] [Decidable Q] {α : Type} {x y : α} (h : P ↔ Q) : (if P then x else y) = if Q then x else y := by
  by_cases hp : P
  · rw [if_pos hp, if_pos (h.1 hp)]
  · rw [if_neg hp, if_neg (fun hq => hp (h.2 hq))]
theorem good_take {lot : Int} : ∀ {l : List Stg} {t pa pr : Int}, good lot t pa pr l → ∀ s ∈ l, 1 ≤ s.take
  | _ :: _, _, _, _, h, s, hs => by
    rcases List.mem_cons.1 hs with rfl | hs
    · exact h.1.1
    · exact good_take h.2.2.2 s hs

open Classical in
theorem fault_l0 (a : Int) (ha : a ≤ 30) : ∀ (suf pre : List S57) (k : Nat) (t pa pr : Int), 5 * suf.length + 5 ≤ k → (pre ++ suf).length ≤ 3 → 0 ≤ t → t ≤ a →
    (pre = [] ∧ pa = -1 ∧ pr = 0 ∨ ∃ pre' p, pre = pre' ++ [p] ∧ p.f1 = pa ∧ p.f2 = pr) → -1 ≤ pa → 0 ≤ pr → (∀ s ∈ suf, Fits s.f0 ∧ Fits s.f1 ∧ Fits s.f2) →
    tensileref09_Fault.l0 k t (pre.length : Int) a (pre ++ suf) = some (if good a t pa pr (suf.map cSt) then 0 else 1) := by
  intro suf
  induction suf with
  | nil =>
    intro pre k t pa pr hk _ _ _ _ _ _ _
    obtain ⟨k, rfl⟩ : ∃ m, k = m + 1 := ⟨k - 1, by omega⟩
    simp [tensileref09_Fault.l0, good]
  | cons s suf ih =>
    intro pre k t pa pr hk hlen ht ht30 hp hpa hpr hf
    obtain ⟨k, rfl⟩ : ∃ m, k = m + 5 := ⟨k - 5, by omega⟩
    obtain ⟨f0, f1, f2⟩ := hf s (by simp)
    have b0 := fits_in f0
    have b1 := fits_in f1
    have b2 := fits_in f2
    have hlt : (pre.length : Int) < ((pre ++ s :: suf).length : Int) := by simp; omega
    have hl : ((pre ++ s :: suf).length : Int) = pre.length + suf.length + 1 := by simp; omega
    have hl3 : pre.length + suf.length + 1 ≤ 3 := by simpa [Nat.add_assoc] using hlen
    have hrec : ∀ (k' : Nat), 5 * suf.length + 5 ≤ k' → t + s.f0 ≤ a → 1 ≤ s.f0 → -1 ≤ s.f1 → 0 ≤ s.f2 →
        tensileref09_Fault.l0 k' (t + s.f0) ((pre.length : Int) + 1) a (pre ++ s :: suf) = some (if good a (t + s.f0) s.f1 s.f2 (suf.map cSt) then 0 else 1) := fun k' h1 h2 h3 h4 h5 => by
      have := ih (pre ++ [s]) k' (t + s.f0) s.f1 s.f2 h1 (by simpa using hlen) (by omega) h2 (.inr ⟨pre, s, rfl, rfl, rfl⟩) h4 h5 (fun x hx => hf x (by simp [hx]))
      simpa using this
    have hlast : ((pre.length : Int) = wrap64 (((pre ++ s :: suf).length : Int) - 1)) ↔ suf = [] := by
      rw [hl, show wrap64 ((pre.length : Int) + suf.length + 1 - 1) = (pre.length : Int) + suf.length by unfold wrap64; omega, ← List.length_eq_zero_iff]
      omega
    have hmid : ∀ m, tensileref09_Fault.j4 (m + 1) (t + s.f0) (pre.length : Int) false a (pre ++ s :: suf) s.f0 s.f1 s.f2 = (if (suf = [] → s.f2 = wrap64 (s.f1 + 1)) then tensileref09_Fault.l0 m (t + s.f0) ((pre.length : Int) + 1) a (pre ++ s :: suf) else some 1) := fun m => by
      rw [tensileref09_Fault.j4, if_neg (by decide), show wrap64 ((pre.length : Int) + 1) = (pre.length : Int) + 1 by unfold wrap64; omega]
      by_cases h : suf = []
      · rw [if_pos (hlast.2 h)]
        simp [h]
      · rw [if_neg (fun e => h (hlast.1 e))]
        simp [h]
    have hj4 : ∀ m, tensileref09_Fault.j4 (m + 1) (t + s.f0) (pre.length : Int) true a (pre ++ s :: suf) s.f0 s.f1 s.f2 = some 1 := fun m => by
      rw [tensileref09_Fault.j4, if_pos rfl]
    have hj3 : ∀ m, tensileref09_Fault.j3 (m + 2) (t + s.f0) (pre.length : Int) false a (pre ++ s :: suf) s.f0 s.f1 s.f2 = (if (pre ≠ [] → pa ≤ s.f1 ∧ pr ≤ s.f2) then tensileref09_Fault.j4 (m + 1) (t + s.f0) (pre.length : Int) false a (pre ++ s :: suf) s.f0 s.f1 s.f2 else some 1) := fun m => by
      rw [tensileref09_Fault.j3, if_neg (by decide)]
      rcases hp with ⟨rfl, -, -⟩ | ⟨pre', p, rfl, rfl, rfl⟩
      · simp
      · have hl3' : pre'.length + 1 + suf.length + 1 ≤ 3 := by simpa using hl3
        have e1 : wrap64 (((pre' ++ [p]).length : Int) - 1) = (pre'.length : Int) := by rw [List.length_append]; simp; unfold wrap64; omega
        have e2 : rd_T57 (pre' ++ [p] ++ s :: suf) (pre'.length : Int) = p := by
          rw [List.append_assoc]; exact rd_pre pre' p (s :: suf)
        rw [if_pos (by simp <;> omega), e1, e2, if_pos (by omega), if_pos (by simp <;> omega)]
        by_cases h1 : p.f1 ≤ s.f1
        · rw [if_neg (by omega)]
          by_cases h2 : p.f2 ≤ s.f2
          · rw [if_pos (fun _ => ⟨h1, h2⟩), decide_eq_false (by omega)]
          · rw [if_neg (fun h => h2 (h (by simp)).2), decide_eq_true (by omega), hj4]
        · rw [if_pos (by omega), if_neg (fun h => h1 (h (by simp)).1), hj4]
    rw [tensileref09_Fault.l0, if_pos hlt, if_pos (by omega), rd_pre, In_f, Option.bind_some, List.map_cons]
    have hc : good a t pa pr (cSt s :: suf.map cSt) ↔ ((1 ≤ s.f0 ∧ t + s.f0 ≤ a) ∧ (pa ≤ s.f1 ∧ s.f1 < s.f2 ∧ s.f2 ≤ t + s.f0 + 1 ∧ pr ≤ s.f2) ∧ (suf = [] → s.f2 = s.f1 + 1) ∧ good a (t + s.f0) s.f1 s.f2 (suf.map cSt)) := by
      have hm : (suf.map cSt = []) = (suf = []) := by simp
      rw [good_cons, hm]
      exact Iff.rfl
    have hP : ∀ {P : Prop} (x y : Option Int), ¬ P → (if P then x else y) = y := fun x y h => if_neg h
    by_cases h1 : 1 ≤ s.f0 ∧ s.f0 ≤ 30
    case neg =>
      rw [decide_eq_false h1, if_neg (by decide), tensileref09_Fault.j2, if_pos rfl, if_neg (fun h => h1 (by have := (hc.1 h).1; omega))]
    rw [decide_eq_true h1, if_pos rfl, show wrap64 (t + s.f0) = t + s.f0 by unfold wrap64; omega]
    by_cases h2 : t + s.f0 ≤ a
    case neg =>
      rw [decide_eq_true (by omega), tensileref09_Fault.j2, if_pos rfl, if_neg (fun h => h2 (hc.1 h).1.2)]
    rw [decide_eq_false (by omega), tensileref09_Fault.j2, if_neg (by decide), In_f, Option.bind_some, show wrap64 (t + s.f0) = t + s.f0 by unfold wrap64; omega, show wrap64 (t + s.f0 + 1) = t + s.f0 + 1 by unfold wrap64; omega]
    by_cases h3 : -1 ≤ s.f1 ∧ s.f1 ≤ 30
    case neg =>
      rw [decide_eq_false h3, if_neg (by decide), tensileref09_Fault.j3, if_pos rfl, if_neg (fun h => h3 (by have := (hc.1 h).2.1; omega))]
    rw [decide_eq_true h3, if_pos rfl]
    by_cases h4 : s.f1 < s.f2
    case neg =>
      rw [if_pos (by omega), tensileref09_Fault.j3, if_pos rfl, if_neg (fun h => h4 (hc.1 h).2.1.2.1)]
    rw [if_neg (by omega)]
    by_cases h5 : s.f2 ≤ t + s.f0 + 1
    case neg =>
      rw [decide_eq_true (by omega), tensileref09_Fault.j3, if_pos rfl, if_neg (fun h => h5 (hc.1 h).2.1.2.2.1)]
    rw [decide_eq_false (by omega), hj3]
    by_cases h6 : pre ≠ [] → pa ≤ s.f1 ∧ pr ≤ s.f2
    case neg =>
      rw [if_neg h6, if_neg (fun h => h6 (fun _ => ⟨(hc.1 h).2.1.1, (hc.1 h).2.1.2.2.2⟩))]
    have h6' : pa ≤ s.f1 ∧ pr ≤ s.f2 := by
      rcases hp with ⟨rfl, rfl, rfl⟩ | ⟨pre', p, rfl, rfl, rfl⟩
      · omega
      · exact h6 (by simp)
    rw [if_pos h6, hmid]
    have e7 : wrap64 (s.f1 + 1) = s.f1 + 1 := by unfold wrap64; omega
    rw [e7]
    by_cases h7 : suf = [] → s.f2 = s.f1 + 1
    case neg => rw [if_neg h7, if_neg (fun h => h7 (hc.1 h).2.2.1)]
    rw [if_pos h7, hrec _ (by simp at hk; omega) h2 h1.1 h3.1 (by omega)]
    congr 1
    exact if_iff ⟨fun h => hc.2 ⟨⟨h1.1, h2⟩, ⟨h6'.1, h4, h5, h6'.2⟩, h7, h⟩, fun h => (hc.1 h).2.2.2⟩

theorem chk_max (lot t : Int) : ∀ (l : List Stg) (t : Int) (last : Stg), last.accept = 9223372036854775807 → 0 ≤ last.reject → (∀ s ∈ l, s.accept ≤ 9223372036854775807) → Hand.chk lot t last l = 1
  | [], t, last, h, h2, _ => by
    unfold Hand.chk
    rw [h, if_neg (by unfold wrap64; omega)]
  | s :: l, t, last, h, h2, h3 => by
    unfold Hand.chk
    split; · rfl
    split; · rfl
    split; · rfl
    split
    · exact chk_max lot t l _ s (by have := h3 s (by simp); omega) (by omega) (fun x hx => h3 x (by simp [hx]))
    · rfl

open Classical in
theorem chk_good (lot : Int) (hl : lot ≤ 30) : ∀ (l : List Stg) (t : Int) (last : Stg), 0 ≤ t → t ≤ lot → -1 ≤ last.accept → 0 ≤ last.reject → (∀ s ∈ l, 1 ≤ s.take ∧ s.accept ≤ 9223372036854775807) → (l = [] → last.reject = last.accept + 1) → last.accept ≤ 30 →
    Hand.chk lot t last l = if good lot t last.accept last.reject l then 0 else 1
  | [], t, last, _, _, h1, _, _, h2, h3 => by
    have h2 := h2 rfl
    unfold Hand.chk good
    rw [if_pos trivial, h2, if_pos (by unfold wrap64; omega)]
  | s :: l, t, last, ht, ht2, h1, h2, h3, _, h4 => by
    obtain ⟨k1, k2⟩ := h3 s (by simp)
    have h3' : ∀ s ∈ l, 1 ≤ s.take ∧ s.accept ≤ 9223372036854775807 := fun x hx => h3 x (by simp [hx])
    unfold Hand.chk
    by_cases c1 : lot - t < s.take
    · rw [if_pos c1, if_neg (fun h => by have := h.1.2; omega)]
    rw [if_neg c1]
    by_cases c2 : s.accept < last.accept
    · rw [if_pos c2, if_neg (fun h => by have := h.2.1.1; omega)]
    rw [if_neg c2]
    by_cases c3 : s.reject < last.reject
    · rw [if_pos c3, if_neg (fun h => by have := h.2.1.2.2.2; omega)]
    rw [if_neg c3]
    by_cases c5 : s.accept = 9223372036854775807
    · have : ¬ good lot t last.accept last.reject (s :: l) := fun h => by have := h.2.1.2; omega
      rw [if_neg this]
      split
      · exact chk_max lot t l _ s c5 (by omega) (fun x hx => (h3' x hx).2)
      · rfl
    have e : wrap64 (s.accept + 1) = s.accept + 1 := by unfold wrap64; omega
    rw [e]
    by_cases c4 : s.accept + 1 ≤ s.reject ∧ s.reject ≤ t + s.take + 1
    case neg => rw [if_neg c4, if_neg (fun h => c4 (by have := h.2.1.2; omega))]
    rw [if_pos c4]
    by_cases c6 : l = [] → s.reject = s.accept + 1
    case neg =>
      rw [if_neg (fun h => c6 h.2.2.1)]
      obtain rfl : l = [] := Classical.byContradiction fun h => c6 (fun h' => absurd h' h)
      unfold Hand.chk
      rw [e, if_neg (fun h => c6 (fun _ => h))]
    rw [chk_good lot hl l (t + s.take) s (by omega) (by omega) (by omega) (by omega) h3' c6 (by omega)]
    exact if_iff ⟨fun h => ⟨⟨k1, by omega⟩, ⟨by omega, by omega, c4.2, by omega⟩, c6, h⟩, fun h => h.2.2.2⟩

theorem fault_f (a : Int) (l : List S57) (ha : Fits a) (hl : ∀ s ∈ l, Fits s.f0 ∧ Fits s.f1 ∧ Fits s.f2) (hlen : l.length ≤ 5) (k : Nat) (hk : 30 ≤ k) :
    tensileref09_Fault.f k a l = some (Hand.checkPlan a (l.map cSt)) := by
  classical
  unfold tensileref09_Fault.f Hand.checkPlan
  rw [List.length_map]
  by_cases h3 : 3 < l.length
  · rw [if_pos h3, if_pos (by omega)]
  rw [if_neg h3, if_neg (by omega), In_f, Option.bind_some]
  obtain ⟨k, rfl⟩ : ∃ m, k = m + 1 := ⟨k - 1, by omega⟩
  by_cases h1 : 1 ≤ a ∧ a ≤ 30
  case neg => rw [decide_eq_false h1, if_neg (by decide), tensileref09_Fault.j0, if_pos rfl, if_neg (fun h => h1 ⟨h.1, h.2.1⟩)]
  rw [decide_eq_true h1, if_pos rfl]
  by_cases h2 : l.length = 0
  · rw [tensileref09_Fault.j0, if_pos (by simp [h2]), if_neg (fun h => h.2.2.1 h2)]
  have e0 : ((l.length : Int) == 0) = false := by simpa using (by omega : ¬ ((l.length : Int) = 0))
  rw [tensileref09_Fault.j0, e0, if_neg (by decide)]
  have := fault_l0 a h1.2 l [] k 0 (-1) 0 (by omega) (by simpa using (by omega : l.length ≤ 3)) (by omega) (by omega) (.inl ⟨rfl, rfl, rfl⟩) (by omega) (by omega) hl
  have e1 : (([] : List S57).length : Int) = 0 := rfl
  rw [e1, List.nil_append] at this
  rw [this]
  congr 1
  by_cases h4 : (l.map cSt).all (fun s => decide (1 ≤ s.take)) = true
  · rw [if_pos (show 1 ≤ a ∧ a ≤ 30 ∧ l.length ≠ 0 ∧ (l.map cSt).all (fun s => decide (1 ≤ s.take)) = true from ⟨h1.1, h1.2, h2, h4⟩)]
    refine (chk_good a h1.2 (l.map cSt) 0 ⟨0, -1, 0⟩ (by omega) (by omega) (by decide) (by decide) ?_ (fun h => ?_) (by decide)).symm
    · intro s hs
      refine ⟨by simpa using List.all_eq_true.1 h4 s hs, ?_⟩
      obtain ⟨x, hx, rfl⟩ := List.mem_map.1 hs
      exact (fits_in (hl x hx).2.1).2
    · rw [List.map_eq_nil_iff] at h
      exact absurd (by simp [h]) h2
  · rw [if_neg (show ¬ (1 ≤ a ∧ a ≤ 30 ∧ l.length ≠ 0 ∧ (l.map cSt).all (fun s => decide (1 ≤ s.take)) = true) from fun h => h4 h.2.2.2), if_neg]
    intro h
    refine h4 (List.all_eq_true.2 fun s hs => ?_)
    simpa using good_take h s hs
end Go.Proofs.Ytigpnafpdmdmhaa.Pure

namespace Go.Proofs.Ytigpnafpdmdmhaa.Ma

/-- A sum. -/
def sm : Nat → (Nat → Nat) → Nat
  | 0, _ => 0
  | k + 1, f => sm k f + f k

theorem sm_congr {f g : Nat → Nat} : ∀ {k : Nat}, (∀ i, i < k → f i = g i) → sm k f = sm k g
  | 0, _ => rfl
  | k + 1, h => by rw [sm, sm, sm_congr (k := k) (fun i hi => h i (by omega)), h k (by omega)]

theorem sm_le {f g : Nat → Nat} : ∀ {k : Nat}, (∀ i, i < k → f i ≤ g i) → sm k f ≤ sm k g
  | 0, _ => Nat.le_refl _
  | k + 1, h => by
    rw [sm, sm]
    exact Nat.add_le_add (sm_le (k := k) (fun i hi => h i (by omega))) (h k (by omega))

theorem sm_add (f g : Nat → Nat) : ∀ k : Nat, sm k (fun i => f i + g i) = sm k f + sm k g
  | 0 => rfl
  | k + 1 => by rw [sm, sm, sm, sm_add f g k]; omega

theorem sm_mul (c : Nat) (f : Nat → Nat) : ∀ k : Nat, sm k (fun i => c * f i) = c * sm k f
  | 0 => rfl
  | k + 1 => by rw [sm, sm, sm_mul c f k, Nat.mul_add]

theorem sm_head (f : Nat → Nat) : ∀ k : Nat, sm (k + 1) f = f 0 + sm k (fun i => f (i + 1))
  | 0 => by simp [sm]
  | k + 1 => by
    have := sm_head f k
    rw [sm, this, sm]
    omega

/-- How many choices of some out of more. -/
def ch : Nat → Nat → Nat
  | _, 0 => 1
  | 0, _ + 1 => 0
  | n + 1, k + 1 => ch n k + ch n (k + 1)

theorem ch_zero : ∀ n, ch n 0 = 1 := by intro n; cases n <;> rfl
theorem ch_above : ∀ (n k : Nat), n < k → ch n k = 0
  | 0, 0, h => absurd h (by omega)
  | 0, _ + 1, _ => rfl
  | _ + 1, 0, h => absurd h (by omega)
  | n + 1, k + 1, h => by rw [ch, ch_above n k (by omega), ch_above n (k + 1) (by omega)]
theorem ch_pos : ∀ (n k : Nat), k ≤ n → 0 < ch n k
  | _, 0, _ => by rw [ch_zero]; omega
  | 0, _ + 1, h => absurd h (by omega)
  | n + 1, k + 1, h => by rw [ch]; have := ch_pos n k (by omega); omega

/-- The sum over the numbers of bad ones among k that are taken of B bad ones and g good ones. -/
def sw (B g k : Nat) (H : Nat → Nat) : Nat := sm (k + 1) (fun n => ch B n * ch g (k - n) * H n)

theorem sw_congr {B g k : Nat} {H H' : Nat → Nat} (h : ∀ n, n ≤ k → n ≤ B → k ≤ n + g → H n = H' n) : sw B g k H = sw B g k H' := by
  unfold sw
  refine sm_congr fun n hn => ?_
  by_cases h1 : n ≤ B
  · by_cases h2 : k ≤ n + g
    · rw [h n (by omega) h1 h2]
    · rw [ch_above g (k - n) (by omega)]; simp
  · rw [ch_above B n (by omega)]; simp

theorem sw_le {B g k : Nat} {H H' : Nat → Nat} (h : ∀ n, n ≤ k → n ≤ B → k ≤ n + g → H n ≤ H' n) : sw B g k H ≤ sw B g k H' := by
  unfold sw
  refine sm_le fun n hn => ?_
  by_cases h1 : n ≤ B
  · by_cases h2 : k ≤ n + g
    · exact Nat.mul_le_mul_left _ (h n (by omega) h1 h2)
    · rw [ch_above g (k - n) (by omega)]; simp
  · rw [ch_above B n (by omega)]; simp

theorem sw_mul (B g k c : Nat) (H : Nat → Nat) : sw B g k (fun n => c * H n) = c * sw B g k H := by
  unfold sw
  rw [← sm_mul]
  exact sm_congr fun n _ => by rw [← Nat.mul_assoc, ← Nat.mul_assoc, Nat.mul_comm c]; 

theorem sw_zero (B g : Nat) (H : Nat → Nat) : sw B g 0 H = H 0 := by
  unfold sw
  simp [sm, ch_zero]

theorem sw_bad (B g k : Nat) (H : Nat → Nat) : sw (B + 1) g (k + 1) H = sw B g (k + 1) H + sw B g k (fun n => H (n + 1)) := by
  unfold sw
  rw [sm_head, sm_head (fun n => ch B n * ch g (k + 1 - n) * H n), ch_zero, ch_zero, Nat.add_assoc, ← sm_add]
  congr 1
  refine sm_congr fun n hn => ?_
  rw [ch, show k + 1 - (n + 1) = k - n by omega, Nat.add_mul, Nat.add_mul, Nat.add_comm]

theorem sw_good (B g k : Nat) (H : Nat → Nat) : sw B (g + 1) (k + 1) H = sw B g (k + 1) H + sw B g k H := by
  unfold sw
  rw [sm, sm.eq_def (k + 1 + 1)]
  simp only [Nat.sub_self, ch_zero, Nat.mul_one]
  have e : sm (k + 1) (fun n => ch B n * ch (g + 1) (k + 1 - n) * H n) = sm (k + 1) (fun n => ch B n * ch g (k + 1 - n) * H n) + sm (k + 1) (fun n => ch B n * ch g (k - n) * H n) := by
    rw [← sm_add]
    refine sm_congr fun n hn => ?_
    rw [show k + 1 - n = (k - n) + 1 by omega, ch, Nat.mul_add, Nat.add_mul, Nat.add_comm]
  rw [e]
  omega

/-- Vandermonde. -/
theorem sw_const (c : Nat) : ∀ (B g k : Nat), sw B g k (fun _ => c) = ch (B + g) k * c
  | B, g, 0 => by rw [sw_zero, ch_zero, Nat.one_mul]
  | 0, 0, k + 1 => by
    rw [ch_above 0 (k + 1) (by omega), Nat.zero_mul]
    unfold sw
    have : ∀ n, n < k + 1 + 1 → ch 0 n * ch 0 (k + 1 - n) * c = 0 * c := fun n hn => by
      cases n with
      | zero => rw [ch_above 0 (k + 1 - 0) (by omega)]; simp
      | succ n => rw [ch_above 0 (n + 1) (by omega)]; simp
    rw [sm_congr (g := fun _ => 0 * c) this]
    simp only [Nat.zero_mul]
    have z : ∀ m, sm m (fun _ => 0) = 0 := fun m => by induction m with
      | zero => rfl
      | succ m ih => rw [sm, ih]
    exact z _
  | 0, g + 1, k + 1 => by
    rw [sw_good, sw_const c 0 g (k + 1), sw_const c 0 g k, ← Nat.add_assoc, ch, Nat.add_mul, Nat.add_comm]
  | B + 1, g, k + 1 => by
    rw [sw_bad, sw_const c B g (k + 1), sw_const c B g k, show B + 1 + g = (B + g) + 1 by omega, ch, Nat.add_mul, Nat.add_comm]
termination_by B g k => B + g + k

end Go.Proofs.Ytigpnafpdmdmhaa.Ma

namespace Go.Proofs.Ytigpnafpdmdmhaa.Ma
open Hand (Stg Cnt saysV tri lastDec fits)

theorem tri_ch : ∀ n k, tri n k = (ch n k : Int)
  | _, 0 => by rw [Hand.tri_zero, ch_zero]; rfl
  | 0, _ + 1 => rfl
  | n + 1, k + 1 => by rw [tri, ch, tri_ch n k, tri_ch n (k + 1)]; omega

/-- How many draws there are of the stages, out of L pieces. -/
def rest : List Stg → Nat → Nat
  | [], _ => 1
  | s :: l, L => ch L s.take.toNat * rest l (L - s.take.toNat)

/-- The pieces of stages. -/
def tot : List Stg → Nat
  | [] => 0
  | s :: l => s.take.toNat + tot l

/-- The sum over all draws from a stage on of what an acceptance (al) or a rejection (rj) by so many pieces bears. -/
def cg (al rj : Nat → Nat → Nat) : List Stg → Nat → Nat → Nat → Nat → Nat
  | [], _, _, _, _ => 0
  | s :: l, L, B, f, t => sw B (L - B) s.take.toNat fun n =>
    if ((f + n : Nat) : Int) ≤ s.accept then al (t + s.take.toNat) (rest l (L - s.take.toNat))
    else if s.reject ≤ ((f + n : Nat) : Int) then rj (t + s.take.toNat) (rest l (L - s.take.toNat))
    else cg al rj l (L - s.take.toNat) (B - n) (f + n) (t + s.take.toNat)

def cA := cg (fun _ r => r) (fun _ _ => 0)
def cP := cg (fun t r => t * r) (fun t r => t * r)
def cD := cg (fun _ r => r) (fun _ r => r)

theorem cg_le {al rj al' rj' : Nat → Nat → Nat} (h1 : ∀ t r, al t r ≤ al' t r) (h2 : ∀ t r, rj t r ≤ rj' t r) : ∀ (l : List Stg) (L B f t : Nat), cg al rj l L B f t ≤ cg al' rj' l L B f t
  | [], _, _, _, _ => Nat.le_refl _
  | s :: l, L, B, f, t => by
    unfold cg
    refine sw_le fun n _ _ _ => ?_
    split
    · exact h1 _ _
    · split
      · exact h2 _ _
      · exact cg_le h1 h2 l _ _ _ _

theorem cg_mul (c : Nat) (al rj : Nat → Nat → Nat) : ∀ (l : List Stg) (L B f t : Nat), cg (fun t r => c * al t r) (fun t r => c * rj t r) l L B f t = c * cg al rj l L B f t
  | [], _, _, _, _ => rfl
  | s :: l, L, B, f, t => by
    unfold cg
    rw [← sw_mul]
    refine sw_congr fun n _ _ _ => ?_
    split
    · rfl
    · split
      · rfl
      · exact cg_mul c al rj l _ _ _ _

theorem lastDec_tail {s s' : Stg} {l : List Stg} (h : lastDec (s :: s' :: l)) : lastDec (s' :: l) := h

theorem cD_rest : ∀ (l : List Stg) (L B f t : Nat), l ≠ [] → lastDec l → B ≤ L → cD l L B f t = rest l L
  | [], _, _, _, _, h, _, _ => absurd rfl h
  | s :: l, L, B, f, t, _, hd, hB => by
    have e : cD (s :: l) L B f t = sw B (L - B) s.take.toNat fun _ => rest l (L - s.take.toNat) := by
      show cg _ _ (s :: l) L B f t = _
      unfold cg
      refine sw_congr fun n h1 h2 h3 => ?_
      split
      · rfl
      · split
        · rfl
        · rename_i h4 h5
          cases l with
          | nil => exact absurd (show saysV s ((f + n : Nat) : Int) = 3 by unfold saysV; rw [if_neg h4, if_neg h5]) (Hand.lastDec_open hd)
          | cons s' l => exact cD_rest (s' :: l) _ _ _ _ (by simp) hd (by omega)
    rw [e, sw_const, show B + (L - B) = L by omega]
    rfl

theorem cA_le (l : List Stg) (L B f t : Nat) : cA l L B f t ≤ cD l L B f t := cg_le (fun _ _ => Nat.le_refl _) (fun _ _ => Nat.zero_le _) l L B f t

theorem cP_le : ∀ (l : List Stg) (L B f t T : Nat), t + tot l ≤ T → cP l L B f t ≤ T * cD l L B f t
  | [], _, _, _, _, _, _ => Nat.zero_le _
  | s :: l, L, B, f, t, T, h => by
    have h' : t + s.take.toNat + tot l ≤ T := by unfold tot at h; omega
    show cg _ _ (s :: l) L B f t ≤ T * cg _ _ (s :: l) L B f t
    unfold cg
    rw [← sw_mul]
    refine sw_le fun n _ _ _ => ?_
    split
    · exact Nat.mul_le_mul_right _ (by omega)
    · split
      · exact Nat.mul_le_mul_right _ (by omega)
      · exact cP_le l _ _ _ _ T h'

theorem cP_ge : ∀ (l : List Stg) (L B f t T : Nat), (∀ s l', l = s :: l' → T ≤ t + s.take.toNat) → T * cD l L B f t ≤ cP l L B f t
  | [], _, _, _, _, _, _ => Nat.le_refl _
  | s :: l, L, B, f, t, T, h => by
    have h' := h s l rfl
    show T * cg _ _ (s :: l) L B f t ≤ cg _ _ (s :: l) L B f t
    unfold cg
    rw [← sw_mul]
    refine sw_le fun n _ _ _ => ?_
    split
    · exact Nat.mul_le_mul_right _ (by omega)
    · split
      · exact Nat.mul_le_mul_right _ (by omega)
      · exact cP_ge l _ _ _ _ T (fun s' l' _ => by omega)

/-! ### Bounds -/
def rowN : Nat → List Nat
  | 0 => [1]
  | n + 1 => 1 :: (List.zipWith (· + ·) (rowN n) ((rowN n).tail ++ [0]))
theorem rowN_length : ∀ n, (rowN n).length = n + 1
  | 0 => rfl
  | n + 1 => by simp [rowN, rowN_length n]
theorem rowN_ch : ∀ n k, k ≤ n → (rowN n)[k]? = some (ch n k)
  | 0, 0, _ => rfl
  | 0, _ + 1, h => absurd h (by omega)
  | n + 1, 0, _ => by simp [rowN, ch_zero]
  | n + 1, k + 1, h => by
    have hl := rowN_length n
    rw [rowN, List.getElem?_cons_succ, List.getElem?_zipWith, rowN_ch n k (by omega)]
    by_cases h1 : k + 1 ≤ n
    · rw [List.getElem?_append_left (by simp [hl]; omega), List.getElem?_tail, rowN_ch n (k + 1) h1]
      rfl
    · rw [List.getElem?_append_right (by simp [hl]; omega)]
      have : k - (rowN n).tail.length = 0 := by simp [hl]; omega
      rw [this]
      have h2 := ch_above n (k + 1) (by omega)
      simp [ch, h2]

/-- All of a row of the triangle, times some function of what is left, is at most M. -/
def rowB (n : Nat) (g : Nat → Nat) (M : Nat) : Bool := ((rowN n).zipIdx).all fun x => decide (x.1 * g (n - x.2) ≤ M)
theorem rowB_ch {n M : Nat} {g : Nat → Nat} (h : rowB n g M = true) (k : Nat) : ch n k * g (n - k) ≤ M := by
  by_cases hk : k ≤ n
  · have h1 := rowN_ch n k hk
    have h2 := List.all_eq_true.1 h (ch n k, k) (List.mem_iff_getElem?.2 ⟨k, by simp [h1]⟩)
    exact of_decide_eq_true h2
  · rw [ch_above n k (by omega)]; simp

def b1 : List Nat := [1, 1, 2, 3, 6, 10, 20, 35, 70, 126, 252, 462, 924, 1716, 3432, 6435, 12870, 24310, 48620, 92378, 184756, 352716, 705432, 1352078, 2704156, 5200300, 10400600, 20058300, 40116600, 77558760, 155117520]
def b2 : List Nat := [1, 1, 2, 6, 12, 30, 90, 210, 560, 1680, 4200, 11550, 34650, 90090, 252252, 756756, 2018016, 5717712, 17153136, 46558512, 133024320, 399072960, 1097450640, 3155170590, 9465511770, 26293088250, 75957810500, 227873431500, 638045608200, 1850332263780, 5550996791340]
def b3 : List Nat := [1, 1, 2, 6, 24, 60, 180, 630, 2520, 7560, 25200, 92400, 369600, 1201200, 4204200, 15765750, 63063000, 214414200, 771891120, 2933186256, 11732745024, 41064607584, 150570227808, 577185873264, 2308743493056, 8245512475200, 30626189193600, 118129586889600, 472518347558400, 1712879009899200, 6423296287122000]
theorem b1_ok : ∀ n, n < 31 → rowB n (fun _ => 1) (b1.getD n 0) = true := by decide +kernel
theorem b2_ok : ∀ n, n < 31 → rowB n (fun m => b1.getD m 0) (b2.getD n 0) = true := by decide +kernel
theorem b3_ok : ∀ n, n < 31 → rowB n (fun m => b2.getD m 0) (b3.getD n 0) = true := by decide +kernel
theorem b3_le : ∀ n, n < 31 → b3.getD n 0 ≤ 6430000000000000 := by decide +kernel

theorem rest1 (l : List Stg) (L : Nat) (hL : L < 31) (hl : l.length ≤ 1) : rest l L ≤ b1.getD L 0 := by
  match l, hl with
  | [], _ =>
    have := rowB_ch (b1_ok L hL) 0
    rw [ch_zero] at this
    exact this
  | [s], _ => exact rowB_ch (b1_ok L hL) s.take.toNat
theorem rest2 (l : List Stg) (L : Nat) (hL : L < 31) (hl : l.length ≤ 2) : rest l L ≤ b2.getD L 0 := by
  match l, hl with
  | [], _ =>
    have h1 := rowB_ch (b2_ok L hL) 0
    have h2 := rest1 [] L hL (by simp)
    rw [ch_zero, Nat.one_mul, Nat.sub_zero] at h1
    exact Nat.le_trans h2 h1
  | s :: l, h =>
    have h1 := rowB_ch (b2_ok L hL) s.take.toNat
    have h2 := rest1 l (L - s.take.toNat) (by omega) (by simpa using h)
    exact Nat.le_trans (Nat.mul_le_mul_left _ h2) h1
theorem rest3 (l : List Stg) (L : Nat) (hL : L < 31) (hl : l.length ≤ 3) : rest l L ≤ b3.getD L 0 := by
  match l, hl with
  | [], _ =>
    have h1 := rowB_ch (b3_ok L hL) 0
    have h2 := rest2 [] L hL (by simp)
    rw [ch_zero, Nat.one_mul, Nat.sub_zero] at h1
    exact Nat.le_trans h2 h1
  | s :: l, h =>
    have h1 := rowB_ch (b3_ok L hL) s.take.toNat
    have h2 := rest2 l (L - s.take.toNat) (by omega) (by simpa using h)
    exact Nat.le_trans (Nat.mul_le_mul_left _ h2) h1
theorem rest_le (l : List Stg) (L : Nat) (hL : L ≤ 30) (hl : l.length ≤ 3) : rest l L ≤ 6430000000000000 :=
  Nat.le_trans (rest3 l L (by omega) hl) (b3_le L (by omega))

theorem rest_pos : ∀ (l : List Stg) (L t : Nat), fits L t l → ∀ m, m = L - t → 0 < rest l m
  | [], _, _, _, _, _ => Nat.one_pos
  | s :: l, L, t, h, m, hm => by
    obtain ⟨h1, h2, h3⟩ := h
    exact Nat.mul_pos (ch_pos _ _ (by omega)) (rest_pos l L _ h3 _ (by omega))

theorem fits_tot : ∀ (l : List Stg) (L t : Nat), t ≤ L → fits L t l → t + tot l ≤ L
  | [], _, _, ht, _ => ht
  | s :: l, L, t, _, h => by
    obtain ⟨h1, h2, h3⟩ := h
    have := fits_tot l L _ h2 h3
    unfold tot
    omega
end Go.Proofs.Ytigpnafpdmdmhaa.Ma

namespace Go.Proofs.Ytigpnafpdmdmhaa.Ma
open Hand (Stg Cnt saysV tri lastDec fits drList drVal drLo cntW decided restW Valid)
open Go.RowKit

theorem w_mod (x : Int) : ∃ q : Int, wrap64 x = x + q * 18446744073709551616 := by
  unfold wrap64; exact ⟨-((x + 9223372036854775808) / 18446744073709551616), by omega⟩
theorem w_eq {x y : Int} (q : Int) (h : x = y + q * 18446744073709551616) : wrap64 x = wrap64 y := by
  subst h; unfold wrap64; omega
theorem w_add (x y : Int) : wrap64 (wrap64 x + wrap64 y) = wrap64 (x + y) := by
  obtain ⟨a, ha⟩ := w_mod x
  obtain ⟨b, hb⟩ := w_mod y
  exact w_eq (a + b) (by rw [ha, hb, Int.add_mul]; omega)
theorem w_mul (x y : Int) : wrap64 (wrap64 x * wrap64 y) = wrap64 (x * y) := by
  obtain ⟨a, ha⟩ := w_mod x
  obtain ⟨b, hb⟩ := w_mod y
  refine w_eq (a * wrap64 y + x * b) ?_
  rw [ha, Int.add_mul]
  conv => lhs; lhs; rw [hb, Int.mul_add]
  rw [Int.add_mul, ← Int.mul_assoc x b, Int.mul_right_comm a]
  omega
theorem w_mulr (x y : Int) : wrap64 (x * wrap64 y) = wrap64 (x * y) := by
  rw [Int.mul_comm, Hand.mul_mod, Int.mul_comm]
theorem w_id {x : Int} (h1 : -9223372036854775808 ≤ x) (h2 : x ≤ 9223372036854775807) : wrap64 x = x := by unfold wrap64; omega

theorem w_nat {x : Int} (n : Nat) (h : x = n) (hn : n ≤ 100000) : wrap64 x = n := by
  subst h
  exact w_id (by omega) (by omega)
theorem restW_rest (lot : Nat) : ∀ (l : List Stg) (t : Nat), restW lot t l = wrap64 (rest l (lot - t) : Int)
  | [], _ => by unfold restW rest wrap64; omega
  | s :: l, t => by
    rw [restW, restW_rest lot l, rest, tri_ch, w_mulr, Nat.sub_sub]
    simp

/-- Counts in the machine's words. -/
def wc (a p d : Nat) : Cnt := ⟨wrap64 (a : Int), wrap64 (p : Int), wrap64 (d : Int)⟩

theorem wc_zero : wc 0 0 0 = ⟨0, 0, 0⟩ := by
  have w0 : wrap64 ((0 : Nat) : Int) = 0 := by unfold wrap64; omega
  unfold wc
  rw [w0]
theorem add_wc (a p d m a' p' d' : Nat) : (wc a p d).add (wrap64 (m : Int)) (wc a' p' d') = wc (a + m * a') (p + m * p') (d + m * d') := by
  have h : ∀ x y : Nat, wrap64 (wrap64 (x : Int) + wrap64 (wrap64 (m : Int) * wrap64 (y : Int))) = wrap64 ((x + m * y : Nat) : Int) := fun x y => by
    rw [w_mul, w_add]; simp
  unfold Cnt.add wc
  simp only [h]

theorem foldl_wc (p x y z : Nat → Nat) : ∀ (m s a b c : Nat),
    (List.range' s m).foldl (fun o n => o.add (wrap64 (p n : Int)) (wc (x n) (y n) (z n))) (wc a b c) =
      wc (a + sm m (fun i => p (s + i) * x (s + i))) (b + sm m (fun i => p (s + i) * y (s + i))) (c + sm m (fun i => p (s + i) * z (s + i)))
  | 0, _, _, _, _ => rfl
  | m + 1, s, a, b, c => by
    rw [List.range'_succ, List.foldl_cons, add_wc, foldl_wc p x y z m (s + 1)]
    have h : ∀ q : Nat → Nat, ∀ v : Nat, v + p s * q s + sm m (fun i => p (s + 1 + i) * q (s + 1 + i)) = v + sm (m + 1) (fun i => p (s + i) * q (s + i)) := fun q v => by
      rw [sm_head, Nat.add_zero, Nat.add_assoc]
      congr 2
      exact sm_congr fun i _ => by rw [Nat.add_assoc, Nat.add_comm 1]
    rw [h, h, h]

theorem sm_split (f : Nat → Nat) (a : Nat) : ∀ m, sm (a + m) f = sm a f + sm m (fun i => f (a + i))
  | 0 => rfl
  | m + 1 => by rw [← Nat.add_assoc, sm, sm_split f a m, sm, Nat.add_assoc]
theorem sm_null {f : Nat → Nat} {k : Nat} (h : ∀ i, i < k → f i = 0) : sm k f = 0 := by
  induction k with
  | zero => rfl
  | succ k ih => rw [sm, ih (fun i hi => h i (by omega)), h k (by omega)]

theorem sw_dr (B g k : Nat) (H : Nat → Nat) : sm (min k B + 1 - (k - g)) (fun i => ch B (k - g + i) * ch g (k - (k - g + i)) * H (k - g + i)) = sw B g k H := by
  unfold sw
  have lo : ∀ n, n < k - g → ch B n * ch g (k - n) * H n = 0 := fun n hn => by rw [ch_above g (k - n) (by omega)]; simp
  have hi : ∀ n, B < n → ch B n * ch g (k - n) * H n = 0 := fun n hn => by rw [ch_above B n hn]; simp
  by_cases h : k - g ≤ min k B
  · obtain ⟨m, hm⟩ : ∃ m, k + 1 = (k - g) + ((min k B + 1 - (k - g)) + m) := ⟨k + 1 - (min k B + 1), by omega⟩
    conv => rhs; rw [hm, sm_split, sm_split]
    rw [sm_null (k := k - g) (fun i hi' => lo i hi'), sm_null (k := m) (fun i hi' => hi _ (by omega))]
    omega
  · rw [show min k B + 1 - (k - g) = 0 by omega]
    refine Eq.symm (sm_null fun i hi' => ?_)
    by_cases h1 : i < k - g
    · exact lo i h1
    · exact hi i (by omega)

theorem fold_sw (B g k : Nat) (x y z : Nat → Nat) : (List.range' (k - g) (min k B + 1 - (k - g))).foldl (fun o n => o.add (wrap64 ((ch B n * ch g (k - n) : Nat) : Int)) (wc (x n) (y n) (z n))) ⟨0, 0, 0⟩ = wc (sw B g k x) (sw B g k y) (sw B g k z) := by
  rw [← wc_zero, foldl_wc (fun n => ch B n * ch g (k - n)), ← sw_dr B g k x, ← sw_dr B g k y, ← sw_dr B g k z, Nat.zero_add, Nat.zero_add, Nat.zero_add]
theorem decided_wc (lot : Nat) (s : Stg) (l : List Stg) (tk f : Nat) (a p d : Nat) :
    decided lot s l tk (f : Int) (wc a p d) = wc
      (if (f : Int) ≤ s.accept then rest l (lot - tk) else if s.reject ≤ (f : Int) then 0 else a)
      (if (f : Int) ≤ s.accept then tk * rest l (lot - tk) else if s.reject ≤ (f : Int) then tk * rest l (lot - tk) else p)
      (if (f : Int) ≤ s.accept then rest l (lot - tk) else if s.reject ≤ (f : Int) then rest l (lot - tk) else d) := by
  have e : wrap64 ((tk : Int) * restW lot tk l) = wrap64 ((tk * rest l (lot - tk) : Nat) : Int) := by
    rw [restW_rest, w_mulr]; simp
  unfold decided saysV
  rw [e, restW_rest]
  have w0 : wrap64 ((0 : Nat) : Int) = 0 := by unfold wrap64; omega
  have n1 : ¬ ((2 : Int) = 1) := by decide
  have n2 : ¬ ((3 : Int) = 1) := by decide
  have n3 : ¬ ((3 : Int) = 2) := by decide
  by_cases h1 : (f : Int) ≤ s.accept
  · simp only [if_pos h1, wc]; rfl
  · by_cases h2 : s.reject ≤ (f : Int)
    · simp only [if_neg h1, if_pos h2, if_neg n1, wc, w0]; rfl
    · simp only [if_neg h1, if_neg h2, if_neg n2, if_neg n3]

theorem cntW_wc (lot bad : Nat) : ∀ (l : List Stg) (t b : Nat), cntW lot bad l t b = wc (cA l (lot - t) (bad - b) b t) (cP l (lot - t) (bad - b) b t) (cD l (lot - t) (bad - b) b t)
  | [], _, _ => wc_zero.symm
  | s :: l, t, b => by
    unfold cntW drList
    rw [List.foldl_map]
    have e : ∀ (o : Cnt) (n : Nat), o.add (drVal s.take.toNat (lot - t) (bad - b) n).2 (decided lot s l (t + s.take.toNat) ((b : Int) + (drVal s.take.toNat (lot - t) (bad - b) n).1) (cntW lot bad l (t + s.take.toNat) (b + (drVal s.take.toNat (lot - t) (bad - b) n).1.toNat)))
        = o.add (wrap64 ((ch (bad - b) n * ch (lot - t - (bad - b)) (s.take.toNat - n) : Nat) : Int)) (wc
          (if ((b + n : Nat) : Int) ≤ s.accept then rest l (lot - t - s.take.toNat) else if s.reject ≤ ((b + n : Nat) : Int) then 0 else cA l (lot - t - s.take.toNat) (bad - b - n) (b + n) (t + s.take.toNat))
          (if ((b + n : Nat) : Int) ≤ s.accept then (t + s.take.toNat) * rest l (lot - t - s.take.toNat) else if s.reject ≤ ((b + n : Nat) : Int) then (t + s.take.toNat) * rest l (lot - t - s.take.toNat) else cP l (lot - t - s.take.toNat) (bad - b - n) (b + n) (t + s.take.toNat))
          (if ((b + n : Nat) : Int) ≤ s.accept then rest l (lot - t - s.take.toNat) else if s.reject ≤ ((b + n : Nat) : Int) then rest l (lot - t - s.take.toNat) else cD l (lot - t - s.take.toNat) (bad - b - n) (b + n) (t + s.take.toNat))) := fun o n => by
      have h1 : (drVal s.take.toNat (lot - t) (bad - b) n).1 = (n : Int) := rfl
      have h2 : (drVal s.take.toNat (lot - t) (bad - b) n).2 = wrap64 ((ch (bad - b) n * ch (lot - t - (bad - b)) (s.take.toNat - n) : Nat) : Int) := by
        unfold drVal
        simp only [tri_ch]
        simp
      rw [h1, h2, Int.toNat_natCast, cntW_wc lot bad l, show (b : Int) + (n : Int) = ((b + n : Nat) : Int) by simp, decided_wc]
      simp only [Nat.sub_sub]
    rw [show (fun (x : Cnt) (y : Nat) => x.add (drVal s.take.toNat (lot - t) (bad - b) y).2 (decided lot s l (t + s.take.toNat) ((b : Int) + (drVal s.take.toNat (lot - t) (bad - b) y).1) (cntW lot bad l (t + s.take.toNat) (b + (drVal s.take.toNat (lot - t) (bad - b) y).1.toNat)))) = _ from funext fun o => funext fun n => e o n]
    exact fold_sw (bad - b) (lot - t - (bad - b)) s.take.toNat
      (fun n => if ((b + n : Nat) : Int) ≤ s.accept then rest l (lot - t - s.take.toNat) else if s.reject ≤ ((b + n : Nat) : Int) then 0 else cA l (lot - t - s.take.toNat) (bad - b - n) (b + n) (t + s.take.toNat))
      (fun n => if ((b + n : Nat) : Int) ≤ s.accept then (t + s.take.toNat) * rest l (lot - t - s.take.toNat) else if s.reject ≤ ((b + n : Nat) : Int) then (t + s.take.toNat) * rest l (lot - t - s.take.toNat) else cP l (lot - t - s.take.toNat) (bad - b - n) (b + n) (t + s.take.toNat))
      (fun n => if ((b + n : Nat) : Int) ≤ s.accept then rest l (lot - t - s.take.toNat) else if s.reject ≤ ((b + n : Nat) : Int) then rest l (lot - t - s.take.toNat) else cD l (lot - t - s.take.toNat) (bad - b - n) (b + n) (t + s.take.toNat))
termination_by l => l.length

/-- A valid plan's counts, for so many bad pieces: no number is too great for the machine. -/
theorem cnt_ok {lot : Nat} {l : List Stg} (h : Valid lot l) (bad : Nat) (hb : bad ≤ lot) :
    cntW lot bad l 0 0 = ⟨(cA l lot bad 0 0 : Int), (cP l lot bad 0 0 : Int), (rest l lot : Int)⟩ ∧ cA l lot bad 0 0 ≤ rest l lot ∧ cP l lot bad 0 0 ≤ tot l * rest l lot ∧ tot l ≤ lot ∧ 0 < rest l lot ∧ rest l lot ≤ 6430000000000000 := by
  have h1 : lot ≤ 30 := by have := h.hi; omega
  have hf : fits lot 0 l := by have := h.fit; rwa [Int.toNat_natCast] at this
  have h2 := rest_le l lot h1 h.len
  have h3 := cD_rest l lot bad 0 0 h.ne h.last hb
  have h4 := cA_le l lot bad 0 0
  have h5 := cP_le l lot bad 0 0 (tot l) (by omega)
  have h6 : tot l ≤ lot := by have := fits_tot l lot 0 (by omega) hf; omega
  have h7 := rest_pos l lot 0 hf lot (by omega)
  rw [h3] at h4 h5
  have h8 : tot l * rest l lot ≤ 30 * 6430000000000000 := Nat.mul_le_mul (by omega) h2
  refine ⟨?_, h4, h5, h6, h7, h2⟩
  rw [cntW_wc, Nat.sub_zero, Nat.sub_zero, h3]
  unfold wc
  rw [w_id (by omega) (by omega), w_id (by omega) (by omega), w_id (by omega) (by omega)]
end Go.Proofs.Ytigpnafpdmdmhaa.Ma

namespace Go.Proofs.Ytigpnafpdmdmhaa.P
open Go.RowKit Go.Proofs.YtigpnafpdmdmhaaW.PrintWords Go.Proofs.YtigpnafpdmdmhaaW.PrintLast

/-! ### tensilelaw09_ready: function 26 -/
def tensilelaw09_ready.f (k : Nat) (a0_0 : Int) (l0_1 : List (S57)) : Option (Bool) := (tensilelaw09_Thin.f a0_0 l0_1).bind fun t164 => (if t164 = true then ((tensileref09_Fault.f k a0_0 l0_1).bind fun t165 => (some (t165 == 0))) else (some false))
theorem tensilelaw09_ready.mono : ∀ a0 a1 k, LeO (tensilelaw09_ready.f k a0 a1) (tensilelaw09_ready.f (k + 1) a0 a1) := by
  intro a0 a1 k
  unfold tensilelaw09_ready.f
  repeat' first
      | (with_reducible exact tensileref09_Fault.mono _ _ _)
      | (with_reducible exact LeO.refl _)
      | (with_reducible exact LeO.none _)
      | (with_reducible refine LeO.ite ?_ ?_)
      | (with_reducible refine LeO.bind ?_ (fun _ => ?_))
      | exact tensileref09_Fault.mono _ _ _
      | exact LeO.none _
      | refine LeO.ite ?_ ?_
      | refine LeO.bind ?_ (fun _ => ?_)
set_option maxHeartbeats 8000000 in
set_option maxRecDepth 100000 in
theorem tensilelaw09_ready.calls (k : Nat) (a0_0 : Int) (A0_1 : Option Addr) (c0_1 : Nat) (l0_1 : List (S57)) (r : Bool) (w : World) (hr0_1 : Kd.C k57 w A0_1 l0_1.length l0_1) (hc0_1 : l0_1.length ≤ c0_1) (h : tensilelaw09_ready.f k a0_0 l0_1 = some r) :
    Calls Try.prog 26 #[.agg #[.int .i64 a0_0, .slice A0_1 l0_1.length c0_1]] w fun e w' => e = .returned (.bool r) ∧ Below w.heap.size w w' := by
  have hu24 := Try.underlying24
  have HR0_1 := Aside0.mk hr0_1
  have HC0_1 := Aside0.mk hc0_1
  clear hr0_1 hc0_1
  have HB := Aside0.mk (Below.refl w.heap.size w)
  have H : ((tensilelaw09_Thin.f a0_0 l0_1).bind fun t164 => (if t164 = true then ((tensileref09_Fault.f k a0_0 l0_1).bind fun t165 => (some (t165 == 0))) else (some false))) = some r := h
  clear h
  replace H := Option.bind_eq_some_iff.mp H
  obtain ⟨t164, A20, H⟩ := H
  replace H : (if t164 = true then ((tensileref09_Fault.f k a0_0 l0_1).bind fun t165 => (some (t165 == 0))) else (some false)) = some r := H
  have A2 := Aside0.mk A20
  clear A20
  by_cases c3 : t164 = true
  · subst c3
    have H1 : ((tensileref09_Fault.f k a0_0 l0_1).bind fun t165 => (some (t165 == 0))) = some r := by rw [if_pos rfl] at H; exact H
    clear H
    have H := H1
    clear H1
    replace H := Option.bind_eq_some_iff.mp H
    obtain ⟨t165, A40, H⟩ := H
    replace H : (some (t165 == 0)) = some r := H
    have A4 := Aside0.mk A40
    clear A40
    obtain rfl := Option.some.inj H
    go_enter Try.func26, Try.ntmps26
    go_wp2_with (first | ((with_reducible refine gate_dst (N := 1) rfl ?_); refine box_event ?hg (N := 1) ?hd (cs := #[.int .i64 a0_0, .slice A0_1 l0_1.length c0_1]) (t := 24) ?hr ?_; (case hd => rfl); (case hg => rfl); (case hr => first | (go_simp; done) | (go_simp; rfl)); intro gb163 hg w5 hbox hb; have n0_ := Aside0.mk (below_step (by repeat (first | (with_reducible first | exact HB.out | apply below_alloc | apply pw_below_drewN | apply below_drew1) | exact HB.out)) hb); have n1_ := Aside0.mk (hbox); have n2_ := Aside0.mk ((by rw [hg]; exact (below_size (by repeat (first | (with_reducible first | exact HB.out | apply below_alloc | apply pw_below_drewN | apply below_drew1) | exact HB.out))) : w.heap.size ≤ gb163)); have n3_ := Aside0.mk ((by rw [hg]; exact (below_size (by repeat (first | (with_reducible first | exact HB.out | apply below_alloc | apply pw_below_drewN | apply below_drew1) | exact HB.out))) : w.heap.size ≤ gb163)); clear HB; have HB := n0_; have BK163 := n1_; have GW163 := n2_; have GE163 := n3_; clear n0_ n1_ n2_ n3_; clear hb hbox hg; have hcz6_0 : w5.cell? ⟨gb163, 0, none⟩ = some (.int .i64 a0_0) := (blk_cell BK163.out 0).trans rfl; have hcz6_1 : w5.cell? ⟨gb163, 1, none⟩ = some (.slice A0_1 l0_1.length c0_1) := (blk_cell BK163.out 1).trans rfl; have hfz6_0 := blk_frozen BK163.out 0; have hfz6_1 := blk_frozen BK163.out 1) | ((with_reducible refine gate_callee (f := 14) rfl ?_); refine goesL_ (some 4) rfl rfl Try.func14 (by kernel_rfl) rfl #[.agg #[.int .i64 a0_0, .slice A0_1 l0_1.length c0_1]] rfl (by (try simp only [List.map_toArray, List.map_cons, List.map_nil]); first | done | rfl | (simp only [List.length_drop, List.length_take]; rfl)) ?_; (with_reducible refine (tensilelaw09_Thin.calls a0_0 _ _ l0_1 true _ ?side1 ?side2 A2.out).mono ?_); (case side1 => repeat (first | exact (Kd.C_below HR0_1.out HB.out) | (with_reducible refine Kd.C_alloc ?_ _) | (with_reducible refine Kd.C_drewN ?_ _) | (with_reducible refine Kd.C_drew ?_))); (case side2 => exact HC0_1.out); rintro e w7 ⟨rfl, hb⟩; refine ⟨_, rfl, ?_⟩; have n0_ := Aside0.mk (blk_below (g := gb163) (o := .cells #[.int .i64 a0_0, .slice A0_1 l0_1.length c0_1] 24 (0, 0)) (by (with_reducible repeat (first | refine blk_drewN ?_ _ | refine blk_drew ?_ | refine blk_alloc ?_ _)); exact BK163.out) hb); have n1_ := Aside0.mk (below_step (by repeat (first | (with_reducible first | exact HB.out | apply below_alloc | apply pw_below_drewN | apply below_drew1 | refine below_set ?_ GE163.out) | exact HB.out)) hb); clear BK163; clear HB; have BK163 := n0_; have HB := n1_; clear n0_ n1_; (try clear hb); (try clear hb2); (try clear hk); (try clear hi); have hcz8_0 : w7.cell? ⟨gb163, 0, none⟩ = some (.int .i64 a0_0) := (blk_cell BK163.out 0).trans rfl; have hcz8_1 : w7.cell? ⟨gb163, 1, none⟩ = some (.slice A0_1 l0_1.length c0_1) := (blk_cell BK163.out 1).trans rfl; have hfz8_0 := blk_frozen BK163.out 0; have hfz8_1 := blk_frozen BK163.out 1) | (go_at_call 37; (with_reducible refine (tensileref09_Fault.calls k a0_0 _ _ l0_1 t165 _ ?side1 ?side2 A4.out).mono ?_); (case side1 => repeat (first | exact (Kd.C_below HR0_1.out HB.out) | (with_reducible refine Kd.C_alloc ?_ _) | (with_reducible refine Kd.C_drewN ?_ _) | (with_reducible refine Kd.C_drew ?_))); (case side2 => exact HC0_1.out); rintro e w9 ⟨rfl, hb⟩; have n0_ := Aside0.mk (blk_below (g := gb163) (o := .cells #[.int .i64 a0_0, .slice A0_1 l0_1.length c0_1] 24 (0, 0)) (by (with_reducible repeat (first | refine blk_drewN ?_ _ | refine blk_drew ?_ | refine blk_alloc ?_ _)); exact BK163.out) hb); have n1_ := Aside0.mk (below_step (by repeat (first | (with_reducible first | exact HB.out | apply below_alloc | apply pw_below_drewN | apply below_drew1 | refine below_set ?_ GE163.out) | exact HB.out)) hb); clear BK163; clear HB; have BK163 := n0_; have HB := n1_; clear n0_ n1_; (try clear hb); (try clear hb2); (try clear hk); (try clear hi)))
    go_ret
    exact ⟨by first | rfl | (simp [errW_none, errW_some] <;> rfl) | (simp [*, errW_none, errW_some] <;> rfl), by repeat (first | (with_reducible first | exact HB.out | apply below_alloc | apply pw_below_drewN | apply below_drew1 | refine below_set ?_ GE163.out) | exact HB.out)⟩
  · replace c3 := Bool.eq_false_iff.mpr c3
    subst c3
    have H1 : (some false) = some r := by rw [if_neg (show ¬ (false = true) by decide)] at H; exact H
    clear H
    have H := H1
    clear H1
    obtain rfl := Option.some.inj H
    go_enter Try.func26, Try.ntmps26
    go_wp2_with (first | ((with_reducible refine gate_dst (N := 1) rfl ?_); refine box_event ?hg (N := 1) ?hd (cs := #[.int .i64 a0_0, .slice A0_1 l0_1.length c0_1]) (t := 24) ?hr ?_; (case hd => rfl); (case hg => rfl); (case hr => first | (go_simp; done) | (go_simp; rfl)); intro gb163 hg w10 hbox hb; have n0_ := Aside0.mk (below_step (by repeat (first | (with_reducible first | exact HB.out | apply below_alloc | apply pw_below_drewN | apply below_drew1) | exact HB.out)) hb); have n1_ := Aside0.mk (hbox); have n2_ := Aside0.mk ((by rw [hg]; exact (below_size (by repeat (first | (with_reducible first | exact HB.out | apply below_alloc | apply pw_below_drewN | apply below_drew1) | exact HB.out))) : w.heap.size ≤ gb163)); have n3_ := Aside0.mk ((by rw [hg]; exact (below_size (by repeat (first | (with_reducible first | exact HB.out | apply below_alloc | apply pw_below_drewN | apply below_drew1) | exact HB.out))) : w.heap.size ≤ gb163)); clear HB; have HB := n0_; have BK163 := n1_; have GW163 := n2_; have GE163 := n3_; clear n0_ n1_ n2_ n3_; clear hb hbox hg; have hcz11_0 : w10.cell? ⟨gb163, 0, none⟩ = some (.int .i64 a0_0) := (blk_cell BK163.out 0).trans rfl; have hcz11_1 : w10.cell? ⟨gb163, 1, none⟩ = some (.slice A0_1 l0_1.length c0_1) := (blk_cell BK163.out 1).trans rfl; have hfz11_0 := blk_frozen BK163.out 0; have hfz11_1 := blk_frozen BK163.out 1) | ((with_reducible refine gate_callee (f := 14) rfl ?_); refine goesL_ (some 4) rfl rfl Try.func14 (by kernel_rfl) rfl #[.agg #[.int .i64 a0_0, .slice A0_1 l0_1.length c0_1]] rfl (by (try simp only [List.map_toArray, List.map_cons, List.map_nil]); first | done | rfl | (simp only [List.length_drop, List.length_take]; rfl)) ?_; (with_reducible refine (tensilelaw09_Thin.calls a0_0 _ _ l0_1 false _ ?side1 ?side2 A2.out).mono ?_); (case side1 => repeat (first | exact (Kd.C_below HR0_1.out HB.out) | (with_reducible refine Kd.C_alloc ?_ _) | (with_reducible refine Kd.C_drewN ?_ _) | (with_reducible refine Kd.C_drew ?_))); (case side2 => exact HC0_1.out); rintro e w12 ⟨rfl, hb⟩; refine ⟨_, rfl, ?_⟩; have n0_ := Aside0.mk (blk_below (g := gb163) (o := .cells #[.int .i64 a0_0, .slice A0_1 l0_1.length c0_1] 24 (0, 0)) (by (with_reducible repeat (first | refine blk_drewN ?_ _ | refine blk_drew ?_ | refine blk_alloc ?_ _)); exact BK163.out) hb); have n1_ := Aside0.mk (below_step (by repeat (first | (with_reducible first | exact HB.out | apply below_alloc | apply pw_below_drewN | apply below_drew1 | refine below_set ?_ GE163.out) | exact HB.out)) hb); clear BK163; clear HB; have BK163 := n0_; have HB := n1_; clear n0_ n1_; (try clear hb); (try clear hb2); (try clear hk); (try clear hi)))
    go_ret
    exact ⟨by first | rfl | (simp [errW_none, errW_some] <;> rfl) | (simp [*, errW_none, errW_some] <;> rfl), by repeat (first | (with_reducible first | exact HB.out | apply below_alloc | apply pw_below_drewN | apply below_drew1 | refine below_set ?_ GE163.out) | exact HB.out)⟩

end Go.Proofs.Ytigpnafpdmdmhaa.P

namespace Go.Proofs.Ytigpnafpdmdmhaa.Pure
open Go.RowKit Go.Proofs.Ytigpnafpdmdmhaa.P Go.Proofs.YtigpnafpdmdmhaaW.PrintWords
open Hand (Stg saysV fits lastDec Valid Cnt cntW shareV)
open Ma


theorem wakes_f : tensilelaw09_wakes.f = some true := rfl

theorem ready_f (a : Int) (l : List S57) (ha : Fits a) (hl : ∀ s ∈ l, Fits s.f0 ∧ Fits s.f1 ∧ Fits s.f2) (K : Nat) (hK : 30 ≤ K) :
    tensilelaw09_ready.f K a l = some (decide (l.length ≤ 5) && (Hand.checkPlan a (l.map cSt) == 0)) := by
  unfold tensilelaw09_ready.f tensilelaw09_Thin.f
  rw [Option.bind_some]
  by_cases h5 : l.length ≤ 5
  · have h5' : (l.length : Int) ≤ 5 := by omega
    rw [decide_eq_true h5, decide_eq_true h5', if_pos rfl, fault_f a l ha hl h5 K hK, Option.bind_some, Bool.true_and]
  · have h5' : ¬ (l.length : Int) ≤ 5 := by omega
    rw [decide_eq_false h5, decide_eq_false h5', if_neg (by decide), Bool.false_and]

theorem good_of (a : Int) (l : List S57) (hl : ∀ s ∈ l, Fits s.f0 ∧ Fits s.f1 ∧ Fits s.f2) (h : Hand.checkPlan a (l.map cSt) = 0) : good a 0 (-1) 0 (l.map cSt) := by
  classical
  unfold Hand.checkPlan at h
  split at h; · cases h
  split at h
  case isFalse => cases h
  rename_i h1
  obtain ⟨a1, a2, a3, a4⟩ := h1
  have := chk_good a a2 (l.map cSt) 0 ⟨0, -1, 0⟩ (by omega) (by omega) (by decide) (by decide) (fun s hs => by
    refine ⟨by simpa using List.all_eq_true.1 a4 s hs, ?_⟩
    obtain ⟨x, hx, rfl⟩ := List.mem_map.1 hs
    exact (fits_in (hl x hx).2.1).2) (fun e => absurd (by simp [e]) a3) (by decide)
  rw [h] at this
  by_cases hg : good a 0 (-1) 0 (l.map cSt)
  · exact hg
  · rw [if_neg hg] at this; cases this

theorem good_reject {lot : Int} : ∀ {l : List Stg} {t pa pr : Int}, good lot t pa pr l → ∀ s ∈ l, pr ≤ s.reject ∧ s.accept < s.reject
  | _ :: _, _, _, _, h, s, hs => by
    rcases List.mem_cons.1 hs with rfl | hs
    · exact ⟨h.2.1.2.2.2, h.2.1.2.1⟩
    · have h1 := good_reject h.2.2.2 s hs
      exact ⟨Int.le_trans h.2.1.2.2.2 h1.1, h1.2⟩
theorem good_take30 {lot : Int} : ∀ {l : List Stg} {t pa pr : Int}, 0 ≤ t → lot ≤ 30 → good lot t pa pr l → ∀ s ∈ l, 1 ≤ s.take ∧ s.take ≤ 30
  | _ :: _, _, _, _, h0, hl, h, s, hs => by
    have h1 := h.1
    rcases List.mem_cons.1 hs with rfl | hs
    · omega
    · exact good_take30 (by omega) hl h.2.2.2 s hs
theorem take30 {a : Int} {l : List S57} (ha : a ≤ 30) (h : good a 0 (-1) 0 (l.map cSt)) : ∀ s ∈ l, 1 ≤ s.f0 ∧ s.f0 ≤ 30 :=
  fun s hs => good_take30 (by omega) ha h (cSt s) (List.mem_map.2 ⟨s, hs, rfl⟩)

/-- What a share of a valid plan says. -/
theorem share_ok (sel : Cnt → Int) (a : Int) (ls : List Stg) (h0 : Hand.checkPlan a ls = 0) (bad : Int) (hb0 : 0 ≤ bad) (hb : bad ≤ a) (n : Nat) (hn : sel (cntW a.toNat bad.toNat ls 0 0) = n) (hn2 : n ≤ 30 * 6430000000000000) :
    shareV sel a ls bad = some (((n / Nat.gcd n (rest ls a.toNat) : Nat) : Int), ((rest ls a.toNat / Nat.gcd n (rest ls a.toNat) : Nat) : Int), 0) := by
  have hv := Hand.checkPlan_ok h0
  obtain ⟨lot, rfl⟩ : ∃ m : Nat, a = m := ⟨a.toNat, by omega⟩
  obtain ⟨b, rfl⟩ : ∃ m : Nat, bad = m := ⟨bad.toNat, by omega⟩
  rw [Int.toNat_natCast] at hn ⊢
  rw [Int.toNat_natCast] at hn
  obtain ⟨c1, c2, c3, c4, c5, c6⟩ := cnt_ok hv b (by omega)
  have ed : (cntW lot b ls 0 0).draws = (rest ls lot : Int) := by rw [c1]
  unfold shareV
  rw [if_pos h0, if_pos ⟨hb0, hb⟩, Int.toNat_natCast, Int.toNat_natCast, hn, ed]
  rw [if_pos ⟨by omega, by omega, by omega, by omega⟩, Int.toNat_natCast, Int.toNat_natCast]

theorem chance_ok (a : Int) (ls : List Stg) (h0 : Hand.checkPlan a ls = 0) (bad : Int) (hb0 : 0 ≤ bad) (hb : bad ≤ a) :
    shareV Cnt.accepts a ls bad = some (((cA ls a.toNat bad.toNat 0 0 / Nat.gcd (cA ls a.toNat bad.toNat 0 0) (rest ls a.toNat) : Nat) : Int), ((rest ls a.toNat / Nat.gcd (cA ls a.toNat bad.toNat 0 0) (rest ls a.toNat) : Nat) : Int), 0) := by
  have hv := Hand.checkPlan_ok h0
  obtain ⟨lot, rfl⟩ : ∃ m : Nat, a = m := ⟨a.toNat, by omega⟩
  obtain ⟨c1, c2, c3, c4, c5, c6⟩ := cnt_ok hv bad.toNat (by omega)
  refine share_ok Cnt.accepts _ ls h0 bad hb0 hb _ ?_ ?_
  · rw [Int.toNat_natCast, c1]
  · rw [Int.toNat_natCast]
    omega

theorem mean_ok (a : Int) (ls : List Stg) (h0 : Hand.checkPlan a ls = 0) (bad : Int) (hb0 : 0 ≤ bad) (hb : bad ≤ a) :
    shareV Cnt.pieces a ls bad = some (((cP ls a.toNat bad.toNat 0 0 / Nat.gcd (cP ls a.toNat bad.toNat 0 0) (rest ls a.toNat) : Nat) : Int), ((rest ls a.toNat / Nat.gcd (cP ls a.toNat bad.toNat 0 0) (rest ls a.toNat) : Nat) : Int), 0) := by
  have hv := Hand.checkPlan_ok h0
  obtain ⟨lot, rfl⟩ : ∃ m : Nat, a = m := ⟨a.toNat, by omega⟩
  obtain ⟨c1, c2, c3, c4, c5, c6⟩ := cnt_ok hv bad.toNat (by omega)
  have h30 := hv.hi
  have h8 : tot ls * rest ls lot ≤ 30 * 6430000000000000 := Nat.mul_le_mul (by omega) c6
  refine share_ok Cnt.pieces _ ls h0 bad hb0 hb _ ?_ ?_
  · rw [Int.toNat_natCast, c1]
  · rw [Int.toNat_natCast]
    exact Nat.le_trans c3 h8

theorem share_bad (sel : Cnt → Int) (a : Int) (ls : List Stg) (h0 : Hand.checkPlan a ls = 0) (bad : Int) (hb : ¬ (0 ≤ bad ∧ bad ≤ a)) : shareV sel a ls bad = some (0, 0, 2) := by
  unfold shareV
  rw [if_pos h0, if_neg hb]
theorem share_err (sel : Cnt → Int) (a : Int) (ls : List Stg) (h0 : ¬ Hand.checkPlan a ls = 0) (bad : Int) : shareV sel a ls bad = some (0, 0, Hand.checkPlan a ls) := by
  unfold shareV
  rw [if_neg h0]


end Go.Proofs.Ytigpnafpdmdmhaa.Pure

namespace Go.Proofs.Ytigpnafpdmdmhaa.Pure
open Go.RowKit Go.Proofs.Ytigpnafpdmdmhaa.P Go.Proofs.YtigpnafpdmdmhaaW.PrintWords
open Ma

/-! ### The reference's Choose -/
theorem ch_succ (n k : Nat) : ch (n + 1) (k + 1) = ch n k + ch n (k + 1) := rfl
theorem ch_absorb : ∀ m i : Nat, ch (m + 1) (i + 1) * (i + 1) = ch m i * (m + 1)
  | 0, 0 => rfl
  | 0, i + 1 => by rw [ch_above 1 (i + 1 + 1) (by omega), ch_above 0 (i + 1) (by omega), Nat.zero_mul, Nat.zero_mul]
  | m + 1, 0 => by
    have h := ch_absorb m 0
    rw [ch_zero] at h
    rw [ch_succ, ch_zero]
    omega
  | m + 1, i + 1 => by
    have h1 := ch_absorb m i
    have h2 := ch_absorb m (i + 1)
    have e1 : ch (m + 1 + 1) (i + 1 + 1) = ch (m + 1) (i + 1) + ch (m + 1) (i + 1 + 1) := ch_succ _ _
    have e3 : ch (m + 1) (i + 1) * (m + 1) = ch m i * (m + 1) + ch m (i + 1) * (m + 1) := by rw [ch_succ m i, Nat.add_mul]
    have e4 : ch (m + 1) (i + 1) * (i + 1 + 1) = ch (m + 1) (i + 1) * (i + 1) + ch (m + 1) (i + 1) := by rw [Nat.mul_succ]
    have e5 : ch (m + 1) (i + 1) * (m + 1 + 1) = ch (m + 1) (i + 1) * (m + 1) + ch (m + 1) (i + 1) := by rw [Nat.mul_succ]
    rw [e1, Nat.add_mul, h2, e4, e5, h1, e3]
    omega

theorem ch_le30 (n k : Nat) (h : n ≤ 30) : ch n k ≤ 1073741824 := by
  have := Hand.tri_le30 n k h
  rw [tri_ch] at this
  omega

theorem choose_l0 (n k : Nat) (hn : n ≤ 30) (hk : k ≤ n) : ∀ (d i K : Nat), i + d = k → d + 1 ≤ K → tensileref09_Choose.l0 K (n : Int) (k : Int) (ch (n - k + i) i : Int) ((i + 1 : Nat) : Int) = some (ch n k : Int)
  | 0, i, K, hd, hK => by
    obtain ⟨K, rfl⟩ : ∃ m, K = m + 1 := ⟨K - 1, by omega⟩
    obtain rfl : i = k := by omega
    rw [tensileref09_Choose.l0, if_neg (by omega), show n - i + i = n by omega]
  | d + 1, i, K, hd, hK => by
    obtain ⟨K, rfl⟩ : ∃ m, K = m + 1 := ⟨K - 1, by omega⟩
    have p1 : ¬ (((i + 1 : Nat) : Int) = 0) := by omega
    have p2 : ((i + 1 : Nat) : Int) ≤ (k : Int) := by omega
    have h1 := ch_absorb (n - k + i) i
    have h2 := ch_le30 (n - k + i) i (by omega)
    have e1 : wrap64 (wrap64 ((n : Int) - (k : Int)) + ((i + 1 : Nat) : Int)) = ((n - k + i + 1 : Nat) : Int) := by unfold wrap64; omega
    have h3 : ch (n - k + i) i * (n - k + i + 1) ≤ 1073741824 * 31 := Nat.mul_le_mul h2 (by omega)
    have e2 : wrap64 ((ch (n - k + i) i : Int) * ((n - k + i + 1 : Nat) : Int)) = ((ch (n - k + i + 1) (i + 1) * (i + 1) : Nat) : Int) := by
      rw [h1, ← Int.natCast_mul]; unfold wrap64; omega
    have e3 : Int.tdiv ((ch (n - k + i + 1) (i + 1) * (i + 1) : Nat) : Int) ((i + 1 : Nat) : Int) = (ch (n - k + i + 1) (i + 1) : Int) := by
      rw [Int.natCast_mul]
      exact Int.mul_tdiv_cancel _ (by omega)
    have h4 := ch_le30 (n - k + i + 1) (i + 1) (by omega)
    have e4 : wrap64 (ch (n - k + i + 1) (i + 1) : Int) = (ch (n - k + i + 1) (i + 1) : Int) := by unfold wrap64; omega
    have e5 : wrap64 (((i + 1 : Nat) : Int) + 1) = ((i + 1 + 1 : Nat) : Int) := by unfold wrap64; omega
    rw [tensileref09_Choose.l0, if_pos p2, if_neg p1, e1, e2, e3, e4, e5]
    exact choose_l0 n k hn hk d (i + 1) K (by omega) (by omega)

theorem choose_f (n k : Nat) (hn : n ≤ 30) (K : Nat) (hK : 35 ≤ K) : tensileref09_Choose.f K (n : Int) (k : Int) = some (ch n k : Int) := by
  obtain ⟨K, rfl⟩ : ∃ m, K = m + 1 := ⟨K - 1, by omega⟩
  rw [tensileref09_Choose.f, if_neg (by omega), tensileref09_Choose.j0]
  by_cases h : k ≤ n
  · rw [decide_eq_false (by omega), if_neg (by decide)]
    have := choose_l0 n k hn h k 0 K (by omega) (by omega)
    rw [ch_zero] at this
    exact this
  · rw [decide_eq_true (by omega), if_pos rfl, ch_above n k (by omega)]
    rfl
end Go.Proofs.Ytigpnafpdmdmhaa.Pure

namespace Go.Proofs.Ytigpnafpdmdmhaa.Pure
open Go.RowKit Go.Proofs.Ytigpnafpdmdmhaa.P Go.Proofs.YtigpnafpdmdmhaaW.PrintWords
open Hand (Stg saysV fits lastDec Valid)
open Ma

/-! ### The reference's Count -/
/-- What a stage says, unless it has been said. -/
def nv (v : Int) (s : S57) (f : Nat) : Int := if v = 0 then (if (f : Int) ≤ s.f1 then 1 else if s.f2 ≤ (f : Int) then 2 else v) else v
def nu (v : Int) (s : S57) (u : Nat) : Nat := if v = 0 then u + s.f0.toNat else u
/-- The sum over all draws from a stage on, of a function of the verdict and the pieces. -/
def cQ (φ : Int → Nat → Nat) : List S57 → Nat → Nat → Nat → Int → Nat → Nat
  | [], _, _, _, v, u => φ v u
  | s :: l, L, B, f, v, u => sw B (L - B) s.f0.toNat fun n => cQ φ l (L - s.f0.toNat) (B - n) (f + n) (nv v s (f + n)) (nu v s u)

def tr (a p d : Nat) : Int × Int × Int := (wrap64 (a : Int), wrap64 (p : Int), wrap64 (d : Int))

theorem tr_add (a p d m a' p' d' : Nat) : (wrap64 ((tr a p d).1 + wrap64 (wrap64 (m : Int) * (tr a' p' d').1)), wrap64 ((tr a p d).2.1 + wrap64 (wrap64 (m : Int) * (tr a' p' d').2.1)), wrap64 ((tr a p d).2.2 + wrap64 (wrap64 (m : Int) * (tr a' p' d').2.2))) = tr (a + m * a') (p + m * p') (d + m * d') := by
  have h : ∀ x y : Nat, wrap64 (wrap64 (x : Int) + wrap64 (wrap64 (m : Int) * wrap64 (y : Int))) = wrap64 ((x + m * y : Nat) : Int) := fun x y => by
    rw [w_mul, w_add]; simp
  unfold tr
  simp only [h]

theorem count_l0 (lot : Nat) (hlot : lot ≤ 30) (l : List S57) (bad : Nat) (i : Int) (T F u : Nat) (v : Int) (s : S57) (take : Nat) (ht : s.f0 = take) (ht30 : T + take ≤ lot) (B G : Nat) (hB : bad = F + B) (hG : lot = T + (B + G)) (K0 : Nat) (hu : u ≤ 1000) (hbad : bad ≤ 30)
    (X Y Z : Nat → Nat)
    (hrec : ∀ n, n ≤ take → n ≤ B → take ≤ n + G → ∀ K, K0 ≤ K → tensileref09_Count.f K (lot : Int) l (bad : Int) (wrap64 (i + 1)) ((T + take : Nat) : Int) ((F + n : Nat) : Int) (nv v s (F + n)) (nu v s u : Int) = some (tr (X n) (Y n) (Z n))) :
    ∀ (m n K a p d : Nat), n + m = take + 1 → K0 + m + 40 ≤ K →
      tensileref09_Count.l0 K (bad : Int) i (T : Int) (F : Int) v (u : Int) (n : Int) (lot : Int) l s.f0 s.f1 s.f2 (tr a p d).1 (tr a p d).2.1 (tr a p d).2.2 =
        some (tr (a + sm m (fun j => ch B (n + j) * ch G (take - (n + j)) * X (n + j))) (p + sm m (fun j => ch B (n + j) * ch G (take - (n + j)) * Y (n + j))) (d + sm m (fun j => ch B (n + j) * ch G (take - (n + j)) * Z (n + j))))
  | 0, n, K, a, p, d, hm, hK => by
    obtain ⟨K, rfl⟩ : ∃ m, K = m + 1 := ⟨K - 1, by omega⟩
    rw [tensileref09_Count.l0, ht, if_neg (by omega)]
    rfl
  | m + 1, n, K, a, p, d, hm, hK => by
    obtain ⟨K, rfl⟩ : ∃ m, K = m + 1 := ⟨K - 1, by omega⟩
    have p0 : (n : Int) ≤ (take : Int) := by omega
    have p1 : 35 ≤ K := by omega
    have p2 : B ≤ 30 := by omega
    have p3 : G ≤ 30 := by omega
    have p4 : n + 1 + m = take + 1 := by omega
    have p5 : K0 + m + 40 ≤ K := by omega
    have p6 : n ≤ take := by omega
    have p7 : K0 ≤ K := by omega
    have q1 : (bad : Int) - (F : Int) = (B : Int) := by omega
    have q2 : (lot : Int) - (T : Int) = ((B + G : Nat) : Int) := by omega
    have q3 : -1000 ≤ ((B + G : Nat) : Int) - (bad : Int) ∧ ((B + G : Nat) : Int) - (bad : Int) ≤ 1000 := by omega
    have q4 : ((B + G : Nat) : Int) - (bad : Int) + (F : Int) = (G : Int) := by omega
    have q5 : (take : Int) - (n : Int) = ((take - n : Nat) : Int) := by omega
    have q6 : F + n ≤ 100000 ∧ u + take ≤ 100000 ∧ T + take ≤ 100000 ∧ n + 1 ≤ 100000 ∧ take - n ≤ 100000 ∧ B + G ≤ 100000 ∧ G ≤ 100000 ∧ B ≤ 100000 := by omega
    have e1 : wrap64 ((bad : Int) - (F : Int)) = (B : Int) := w_nat B q1 q6.2.2.2.2.2.2.2
    have e2 : wrap64 (wrap64 (wrap64 ((lot : Int) - (T : Int)) - (bad : Int)) + (F : Int)) = (G : Int) := by
      rw [w_nat (B + G) q2 q6.2.2.2.2.2.1, w_id (x := ((B + G : Nat) : Int) - (bad : Int)) (Int.le_trans (by decide) q3.1) (Int.le_trans q3.2 (by decide))]
      exact w_nat G q4 q6.2.2.2.2.2.2.1
    have e3 : wrap64 ((take : Int) - (n : Int)) = ((take - n : Nat) : Int) := w_nat _ q5 q6.2.2.2.2.1
    have e4 : wrap64 ((n : Int) + 1) = ((n + 1 : Nat) : Int) := w_nat _ (by rw [Int.natCast_add]; rfl) q6.2.2.2.1
    have e5 : wrap64 ((T : Int) + (take : Int)) = ((T + take : Nat) : Int) := w_nat _ (by rw [Int.natCast_add]) q6.2.2.1
    have e6 : wrap64 ((F : Int) + (n : Int)) = ((F + n : Nat) : Int) := w_nat _ (by rw [Int.natCast_add]) q6.1
    have e7 : wrap64 ((u : Int) + (take : Int)) = ((u + take : Nat) : Int) := w_nat _ (by rw [Int.natCast_add]) q6.2.1
    have c1 := ch_le30 B n p2
    have c2 := ch_le30 G (take - n) p3
    have c3 : ch B n * ch G (take - n) ≤ 1073741824 * 1073741824 := Nat.mul_le_mul c1 c2
    have e8 : wrap64 ((ch B n : Int) * (ch G (take - n) : Int)) = ((ch B n * ch G (take - n) : Nat) : Int) := by
      rw [← Int.natCast_mul]
      generalize ch B n * ch G (take - n) = x at c3
      exact w_id (by omega) (by omega)
    have hs : ∀ W : Nat → Nat, ∀ a : Nat, a + sm (m + 1) (fun j => ch B (n + j) * ch G (take - (n + j)) * W (n + j)) = a + ch B n * ch G (take - n) * W n + sm m (fun j => ch B (n + 1 + j) * ch G (take - (n + 1 + j)) * W (n + 1 + j)) := fun W a => by
      rw [sm_head, Nat.add_zero, Nat.add_assoc]
      congr 2
      exact sm_congr fun j _ => by rw [show n + (j + 1) = n + 1 + j by omega]
    rw [hs, hs, hs]
    rw [tensileref09_Count.l0, ht, if_pos p0, e1, choose_f B n p2 K p1, Option.bind_some, e2, e3, choose_f G (take - n) p3 K p1, Option.bind_some, e8, e4, e5, e6, e7]
    have next := fun a p d => count_l0 lot hlot l bad i T F u v s take ht ht30 B G hB hG K0 hu hbad X Y Z hrec m (n + 1) K a p d p4 p5
    rw [ht] at next
    by_cases hz : ch B n * ch G (take - n) = 0
    · have hz' : ((ch B n * ch G (take - n) : Nat) : Int) = 0 := by rw [hz]; rfl
      rw [if_pos hz', hz, Nat.zero_mul, Nat.zero_mul, Nat.zero_mul]
      exact next a p d
    have hz' : ¬ ((ch B n * ch G (take - n) : Nat) : Int) = 0 := fun h => hz (Int.natCast_eq_zero.1 h)
    rw [if_neg hz']
    have h1 : n ≤ B := Classical.byContradiction fun h => hz (by rw [ch_above B n (Nat.lt_of_not_le h), Nat.zero_mul])
    have h2 : take ≤ n + G := Classical.byContradiction fun h => hz (by rw [ch_above G (take - n) (Nat.lt_sub_of_add_lt (by rw [Nat.add_comm]; exact Nat.lt_of_not_le h)), Nat.mul_zero])
    have hr := hrec n p6 h1 h2 K p7
    have e9 : wrap64 ((ch B n * ch G (take - n) : Nat) : Int) = ((ch B n * ch G (take - n) : Nat) : Int) := w_id (by generalize ch B n * ch G (take - n) = x at c3; omega) (by generalize ch B n * ch G (take - n) = x at c3; omega)
    have fin := next (a + ch B n * ch G (take - n) * X n) (p + ch B n * ch G (take - n) * Y n) (d + ch B n * ch G (take - n) * Z n)
    have ha := tr_add a p d (ch B n * ch G (take - n)) (X n) (Y n) (Z n)
    rw [e9] at ha
    rw [← ha] at fin
    have htn : s.f0.toNat = take := by rw [ht]; rfl
    unfold nv nu at hr
    rw [htn] at hr
    by_cases hv : v = 0
    · rw [if_pos hv, if_pos hv] at hr
      rw [if_pos hv]
      by_cases h3 : ((F + n : Nat) : Int) ≤ s.f1
      · rw [if_pos h3] at hr
        rw [if_pos h3, hr, Option.bind_some]
        exact fin
      · rw [if_neg h3] at hr
        rw [if_neg h3]
        by_cases h4 : s.f2 ≤ ((F + n : Nat) : Int)
        · rw [if_pos h4] at hr
          rw [if_pos (show ((F + n : Nat) : Int) ≥ s.f2 from h4), hr, Option.bind_some]
          exact fin
        · rw [if_neg h4] at hr
          rw [if_neg (show ¬ ((F + n : Nat) : Int) ≥ s.f2 from h4), hr, Option.bind_some]
          exact fin
    · rw [if_neg hv, if_neg hv] at hr
      rw [if_neg hv, hr, Option.bind_some]
      exact fin

end Go.Proofs.Ytigpnafpdmdmhaa.Pure

namespace Go.Proofs.Ytigpnafpdmdmhaa.Pure
open Go.RowKit Go.Proofs.Ytigpnafpdmdmhaa.P Go.Proofs.YtigpnafpdmdmhaaW.PrintWords
open Hand (Stg saysV fits lastDec Valid)
open Ma

theorem cQ_cons (φ : Int → Nat → Nat) (s : S57) (l : List S57) (L B f : Nat) (v : Int) (u : Nat) : cQ φ (s :: l) L B f v u = sw B (L - B) s.f0.toNat fun n => cQ φ l (L - s.f0.toNat) (B - n) (f + n) (nv v s (f + n)) (nu v s u) := rfl
/-- Three sums. -/
def cT (l : List S57) (L B f : Nat) (v : Int) (u : Nat) : Int × Int × Int := tr (cQ (fun v _ => if v = 1 then 1 else 0) l L B f v u) (cQ (fun _ u => u) l L B f v u) (cQ (fun _ _ => 1) l L B f v u)

theorem count_f (lot : Nat) (hlot : lot ≤ 30) (bad : Nat) (hbad : bad ≤ 30) : ∀ (suf pre : List S57) (K T F B G u : Nat) (v : Int), (pre ++ suf).length ≤ 3 → 80 * suf.length + 10 ≤ K → bad = F + B → lot = T + (B + G) → u + 30 * suf.length ≤ 200 → fits lot T (suf.map cSt) →
    tensileref09_Count.f K (lot : Int) (pre ++ suf) (bad : Int) (pre.length : Int) (T : Int) (F : Int) v (u : Int) = some (cT suf (lot - T) B F v u)
  | [], pre, K, T, F, B, G, u, v, hl, hK, hB, hG, hu, _ => by
    obtain ⟨K, rfl⟩ : ∃ m, K = m + 1 := ⟨K - 1, by omega⟩
    have e1 : wrap64 (u : Int) = (u : Int) := by simp at hu; unfold wrap64; omega
    have e2 : wrap64 ((1 : Nat) : Int) = 1 := by unfold wrap64; omega
    have e3 : wrap64 ((0 : Nat) : Int) = 0 := by unfold wrap64; omega
    rw [tensileref09_Count.f, if_pos (by simp)]
    unfold cT cQ tr
    rw [e1, e2]
    by_cases h : v = 1
    · rw [if_pos h, if_pos h, e2]
    · rw [if_neg h, if_neg h, e3]
  | s :: suf, pre, K, T, F, B, G, u, v, hl, hK, hB, hG, hu, hf => by
    obtain ⟨K, rfl⟩ : ∃ m, K = m + 1 := ⟨K - 1, by omega⟩
    obtain ⟨hf1, hf2, hf3⟩ := hf
    have hf1 : 1 ≤ s.f0 := hf1
    obtain ⟨take, ht⟩ : ∃ n : Nat, s.f0 = n := ⟨s.f0.toNat, by omega⟩
    have htn : s.f0.toNat = take := by omega
    have htc : (cSt s).take.toNat = take := htn
    rw [htc] at hf2 hf3
    have hl3 : pre.length + suf.length + 1 ≤ 3 := by simpa [Nat.add_assoc] using hl
    have hlen : ((pre ++ s :: suf).length : Int) = pre.length + suf.length + 1 := by simp; omega
    rw [tensileref09_Count.f, hlen, if_neg (by omega), if_pos (by omega), if_pos (by omega), rd_pre]
    have h := count_l0 lot hlot (pre ++ s :: suf) bad (pre.length : Int) T F u v s take ht (by omega) B G hB hG (80 * suf.length + 10) (by simp at hu; omega) hbad
      (fun n => cQ (fun v _ => if v = 1 then 1 else 0) suf (lot - T - take) (B - n) (F + n) (nv v s (F + n)) (nu v s u))
      (fun n => cQ (fun _ u => u) suf (lot - T - take) (B - n) (F + n) (nv v s (F + n)) (nu v s u))
      (fun n => cQ (fun _ _ => 1) suf (lot - T - take) (B - n) (F + n) (nv v s (F + n)) (nu v s u))
      (fun n h1 h2 h3 K' hK' => by
        have hu2 : nu v s u ≤ u + 30 := by unfold nu; split <;> omega
        have := count_f lot hlot bad hbad suf (pre ++ [s]) K' (T + take) (F + n) (B - n) (G - (take - n)) (nu v s u) (nv v s (F + n)) (by simpa using hl) hK' (by omega) (by omega) (by simp at hu; omega) hf3
        have e1 : wrap64 ((pre.length : Int) + 1) = ((pre ++ [s]).length : Int) := by simp; unfold wrap64; omega
        rw [e1]
        rw [show pre ++ [s] ++ suf = pre ++ s :: suf by simp] at this
        rw [this, ← Nat.sub_sub]
        rfl)
      (take + 1) 0 K 0 0 0 (by omega) (by simp at hK; omega)
    have e0 : (tr 0 0 0) = (0, 0, 0) := by
      have e3 : wrap64 ((0 : Nat) : Int) = 0 := by unfold wrap64; omega
      unfold tr
      rw [e3]
    rw [e0] at h
    have e1 : ((0 : Nat) : Int) = 0 := rfl
    rw [e1] at h
    refine h.trans ?_
    have gg : lot - T - B = G := by omega
    have c : ∀ φ, cQ φ (s :: suf) (lot - T) B F v u = 0 + sm (take + 1) (fun j => ch B (0 + j) * ch G (take - (0 + j)) * cQ φ suf (lot - T - take) (B - (0 + j)) (F + (0 + j)) (nv v s (F + (0 + j))) (nu v s u)) := fun φ => by
      rw [cQ_cons, htn, gg]
      unfold sw
      simp only [Nat.zero_add]
    unfold cT
    rw [c, c, c]

theorem cQ_said (φ : Int → Nat → Nat) : ∀ (l : List S57) (L B f : Nat) (v : Int) (u : Nat), v ≠ 0 → B ≤ L → cQ φ l L B f v u = rest (l.map cSt) L * φ v u
  | [], _, _, _, _, _, _, _ => by simp [cQ, rest]
  | s :: l, L, B, f, v, u, hv, hB => by
    have e : cQ φ (s :: l) L B f v u = sw B (L - B) s.f0.toNat fun _ => rest (l.map cSt) (L - s.f0.toNat) * φ v u := by
      unfold cQ
      refine sw_congr fun n h1 h2 h3 => ?_
      have e1 : nv v s (f + n) = v := by unfold nv; rw [if_neg hv]
      have e2 : nu v s u = u := by unfold nu; rw [if_neg hv]
      rw [e1, e2, cQ_said φ l _ _ _ v u hv (by omega)]
    rw [e, sw_const, show B + (L - B) = L by omega, List.map_cons, rest, Nat.mul_assoc]
    rfl

theorem cQ_cg (φ : Int → Nat → Nat) : ∀ (l : List S57) (L B f t : Nat), l ≠ [] → lastDec (l.map cSt) → B ≤ L → cQ φ l L B f 0 t = cg (fun t r => r * φ 1 t) (fun t r => r * φ 2 t) (l.map cSt) L B f t
  | [], _, _, _, _, h, _, _ => absurd rfl h
  | s :: l, L, B, f, t, _, hd, hB => by
    rw [List.map_cons]
    unfold cQ cg
    refine sw_congr fun n h1 h2 h3 => ?_
    have e2 : nu 0 s t = t + s.f0.toNat := by unfold nu; rw [if_pos rfl]
    rw [e2]
    unfold nv
    rw [if_pos rfl]
    show cQ φ l _ _ _ (if ((f + n : Nat) : Int) ≤ s.f1 then 1 else if s.f2 ≤ ((f + n : Nat) : Int) then 2 else 0) _ = if ((f + n : Nat) : Int) ≤ s.f1 then rest (l.map cSt) (L - s.f0.toNat) * φ 1 (t + s.f0.toNat) else if s.f2 ≤ ((f + n : Nat) : Int) then rest (l.map cSt) (L - s.f0.toNat) * φ 2 (t + s.f0.toNat) else cg _ _ (l.map cSt) (L - s.f0.toNat) (B - n) (f + n) (t + s.f0.toNat)
    by_cases h4 : ((f + n : Nat) : Int) ≤ s.f1
    · rw [if_pos h4, if_pos h4, cQ_said φ l _ _ _ _ _ (by decide) (by omega)]
    rw [if_neg h4, if_neg h4]
    by_cases h5 : s.f2 ≤ ((f + n : Nat) : Int)
    · rw [if_pos h5, if_pos h5, cQ_said φ l _ _ _ _ _ (by decide) (by omega)]
    rw [if_neg h5, if_neg h5]
    cases l with
    | nil => exact absurd (show saysV (cSt s) ((f + n : Nat) : Int) = 3 by unfold saysV; exact (if_neg h4).trans (if_neg h5)) (Hand.lastDec_open hd)
    | cons s' l => exact cQ_cg φ (s' :: l) _ _ _ _ (by simp) hd (by omega)

/-- The reference's counts of a valid plan. -/
theorem all_f (a : Int) (l : List S57) (hv : Valid a (l.map cSt)) (bad : Nat) (hb : (bad : Int) ≤ a) (K : Nat) (hK : 260 ≤ K) :
    tensileref09_All.f K a l (bad : Int) = some ((cA (l.map cSt) a.toNat bad 0 0 : Int), (cP (l.map cSt) a.toNat bad 0 0 : Int), (rest (l.map cSt) a.toNat : Int)) := by
  obtain ⟨lot, rfl⟩ : ∃ n : Nat, a = n := ⟨a.toNat, by have := hv.lo; omega⟩
  have h30 : lot ≤ 30 := by have := hv.hi; omega
  have hne : l ≠ [] := by rintro rfl; exact hv.ne rfl
  have hlen : l.length ≤ 3 := by simpa using hv.len
  have hf : fits lot 0 (l.map cSt) := by have := hv.fit; rwa [Int.toNat_natCast] at this
  have h := count_f lot h30 bad (by omega) l [] K 0 0 bad (lot - bad) 0 0 (by simpa using hlen) (by omega) (by omega) (by omega) (by omega) hf
  have e0 : ((0 : Nat) : Int) = 0 := rfl
  rw [List.length_nil, List.nil_append, e0] at h
  obtain ⟨c1, c2, c3, c4, c5, c6⟩ := cnt_ok hv bad (by omega)
  rw [tensileref09_All.f, h, Option.bind_some, Int.toNat_natCast]
  have q1 : cQ (fun v _ => if v = 1 then 1 else 0) l (lot - 0) bad 0 0 0 = cA (l.map cSt) lot bad 0 0 := by
    rw [cQ_cg _ l _ _ _ _ hne hv.last (by omega)]
    simp [cA]
  have q2 : cQ (fun _ u => u) l (lot - 0) bad 0 0 0 = cP (l.map cSt) lot bad 0 0 := by
    rw [cQ_cg _ l _ _ _ _ hne hv.last (by omega), cP]
    simp only [Nat.mul_comm]
    rfl
  have q3 : cQ (fun _ _ => 1) l (lot - 0) bad 0 0 0 = rest (l.map cSt) lot := by
    rw [cQ_cg _ l _ _ _ _ hne hv.last (by omega), ← cD_rest (l.map cSt) lot bad 0 0 hv.ne hv.last (by omega), cD]
    simp
  have h8 : tot (l.map cSt) * rest (l.map cSt) lot ≤ 30 * 6430000000000000 := Nat.mul_le_mul (by omega) c6
  unfold cT tr
  rw [q1, q2, q3]
  dsimp only
  rw [w_id (by omega) (by omega), w_id (by omega) (by omega), w_id (by omega) (by omega)]
end Go.Proofs.Ytigpnafpdmdmhaa.Pure

namespace Go.Proofs.Ytigpnafpdmdmhaa.P
open Go.RowKit Go.Proofs.YtigpnafpdmdmhaaW.PrintWords Go.Proofs.YtigpnafpdmdmhaaW.PrintLast

attribute [local go_sem high] eqA34
/-! ### tensilelaw09_PlanChances: function 3 -/
mutual
def tensilelaw09_PlanChances.j0 : Nat → Int → Int → Int → Bool → Int → List (S57) → Int → Int → Option (Bool)
  | 0, _, _, _, _, _, _, _, _ => none
  | k + 1, x1, x7, x8, x37, x277000, x277001, x292000, x292001 => if x37 = true then (tensilelaw09_PlanChances.j1 k x1 x7 2 x277000 x277001 x292000 x292001) else (tensilelaw09_PlanChances.j1 k x1 x7 x8 x277000 x277001 x292000 x292001)
def tensilelaw09_PlanChances.j1 : Nat → Int → Int → Int → Int → List (S57) → Int → Int → Option (Bool)
  | 0, _, _, _, _, _, _, _ => none
  | k + 1, x1, x7, x8, x277000, x277001, x292000, x292001 => if x8 = 0 then ((tensileref09_All.f k x277000 x277001 x1).bind fun bt294 => (if x7 = 0 then ((tensilelaw09_is.f k x292000 x292001 bt294.1 bt294.2.2).bind fun t298 => (if t298 = true then ((tensilelaw09_wakes.f).bind fun t299 => (some t299)) else (some false))) else (some false))) else (if x7 = x8 then (if (x292000 == 0 && (x292001 == 0)) = true then ((tensilelaw09_wakes.f).bind fun t300 => (some t300)) else (some false)) else (some false))
end
def tensilelaw09_PlanChances.f (k : Nat) (a0_0 : Int) (l0_1 : List (S57)) (a1 : Int) : Option (Bool) := (tensilelaw09_Thin.f a0_0 l0_1).bind fun t277 => (if t277 = true then ((tensilelaw09_Plan.f k a0_0 l0_1).bind fun bt279 => ((plan_CheckPlan.f bt279.1 bt279.2).bind fun t283 => ((tensilelaw09_Plan.f k a0_0 l0_1).bind fun bt284 => ((plan_Chance.f bt284.1 bt284.2 a1).bind fun bt288 => ((tensilelaw09_fault.f k a0_0 l0_1).bind fun t292 => (if t283 = t292 then (if t292 = 0 then ((tensileref09_In.f a1 0 a0_0).bind fun t293 => (tensilelaw09_PlanChances.j0 k a1 bt288.2.2 t292 (!t293) a0_0 l0_1 bt288.1 bt288.2.1)) else (tensilelaw09_PlanChances.j0 k a1 bt288.2.2 t292 false a0_0 l0_1 bt288.1 bt288.2.1)) else (some false))))))) else ((tensilelaw09_wakes.f).bind fun t278 => (some t278)))
theorem tensilelaw09_PlanChances.mono_l : ∀ k, (∀ y0 y1 y2 y3 y4 y5 y6 y7, LeO (tensilelaw09_PlanChances.j0 k y0 y1 y2 y3 y4 y5 y6 y7) (tensilelaw09_PlanChances.j0 (k + 1) y0 y1 y2 y3 y4 y5 y6 y7)) ∧ (∀ y0 y1 y2 y3 y4 y5 y6, LeO (tensilelaw09_PlanChances.j1 k y0 y1 y2 y3 y4 y5 y6) (tensilelaw09_PlanChances.j1 (k + 1) y0 y1 y2 y3 y4 y5 y6))
  | 0 => ⟨fun _ _ _ _ _ _ _ _ r h => by simp [tensilelaw09_PlanChances.j0] at h, fun _ _ _ _ _ _ _ r h => by simp [tensilelaw09_PlanChances.j1] at h⟩
  | k + 1 => by
    obtain ⟨ih0, ih1⟩ := tensilelaw09_PlanChances.mono_l k
    refine ⟨?_, ?_⟩
    · intro y0 y1 y2 y3 y4 y5 y6 y7
      unfold tensilelaw09_PlanChances.j0
      repeat' first
      | (with_reducible exact ih0 _ _ _ _ _ _ _ _)
      | (with_reducible exact ih1 _ _ _ _ _ _ _)
      | (with_reducible exact tensilelaw09_Plan.mono _ _ _)
      | (with_reducible exact tensilelaw09_fault.mono _ _ _)
      | (with_reducible exact tensilelaw09_is.mono _ _ _ _ _)
      | (with_reducible exact tensileref09_All.mono _ _ _ _)
      | (with_reducible exact LeO.refl _)
      | (with_reducible exact LeO.none _)
      | (with_reducible refine LeO.ite ?_ ?_)
      | (with_reducible refine LeO.bind ?_ (fun _ => ?_))
      | exact ih0 _ _ _ _ _ _ _ _
      | exact ih1 _ _ _ _ _ _ _
      | exact tensilelaw09_Plan.mono _ _ _
      | exact tensilelaw09_fault.mono _ _ _
      | exact tensilelaw09_is.mono _ _ _ _ _
      | exact tensileref09_All.mono _ _ _ _
      | exact LeO.none _
      | refine LeO.ite ?_ ?_
      | refine LeO.bind ?_ (fun _ => ?_)
    · intro y0 y1 y2 y3 y4 y5 y6
      unfold tensilelaw09_PlanChances.j1
      repeat' first
      | (with_reducible exact ih0 _ _ _ _ _ _ _ _)
      | (with_reducible exact ih1 _ _ _ _ _ _ _)
      | (with_reducible exact tensilelaw09_Plan.mono _ _ _)
      | (with_reducible exact tensilelaw09_fault.mono _ _ _)
      | (with_reducible exact tensilelaw09_is.mono _ _ _ _ _)
      | (with_reducible exact tensileref09_All.mono _ _ _ _)
      | (with_reducible exact LeO.refl _)
      | (with_reducible exact LeO.none _)
      | (with_reducible refine LeO.ite ?_ ?_)
      | (with_reducible refine LeO.bind ?_ (fun _ => ?_))
      | exact ih0 _ _ _ _ _ _ _ _
      | exact ih1 _ _ _ _ _ _ _
      | exact tensilelaw09_Plan.mono _ _ _
      | exact tensilelaw09_fault.mono _ _ _
      | exact tensilelaw09_is.mono _ _ _ _ _
      | exact tensileref09_All.mono _ _ _ _
      | exact LeO.none _
      | refine LeO.ite ?_ ?_
      | refine LeO.bind ?_ (fun _ => ?_)
theorem tensilelaw09_PlanChances.mono : ∀ a0 a1 a2 k, LeO (tensilelaw09_PlanChances.f k a0 a1 a2) (tensilelaw09_PlanChances.f (k + 1) a0 a1 a2) := by
  intro a0 a1 a2 k
  obtain ⟨ih0, ih1⟩ := tensilelaw09_PlanChances.mono_l k
  unfold tensilelaw09_PlanChances.f
  repeat' first
      | (with_reducible exact ih0 _ _ _ _ _ _ _ _)
      | (with_reducible exact ih1 _ _ _ _ _ _ _)
      | (with_reducible exact tensilelaw09_Plan.mono _ _ _)
      | (with_reducible exact tensilelaw09_fault.mono _ _ _)
      | (with_reducible exact tensilelaw09_is.mono _ _ _ _ _)
      | (with_reducible exact tensileref09_All.mono _ _ _ _)
      | (with_reducible exact LeO.refl _)
      | (with_reducible exact LeO.none _)
      | (with_reducible refine LeO.ite ?_ ?_)
      | (with_reducible refine LeO.bind ?_ (fun _ => ?_))
      | exact ih0 _ _ _ _ _ _ _ _
      | exact ih1 _ _ _ _ _ _ _
      | exact tensilelaw09_Plan.mono _ _ _
      | exact tensilelaw09_fault.mono _ _ _
      | exact tensilelaw09_is.mono _ _ _ _ _
      | exact tensileref09_All.mono _ _ _ _
      | exact LeO.none _
      | refine LeO.ite ?_ ?_
      | refine LeO.bind ?_ (fun _ => ?_)
set_option maxHeartbeats 8000000 in
set_option maxRecDepth 100000 in
theorem tensilelaw09_PlanChances.calls (k : Nat) (a0_0 : Int) (A0_1 : Option Addr) (c0_1 : Nat) (l0_1 : List (S57)) (a1 : Int) (r : Bool) (w : World) (hr0_1 : Kd.C k57 w A0_1 l0_1.length l0_1) (hc0_1 : l0_1.length ≤ c0_1) (h : tensilelaw09_PlanChances.f k a0_0 l0_1 a1 = some r) :
    Calls Try.prog 3 #[.agg #[.int .i64 a0_0, .slice A0_1 l0_1.length c0_1], .int .i64 a1] w fun e w' => e = .returned (.bool r) ∧ Below w.heap.size w w' := by
  have hu24 := Try.underlying24
  have hu34 := Try.underlying34
  have hu40 := Try.underlying40
  have HR0_1 := Aside0.mk hr0_1
  have HC0_1 := Aside0.mk hc0_1
  clear hr0_1 hc0_1
  have HB := Aside0.mk (Below.refl w.heap.size w)
  have H : ((tensilelaw09_Thin.f a0_0 l0_1).bind fun t277 => (if t277 = true then ((tensilelaw09_Plan.f k a0_0 l0_1).bind fun bt279 => ((plan_CheckPlan.f bt279.1 bt279.2).bind fun t283 => ((tensilelaw09_Plan.f k a0_0 l0_1).bind fun bt284 => ((plan_Chance.f bt284.1 bt284.2 a1).bind fun bt288 => ((tensilelaw09_fault.f k a0_0 l0_1).bind fun t292 => (if t283 = t292 then (if t292 = 0 then ((tensileref09_In.f a1 0 a0_0).bind fun t293 => (tensilelaw09_PlanChances.j0 k a1 bt288.2.2 t292 (!t293) a0_0 l0_1 bt288.1 bt288.2.1)) else (tensilelaw09_PlanChances.j0 k a1 bt288.2.2 t292 false a0_0 l0_1 bt288.1 bt288.2.1)) else (some false))))))) else ((tensilelaw09_wakes.f).bind fun t278 => (some t278)))) = some r := h
  clear h
  replace H := Option.bind_eq_some_iff.mp H
  obtain ⟨t277, A30, H⟩ := H
  replace H : (if t277 = true then ((tensilelaw09_Plan.f k a0_0 l0_1).bind fun bt279 => ((plan_CheckPlan.f bt279.1 bt279.2).bind fun t283 => ((tensilelaw09_Plan.f k a0_0 l0_1).bind fun bt284 => ((plan_Chance.f bt284.1 bt284.2 a1).bind fun bt288 => ((tensilelaw09_fault.f k a0_0 l0_1).bind fun t292 => (if t283 = t292 then (if t292 = 0 then ((tensileref09_In.f a1 0 a0_0).bind fun t293 => (tensilelaw09_PlanChances.j0 k a1 bt288.2.2 t292 (!t293) a0_0 l0_1 bt288.1 bt288.2.1)) else (tensilelaw09_PlanChances.j0 k a1 bt288.2.2 t292 false a0_0 l0_1 bt288.1 bt288.2.1)) else (some false))))))) else ((tensilelaw09_wakes.f).bind fun t278 => (some t278))) = some r := H
  have A3 := Aside0.mk A30
  clear A30
  by_cases c4 : t277 = true
  · subst c4
    have H1 : ((tensilelaw09_Plan.f k a0_0 l0_1).bind fun bt279 => ((plan_CheckPlan.f bt279.1 bt279.2).bind fun t283 => ((tensilelaw09_Plan.f k a0_0 l0_1).bind fun bt284 => ((plan_Chance.f bt284.1 bt284.2 a1).bind fun bt288 => ((tensilelaw09_fault.f k a0_0 l0_1).bind fun t292 => (if t283 = t292 then (if t292 = 0 then ((tensileref09_In.f a1 0 a0_0).bind fun t293 => (tensilelaw09_PlanChances.j0 k a1 bt288.2.2 t292 (!t293) a0_0 l0_1 bt288.1 bt288.2.1)) else (tensilelaw09_PlanChances.j0 k a1 bt288.2.2 t292 false a0_0 l0_1 bt288.1 bt288.2.1)) else (some false))))))) = some r := by rw [if_pos rfl] at H; exact H
    clear H
    have H := H1
    clear H1
    replace H := Option.bind_eq_some_iff.mp H
    obtain ⟨⟨t279, t280⟩, A50, H⟩ := H
    replace H : ((plan_CheckPlan.f t279 t280).bind fun t283 => ((tensilelaw09_Plan.f k a0_0 l0_1).bind fun bt284 => ((plan_Chance.f bt284.1 bt284.2 a1).bind fun bt288 => ((tensilelaw09_fault.f k a0_0 l0_1).bind fun t292 => (if t283 = t292 then (if t292 = 0 then ((tensileref09_In.f a1 0 a0_0).bind fun t293 => (tensilelaw09_PlanChances.j0 k a1 bt288.2.2 t292 (!t293) a0_0 l0_1 bt288.1 bt288.2.1)) else (tensilelaw09_PlanChances.j0 k a1 bt288.2.2 t292 false a0_0 l0_1 bt288.1 bt288.2.1)) else (some false)))))) = some r := H
    have A5 := Aside0.mk A50
    clear A50
    replace H := Option.bind_eq_some_iff.mp H
    obtain ⟨t283, A60, H⟩ := H
    replace H : ((tensilelaw09_Plan.f k a0_0 l0_1).bind fun bt284 => ((plan_Chance.f bt284.1 bt284.2 a1).bind fun bt288 => ((tensilelaw09_fault.f k a0_0 l0_1).bind fun t292 => (if t283 = t292 then (if t292 = 0 then ((tensileref09_In.f a1 0 a0_0).bind fun t293 => (tensilelaw09_PlanChances.j0 k a1 bt288.2.2 t292 (!t293) a0_0 l0_1 bt288.1 bt288.2.1)) else (tensilelaw09_PlanChances.j0 k a1 bt288.2.2 t292 false a0_0 l0_1 bt288.1 bt288.2.1)) else (some false))))) = some r := H
    have A6 := Aside0.mk A60
    clear A60
    replace H := Option.bind_eq_some_iff.mp H
    obtain ⟨⟨t284, t285⟩, A70, H⟩ := H
    replace H : ((plan_Chance.f t284 t285 a1).bind fun bt288 => ((tensilelaw09_fault.f k a0_0 l0_1).bind fun t292 => (if t283 = t292 then (if t292 = 0 then ((tensileref09_In.f a1 0 a0_0).bind fun t293 => (tensilelaw09_PlanChances.j0 k a1 bt288.2.2 t292 (!t293) a0_0 l0_1 bt288.1 bt288.2.1)) else (tensilelaw09_PlanChances.j0 k a1 bt288.2.2 t292 false a0_0 l0_1 bt288.1 bt288.2.1)) else (some false)))) = some r := H
    have A7 := Aside0.mk A70
    clear A70
    replace H := Option.bind_eq_some_iff.mp H
    obtain ⟨⟨t288, t289, t290⟩, A80, H⟩ := H
    replace H : ((tensilelaw09_fault.f k a0_0 l0_1).bind fun t292 => (if t283 = t292 then (if t292 = 0 then ((tensileref09_In.f a1 0 a0_0).bind fun t293 => (tensilelaw09_PlanChances.j0 k a1 t290 t292 (!t293) a0_0 l0_1 t288 t289)) else (tensilelaw09_PlanChances.j0 k a1 t290 t292 false a0_0 l0_1 t288 t289)) else (some false))) = some r := H
    have A8 := Aside0.mk A80
    clear A80
    replace H := Option.bind_eq_some_iff.mp H
    obtain ⟨t292, A90, H⟩ := H
    replace H : (if t283 = t292 then (if t292 = 0 then ((tensileref09_In.f a1 0 a0_0).bind fun t293 => (tensilelaw09_PlanChances.j0 k a1 t290 t292 (!t293) a0_0 l0_1 t288 t289)) else (tensilelaw09_PlanChances.j0 k a1 t290 t292 false a0_0 l0_1 t288 t289)) else (some false)) = some r := H
    have A9 := Aside0.mk A90
    clear A90
    by_cases c10 : t283 = t292
    · rw [if_pos c10] at H
      have c10b0 : (t283 == t292) = true := beq_iff_eq.mpr c10
      have c10b1 : (t283 != t292) = false := bne_eq_false_iff_eq.mpr c10
      clear c10
      have HC11 := Aside0.mk H
      clear H
      go_enter Try.func3, Try.ntmps3
      go_upto_region 8 with (first | ((with_reducible refine gate_dst (N := 2) rfl ?_); refine box_event ?hg (N := 2) ?hd (cs := #[.int .i64 a0_0, .slice A0_1 l0_1.length c0_1]) (t := 24) ?hr ?_; (case hd => rfl); (case hg => rfl); (case hr => first | (go_simp; done) | (go_simp; rfl)); intro gb276 hg w12 hbox hb; have n0_ := Aside0.mk (below_step (by repeat (first | (with_reducible first | exact HB.out | apply below_alloc | apply pw_below_drewN | apply below_drew1) | exact HB.out)) hb); have n1_ := Aside0.mk (hbox); have n2_ := Aside0.mk ((by rw [hg]; exact (below_size (by repeat (first | (with_reducible first | exact HB.out | apply below_alloc | apply pw_below_drewN | apply below_drew1) | exact HB.out))) : w.heap.size ≤ gb276)); have n3_ := Aside0.mk ((by rw [hg]; exact (below_size (by repeat (first | (with_reducible first | exact HB.out | apply below_alloc | apply pw_below_drewN | apply below_drew1) | exact HB.out))) : w.heap.size ≤ gb276)); clear HB; have HB := n0_; have BK276 := n1_; have GW276 := n2_; have GE276 := n3_; clear n0_ n1_ n2_ n3_; clear hb hbox hg; have hcz13_0 : w12.cell? ⟨gb276, 0, none⟩ = some (.int .i64 a0_0) := (blk_cell BK276.out 0).trans rfl; have hcz13_1 : w12.cell? ⟨gb276, 1, none⟩ = some (.slice A0_1 l0_1.length c0_1) := (blk_cell BK276.out 1).trans rfl; have hfz13_0 := blk_frozen BK276.out 0; have hfz13_1 := blk_frozen BK276.out 1) | ((with_reducible refine gate_callee (f := 14) rfl ?_); refine goesL_ (some 11) rfl rfl Try.func14 (by kernel_rfl) rfl #[.agg #[.int .i64 a0_0, .slice A0_1 l0_1.length c0_1]] rfl (by (try simp only [List.map_toArray, List.map_cons, List.map_nil]); first | done | rfl | (simp only [List.length_drop, List.length_take]; rfl)) ?_; (with_reducible refine (tensilelaw09_Thin.calls a0_0 _ _ l0_1 true _ ?side1 ?side2 A3.out).mono ?_); (case side1 => repeat (first | exact (Kd.C_below HR0_1.out HB.out) | (with_reducible refine Kd.C_alloc ?_ _) | (with_reducible refine Kd.C_drewN ?_ _) | (with_reducible refine Kd.C_drew ?_))); (case side2 => exact HC0_1.out); rintro e w14 ⟨rfl, hb⟩; refine ⟨_, rfl, ?_⟩; have n0_ := Aside0.mk (blk_below (g := gb276) (o := .cells #[.int .i64 a0_0, .slice A0_1 l0_1.length c0_1] 24 (0, 0)) (by (with_reducible repeat (first | refine blk_drewN ?_ _ | refine blk_drew ?_ | refine blk_alloc ?_ _)); exact BK276.out) hb); have n1_ := Aside0.mk (below_step (by repeat (first | (with_reducible first | exact HB.out | apply below_alloc | apply pw_below_drewN | apply below_drew1 | refine below_set ?_ GE276.out) | exact HB.out)) hb); clear BK276; clear HB; have BK276 := n0_; have HB := n1_; clear n0_ n1_; (try clear hb); (try clear hb2); (try clear hk); (try clear hi); have hcz15_0 : w14.cell? ⟨gb276, 0, none⟩ = some (.int .i64 a0_0) := (blk_cell BK276.out 0).trans rfl; have hcz15_1 : w14.cell? ⟨gb276, 1, none⟩ = some (.slice A0_1 l0_1.length c0_1) := (blk_cell BK276.out 1).trans rfl; have hfz15_0 := blk_frozen BK276.out 0; have hfz15_1 := blk_frozen BK276.out 1) | ((with_reducible refine gate_callee (f := 17) rfl ?_); refine goesL_ (some 15) rfl rfl Try.func17 (by kernel_rfl) rfl #[.agg #[.int .i64 a0_0, .slice A0_1 l0_1.length c0_1]] rfl (by (try simp only [List.map_toArray, List.map_cons, List.map_nil]); first | done | rfl | (simp only [List.length_drop, List.length_take]; rfl)) ?_; (with_reducible refine (tensilelaw09_Plan.calls k a0_0 _ _ l0_1 t279 t280 _ ?side1 ?side2 A5.out).mono ?_); (case side1 => repeat (first | exact (Kd.C_below HR0_1.out HB.out) | (with_reducible refine Kd.C_alloc ?_ _) | (with_reducible refine Kd.C_drewN ?_ _) | (with_reducible refine Kd.C_drew ?_))); (case side2 => exact HC0_1.out); rintro e w16 ⟨v281, rfl, ho0, hb⟩; refine ⟨_, rfl, ?_⟩; have n0_ := Aside0.mk (Kd.R_lower ho0 (below_size (by repeat (first | (with_reducible first | exact HB.out | apply below_alloc | apply pw_below_drewN | apply below_drew1 | refine below_set ?_ GE276.out) | exact HB.out)))); have n1_ := Aside0.mk (blk_below (g := gb276) (o := .cells #[.int .i64 a0_0, .slice A0_1 l0_1.length c0_1] 24 (0, 0)) (by (with_reducible repeat (first | refine blk_drewN ?_ _ | refine blk_drew ?_ | refine blk_alloc ?_ _)); exact BK276.out) hb); have n2_ := Aside0.mk (below_step (by repeat (first | (with_reducible first | exact HB.out | apply below_alloc | apply pw_below_drewN | apply below_drew1 | refine below_set ?_ GE276.out) | exact HB.out)) hb); clear BK276; clear HB; have HO282 := n0_; have BK276 := n1_; have HB := n2_; clear n0_ n1_ n2_; (try clear hb); (try clear hb2); (try clear hk); (try clear hi); (try clear ho0); obtain ⟨Ao17, co17, eo17⟩ := Kd.R_slice HO282.out; subst eo17) | ((with_reducible refine gate_callee (f := 16) rfl ?_); refine goesL_ (some 16) rfl rfl Try.func16 (by kernel_rfl) rfl #[.agg #[.int .i64 t279, .slice Ao17 t280.length co17]] rfl (by (try simp only [List.map_toArray, List.map_cons, List.map_nil]); first | done | rfl | (simp only [List.length_drop, List.length_take]; rfl)) ?_; (with_reducible refine (plan_CheckPlan.calls t279 _ _ t280 t283 _ ?side1 ?side2 A6.out).mono ?_); (case side1 => repeat (first | exact (Kd.R_reads' HO282.out).2.2 | (with_reducible refine Kd.C_alloc ?_ _) | (with_reducible refine Kd.C_drewN ?_ _) | (with_reducible refine Kd.C_drew ?_))); (case side2 => exact (Kd.R_reads' HO282.out).2.1); rintro e w18 ⟨rfl, hb⟩; refine ⟨_, rfl, ?_⟩; have n0_ := Aside0.mk (Kd.R_below (by (with_reducible repeat (first | apply Kd.R_alloc | apply Kd.R_drewN | apply Kd.R_drew)); exact HO282.out) hb); have n1_ := Aside0.mk (blk_below (g := gb276) (o := .cells #[.int .i64 a0_0, .slice A0_1 l0_1.length c0_1] 24 (0, 0)) (by (with_reducible repeat (first | refine blk_drewN ?_ _ | refine blk_drew ?_ | refine blk_alloc ?_ _)); exact BK276.out) hb); have n2_ := Aside0.mk (below_step (by repeat (first | (with_reducible first | exact HB.out | apply below_alloc | apply pw_below_drewN | apply below_drew1 | refine below_set ?_ GE276.out) | exact HB.out)) hb); clear HO282; clear BK276; clear HB; have HO282 := n0_; have BK276 := n1_; have HB := n2_; clear n0_ n1_ n2_; (try clear hb); (try clear hb2); (try clear hk); (try clear hi); have hcz19_0 : w18.cell? ⟨gb276, 0, none⟩ = some (.int .i64 a0_0) := (blk_cell BK276.out 0).trans rfl; have hcz19_1 : w18.cell? ⟨gb276, 1, none⟩ = some (.slice A0_1 l0_1.length c0_1) := (blk_cell BK276.out 1).trans rfl; have hfz19_0 := blk_frozen BK276.out 0; have hfz19_1 := blk_frozen BK276.out 1) | ((with_reducible refine gate_callee (f := 17) rfl ?_); refine goesL_ (some 19) rfl rfl Try.func17 (by kernel_rfl) rfl #[.agg #[.int .i64 a0_0, .slice A0_1 l0_1.length c0_1]] rfl (by (try simp only [List.map_toArray, List.map_cons, List.map_nil]); first | done | rfl | (simp only [List.length_drop, List.length_take]; rfl)) ?_; (with_reducible refine (tensilelaw09_Plan.calls k a0_0 _ _ l0_1 t284 t285 _ ?side1 ?side2 A7.out).mono ?_); (case side1 => repeat (first | exact (Kd.C_below HR0_1.out HB.out) | (with_reducible refine Kd.C_alloc ?_ _) | (with_reducible refine Kd.C_drewN ?_ _) | (with_reducible refine Kd.C_drew ?_))); (case side2 => exact HC0_1.out); rintro e w20 ⟨v286, rfl, ho0, hb⟩; refine ⟨_, rfl, ?_⟩; have n0_ := Aside0.mk (Kd.R_elder' (by (with_reducible repeat (first | apply Kd.R_alloc | apply Kd.R_drewN | apply Kd.R_drew)); exact HO282.out) (Kd.R_base ho0) hb); have n1_ := Aside0.mk (Kd.R_lower (Kd.R_new' ho0 (Kd.R_lt (by (with_reducible repeat (first | apply Kd.R_alloc | apply Kd.R_drewN | apply Kd.R_drew)); exact HO282.out))) (below_size (by repeat (first | (with_reducible first | exact HB.out | apply below_alloc | apply pw_below_drewN | apply below_drew1 | refine below_set ?_ GE276.out) | exact HB.out)))); have n2_ := Aside0.mk (blk_below (g := gb276) (o := .cells #[.int .i64 a0_0, .slice A0_1 l0_1.length c0_1] 24 (0, 0)) (by (with_reducible repeat (first | refine blk_drewN ?_ _ | refine blk_drew ?_ | refine blk_alloc ?_ _)); exact BK276.out) hb); have n3_ := Aside0.mk (below_step (by repeat (first | (with_reducible first | exact HB.out | apply below_alloc | apply pw_below_drewN | apply below_drew1 | refine below_set ?_ GE276.out) | exact HB.out)) hb); clear HO282; clear BK276; clear HB; have HO282 := n0_; have HO287 := n1_; have BK276 := n2_; have HB := n3_; clear n0_ n1_ n2_ n3_; (try clear hb); (try clear hb2); (try clear hk); (try clear hi); (try clear ho0); obtain ⟨Ao21, co21, eo21⟩ := Kd.R_slice HO287.out; subst eo21) | ((with_reducible refine gate_callee (f := 18) rfl ?_); refine goesL_ (some 21) rfl rfl Try.func18 (by kernel_rfl) rfl #[.agg #[.int .i64 t284, .slice Ao21 t285.length co21], .int .i64 a1] rfl (by (try simp only [List.map_toArray, List.map_cons, List.map_nil]); first | done | rfl | (simp only [List.length_drop, List.length_take]; rfl)) ?_; (with_reducible refine (plan_Chance.calls t284 _ _ t285 a1 t288 t289 t290 _ ?side1 ?side2 A8.out).mono ?_); (case side1 => repeat (first | exact (Kd.R_reads' HO287.out).2.2 | (with_reducible refine Kd.C_alloc ?_ _) | (with_reducible refine Kd.C_drewN ?_ _) | (with_reducible refine Kd.C_drew ?_))); (case side2 => exact (Kd.R_reads' HO287.out).2.1); rintro e w22 ⟨rfl, hb⟩; refine ⟨_, rfl, ?_⟩; have n0_ := Aside0.mk (Kd.R_below (by (with_reducible repeat (first | apply Kd.R_alloc | apply Kd.R_drewN | apply Kd.R_drew)); exact HO282.out) hb); have n1_ := Aside0.mk (Kd.R_below (by (with_reducible repeat (first | apply Kd.R_alloc | apply Kd.R_drewN | apply Kd.R_drew)); exact HO287.out) hb); have n2_ := Aside0.mk (blk_below (g := gb276) (o := .cells #[.int .i64 a0_0, .slice A0_1 l0_1.length c0_1] 24 (0, 0)) (by (with_reducible repeat (first | refine blk_drewN ?_ _ | refine blk_drew ?_ | refine blk_alloc ?_ _)); exact BK276.out) hb); have n3_ := Aside0.mk (below_step (by repeat (first | (with_reducible first | exact HB.out | apply below_alloc | apply pw_below_drewN | apply below_drew1 | refine below_set ?_ GE276.out) | exact HB.out)) hb); clear HO282; clear HO287; clear BK276; clear HB; have HO282 := n0_; have HO287 := n1_; have BK276 := n2_; have HB := n3_; clear n0_ n1_ n2_ n3_; (try clear hb); (try clear hb2); (try clear hk); (try clear hi)) | ((with_reducible refine gate_dst (N := 6) rfl ?_); refine box_event ?hg (N := 6) ?hd (cs := #[.int .i64 0, .int .i64 0]) (t := 34) ?hr ?_; (case hd => rfl); (case hg => rfl); (case hr => first | (go_simp; done) | (go_simp; rfl)); intro gb291 hg w23 hbox hb; have n0_ := Aside0.mk (Kd.R_below (by (with_reducible repeat (first | apply Kd.R_alloc | apply Kd.R_drewN | apply Kd.R_drew)); exact HO282.out) hb); have n1_ := Aside0.mk (Kd.R_below (by (with_reducible repeat (first | apply Kd.R_alloc | apply Kd.R_drewN | apply Kd.R_drew)); exact HO287.out) hb); have n2_ := Aside0.mk (blk_below (g := gb276) (o := .cells #[.int .i64 a0_0, .slice A0_1 l0_1.length c0_1] 24 (0, 0)) (by (with_reducible repeat (first | refine blk_drewN ?_ _ | refine blk_drew ?_ | refine blk_alloc ?_ _)); exact BK276.out) hb); have n3_ := Aside0.mk (below_step (by repeat (first | (with_reducible first | exact HB.out | apply below_alloc | apply pw_below_drewN | apply below_drew1 | refine below_set ?_ GE276.out) | exact HB.out)) hb); have n4_ := Aside0.mk (hbox); have n5_ := Aside0.mk ((by rw [hg]; exact (below_size (by repeat (first | (with_reducible first | exact HB.out | apply below_alloc | apply pw_below_drewN | apply below_drew1 | refine below_set ?_ GE276.out) | exact HB.out))) : w.heap.size ≤ gb291)); have n6_ := Aside0.mk ((by rw [hg]; exact (below_size (by repeat (first | (with_reducible first | exact HB.out | apply below_alloc | apply pw_below_drewN | apply below_drew1 | refine below_set ?_ GE276.out) | exact HB.out))) : w.heap.size ≤ gb291)); have n7_ := Aside0.mk ((by rw [hg]; exact Nat.ne_of_lt (blk_lt (g := gb276) (o := .cells #[.int .i64 a0_0, .slice A0_1 l0_1.length c0_1] 24 (0, 0)) (by (with_reducible repeat (first | refine blk_drewN ?_ _ | refine blk_drew ?_ | refine blk_alloc ?_ _)); exact BK276.out)) : gb276 ≠ gb291)); have n8_ := Aside0.mk ((by rw [hg]; exact Nat.ne_of_gt (blk_lt (g := gb276) (o := .cells #[.int .i64 a0_0, .slice A0_1 l0_1.length c0_1] 24 (0, 0)) (by (with_reducible repeat (first | refine blk_drewN ?_ _ | refine blk_drew ?_ | refine blk_alloc ?_ _)); exact BK276.out)) : gb291 ≠ gb276)); clear HO282; clear HO287; clear BK276; clear HB; have HO282 := n0_; have HO287 := n1_; have BK276 := n2_; have HB := n3_; have BK291 := n4_; have GW291 := n5_; have GE291 := n6_; have NB276_291 := n7_; have NB291_276 := n8_; clear n0_ n1_ n2_ n3_ n4_ n5_ n6_ n7_ n8_; clear hb hbox hg; have hnb24 := NB291_276.out; have hnc24 := NB276_291.out; have hcz25_0 : w23.cell? ⟨gb291, 0, none⟩ = some (.int .i64 0) := (blk_cell BK291.out 0).trans rfl; have hcz25_1 : w23.cell? ⟨gb291, 1, none⟩ = some (.int .i64 0) := (blk_cell BK291.out 1).trans rfl; have hfz25_0 := blk_frozen BK291.out 0; have hfz25_1 := blk_frozen BK291.out 1; have hcz26_0 : w23.cell? ⟨gb276, 0, none⟩ = some (.int .i64 a0_0) := (blk_cell BK276.out 0).trans rfl; have hcz26_1 : w23.cell? ⟨gb276, 1, none⟩ = some (.slice A0_1 l0_1.length c0_1) := (blk_cell BK276.out 1).trans rfl; have hfz26_0 := blk_frozen BK276.out 0; have hfz26_1 := blk_frozen BK276.out 1) | ((with_reducible refine gate_callee (f := 19) rfl ?_); refine goesL_ (some 25) rfl rfl Try.func19 (by kernel_rfl) rfl #[.agg #[.int .i64 a0_0, .slice A0_1 l0_1.length c0_1]] rfl (by (try simp only [List.map_toArray, List.map_cons, List.map_nil]); first | done | rfl | (simp only [List.length_drop, List.length_take]; rfl)) ?_; (with_reducible refine (tensilelaw09_fault.calls k a0_0 _ _ l0_1 t292 _ ?side1 ?side2 A9.out).mono ?_); (case side1 => exact Kd.C_below HR0_1.out (by repeat (first | (with_reducible first | exact HB.out | apply below_alloc | apply pw_below_drewN | apply below_drew1 | refine below_set ?_ GE276.out | refine below_set ?_ GE291.out) | exact HB.out))); (case side2 => exact HC0_1.out); rintro e w27 ⟨rfl, hb⟩; refine ⟨_, rfl, ?_⟩; have n0_ := Aside0.mk (Kd.R_below (by (with_reducible repeat (first | apply Kd.R_alloc | apply Kd.R_drewN | apply Kd.R_drew)); exact (Kd.R_mono (Kd.R_far (p := ⟨gb291, 1, none⟩) (Kd.R_far (p := ⟨gb291, 0, none⟩) (Kd.R_types HO282.out BK291.out (by decide)) (fun _ hk => hk.2) (.int .i64 t288)) (fun _ hk => hk.2) (.int .i64 t289)) (fun _ h_ => h_.1))) hb); have n1_ := Aside0.mk (Kd.R_below (by (with_reducible repeat (first | apply Kd.R_alloc | apply Kd.R_drewN | apply Kd.R_drew)); exact (Kd.R_mono (Kd.R_far (p := ⟨gb291, 1, none⟩) (Kd.R_far (p := ⟨gb291, 0, none⟩) (Kd.R_types HO287.out BK291.out (by decide)) (fun _ hk => hk.2) (.int .i64 t288)) (fun _ hk => hk.2) (.int .i64 t289)) (fun _ h_ => h_.1))) hb); have n2_ := Aside0.mk (blk_below (g := gb276) (o := .cells #[.int .i64 a0_0, .slice A0_1 l0_1.length c0_1] 24 (0, 0)) (by (with_reducible repeat (first | refine blk_drewN ?_ _ | refine blk_drew ?_ | refine blk_alloc ?_ _)); refine blk_far ?_ NB276_291.out _; (with_reducible repeat (first | refine blk_drewN ?_ _ | refine blk_drew ?_ | refine blk_alloc ?_ _)); refine blk_far ?_ NB276_291.out _; (with_reducible repeat (first | refine blk_drewN ?_ _ | refine blk_drew ?_ | refine blk_alloc ?_ _)); exact BK276.out) hb); have n3_ := Aside0.mk (blk_below (g := gb291) (o := .cells #[.int .i64 t288, .int .i64 t289] 34 (0, 0)) (by (with_reducible repeat (first | refine blk_drewN ?_ _ | refine blk_drew ?_ | refine blk_alloc ?_ _)); refine blk_put (cs := #[.int .i64 t288, .int .i64 0]) ?_ 1 _ rfl; (with_reducible repeat (first | refine blk_drewN ?_ _ | refine blk_drew ?_ | refine blk_alloc ?_ _)); refine blk_put (cs := #[.int .i64 0, .int .i64 0]) ?_ 0 _ rfl; (with_reducible repeat (first | refine blk_drewN ?_ _ | refine blk_drew ?_ | refine blk_alloc ?_ _)); exact BK291.out) hb); have n4_ := Aside0.mk (below_step (by repeat (first | (with_reducible first | exact HB.out | apply below_alloc | apply pw_below_drewN | apply below_drew1 | refine below_set ?_ GE276.out | refine below_set ?_ GE291.out) | exact HB.out)) hb); clear HO282; clear HO287; clear BK276; clear BK291; clear HB; have HO282 := n0_; have HO287 := n1_; have BK276 := n2_; have BK291 := n3_; have HB := n4_; clear n0_ n1_ n2_ n3_ n4_; (try clear hb); (try clear hb2); (try clear hk); (try clear hi)))
      (try simp only [Act.put, List.setIfInBounds_toArray, List.set_cons_zero, List.set_cons_succ])
      go_cut [37] (fun v37 wc => ∃ (kq : Nat) (x37_10 : Bool), v37 = .bool x37_10 ∧ Aside0 (tensilelaw09_PlanChances.j0 kq a1 t290 t292 x37_10 a0_0 l0_1 t288 t289 = some r) ∧ Aside0 (kq ≤ k) ∧ Aside0 (wc.heap[gb276]? = some (.cells #[.int .i64 a0_0, (.slice A0_1 l0_1.length c0_1)] 24 (0, 0))) ∧ Aside0 (wc.heap[gb291]? = some (.cells #[.int .i64 t288, .int .i64 t289] 34 (0, 0))) ∧ Aside0 (Below w.heap.size w wc))
      case first =>
        have H := HC11.out
        clear HC11
        by_cases c28 : t292 = 0
        · rw [if_pos c28] at H
          have c28b0 : (t292 == 0) = true := beq_iff_eq.mpr c28
          have c28b1 : (t292 != 0) = false := bne_eq_false_iff_eq.mpr c28
          clear c28
          (first | rw [c28b0] | (simp only [i64_w, i32_w]; rw [c28b0]) | skip)
          replace H := Option.bind_eq_some_iff.mp H
          obtain ⟨t293, A290, H⟩ := H
          replace H : (tensilelaw09_PlanChances.j0 k a1 t290 t292 (!t293) a0_0 l0_1 t288 t289) = some r := H
          have A29 := Aside0.mk A290
          clear A290
          have H' := Aside0.mk H
          clear H
          have hnb30 := NB276_291.out
          have hnc30 := NB291_276.out
          have hcz31_0 : w27.cell? ⟨gb276, 0, none⟩ = some (.int .i64 a0_0) := (blk_cell BK276.out 0).trans rfl
          have hcz31_1 : w27.cell? ⟨gb276, 1, none⟩ = some (.slice A0_1 l0_1.length c0_1) := (blk_cell BK276.out 1).trans rfl
          have hfz31_0 := blk_frozen BK276.out 0
          have hfz31_1 := blk_frozen BK276.out 1
          go_wp2_with (first | (go_at_call 20; (with_reducible refine (tensileref09_In.calls a1 0 a0_0 t293 _ A29.out).mono ?_); rintro e w' ⟨rfl, ⟨nd, rfl⟩⟩))
          go_meet
          case rel => exact ⟨_, (!t293), (by first | rfl | (simp; done) | (simp [*]; done)), H', ⟨by first | omega | exact Nat.le_refl _⟩, ⟨by (with_reducible repeat (first | refine blk_drewN ?_ _ | refine blk_drew ?_ | refine blk_alloc ?_ _)); exact BK276.out⟩, ⟨by (with_reducible repeat (first | refine blk_drewN ?_ _ | refine blk_drew ?_ | refine blk_alloc ?_ _)); exact BK291.out⟩, ⟨by repeat (first | (with_reducible first | exact HB.out | apply below_alloc | apply pw_below_drewN | apply below_drew1 | refine below_set ?_ GE276.out | refine below_set ?_ GE291.out) | exact HB.out)⟩⟩
        · rw [if_neg c28] at H
          have c28b0 : (t292 == 0) = false := beq_eq_false_iff_ne.mpr c28
          have c28b1 : (t292 != 0) = true := bne_iff_ne.mpr c28
          (first | rw [c28b0] | (simp only [i64_w, i32_w]; rw [c28b0]) | skip)
          have H' := Aside0.mk H
          clear H
          go_wp2
          go_meet
          case rel => exact ⟨_, (false), (by first | rfl | (simp; done) | (simp [*]; done)), H', ⟨by first | omega | exact Nat.le_refl _⟩, ⟨by (with_reducible repeat (first | refine blk_drewN ?_ _ | refine blk_drew ?_ | refine blk_alloc ?_ _)); exact BK276.out⟩, ⟨by (with_reducible repeat (first | refine blk_drewN ?_ _ | refine blk_drew ?_ | refine blk_alloc ?_ _)); exact BK291.out⟩, ⟨by repeat (first | (with_reducible first | exact HB.out | apply below_alloc | apply pw_below_drewN | apply below_drew1 | refine below_set ?_ GE276.out | refine below_set ?_ GE291.out) | exact HB.out)⟩⟩
      case rest =>
        clear HC11
        try clear c1
        try clear c2
        try clear p2
        try clear c3
        try clear c4
        try clear c10
        try clear c10b0
        try clear c10b1
        try clear c14
        try clear c16
        try clear c17
        try clear c18
        try clear c19
        try clear c24
        try clear c28
        try clear c28b0
        try clear c28b1
        try clear c30
        try clear hcz13_0
        try clear hcz13_1
        try clear hcz15_0
        try clear hcz15_1
        try clear hcz19_0
        try clear hcz19_1
        try clear hcz25_0
        try clear hcz25_1
        try clear hcz26_0
        try clear hcz26_1
        try clear hcz31_0
        try clear hcz31_1
        try clear hfz13_0
        try clear hfz13_1
        try clear hfz15_0
        try clear hfz15_1
        try clear hfz19_0
        try clear hfz19_1
        try clear hfz25_0
        try clear hfz25_1
        try clear hfz26_0
        try clear hfz26_1
        try clear hfz31_0
        try clear hfz31_1
        obtain ⟨kq, x37_10, rfl, HA, HJ10, BK276, BK291, HB⟩ := hcut
        cases kq with
        | zero => exact absurd HA.out (by simp [tensilelaw09_PlanChances.j0])
        | succ kj10 =>
          have H := HA.out
          clear HA
          simp only [tensilelaw09_PlanChances.j0] at H
          have HC32 := Aside0.mk H
          clear H
          go_upto_if 37 with (fail)
          go_cut [8] (fun v8 wc => ∃ (kq : Nat) (x8_31 : Int), v8 = .int .i64 x8_31 ∧ Aside0 (tensilelaw09_PlanChances.j1 kq a1 t290 x8_31 a0_0 l0_1 t288 t289 = some r) ∧ Aside0 (kq ≤ kj10) ∧ Aside0 (wc.heap[gb276]? = some (.cells #[.int .i64 a0_0, (.slice A0_1 l0_1.length c0_1)] 24 (0, 0))) ∧ Aside0 (wc.heap[gb291]? = some (.cells #[.int .i64 t288, .int .i64 t289] 34 (0, 0))) ∧ Aside0 (Below w.heap.size w wc))
          case first =>
            have H := HC32.out
            clear HC32
            by_cases c33 : x37_10 = true
            · subst c33
              have H1 : (tensilelaw09_PlanChances.j1 kj10 a1 t290 2 a0_0 l0_1 t288 t289) = some r := by rw [if_pos rfl] at H; exact H
              clear H
              have H := H1
              clear H1
              have H' := Aside0.mk H
              clear H
              go_wp2
              go_meet
              case rel => exact ⟨_, (2), (by first | rfl | (simp; done) | (simp [*]; done)), H', ⟨by have := HJ10.out; first | omega | exact Nat.le_refl _⟩, ⟨by (with_reducible repeat (first | refine blk_drewN ?_ _ | refine blk_drew ?_ | refine blk_alloc ?_ _)); exact BK276.out⟩, ⟨by (with_reducible repeat (first | refine blk_drewN ?_ _ | refine blk_drew ?_ | refine blk_alloc ?_ _)); exact BK291.out⟩, ⟨by repeat (first | (with_reducible first | exact HB.out | apply below_alloc | apply pw_below_drewN | apply below_drew1 | refine below_set ?_ GE276.out | refine below_set ?_ GE291.out) | exact HB.out)⟩⟩
            · replace c33 := Bool.eq_false_iff.mpr c33
              subst c33
              have H1 : (tensilelaw09_PlanChances.j1 kj10 a1 t290 t292 a0_0 l0_1 t288 t289) = some r := by rw [if_neg (show ¬ (false = true) by decide)] at H; exact H
              clear H
              have H := H1
              clear H1
              have H' := Aside0.mk H
              clear H
              go_wp2
              go_meet
              case rel => exact ⟨_, (t292), (by first | rfl | (simp; done) | (simp [*]; done)), H', ⟨by have := HJ10.out; first | omega | exact Nat.le_refl _⟩, ⟨by (with_reducible repeat (first | refine blk_drewN ?_ _ | refine blk_drew ?_ | refine blk_alloc ?_ _)); exact BK276.out⟩, ⟨by (with_reducible repeat (first | refine blk_drewN ?_ _ | refine blk_drew ?_ | refine blk_alloc ?_ _)); exact BK291.out⟩, ⟨by repeat (first | (with_reducible first | exact HB.out | apply below_alloc | apply pw_below_drewN | apply below_drew1 | refine below_set ?_ GE276.out | refine below_set ?_ GE291.out) | exact HB.out)⟩⟩
          case rest =>
            clear HC32
            try clear c1
            try clear c2
            try clear p2
            try clear c3
            try clear c4
            try clear c10
            try clear c10b0
            try clear c10b1
            try clear c14
            try clear c16
            try clear c17
            try clear c18
            try clear c19
            try clear c24
            try clear c28
            try clear c28b0
            try clear c28b1
            try clear c30
            try clear c33
            try clear hcz13_0
            try clear hcz13_1
            try clear hcz15_0
            try clear hcz15_1
            try clear hcz19_0
            try clear hcz19_1
            try clear hcz25_0
            try clear hcz25_1
            try clear hcz26_0
            try clear hcz26_1
            try clear hcz31_0
            try clear hcz31_1
            try clear hfz13_0
            try clear hfz13_1
            try clear hfz15_0
            try clear hfz15_1
            try clear hfz19_0
            try clear hfz19_1
            try clear hfz25_0
            try clear hfz25_1
            try clear hfz26_0
            try clear hfz26_1
            try clear hfz31_0
            try clear hfz31_1
            try clear p2
            obtain ⟨kq, x8_31, rfl, HA, HJ31, BK276, BK291, HB⟩ := hcut
            cases kq with
            | zero => exact absurd HA.out (by simp [tensilelaw09_PlanChances.j1])
            | succ kj31 =>
              have H := HA.out
              clear HA
              simp only [tensilelaw09_PlanChances.j1] at H
              by_cases c34 : x8_31 = 0
              · rw [if_pos c34] at H
                have c34b0 : (x8_31 == 0) = true := beq_iff_eq.mpr c34
                have c34b1 : (x8_31 != 0) = false := bne_eq_false_iff_eq.mpr c34
                clear c34
                replace H := Option.bind_eq_some_iff.mp H
                obtain ⟨⟨t294, t295, t296⟩, A350, H⟩ := H
                replace H : (if t290 = 0 then ((tensilelaw09_is.f kj31 t288 t289 t294 t296).bind fun t298 => (if t298 = true then ((tensilelaw09_wakes.f).bind fun t299 => (some t299)) else (some false))) else (some false)) = some r := H
                have A35 := Aside0.mk A350
                clear A350
                by_cases c36 : t290 = 0
                · rw [if_pos c36] at H
                  have c36b0 : (t290 == 0) = true := beq_iff_eq.mpr c36
                  have c36b1 : (t290 != 0) = false := bne_eq_false_iff_eq.mpr c36
                  clear c36
                  replace H := Option.bind_eq_some_iff.mp H
                  obtain ⟨t298, A370, H⟩ := H
                  replace H : (if t298 = true then ((tensilelaw09_wakes.f).bind fun t299 => (some t299)) else (some false)) = some r := H
                  have A37 := Aside0.mk A370
                  clear A370
                  by_cases c38 : t298 = true
                  · subst c38
                    have H1 : ((tensilelaw09_wakes.f).bind fun t299 => (some t299)) = some r := by rw [if_pos rfl] at H; exact H
                    clear H
                    have H := H1
                    clear H1
                    replace H := Option.bind_eq_some_iff.mp H
                    obtain ⟨t299, A390, H⟩ := H
                    replace H : (some t299) = some r := H
                    have A39 := Aside0.mk A390
                    clear A390
                    obtain rfl := Option.some.inj H
                    have hnb40 := NB276_291.out
                    have hnc40 := NB291_276.out
                    have hcz41_0 : wc.cell? ⟨gb276, 0, none⟩ = some (.int .i64 a0_0) := (blk_cell BK276.out 0).trans rfl
                    have hcz41_1 : wc.cell? ⟨gb276, 1, none⟩ = some (.slice A0_1 l0_1.length c0_1) := (blk_cell BK276.out 1).trans rfl
                    have hfz41_0 := blk_frozen BK276.out 0
                    have hfz41_1 := blk_frozen BK276.out 1
                    go_wp2_with (first | ((with_reducible refine gate_callee (f := 21) rfl ?_); refine goesL_ (some 53) rfl rfl Try.func21 (by kernel_rfl) rfl #[.agg #[.int .i64 a0_0, .slice A0_1 l0_1.length c0_1], .int .i64 a1] rfl (by (try simp only [List.map_toArray, List.map_cons, List.map_nil]); first | done | rfl | (simp only [List.length_drop, List.length_take]; rfl)) ?_; (with_reducible refine (tensileref09_All.calls kj31 a0_0 _ _ l0_1 a1 t294 t295 t296 _ ?side1 ?side2 A35.out).mono ?_); (case side1 => repeat (first | exact (Kd.C_below HR0_1.out HB.out) | (with_reducible refine Kd.C_alloc ?_ _) | (with_reducible refine Kd.C_drewN ?_ _) | (with_reducible refine Kd.C_drew ?_))); (case side2 => exact HC0_1.out); rintro e w42 ⟨rfl, hb⟩; refine ⟨_, rfl, ?_⟩; have n0_ := Aside0.mk (blk_below (g := gb276) (o := .cells #[.int .i64 a0_0, .slice A0_1 l0_1.length c0_1] 24 (0, 0)) (by (with_reducible repeat (first | refine blk_drewN ?_ _ | refine blk_drew ?_ | refine blk_alloc ?_ _)); exact BK276.out) hb); have n1_ := Aside0.mk (blk_below (g := gb291) (o := .cells #[.int .i64 t288, .int .i64 t289] 34 (0, 0)) (by (with_reducible repeat (first | refine blk_drewN ?_ _ | refine blk_drew ?_ | refine blk_alloc ?_ _)); exact BK291.out) hb); have n2_ := Aside0.mk (below_step (by repeat (first | (with_reducible first | exact HB.out | apply below_alloc | apply pw_below_drewN | apply below_drew1 | refine below_set ?_ GE276.out | refine below_set ?_ GE291.out) | exact HB.out)) hb); clear BK276; clear BK291; clear HB; have BK276 := n0_; have BK291 := n1_; have HB := n2_; clear n0_ n1_ n2_; (try clear hb); (try clear hb2); (try clear hk); (try clear hi)) | ((with_reducible refine gate_dst (N := 9) rfl ?_); refine box_event ?hg (N := 9) ?hd (cs := #[.int .i64 0, .int .i64 0, .int .i64 0]) (t := 40) ?hr ?_; (case hd => rfl); (case hg => rfl); (case hr => first | (go_simp; done) | (go_simp; rfl)); intro gb297 hg w43 hbox hb; have n0_ := Aside0.mk (blk_below (g := gb276) (o := .cells #[.int .i64 a0_0, .slice A0_1 l0_1.length c0_1] 24 (0, 0)) (by (with_reducible repeat (first | refine blk_drewN ?_ _ | refine blk_drew ?_ | refine blk_alloc ?_ _)); exact BK276.out) hb); have n1_ := Aside0.mk (blk_below (g := gb291) (o := .cells #[.int .i64 t288, .int .i64 t289] 34 (0, 0)) (by (with_reducible repeat (first | refine blk_drewN ?_ _ | refine blk_drew ?_ | refine blk_alloc ?_ _)); exact BK291.out) hb); have n2_ := Aside0.mk (below_step (by repeat (first | (with_reducible first | exact HB.out | apply below_alloc | apply pw_below_drewN | apply below_drew1 | refine below_set ?_ GE276.out | refine below_set ?_ GE291.out) | exact HB.out)) hb); have n3_ := Aside0.mk (hbox); have n4_ := Aside0.mk ((by rw [hg]; exact (below_size (by repeat (first | (with_reducible first | exact HB.out | apply below_alloc | apply pw_below_drewN | apply below_drew1 | refine below_set ?_ GE276.out | refine below_set ?_ GE291.out) | exact HB.out))) : w.heap.size ≤ gb297)); have n5_ := Aside0.mk ((by rw [hg]; exact (below_size (by repeat (first | (with_reducible first | exact HB.out | apply below_alloc | apply pw_below_drewN | apply below_drew1 | refine below_set ?_ GE276.out | refine below_set ?_ GE291.out) | exact HB.out))) : w.heap.size ≤ gb297)); have n6_ := Aside0.mk ((by rw [hg]; exact Nat.ne_of_lt (blk_lt (g := gb276) (o := .cells #[.int .i64 a0_0, .slice A0_1 l0_1.length c0_1] 24 (0, 0)) (by (with_reducible repeat (first | refine blk_drewN ?_ _ | refine blk_drew ?_ | refine blk_alloc ?_ _)); exact BK276.out)) : gb276 ≠ gb297)); have n7_ := Aside0.mk ((by rw [hg]; exact Nat.ne_of_gt (blk_lt (g := gb276) (o := .cells #[.int .i64 a0_0, .slice A0_1 l0_1.length c0_1] 24 (0, 0)) (by (with_reducible repeat (first | refine blk_drewN ?_ _ | refine blk_drew ?_ | refine blk_alloc ?_ _)); exact BK276.out)) : gb297 ≠ gb276)); have n8_ := Aside0.mk ((by rw [hg]; exact Nat.ne_of_lt (blk_lt (g := gb291) (o := .cells #[.int .i64 t288, .int .i64 t289] 34 (0, 0)) (by (with_reducible repeat (first | refine blk_drewN ?_ _ | refine blk_drew ?_ | refine blk_alloc ?_ _)); exact BK291.out)) : gb291 ≠ gb297)); have n9_ := Aside0.mk ((by rw [hg]; exact Nat.ne_of_gt (blk_lt (g := gb291) (o := .cells #[.int .i64 t288, .int .i64 t289] 34 (0, 0)) (by (with_reducible repeat (first | refine blk_drewN ?_ _ | refine blk_drew ?_ | refine blk_alloc ?_ _)); exact BK291.out)) : gb297 ≠ gb291)); clear BK276; clear BK291; clear HB; have BK276 := n0_; have BK291 := n1_; have HB := n2_; have BK297 := n3_; have GW297 := n4_; have GE297 := n5_; have NB276_297 := n6_; have NB297_276 := n7_; have NB291_297 := n8_; have NB297_291 := n9_; clear n0_ n1_ n2_ n3_ n4_ n5_ n6_ n7_ n8_ n9_; clear hb hbox hg; have hnb44 := NB297_276.out; have hnc44 := NB276_297.out; have hnb45 := NB297_291.out; have hnc45 := NB291_297.out; have hcz46_0 : w43.cell? ⟨gb297, 0, none⟩ = some (.int .i64 0) := (blk_cell BK297.out 0).trans rfl; have hcz46_1 : w43.cell? ⟨gb297, 1, none⟩ = some (.int .i64 0) := (blk_cell BK297.out 1).trans rfl; have hcz46_2 : w43.cell? ⟨gb297, 2, none⟩ = some (.int .i64 0) := (blk_cell BK297.out 2).trans rfl; have hfz46_0 := blk_frozen BK297.out 0; have hfz46_1 := blk_frozen BK297.out 1; have hfz46_2 := blk_frozen BK297.out 2; have hcz47_0 : w43.cell? ⟨gb291, 0, none⟩ = some (.int .i64 t288) := (blk_cell BK291.out 0).trans rfl; have hcz47_1 : w43.cell? ⟨gb291, 1, none⟩ = some (.int .i64 t289) := (blk_cell BK291.out 1).trans rfl; have hfz47_0 := blk_frozen BK291.out 0; have hfz47_1 := blk_frozen BK291.out 1) | (go_at_call 22; (with_reducible refine (tensilelaw09_is.calls kj31 t288 t289 t294 t296 true _ A37.out).mono ?_); rintro e w48 ⟨rfl, hb⟩; have n0_ := Aside0.mk (blk_below (g := gb276) (o := .cells #[.int .i64 a0_0, .slice A0_1 l0_1.length c0_1] 24 (0, 0)) (by (with_reducible repeat (first | refine blk_drewN ?_ _ | refine blk_drew ?_ | refine blk_alloc ?_ _)); refine blk_far ?_ NB276_297.out _; (with_reducible repeat (first | refine blk_drewN ?_ _ | refine blk_drew ?_ | refine blk_alloc ?_ _)); refine blk_far ?_ NB276_297.out _; (with_reducible repeat (first | refine blk_drewN ?_ _ | refine blk_drew ?_ | refine blk_alloc ?_ _)); refine blk_far ?_ NB276_297.out _; (with_reducible repeat (first | refine blk_drewN ?_ _ | refine blk_drew ?_ | refine blk_alloc ?_ _)); exact BK276.out) hb); have n1_ := Aside0.mk (blk_below (g := gb291) (o := .cells #[.int .i64 t288, .int .i64 t289] 34 (0, 0)) (by (with_reducible repeat (first | refine blk_drewN ?_ _ | refine blk_drew ?_ | refine blk_alloc ?_ _)); refine blk_far ?_ NB291_297.out _; (with_reducible repeat (first | refine blk_drewN ?_ _ | refine blk_drew ?_ | refine blk_alloc ?_ _)); refine blk_far ?_ NB291_297.out _; (with_reducible repeat (first | refine blk_drewN ?_ _ | refine blk_drew ?_ | refine blk_alloc ?_ _)); refine blk_far ?_ NB291_297.out _; (with_reducible repeat (first | refine blk_drewN ?_ _ | refine blk_drew ?_ | refine blk_alloc ?_ _)); exact BK291.out) hb); have n2_ := Aside0.mk (blk_below (g := gb297) (o := .cells #[.int .i64 t294, .int .i64 t295, .int .i64 t296] 40 (0, 0)) (by (with_reducible repeat (first | refine blk_drewN ?_ _ | refine blk_drew ?_ | refine blk_alloc ?_ _)); refine blk_put (cs := #[.int .i64 t294, .int .i64 t295, .int .i64 0]) ?_ 2 _ rfl; (with_reducible repeat (first | refine blk_drewN ?_ _ | refine blk_drew ?_ | refine blk_alloc ?_ _)); refine blk_put (cs := #[.int .i64 t294, .int .i64 0, .int .i64 0]) ?_ 1 _ rfl; (with_reducible repeat (first | refine blk_drewN ?_ _ | refine blk_drew ?_ | refine blk_alloc ?_ _)); refine blk_put (cs := #[.int .i64 0, .int .i64 0, .int .i64 0]) ?_ 0 _ rfl; (with_reducible repeat (first | refine blk_drewN ?_ _ | refine blk_drew ?_ | refine blk_alloc ?_ _)); exact BK297.out) hb); have n3_ := Aside0.mk (below_step (by repeat (first | (with_reducible first | exact HB.out | apply below_alloc | apply pw_below_drewN | apply below_drew1 | refine below_set ?_ GE276.out | refine below_set ?_ GE291.out | refine below_set ?_ GE297.out) | exact HB.out)) hb); clear BK276; clear BK291; clear BK297; clear HB; have BK276 := n0_; have BK291 := n1_; have BK297 := n2_; have HB := n3_; clear n0_ n1_ n2_ n3_; (try clear hb); (try clear hb2); (try clear hk); (try clear hi)) | (go_at_call 15; (with_reducible refine (tensilelaw09_wakes.calls  t299 _ A39.out).mono ?_); rintro e w49 ⟨rfl, hb⟩; have n0_ := Aside0.mk (blk_below (g := gb276) (o := .cells #[.int .i64 a0_0, .slice A0_1 l0_1.length c0_1] 24 (0, 0)) (by (with_reducible repeat (first | refine blk_drewN ?_ _ | refine blk_drew ?_ | refine blk_alloc ?_ _)); exact BK276.out) hb); have n1_ := Aside0.mk (blk_below (g := gb291) (o := .cells #[.int .i64 t288, .int .i64 t289] 34 (0, 0)) (by (with_reducible repeat (first | refine blk_drewN ?_ _ | refine blk_drew ?_ | refine blk_alloc ?_ _)); exact BK291.out) hb); have n2_ := Aside0.mk (blk_below (g := gb297) (o := .cells #[.int .i64 t294, .int .i64 t295, .int .i64 t296] 40 (0, 0)) (by (with_reducible repeat (first | refine blk_drewN ?_ _ | refine blk_drew ?_ | refine blk_alloc ?_ _)); exact BK297.out) hb); have n3_ := Aside0.mk (below_step (by repeat (first | (with_reducible first | exact HB.out | apply below_alloc | apply pw_below_drewN | apply below_drew1 | refine below_set ?_ GE276.out | refine below_set ?_ GE291.out | refine below_set ?_ GE297.out) | exact HB.out)) hb); clear BK276; clear BK291; clear BK297; clear HB; have BK276 := n0_; have BK291 := n1_; have BK297 := n2_; have HB := n3_; clear n0_ n1_ n2_ n3_; (try clear hb); (try clear hb2); (try clear hk); (try clear hi)))
                    go_ret
                    exact ⟨by first | rfl | (simp [errW_none, errW_some] <;> rfl) | (simp [*, errW_none, errW_some] <;> rfl), by repeat (first | (with_reducible first | exact HB.out | apply below_alloc | apply pw_below_drewN | apply below_drew1 | refine below_set ?_ GE276.out | refine below_set ?_ GE291.out | refine below_set ?_ GE297.out) | exact HB.out)⟩
                  · replace c38 := Bool.eq_false_iff.mpr c38
                    subst c38
                    have H1 : (some false) = some r := by rw [if_neg (show ¬ (false = true) by decide)] at H; exact H
                    clear H
                    have H := H1
                    clear H1
                    obtain rfl := Option.some.inj H
                    have hnb50 := NB276_291.out
                    have hnc50 := NB291_276.out
                    have hcz51_0 : wc.cell? ⟨gb276, 0, none⟩ = some (.int .i64 a0_0) := (blk_cell BK276.out 0).trans rfl
                    have hcz51_1 : wc.cell? ⟨gb276, 1, none⟩ = some (.slice A0_1 l0_1.length c0_1) := (blk_cell BK276.out 1).trans rfl
                    have hfz51_0 := blk_frozen BK276.out 0
                    have hfz51_1 := blk_frozen BK276.out 1
                    go_wp2_with (first | ((with_reducible refine gate_callee (f := 21) rfl ?_); refine goesL_ (some 53) rfl rfl Try.func21 (by kernel_rfl) rfl #[.agg #[.int .i64 a0_0, .slice A0_1 l0_1.length c0_1], .int .i64 a1] rfl (by (try simp only [List.map_toArray, List.map_cons, List.map_nil]); first | done | rfl | (simp only [List.length_drop, List.length_take]; rfl)) ?_; (with_reducible refine (tensileref09_All.calls kj31 a0_0 _ _ l0_1 a1 t294 t295 t296 _ ?side1 ?side2 A35.out).mono ?_); (case side1 => repeat (first | exact (Kd.C_below HR0_1.out HB.out) | (with_reducible refine Kd.C_alloc ?_ _) | (with_reducible refine Kd.C_drewN ?_ _) | (with_reducible refine Kd.C_drew ?_))); (case side2 => exact HC0_1.out); rintro e w52 ⟨rfl, hb⟩; refine ⟨_, rfl, ?_⟩; have n0_ := Aside0.mk (blk_below (g := gb276) (o := .cells #[.int .i64 a0_0, .slice A0_1 l0_1.length c0_1] 24 (0, 0)) (by (with_reducible repeat (first | refine blk_drewN ?_ _ | refine blk_drew ?_ | refine blk_alloc ?_ _)); exact BK276.out) hb); have n1_ := Aside0.mk (blk_below (g := gb291) (o := .cells #[.int .i64 t288, .int .i64 t289] 34 (0, 0)) (by (with_reducible repeat (first | refine blk_drewN ?_ _ | refine blk_drew ?_ | refine blk_alloc ?_ _)); exact BK291.out) hb); have n2_ := Aside0.mk (below_step (by repeat (first | (with_reducible first | exact HB.out | apply below_alloc | apply pw_below_drewN | apply below_drew1 | refine below_set ?_ GE276.out | refine below_set ?_ GE291.out) | exact HB.out)) hb); clear BK276; clear BK291; clear HB; have BK276 := n0_; have BK291 := n1_; have HB := n2_; clear n0_ n1_ n2_; (try clear hb); (try clear hb2); (try clear hk); (try clear hi)) | ((with_reducible refine gate_dst (N := 9) rfl ?_); refine box_event ?hg (N := 9) ?hd (cs := #[.int .i64 0, .int .i64 0, .int .i64 0]) (t := 40) ?hr ?_; (case hd => rfl); (case hg => rfl); (case hr => first | (go_simp; done) | (go_simp; rfl)); intro gb297 hg w53 hbox hb; have n0_ := Aside0.mk (blk_below (g := gb276) (o := .cells #[.int .i64 a0_0, .slice A0_1 l0_1.length c0_1] 24 (0, 0)) (by (with_reducible repeat (first | refine blk_drewN ?_ _ | refine blk_drew ?_ | refine blk_alloc ?_ _)); exact BK276.out) hb); have n1_ := Aside0.mk (blk_below (g := gb291) (o := .cells #[.int .i64 t288, .int .i64 t289] 34 (0, 0)) (by (with_reducible repeat (first | refine blk_drewN ?_ _ | refine blk_drew ?_ | refine blk_alloc ?_ _)); exact BK291.out) hb); have n2_ := Aside0.mk (below_step (by repeat (first | (with_reducible first | exact HB.out | apply below_alloc | apply pw_below_drewN | apply below_drew1 | refine below_set ?_ GE276.out | refine below_set ?_ GE291.out) | exact HB.out)) hb); have n3_ := Aside0.mk (hbox); have n4_ := Aside0.mk ((by rw [hg]; exact (below_size (by repeat (first | (with_reducible first | exact HB.out | apply below_alloc | apply pw_below_drewN | apply below_drew1 | refine below_set ?_ GE276.out | refine below_set ?_ GE291.out) | exact HB.out))) : w.heap.size ≤ gb297)); have n5_ := Aside0.mk ((by rw [hg]; exact (below_size (by repeat (first | (with_reducible first | exact HB.out | apply below_alloc | apply pw_below_drewN | apply below_drew1 | refine below_set ?_ GE276.out | refine below_set ?_ GE291.out) | exact HB.out))) : w.heap.size ≤ gb297)); have n6_ := Aside0.mk ((by rw [hg]; exact Nat.ne_of_lt (blk_lt (g := gb276) (o := .cells #[.int .i64 a0_0, .slice A0_1 l0_1.length c0_1] 24 (0, 0)) (by (with_reducible repeat (first | refine blk_drewN ?_ _ | refine blk_drew ?_ | refine blk_alloc ?_ _)); exact BK276.out)) : gb276 ≠ gb297)); have n7_ := Aside0.mk ((by rw [hg]; exact Nat.ne_of_gt (blk_lt (g := gb276) (o := .cells #[.int .i64 a0_0, .slice A0_1 l0_1.length c0_1] 24 (0, 0)) (by (with_reducible repeat (first | refine blk_drewN ?_ _ | refine blk_drew ?_ | refine blk_alloc ?_ _)); exact BK276.out)) : gb297 ≠ gb276)); have n8_ := Aside0.mk ((by rw [hg]; exact Nat.ne_of_lt (blk_lt (g := gb291) (o := .cells #[.int .i64 t288, .int .i64 t289] 34 (0, 0)) (by (with_reducible repeat (first | refine blk_drewN ?_ _ | refine blk_drew ?_ | refine blk_alloc ?_ _)); exact BK291.out)) : gb291 ≠ gb297)); have n9_ := Aside0.mk ((by rw [hg]; exact Nat.ne_of_gt (blk_lt (g := gb291) (o := .cells #[.int .i64 t288, .int .i64 t289] 34 (0, 0)) (by (with_reducible repeat (first | refine blk_drewN ?_ _ | refine blk_drew ?_ | refine blk_alloc ?_ _)); exact BK291.out)) : gb297 ≠ gb291)); clear BK276; clear BK291; clear HB; have BK276 := n0_; have BK291 := n1_; have HB := n2_; have BK297 := n3_; have GW297 := n4_; have GE297 := n5_; have NB276_297 := n6_; have NB297_276 := n7_; have NB291_297 := n8_; have NB297_291 := n9_; clear n0_ n1_ n2_ n3_ n4_ n5_ n6_ n7_ n8_ n9_; clear hb hbox hg; have hnb54 := NB297_276.out; have hnc54 := NB276_297.out; have hnb55 := NB297_291.out; have hnc55 := NB291_297.out; have hcz56_0 : w53.cell? ⟨gb297, 0, none⟩ = some (.int .i64 0) := (blk_cell BK297.out 0).trans rfl; have hcz56_1 : w53.cell? ⟨gb297, 1, none⟩ = some (.int .i64 0) := (blk_cell BK297.out 1).trans rfl; have hcz56_2 : w53.cell? ⟨gb297, 2, none⟩ = some (.int .i64 0) := (blk_cell BK297.out 2).trans rfl; have hfz56_0 := blk_frozen BK297.out 0; have hfz56_1 := blk_frozen BK297.out 1; have hfz56_2 := blk_frozen BK297.out 2; have hcz57_0 : w53.cell? ⟨gb291, 0, none⟩ = some (.int .i64 t288) := (blk_cell BK291.out 0).trans rfl; have hcz57_1 : w53.cell? ⟨gb291, 1, none⟩ = some (.int .i64 t289) := (blk_cell BK291.out 1).trans rfl; have hfz57_0 := blk_frozen BK291.out 0; have hfz57_1 := blk_frozen BK291.out 1) | (go_at_call 22; (with_reducible refine (tensilelaw09_is.calls kj31 t288 t289 t294 t296 false _ A37.out).mono ?_); rintro e w58 ⟨rfl, hb⟩; have n0_ := Aside0.mk (blk_below (g := gb276) (o := .cells #[.int .i64 a0_0, .slice A0_1 l0_1.length c0_1] 24 (0, 0)) (by (with_reducible repeat (first | refine blk_drewN ?_ _ | refine blk_drew ?_ | refine blk_alloc ?_ _)); refine blk_far ?_ NB276_297.out _; (with_reducible repeat (first | refine blk_drewN ?_ _ | refine blk_drew ?_ | refine blk_alloc ?_ _)); refine blk_far ?_ NB276_297.out _; (with_reducible repeat (first | refine blk_drewN ?_ _ | refine blk_drew ?_ | refine blk_alloc ?_ _)); refine blk_far ?_ NB276_297.out _; (with_reducible repeat (first | refine blk_drewN ?_ _ | refine blk_drew ?_ | refine blk_alloc ?_ _)); exact BK276.out) hb); have n1_ := Aside0.mk (blk_below (g := gb291) (o := .cells #[.int .i64 t288, .int .i64 t289] 34 (0, 0)) (by (with_reducible repeat (first | refine blk_drewN ?_ _ | refine blk_drew ?_ | refine blk_alloc ?_ _)); refine blk_far ?_ NB291_297.out _; (with_reducible repeat (first | refine blk_drewN ?_ _ | refine blk_drew ?_ | refine blk_alloc ?_ _)); refine blk_far ?_ NB291_297.out _; (with_reducible repeat (first | refine blk_drewN ?_ _ | refine blk_drew ?_ | refine blk_alloc ?_ _)); refine blk_far ?_ NB291_297.out _; (with_reducible repeat (first | refine blk_drewN ?_ _ | refine blk_drew ?_ | refine blk_alloc ?_ _)); exact BK291.out) hb); have n2_ := Aside0.mk (blk_below (g := gb297) (o := .cells #[.int .i64 t294, .int .i64 t295, .int .i64 t296] 40 (0, 0)) (by (with_reducible repeat (first | refine blk_drewN ?_ _ | refine blk_drew ?_ | refine blk_alloc ?_ _)); refine blk_put (cs := #[.int .i64 t294, .int .i64 t295, .int .i64 0]) ?_ 2 _ rfl; (with_reducible repeat (first | refine blk_drewN ?_ _ | refine blk_drew ?_ | refine blk_alloc ?_ _)); refine blk_put (cs := #[.int .i64 t294, .int .i64 0, .int .i64 0]) ?_ 1 _ rfl; (with_reducible repeat (first | refine blk_drewN ?_ _ | refine blk_drew ?_ | refine blk_alloc ?_ _)); refine blk_put (cs := #[.int .i64 0, .int .i64 0, .int .i64 0]) ?_ 0 _ rfl; (with_reducible repeat (first | refine blk_drewN ?_ _ | refine blk_drew ?_ | refine blk_alloc ?_ _)); exact BK297.out) hb); have n3_ := Aside0.mk (below_step (by repeat (first | (with_reducible first | exact HB.out | apply below_alloc | apply pw_below_drewN | apply below_drew1 | refine below_set ?_ GE276.out | refine below_set ?_ GE291.out | refine below_set ?_ GE297.out) | exact HB.out)) hb); clear BK276; clear BK291; clear BK297; clear HB; have BK276 := n0_; have BK291 := n1_; have BK297 := n2_; have HB := n3_; clear n0_ n1_ n2_ n3_; (try clear hb); (try clear hb2); (try clear hk); (try clear hi)))
                    go_ret
                    exact ⟨by first | rfl | (simp [errW_none, errW_some] <;> rfl) | (simp [*, errW_none, errW_some] <;> rfl), by repeat (first | (with_reducible first | exact HB.out | apply below_alloc | apply pw_below_drewN | apply below_drew1 | refine below_set ?_ GE276.out | refine below_set ?_ GE291.out | refine below_set ?_ GE297.out) | exact HB.out)⟩
                · rw [if_neg c36] at H
                  have c36b0 : (t290 == 0) = false := beq_eq_false_iff_ne.mpr c36
                  have c36b1 : (t290 != 0) = true := bne_iff_ne.mpr c36
                  obtain rfl := Option.some.inj H
                  have hnb59 := NB276_291.out
                  have hnc59 := NB291_276.out
                  have hcz60_0 : wc.cell? ⟨gb276, 0, none⟩ = some (.int .i64 a0_0) := (blk_cell BK276.out 0).trans rfl
                  have hcz60_1 : wc.cell? ⟨gb276, 1, none⟩ = some (.slice A0_1 l0_1.length c0_1) := (blk_cell BK276.out 1).trans rfl
                  have hfz60_0 := blk_frozen BK276.out 0
                  have hfz60_1 := blk_frozen BK276.out 1
                  go_wp2_with (first | ((with_reducible refine gate_callee (f := 21) rfl ?_); refine goesL_ (some 53) rfl rfl Try.func21 (by kernel_rfl) rfl #[.agg #[.int .i64 a0_0, .slice A0_1 l0_1.length c0_1], .int .i64 a1] rfl (by (try simp only [List.map_toArray, List.map_cons, List.map_nil]); first | done | rfl | (simp only [List.length_drop, List.length_take]; rfl)) ?_; (with_reducible refine (tensileref09_All.calls kj31 a0_0 _ _ l0_1 a1 t294 t295 t296 _ ?side1 ?side2 A35.out).mono ?_); (case side1 => repeat (first | exact (Kd.C_below HR0_1.out HB.out) | (with_reducible refine Kd.C_alloc ?_ _) | (with_reducible refine Kd.C_drewN ?_ _) | (with_reducible refine Kd.C_drew ?_))); (case side2 => exact HC0_1.out); rintro e w61 ⟨rfl, hb⟩; refine ⟨_, rfl, ?_⟩; have n0_ := Aside0.mk (blk_below (g := gb276) (o := .cells #[.int .i64 a0_0, .slice A0_1 l0_1.length c0_1] 24 (0, 0)) (by (with_reducible repeat (first | refine blk_drewN ?_ _ | refine blk_drew ?_ | refine blk_alloc ?_ _)); exact BK276.out) hb); have n1_ := Aside0.mk (blk_below (g := gb291) (o := .cells #[.int .i64 t288, .int .i64 t289] 34 (0, 0)) (by (with_reducible repeat (first | refine blk_drewN ?_ _ | refine blk_drew ?_ | refine blk_alloc ?_ _)); exact BK291.out) hb); have n2_ := Aside0.mk (below_step (by repeat (first | (with_reducible first | exact HB.out | apply below_alloc | apply pw_below_drewN | apply below_drew1 | refine below_set ?_ GE276.out | refine below_set ?_ GE291.out) | exact HB.out)) hb); clear BK276; clear BK291; clear HB; have BK276 := n0_; have BK291 := n1_; have HB := n2_; clear n0_ n1_ n2_; (try clear hb); (try clear hb2); (try clear hk); (try clear hi)) | ((with_reducible refine gate_dst (N := 9) rfl ?_); refine box_event ?hg (N := 9) ?hd (cs := #[.int .i64 0, .int .i64 0, .int .i64 0]) (t := 40) ?hr ?_; (case hd => rfl); (case hg => rfl); (case hr => first | (go_simp; done) | (go_simp; rfl)); intro gb297 hg w62 hbox hb; have n0_ := Aside0.mk (blk_below (g := gb276) (o := .cells #[.int .i64 a0_0, .slice A0_1 l0_1.length c0_1] 24 (0, 0)) (by (with_reducible repeat (first | refine blk_drewN ?_ _ | refine blk_drew ?_ | refine blk_alloc ?_ _)); exact BK276.out) hb); have n1_ := Aside0.mk (blk_below (g := gb291) (o := .cells #[.int .i64 t288, .int .i64 t289] 34 (0, 0)) (by (with_reducible repeat (first | refine blk_drewN ?_ _ | refine blk_drew ?_ | refine blk_alloc ?_ _)); exact BK291.out) hb); have n2_ := Aside0.mk (below_step (by repeat (first | (with_reducible first | exact HB.out | apply below_alloc | apply pw_below_drewN | apply below_drew1 | refine below_set ?_ GE276.out | refine below_set ?_ GE291.out) | exact HB.out)) hb); have n3_ := Aside0.mk (hbox); have n4_ := Aside0.mk ((by rw [hg]; exact (below_size (by repeat (first | (with_reducible first | exact HB.out | apply below_alloc | apply pw_below_drewN | apply below_drew1 | refine below_set ?_ GE276.out | refine below_set ?_ GE291.out) | exact HB.out))) : w.heap.size ≤ gb297)); have n5_ := Aside0.mk ((by rw [hg]; exact (below_size (by repeat (first | (with_reducible first | exact HB.out | apply below_alloc | apply pw_below_drewN | apply below_drew1 | refine below_set ?_ GE276.out | refine below_set ?_ GE291.out) | exact HB.out))) : w.heap.size ≤ gb297)); have n6_ := Aside0.mk ((by rw [hg]; exact Nat.ne_of_lt (blk_lt (g := gb276) (o := .cells #[.int .i64 a0_0, .slice A0_1 l0_1.length c0_1] 24 (0, 0)) (by (with_reducible repeat (first | refine blk_drewN ?_ _ | refine blk_drew ?_ | refine blk_alloc ?_ _)); exact BK276.out)) : gb276 ≠ gb297)); have n7_ := Aside0.mk ((by rw [hg]; exact Nat.ne_of_gt (blk_lt (g := gb276) (o := .cells #[.int .i64 a0_0, .slice A0_1 l0_1.length c0_1] 24 (0, 0)) (by (with_reducible repeat (first | refine blk_drewN ?_ _ | refine blk_drew ?_ | refine blk_alloc ?_ _)); exact BK276.out)) : gb297 ≠ gb276)); have n8_ := Aside0.mk ((by rw [hg]; exact Nat.ne_of_lt (blk_lt (g := gb291) (o := .cells #[.int .i64 t288, .int .i64 t289] 34 (0, 0)) (by (with_reducible repeat (first | refine blk_drewN ?_ _ | refine blk_drew ?_ | refine blk_alloc ?_ _)); exact BK291.out)) : gb291 ≠ gb297)); have n9_ := Aside0.mk ((by rw [hg]; exact Nat.ne_of_gt (blk_lt (g := gb291) (o := .cells #[.int .i64 t288, .int .i64 t289] 34 (0, 0)) (by (with_reducible repeat (first | refine blk_drewN ?_ _ | refine blk_drew ?_ | refine blk_alloc ?_ _)); exact BK291.out)) : gb297 ≠ gb291)); clear BK276; clear BK291; clear HB; have BK276 := n0_; have BK291 := n1_; have HB := n2_; have BK297 := n3_; have GW297 := n4_; have GE297 := n5_; have NB276_297 := n6_; have NB297_276 := n7_; have NB291_297 := n8_; have NB297_291 := n9_; clear n0_ n1_ n2_ n3_ n4_ n5_ n6_ n7_ n8_ n9_; clear hb hbox hg; have hnb63 := NB297_276.out; have hnc63 := NB276_297.out; have hnb64 := NB297_291.out; have hnc64 := NB291_297.out; have hcz65_0 : w62.cell? ⟨gb297, 0, none⟩ = some (.int .i64 0) := (blk_cell BK297.out 0).trans rfl; have hcz65_1 : w62.cell? ⟨gb297, 1, none⟩ = some (.int .i64 0) := (blk_cell BK297.out 1).trans rfl; have hcz65_2 : w62.cell? ⟨gb297, 2, none⟩ = some (.int .i64 0) := (blk_cell BK297.out 2).trans rfl; have hfz65_0 := blk_frozen BK297.out 0; have hfz65_1 := blk_frozen BK297.out 1; have hfz65_2 := blk_frozen BK297.out 2))
                  go_ret
                  exact ⟨by first | rfl | (simp [errW_none, errW_some] <;> rfl) | (simp [*, errW_none, errW_some] <;> rfl), by repeat (first | (with_reducible first | exact HB.out | apply below_alloc | apply pw_below_drewN | apply below_drew1 | refine below_set ?_ GE276.out | refine below_set ?_ GE291.out | refine below_set ?_ GE297.out) | exact HB.out)⟩
              · rw [if_neg c34] at H
                have c34b0 : (x8_31 == 0) = false := beq_eq_false_iff_ne.mpr c34
                have c34b1 : (x8_31 != 0) = true := bne_iff_ne.mpr c34
                by_cases c66 : t290 = x8_31
                · rw [if_pos c66] at H
                  have c66b0 : (t290 == x8_31) = true := beq_iff_eq.mpr c66
                  have c66b1 : (t290 != x8_31) = false := bne_eq_false_iff_eq.mpr c66
                  clear c66
                  by_cases c67 : (t288 == 0 && (t289 == 0)) = true
                  · rw [if_pos c67] at H
                    have c67b0 : (t288 == 0 && (t289 == 0)) = true := c67
                    (try (have c67b1 : decide (t288 = 0 && (t289 == 0)) = true := by simpa using c67))
                    (try (have c67b2 : (t288 == 0 && (t289 == 0)) = true := by simpa using c67))
                    clear c67
                    replace H := Option.bind_eq_some_iff.mp H
                    obtain ⟨t300, A680, H⟩ := H
                    replace H : (some t300) = some r := H
                    have A68 := Aside0.mk A680
                    clear A680
                    obtain rfl := Option.some.inj H
                    have hnb69 := NB291_276.out
                    have hnc69 := NB276_291.out
                    have hcz70_0 : wc.cell? ⟨gb291, 0, none⟩ = some (.int .i64 t288) := (blk_cell BK291.out 0).trans rfl
                    have hcz70_1 : wc.cell? ⟨gb291, 1, none⟩ = some (.int .i64 t289) := (blk_cell BK291.out 1).trans rfl
                    have hfz70_0 := blk_frozen BK291.out 0
                    have hfz70_1 := blk_frozen BK291.out 1
                    go_wp2_with (first | (go_at_call 15; (with_reducible refine (tensilelaw09_wakes.calls  t300 _ A68.out).mono ?_); rintro e w71 ⟨rfl, hb⟩; have n0_ := Aside0.mk (blk_below (g := gb276) (o := .cells #[.int .i64 a0_0, .slice A0_1 l0_1.length c0_1] 24 (0, 0)) (by (with_reducible repeat (first | refine blk_drewN ?_ _ | refine blk_drew ?_ | refine blk_alloc ?_ _)); exact BK276.out) hb); have n1_ := Aside0.mk (blk_below (g := gb291) (o := .cells #[.int .i64 t288, .int .i64 t289] 34 (0, 0)) (by (with_reducible repeat (first | refine blk_drewN ?_ _ | refine blk_drew ?_ | refine blk_alloc ?_ _)); exact BK291.out) hb); have n2_ := Aside0.mk (below_step (by repeat (first | (with_reducible first | exact HB.out | apply below_alloc | apply pw_below_drewN | apply below_drew1 | refine below_set ?_ GE276.out | refine below_set ?_ GE291.out) | exact HB.out)) hb); clear BK276; clear BK291; clear HB; have BK276 := n0_; have BK291 := n1_; have HB := n2_; clear n0_ n1_ n2_; (try clear hb); (try clear hb2); (try clear hk); (try clear hi)))
                    go_ret
                    exact ⟨by first | rfl | (simp [errW_none, errW_some] <;> rfl) | (simp [*, errW_none, errW_some] <;> rfl), by repeat (first | (with_reducible first | exact HB.out | apply below_alloc | apply pw_below_drewN | apply below_drew1 | refine below_set ?_ GE276.out | refine below_set ?_ GE291.out) | exact HB.out)⟩
                  · rw [if_neg c67] at H
                    have c67b0 : (t288 == 0 && (t289 == 0)) = false := by simpa using c67
                    (try (have c67b1 : decide (t288 = 0 && (t289 == 0)) = false := by simpa using c67))
                    (try (have c67b2 : (t288 == 0 && (t289 == 0)) = false := by simpa using c67))
                    (try (have c67b3 : ¬ (t288 = 0 && (t289 == 0)) := by simpa using c67))
                    clear c67
                    obtain rfl := Option.some.inj H
                    have hnb72 := NB291_276.out
                    have hnc72 := NB276_291.out
                    have hcz73_0 : wc.cell? ⟨gb291, 0, none⟩ = some (.int .i64 t288) := (blk_cell BK291.out 0).trans rfl
                    have hcz73_1 : wc.cell? ⟨gb291, 1, none⟩ = some (.int .i64 t289) := (blk_cell BK291.out 1).trans rfl
                    have hfz73_0 := blk_frozen BK291.out 0
                    have hfz73_1 := blk_frozen BK291.out 1
                    go_wp2
                    go_ret
                    exact ⟨by first | rfl | (simp [errW_none, errW_some] <;> rfl) | (simp [*, errW_none, errW_some] <;> rfl), by repeat (first | (with_reducible first | exact HB.out | apply below_alloc | apply pw_below_drewN | apply below_drew1 | refine below_set ?_ GE276.out | refine below_set ?_ GE291.out) | exact HB.out)⟩
                · rw [if_neg c66] at H
                  have c66b0 : (t290 == x8_31) = false := beq_eq_false_iff_ne.mpr c66
                  have c66b1 : (t290 != x8_31) = true := bne_iff_ne.mpr c66
                  obtain rfl := Option.some.inj H
                  go_wp2
                  go_ret
                  exact ⟨by first | rfl | (simp [errW_none, errW_some] <;> rfl) | (simp [*, errW_none, errW_some] <;> rfl), by repeat (first | (with_reducible first | exact HB.out | apply below_alloc | apply pw_below_drewN | apply below_drew1 | refine below_set ?_ GE276.out | refine below_set ?_ GE291.out) | exact HB.out)⟩
    · rw [if_neg c10] at H
      have c10b0 : (t283 == t292) = false := beq_eq_false_iff_ne.mpr c10
      have c10b1 : (t283 != t292) = true := bne_iff_ne.mpr c10
      obtain rfl := Option.some.inj H
      go_enter Try.func3, Try.ntmps3
      go_wp2_with (first | ((with_reducible refine gate_dst (N := 2) rfl ?_); refine box_event ?hg (N := 2) ?hd (cs := #[.int .i64 a0_0, .slice A0_1 l0_1.length c0_1]) (t := 24) ?hr ?_; (case hd => rfl); (case hg => rfl); (case hr => first | (go_simp; done) | (go_simp; rfl)); intro gb276 hg w74 hbox hb; have n0_ := Aside0.mk (below_step (by repeat (first | (with_reducible first | exact HB.out | apply below_alloc | apply pw_below_drewN | apply below_drew1) | exact HB.out)) hb); have n1_ := Aside0.mk (hbox); have n2_ := Aside0.mk ((by rw [hg]; exact (below_size (by repeat (first | (with_reducible first | exact HB.out | apply below_alloc | apply pw_below_drewN | apply below_drew1) | exact HB.out))) : w.heap.size ≤ gb276)); have n3_ := Aside0.mk ((by rw [hg]; exact (below_size (by repeat (first | (with_reducible first | exact HB.out | apply below_alloc | apply pw_below_drewN | apply below_drew1) | exact HB.out))) : w.heap.size ≤ gb276)); clear HB; have HB := n0_; have BK276 := n1_; have GW276 := n2_; have GE276 := n3_; clear n0_ n1_ n2_ n3_; clear hb hbox hg; have hcz75_0 : w74.cell? ⟨gb276, 0, none⟩ = some (.int .i64 a0_0) := (blk_cell BK276.out 0).trans rfl; have hcz75_1 : w74.cell? ⟨gb276, 1, none⟩ = some (.slice A0_1 l0_1.length c0_1) := (blk_cell BK276.out 1).trans rfl; have hfz75_0 := blk_frozen BK276.out 0; have hfz75_1 := blk_frozen BK276.out 1) | ((with_reducible refine gate_callee (f := 14) rfl ?_); refine goesL_ (some 11) rfl rfl Try.func14 (by kernel_rfl) rfl #[.agg #[.int .i64 a0_0, .slice A0_1 l0_1.length c0_1]] rfl (by (try simp only [List.map_toArray, List.map_cons, List.map_nil]); first | done | rfl | (simp only [List.length_drop, List.length_take]; rfl)) ?_; (with_reducible refine (tensilelaw09_Thin.calls a0_0 _ _ l0_1 true _ ?side1 ?side2 A3.out).mono ?_); (case side1 => repeat (first | exact (Kd.C_below HR0_1.out HB.out) | (with_reducible refine Kd.C_alloc ?_ _) | (with_reducible refine Kd.C_drewN ?_ _) | (with_reducible refine Kd.C_drew ?_))); (case side2 => exact HC0_1.out); rintro e w76 ⟨rfl, hb⟩; refine ⟨_, rfl, ?_⟩; have n0_ := Aside0.mk (blk_below (g := gb276) (o := .cells #[.int .i64 a0_0, .slice A0_1 l0_1.length c0_1] 24 (0, 0)) (by (with_reducible repeat (first | refine blk_drewN ?_ _ | refine blk_drew ?_ | refine blk_alloc ?_ _)); exact BK276.out) hb); have n1_ := Aside0.mk (below_step (by repeat (first | (with_reducible first | exact HB.out | apply below_alloc | apply pw_below_drewN | apply below_drew1 | refine below_set ?_ GE276.out) | exact HB.out)) hb); clear BK276; clear HB; have BK276 := n0_; have HB := n1_; clear n0_ n1_; (try clear hb); (try clear hb2); (try clear hk); (try clear hi); have hcz77_0 : w76.cell? ⟨gb276, 0, none⟩ = some (.int .i64 a0_0) := (blk_cell BK276.out 0).trans rfl; have hcz77_1 : w76.cell? ⟨gb276, 1, none⟩ = some (.slice A0_1 l0_1.length c0_1) := (blk_cell BK276.out 1).trans rfl; have hfz77_0 := blk_frozen BK276.out 0; have hfz77_1 := blk_frozen BK276.out 1) | ((with_reducible refine gate_callee (f := 17) rfl ?_); refine goesL_ (some 15) rfl rfl Try.func17 (by kernel_rfl) rfl #[.agg #[.int .i64 a0_0, .slice A0_1 l0_1.length c0_1]] rfl (by (try simp only [List.map_toArray, List.map_cons, List.map_nil]); first | done | rfl | (simp only [List.length_drop, List.length_take]; rfl)) ?_; (with_reducible refine (tensilelaw09_Plan.calls k a0_0 _ _ l0_1 t279 t280 _ ?side1 ?side2 A5.out).mono ?_); (case side1 => repeat (first | exact (Kd.C_below HR0_1.out HB.out) | (with_reducible refine Kd.C_alloc ?_ _) | (with_reducible refine Kd.C_drewN ?_ _) | (with_reducible refine Kd.C_drew ?_))); (case side2 => exact HC0_1.out); rintro e w78 ⟨v281, rfl, ho0, hb⟩; refine ⟨_, rfl, ?_⟩; have n0_ := Aside0.mk (Kd.R_lower ho0 (below_size (by repeat (first | (with_reducible first | exact HB.out | apply below_alloc | apply pw_below_drewN | apply below_drew1 | refine below_set ?_ GE276.out) | exact HB.out)))); have n1_ := Aside0.mk (blk_below (g := gb276) (o := .cells #[.int .i64 a0_0, .slice A0_1 l0_1.length c0_1] 24 (0, 0)) (by (with_reducible repeat (first | refine blk_drewN ?_ _ | refine blk_drew ?_ | refine blk_alloc ?_ _)); exact BK276.out) hb); have n2_ := Aside0.mk (below_step (by repeat (first | (with_reducible first | exact HB.out | apply below_alloc | apply pw_below_drewN | apply below_drew1 | refine below_set ?_ GE276.out) | exact HB.out)) hb); clear BK276; clear HB; have HO282 := n0_; have BK276 := n1_; have HB := n2_; clear n0_ n1_ n2_; (try clear hb); (try clear hb2); (try clear hk); (try clear hi); (try clear ho0); obtain ⟨Ao79, co79, eo79⟩ := Kd.R_slice HO282.out; subst eo79) | ((with_reducible refine gate_callee (f := 16) rfl ?_); refine goesL_ (some 16) rfl rfl Try.func16 (by kernel_rfl) rfl #[.agg #[.int .i64 t279, .slice Ao79 t280.length co79]] rfl (by (try simp only [List.map_toArray, List.map_cons, List.map_nil]); first | done | rfl | (simp only [List.length_drop, List.length_take]; rfl)) ?_; (with_reducible refine (plan_CheckPlan.calls t279 _ _ t280 t283 _ ?side1 ?side2 A6.out).mono ?_); (case side1 => repeat (first | exact (Kd.R_reads' HO282.out).2.2 | (with_reducible refine Kd.C_alloc ?_ _) | (with_reducible refine Kd.C_drewN ?_ _) | (with_reducible refine Kd.C_drew ?_))); (case side2 => exact (Kd.R_reads' HO282.out).2.1); rintro e w80 ⟨rfl, hb⟩; refine ⟨_, rfl, ?_⟩; have n0_ := Aside0.mk (Kd.R_below (by (with_reducible repeat (first | apply Kd.R_alloc | apply Kd.R_drewN | apply Kd.R_drew)); exact HO282.out) hb); have n1_ := Aside0.mk (blk_below (g := gb276) (o := .cells #[.int .i64 a0_0, .slice A0_1 l0_1.length c0_1] 24 (0, 0)) (by (with_reducible repeat (first | refine blk_drewN ?_ _ | refine blk_drew ?_ | refine blk_alloc ?_ _)); exact BK276.out) hb); have n2_ := Aside0.mk (below_step (by repeat (first | (with_reducible first | exact HB.out | apply below_alloc | apply pw_below_drewN | apply below_drew1 | refine below_set ?_ GE276.out) | exact HB.out)) hb); clear HO282; clear BK276; clear HB; have HO282 := n0_; have BK276 := n1_; have HB := n2_; clear n0_ n1_ n2_; (try clear hb); (try clear hb2); (try clear hk); (try clear hi); have hcz81_0 : w80.cell? ⟨gb276, 0, none⟩ = some (.int .i64 a0_0) := (blk_cell BK276.out 0).trans rfl; have hcz81_1 : w80.cell? ⟨gb276, 1, none⟩ = some (.slice A0_1 l0_1.length c0_1) := (blk_cell BK276.out 1).trans rfl; have hfz81_0 := blk_frozen BK276.out 0; have hfz81_1 := blk_frozen BK276.out 1) | ((with_reducible refine gate_callee (f := 17) rfl ?_); refine goesL_ (some 19) rfl rfl Try.func17 (by kernel_rfl) rfl #[.agg #[.int .i64 a0_0, .slice A0_1 l0_1.length c0_1]] rfl (by (try simp only [List.map_toArray, List.map_cons, List.map_nil]); first | done | rfl | (simp only [List.length_drop, List.length_take]; rfl)) ?_; (with_reducible refine (tensilelaw09_Plan.calls k a0_0 _ _ l0_1 t284 t285 _ ?side1 ?side2 A7.out).mono ?_); (case side1 => repeat (first | exact (Kd.C_below HR0_1.out HB.out) | (with_reducible refine Kd.C_alloc ?_ _) | (with_reducible refine Kd.C_drewN ?_ _) | (with_reducible refine Kd.C_drew ?_))); (case side2 => exact HC0_1.out); rintro e w82 ⟨v286, rfl, ho0, hb⟩; refine ⟨_, rfl, ?_⟩; have n0_ := Aside0.mk (Kd.R_elder' (by (with_reducible repeat (first | apply Kd.R_alloc | apply Kd.R_drewN | apply Kd.R_drew)); exact HO282.out) (Kd.R_base ho0) hb); have n1_ := Aside0.mk (Kd.R_lower (Kd.R_new' ho0 (Kd.R_lt (by (with_reducible repeat (first | apply Kd.R_alloc | apply Kd.R_drewN | apply Kd.R_drew)); exact HO282.out))) (below_size (by repeat (first | (with_reducible first | exact HB.out | apply below_alloc | apply pw_below_drewN | apply below_drew1 | refine below_set ?_ GE276.out) | exact HB.out)))); have n2_ := Aside0.mk (blk_below (g := gb276) (o := .cells #[.int .i64 a0_0, .slice A0_1 l0_1.length c0_1] 24 (0, 0)) (by (with_reducible repeat (first | refine blk_drewN ?_ _ | refine blk_drew ?_ | refine blk_alloc ?_ _)); exact BK276.out) hb); have n3_ := Aside0.mk (below_step (by repeat (first | (with_reducible first | exact HB.out | apply below_alloc | apply pw_below_drewN | apply below_drew1 | refine below_set ?_ GE276.out) | exact HB.out)) hb); clear HO282; clear BK276; clear HB; have HO282 := n0_; have HO287 := n1_; have BK276 := n2_; have HB := n3_; clear n0_ n1_ n2_ n3_; (try clear hb); (try clear hb2); (try clear hk); (try clear hi); (try clear ho0); obtain ⟨Ao83, co83, eo83⟩ := Kd.R_slice HO287.out; subst eo83) | ((with_reducible refine gate_callee (f := 18) rfl ?_); refine goesL_ (some 21) rfl rfl Try.func18 (by kernel_rfl) rfl #[.agg #[.int .i64 t284, .slice Ao83 t285.length co83], .int .i64 a1] rfl (by (try simp only [List.map_toArray, List.map_cons, List.map_nil]); first | done | rfl | (simp only [List.length_drop, List.length_take]; rfl)) ?_; (with_reducible refine (plan_Chance.calls t284 _ _ t285 a1 t288 t289 t290 _ ?side1 ?side2 A8.out).mono ?_); (case side1 => repeat (first | exact (Kd.R_reads' HO287.out).2.2 | (with_reducible refine Kd.C_alloc ?_ _) | (with_reducible refine Kd.C_drewN ?_ _) | (with_reducible refine Kd.C_drew ?_))); (case side2 => exact (Kd.R_reads' HO287.out).2.1); rintro e w84 ⟨rfl, hb⟩; refine ⟨_, rfl, ?_⟩; have n0_ := Aside0.mk (Kd.R_below (by (with_reducible repeat (first | apply Kd.R_alloc | apply Kd.R_drewN | apply Kd.R_drew)); exact HO282.out) hb); have n1_ := Aside0.mk (Kd.R_below (by (with_reducible repeat (first | apply Kd.R_alloc | apply Kd.R_drewN | apply Kd.R_drew)); exact HO287.out) hb); have n2_ := Aside0.mk (blk_below (g := gb276) (o := .cells #[.int .i64 a0_0, .slice A0_1 l0_1.length c0_1] 24 (0, 0)) (by (with_reducible repeat (first | refine blk_drewN ?_ _ | refine blk_drew ?_ | refine blk_alloc ?_ _)); exact BK276.out) hb); have n3_ := Aside0.mk (below_step (by repeat (first | (with_reducible first | exact HB.out | apply below_alloc | apply pw_below_drewN | apply below_drew1 | refine below_set ?_ GE276.out) | exact HB.out)) hb); clear HO282; clear HO287; clear BK276; clear HB; have HO282 := n0_; have HO287 := n1_; have BK276 := n2_; have HB := n3_; clear n0_ n1_ n2_ n3_; (try clear hb); (try clear hb2); (try clear hk); (try clear hi)) | ((with_reducible refine gate_dst (N := 6) rfl ?_); refine box_event ?hg (N := 6) ?hd (cs := #[.int .i64 0, .int .i64 0]) (t := 34) ?hr ?_; (case hd => rfl); (case hg => rfl); (case hr => first | (go_simp; done) | (go_simp; rfl)); intro gb291 hg w85 hbox hb; have n0_ := Aside0.mk (Kd.R_below (by (with_reducible repeat (first | apply Kd.R_alloc | apply Kd.R_drewN | apply Kd.R_drew)); exact HO282.out) hb); have n1_ := Aside0.mk (Kd.R_below (by (with_reducible repeat (first | apply Kd.R_alloc | apply Kd.R_drewN | apply Kd.R_drew)); exact HO287.out) hb); have n2_ := Aside0.mk (blk_below (g := gb276) (o := .cells #[.int .i64 a0_0, .slice A0_1 l0_1.length c0_1] 24 (0, 0)) (by (with_reducible repeat (first | refine blk_drewN ?_ _ | refine blk_drew ?_ | refine blk_alloc ?_ _)); exact BK276.out) hb); have n3_ := Aside0.mk (below_step (by repeat (first | (with_reducible first | exact HB.out | apply below_alloc | apply pw_below_drewN | apply below_drew1 | refine below_set ?_ GE276.out) | exact HB.out)) hb); have n4_ := Aside0.mk (hbox); have n5_ := Aside0.mk ((by rw [hg]; exact (below_size (by repeat (first | (with_reducible first | exact HB.out | apply below_alloc | apply pw_below_drewN | apply below_drew1 | refine below_set ?_ GE276.out) | exact HB.out))) : w.heap.size ≤ gb291)); have n6_ := Aside0.mk ((by rw [hg]; exact (below_size (by repeat (first | (with_reducible first | exact HB.out | apply below_alloc | apply pw_below_drewN | apply below_drew1 | refine below_set ?_ GE276.out) | exact HB.out))) : w.heap.size ≤ gb291)); have n7_ := Aside0.mk ((by rw [hg]; exact Nat.ne_of_lt (blk_lt (g := gb276) (o := .cells #[.int .i64 a0_0, .slice A0_1 l0_1.length c0_1] 24 (0, 0)) (by (with_reducible repeat (first | refine blk_drewN ?_ _ | refine blk_drew ?_ | refine blk_alloc ?_ _)); exact BK276.out)) : gb276 ≠ gb291)); have n8_ := Aside0.mk ((by rw [hg]; exact Nat.ne_of_gt (blk_lt (g := gb276) (o := .cells #[.int .i64 a0_0, .slice A0_1 l0_1.length c0_1] 24 (0, 0)) (by (with_reducible repeat (first | refine blk_drewN ?_ _ | refine blk_drew ?_ | refine blk_alloc ?_ _)); exact BK276.out)) : gb291 ≠ gb276)); clear HO282; clear HO287; clear BK276; clear HB; have HO282 := n0_; have HO287 := n1_; have BK276 := n2_; have HB := n3_; have BK291 := n4_; have GW291 := n5_; have GE291 := n6_; have NB276_291 := n7_; have NB291_276 := n8_; clear n0_ n1_ n2_ n3_ n4_ n5_ n6_ n7_ n8_; clear hb hbox hg; have hnb86 := NB291_276.out; have hnc86 := NB276_291.out; have hcz87_0 : w85.cell? ⟨gb291, 0, none⟩ = some (.int .i64 0) := (blk_cell BK291.out 0).trans rfl; have hcz87_1 : w85.cell? ⟨gb291, 1, none⟩ = some (.int .i64 0) := (blk_cell BK291.out 1).trans rfl; have hfz87_0 := blk_frozen BK291.out 0; have hfz87_1 := blk_frozen BK291.out 1; have hcz88_0 : w85.cell? ⟨gb276, 0, none⟩ = some (.int .i64 a0_0) := (blk_cell BK276.out 0).trans rfl; have hcz88_1 : w85.cell? ⟨gb276, 1, none⟩ = some (.slice A0_1 l0_1.length c0_1) := (blk_cell BK276.out 1).trans rfl; have hfz88_0 := blk_frozen BK276.out 0; have hfz88_1 := blk_frozen BK276.out 1) | ((with_reducible refine gate_callee (f := 19) rfl ?_); refine goesL_ (some 25) rfl rfl Try.func19 (by kernel_rfl) rfl #[.agg #[.int .i64 a0_0, .slice A0_1 l0_1.length c0_1]] rfl (by (try simp only [List.map_toArray, List.map_cons, List.map_nil]); first | done | rfl | (simp only [List.length_drop, List.length_take]; rfl)) ?_; (with_reducible refine (tensilelaw09_fault.calls k a0_0 _ _ l0_1 t292 _ ?side1 ?side2 A9.out).mono ?_); (case side1 => exact Kd.C_below HR0_1.out (by repeat (first | (with_reducible first | exact HB.out | apply below_alloc | apply pw_below_drewN | apply below_drew1 | refine below_set ?_ GE276.out | refine below_set ?_ GE291.out) | exact HB.out))); (case side2 => exact HC0_1.out); rintro e w89 ⟨rfl, hb⟩; refine ⟨_, rfl, ?_⟩; have n0_ := Aside0.mk (Kd.R_below (by (with_reducible repeat (first | apply Kd.R_alloc | apply Kd.R_drewN | apply Kd.R_drew)); exact (Kd.R_mono (Kd.R_far (p := ⟨gb291, 1, none⟩) (Kd.R_far (p := ⟨gb291, 0, none⟩) (Kd.R_types HO282.out BK291.out (by decide)) (fun _ hk => hk.2) (.int .i64 t288)) (fun _ hk => hk.2) (.int .i64 t289)) (fun _ h_ => h_.1))) hb); have n1_ := Aside0.mk (Kd.R_below (by (with_reducible repeat (first | apply Kd.R_alloc | apply Kd.R_drewN | apply Kd.R_drew)); exact (Kd.R_mono (Kd.R_far (p := ⟨gb291, 1, none⟩) (Kd.R_far (p := ⟨gb291, 0, none⟩) (Kd.R_types HO287.out BK291.out (by decide)) (fun _ hk => hk.2) (.int .i64 t288)) (fun _ hk => hk.2) (.int .i64 t289)) (fun _ h_ => h_.1))) hb); have n2_ := Aside0.mk (blk_below (g := gb276) (o := .cells #[.int .i64 a0_0, .slice A0_1 l0_1.length c0_1] 24 (0, 0)) (by (with_reducible repeat (first | refine blk_drewN ?_ _ | refine blk_drew ?_ | refine blk_alloc ?_ _)); refine blk_far ?_ NB276_291.out _; (with_reducible repeat (first | refine blk_drewN ?_ _ | refine blk_drew ?_ | refine blk_alloc ?_ _)); refine blk_far ?_ NB276_291.out _; (with_reducible repeat (first | refine blk_drewN ?_ _ | refine blk_drew ?_ | refine blk_alloc ?_ _)); exact BK276.out) hb); have n3_ := Aside0.mk (blk_below (g := gb291) (o := .cells #[.int .i64 t288, .int .i64 t289] 34 (0, 0)) (by (with_reducible repeat (first | refine blk_drewN ?_ _ | refine blk_drew ?_ | refine blk_alloc ?_ _)); refine blk_put (cs := #[.int .i64 t288, .int .i64 0]) ?_ 1 _ rfl; (with_reducible repeat (first | refine blk_drewN ?_ _ | refine blk_drew ?_ | refine blk_alloc ?_ _)); refine blk_put (cs := #[.int .i64 0, .int .i64 0]) ?_ 0 _ rfl; (with_reducible repeat (first | refine blk_drewN ?_ _ | refine blk_drew ?_ | refine blk_alloc ?_ _)); exact BK291.out) hb); have n4_ := Aside0.mk (below_step (by repeat (first | (with_reducible first | exact HB.out | apply below_alloc | apply pw_below_drewN | apply below_drew1 | refine below_set ?_ GE276.out | refine below_set ?_ GE291.out) | exact HB.out)) hb); clear HO282; clear HO287; clear BK276; clear BK291; clear HB; have HO282 := n0_; have HO287 := n1_; have BK276 := n2_; have BK291 := n3_; have HB := n4_; clear n0_ n1_ n2_ n3_ n4_; (try clear hb); (try clear hb2); (try clear hk); (try clear hi)))
      go_ret
      exact ⟨by first | rfl | (simp [errW_none, errW_some] <;> rfl) | (simp [*, errW_none, errW_some] <;> rfl), by repeat (first | (with_reducible first | exact HB.out | apply below_alloc | apply pw_below_drewN | apply below_drew1 | refine below_set ?_ GE276.out | refine below_set ?_ GE291.out) | exact HB.out)⟩
  · replace c4 := Bool.eq_false_iff.mpr c4
    subst c4
    have H1 : ((tensilelaw09_wakes.f).bind fun t278 => (some t278)) = some r := by rw [if_neg (show ¬ (false = true) by decide)] at H; exact H
    clear H
    have H := H1
    clear H1
    replace H := Option.bind_eq_some_iff.mp H
    obtain ⟨t278, A900, H⟩ := H
    replace H : (some t278) = some r := H
    have A90 := Aside0.mk A900
    clear A900
    obtain rfl := Option.some.inj H
    go_enter Try.func3, Try.ntmps3
    go_wp2_with (first | ((with_reducible refine gate_dst (N := 2) rfl ?_); refine box_event ?hg (N := 2) ?hd (cs := #[.int .i64 a0_0, .slice A0_1 l0_1.length c0_1]) (t := 24) ?hr ?_; (case hd => rfl); (case hg => rfl); (case hr => first | (go_simp; done) | (go_simp; rfl)); intro gb276 hg w91 hbox hb; have n0_ := Aside0.mk (below_step (by repeat (first | (with_reducible first | exact HB.out | apply below_alloc | apply pw_below_drewN | apply below_drew1) | exact HB.out)) hb); have n1_ := Aside0.mk (hbox); have n2_ := Aside0.mk ((by rw [hg]; exact (below_size (by repeat (first | (with_reducible first | exact HB.out | apply below_alloc | apply pw_below_drewN | apply below_drew1) | exact HB.out))) : w.heap.size ≤ gb276)); have n3_ := Aside0.mk ((by rw [hg]; exact (below_size (by repeat (first | (with_reducible first | exact HB.out | apply below_alloc | apply pw_below_drewN | apply below_drew1) | exact HB.out))) : w.heap.size ≤ gb276)); clear HB; have HB := n0_; have BK276 := n1_; have GW276 := n2_; have GE276 := n3_; clear n0_ n1_ n2_ n3_; clear hb hbox hg; have hcz92_0 : w91.cell? ⟨gb276, 0, none⟩ = some (.int .i64 a0_0) := (blk_cell BK276.out 0).trans rfl; have hcz92_1 : w91.cell? ⟨gb276, 1, none⟩ = some (.slice A0_1 l0_1.length c0_1) := (blk_cell BK276.out 1).trans rfl; have hfz92_0 := blk_frozen BK276.out 0; have hfz92_1 := blk_frozen BK276.out 1) | ((with_reducible refine gate_callee (f := 14) rfl ?_); refine goesL_ (some 11) rfl rfl Try.func14 (by kernel_rfl) rfl #[.agg #[.int .i64 a0_0, .slice A0_1 l0_1.length c0_1]] rfl (by (try simp only [List.map_toArray, List.map_cons, List.map_nil]); first | done | rfl | (simp only [List.length_drop, List.length_take]; rfl)) ?_; (with_reducible refine (tensilelaw09_Thin.calls a0_0 _ _ l0_1 false _ ?side1 ?side2 A3.out).mono ?_); (case side1 => repeat (first | exact (Kd.C_below HR0_1.out HB.out) | (with_reducible refine Kd.C_alloc ?_ _) | (with_reducible refine Kd.C_drewN ?_ _) | (with_reducible refine Kd.C_drew ?_))); (case side2 => exact HC0_1.out); rintro e w93 ⟨rfl, hb⟩; refine ⟨_, rfl, ?_⟩; have n0_ := Aside0.mk (blk_below (g := gb276) (o := .cells #[.int .i64 a0_0, .slice A0_1 l0_1.length c0_1] 24 (0, 0)) (by (with_reducible repeat (first | refine blk_drewN ?_ _ | refine blk_drew ?_ | refine blk_alloc ?_ _)); exact BK276.out) hb); have n1_ := Aside0.mk (below_step (by repeat (first | (with_reducible first | exact HB.out | apply below_alloc | apply pw_below_drewN | apply below_drew1 | refine below_set ?_ GE276.out) | exact HB.out)) hb); clear BK276; clear HB; have BK276 := n0_; have HB := n1_; clear n0_ n1_; (try clear hb); (try clear hb2); (try clear hk); (try clear hi)) | ((with_reducible refine gate_callee (f := 15) rfl ?_); refine goesL_ (some 13) rfl rfl Try.func15 (by kernel_rfl) rfl #[] rfl (by (try simp only [List.map_toArray, List.map_cons, List.map_nil]); first | done | rfl | (simp only [List.length_drop, List.length_take]; rfl)) ?_; (with_reducible refine (tensilelaw09_wakes.calls  t278 _ A90.out).mono ?_); rintro e w94 ⟨rfl, hb⟩; refine ⟨_, rfl, ?_⟩; have n0_ := Aside0.mk (blk_below (g := gb276) (o := .cells #[.int .i64 a0_0, .slice A0_1 l0_1.length c0_1] 24 (0, 0)) (by (with_reducible repeat (first | refine blk_drewN ?_ _ | refine blk_drew ?_ | refine blk_alloc ?_ _)); exact BK276.out) hb); have n1_ := Aside0.mk (below_step (by repeat (first | (with_reducible first | exact HB.out | apply below_alloc | apply pw_below_drewN | apply below_drew1 | refine below_set ?_ GE276.out) | exact HB.out)) hb); clear BK276; clear HB; have BK276 := n0_; have HB := n1_; clear n0_ n1_; (try clear hb); (try clear hb2); (try clear hk); (try clear hi)))
    go_ret
    exact ⟨by first | rfl | (simp [errW_none, errW_some] <;> rfl) | (simp [*, errW_none, errW_some] <;> rfl), by repeat (first | (with_reducible first | exact HB.out | apply below_alloc | apply pw_below_drewN | apply below_drew1 | refine below_set ?_ GE276.out) | exact HB.out)⟩

end Go.Proofs.Ytigpnafpdmdmhaa.P

namespace Go.Proofs.Ytigpnafpdmdmhaa.Pure
open Go.RowKit Go.Proofs.Ytigpnafpdmdmhaa.P Go.Proofs.YtigpnafpdmdmhaaW.PrintWords
open Hand (Stg saysV fits lastDec Valid Cnt cntW shareV)
open Ma

theorem lowest_l0 (num den : Nat) (h1 : num ≤ 9223372036854775807) (h2 : den ≤ 9223372036854775807) : ∀ (y x K : Nat), y < K → 0 < x ∨ 0 < y →
    tensileref09_Lowest.l0 K (num : Int) (den : Int) (x : Int) (y : Int) = some (((num / Nat.gcd x y : Nat) : Int), ((den / Nat.gcd x y : Nat) : Int)) := by
  intro y
  induction y using Nat.strongRecOn with
  | _ y ih =>
    intro x K hK hp
    obtain ⟨K, rfl⟩ : ∃ m, K = m + 1 := ⟨K - 1, by omega⟩
    rw [tensileref09_Lowest.l0]
    by_cases h : y = 0
    · subst h
      have hx : 0 < x := by omega
      have w : ∀ z : Nat, z ≤ 9223372036854775807 → wrap64 (Int.tdiv (z : Int) (x : Int)) = ((z / x : Nat) : Int) := fun z hz => by
        have e : Int.tdiv (z : Int) (x : Int) = ((z / x : Nat) : Int) := rfl
        have := Nat.div_le_self z x
        rw [e]
        generalize z / x = q at this
        exact w_id (by omega) (by omega)
      rw [if_neg (by omega), if_neg (by omega), Nat.gcd_zero_right, w num h1, w den h2]
    · have hlt : x % y < y := Nat.mod_lt _ (by omega)
      have e : Int.tmod (x : Int) (y : Int) = ((x % y : Nat) : Int) := rfl
      rw [if_pos (by omega), if_neg (by omega), e, ih (x % y) hlt y K (by omega) (.inl (by omega))]
      have g : Nat.gcd y (x % y) = Nat.gcd x y := by rw [Nat.gcd_comm x y, Nat.gcd_rec y x, Nat.gcd_comm]
      rw [g]

theorem is_f (n d : Nat) (h1 : n ≤ 9223372036854775807) (h2 : d ≤ 9223372036854775807) (hd : 0 < d) (K : Nat) (hK : d < K) :
    tensilelaw09_is.f K ((n / Nat.gcd n d : Nat) : Int) ((d / Nat.gcd n d : Nat) : Int) (n : Int) (d : Int) = some true := by
  rw [tensilelaw09_is.f, tensileref09_Lowest.f, lowest_l0 n d h1 h2 d n K hK (.inr hd), Option.bind_some, if_pos rfl]
  simp

theorem PlanChances (a : Int) (l : List S57) (bad : Int) (ha : Fits a) (hl : ∀ s ∈ l, Fits s.f0 ∧ Fits s.f1 ∧ Fits s.f2) (hb : (Lit.int .i64 bad).wf = true) : ∃ k, tensilelaw09_PlanChances.f k a l bad = some true := by
  obtain ⟨K, hK⟩ : ∃ K : Nat, K = 300 + rest (l.map cSt) a.toNat + 2 := ⟨_, rfl⟩
  refine ⟨K, ?_⟩
  unfold tensilelaw09_PlanChances.f tensilelaw09_Thin.f
  rw [Option.bind_some]
  by_cases h5 : (l.length : Int) ≤ 5
  case neg => rw [decide_eq_false h5, if_neg (by decide), wakes_f]; rfl
  rw [decide_eq_true h5, if_pos rfl, plan_f a l (by omega) K (by omega), Option.bind_some]
  unfold plan_CheckPlan.f plan_Chance.f tensilelaw09_fault.f
  rw [Option.bind_some, Option.bind_some, fault_f a l ha hl (by omega) K (by omega)]
  dsimp only
  rw [toStg_c61]
  obtain ⟨K, rfl⟩ : ∃ m, K = m + 2 := ⟨K - 2, by omega⟩
  by_cases h0 : Hand.checkPlan a (l.map cSt) = 0
  · by_cases hr : 0 ≤ bad ∧ bad ≤ a
    · rw [chance_ok a _ h0 bad hr.1 hr.2]
      simp only [Option.bind_some, In_f]
      rw [if_pos trivial, if_pos h0, decide_eq_true hr]
      have hv := Hand.checkPlan_ok h0
      obtain ⟨b, rfl⟩ : ∃ m : Nat, bad = m := ⟨bad.toNat, by omega⟩
      obtain ⟨c1, c2, c3, c4, c5, c6⟩ := cnt_ok (lot := a.toNat) (l := l.map cSt) (by rw [Int.toNat_of_nonneg (by have := hv.lo; omega)]; exact hv) b (by omega)
      rw [tensilelaw09_PlanChances.j0, if_neg (by decide), tensilelaw09_PlanChances.j1, if_pos h0, all_f a l hv b hr.2 K (by omega), Option.bind_some, if_pos rfl]
      dsimp only
      rw [Int.toNat_natCast, is_f _ _ (by omega) (by omega) c5 K (by omega), Option.bind_some, if_pos rfl, wakes_f]
      rfl
    · rw [share_bad _ a _ h0 bad hr]
      simp only [Option.bind_some, In_f]
      rw [if_pos trivial, if_pos h0, decide_eq_false hr, tensilelaw09_PlanChances.j0, if_pos (by decide), tensilelaw09_PlanChances.j1, if_neg (by decide), if_pos rfl, if_pos (by decide), wakes_f]
      rfl
  · rw [share_err _ a _ h0 bad]
    simp only [Option.bind_some, In_f]
    rw [if_pos trivial, if_neg h0, tensilelaw09_PlanChances.j0, if_neg (by decide), tensilelaw09_PlanChances.j1, if_neg h0, if_pos rfl, if_pos (by decide), wakes_f]
    rfl

theorem PlanMeans (a : Int) (l : List S57) (bad : Int) (ha : Fits a) (hl : ∀ s ∈ l, Fits s.f0 ∧ Fits s.f1 ∧ Fits s.f2) (hb : (Lit.int .i64 bad).wf = true) : ∃ k, tensilelaw09_PlanMeans.f k a l bad = some true := by
  obtain ⟨K, hK⟩ : ∃ K : Nat, K = 300 + rest (l.map cSt) a.toNat + 2 := ⟨_, rfl⟩
  refine ⟨K, ?_⟩
  unfold tensilelaw09_PlanMeans.f tensilelaw09_Thin.f
  rw [Option.bind_some]
  by_cases h5 : (l.length : Int) ≤ 5
  case neg => rw [decide_eq_false h5, if_neg (by decide), wakes_f]; rfl
  rw [decide_eq_true h5, if_pos rfl, plan_f a l (by omega) K (by omega), Option.bind_some]
  unfold plan_Mean.f tensilelaw09_fault.f
  rw [fault_f a l ha hl (by omega) K (by omega)]
  dsimp only
  rw [toStg_c61]
  obtain ⟨K, rfl⟩ : ∃ m, K = m + 2 := ⟨K - 2, by omega⟩
  by_cases h0 : Hand.checkPlan a (l.map cSt) = 0
  · by_cases hr : 0 ≤ bad ∧ bad ≤ a
    · rw [mean_ok a _ h0 bad hr.1 hr.2]
      simp only [Option.bind_some, In_f]
      rw [if_pos h0, decide_eq_true hr]
      have hv := Hand.checkPlan_ok h0
      have h30 := hv.hi
      obtain ⟨b, rfl⟩ : ∃ m : Nat, bad = m := ⟨bad.toNat, by omega⟩
      obtain ⟨c1, c2, c3, c4, c5, c6⟩ := cnt_ok (lot := a.toNat) (l := l.map cSt) (by rw [Int.toNat_of_nonneg (by have := hv.lo; omega)]; exact hv) b (by omega)
      have h8 : tot (l.map cSt) * rest (l.map cSt) a.toNat ≤ 30 * 6430000000000000 := Nat.mul_le_mul (by omega) c6
      have c7 := Nat.le_trans c3 h8
      rw [tensilelaw09_PlanMeans.j0, if_neg (by decide), tensilelaw09_PlanMeans.j1, if_pos h0, all_f a l hv b hr.2 K (by omega), Option.bind_some, if_pos rfl]
      dsimp only
      rw [Int.toNat_natCast, is_f _ _ (by omega) (by omega) c5 K (by omega), Option.bind_some, if_pos rfl, wakes_f]
      rfl
    · rw [share_bad _ a _ h0 bad hr]
      simp only [Option.bind_some, In_f]
      rw [if_pos h0, decide_eq_false hr, tensilelaw09_PlanMeans.j0, if_pos (by decide), tensilelaw09_PlanMeans.j1, if_neg (by decide), if_pos rfl, if_pos (by decide), wakes_f]
      rfl
  · rw [share_err _ a _ h0 bad]
    simp only [Option.bind_some, In_f]
    rw [if_neg h0, tensilelaw09_PlanMeans.j0, if_neg (by decide), tensilelaw09_PlanMeans.j1, if_neg h0, if_pos rfl, if_pos (by decide), wakes_f]
    rfl
end Go.Proofs.Ytigpnafpdmdmhaa.Pure



namespace Go.Proofs.Ytigpnafpdmdmhaa.planMeans
open Go.ChangeShapes Go.WideShapes Go.ChangeAt Go.RowKit Go.Proofs.YtigpnafpdmdmhaaW.PrintWords
theorem own : ownKnob Try.prog.godebug = none := by kernel_rfl
theorem laidOut : laidOutB Try.prog = true := by kernel_rfl
set_option maxRecDepth 100000 in
theorem lifted (os : Os) (started : os.Started) (H : Type) (enc : TypeId × Value → H) :
    ReturnsInHanded {} Try.checked os 4 .any (Rows.planMeansSpec.pre6 enc Try.prog Try.f4 Rows.planMeansRow.domain false) (Rows.planMeansSpec.post enc Try.prog Try.f4 false true false false) := by
  refine returnsInHanded_of_change_sized (C := Try.checked) own started (by kernel_rfl) Try.func4
    (ChangeSpec.witness6 (enc := enc) (C := Try.checked) false ⟨#[], #[.agg #[.int .i64 0, .slice none 0 0], .int .i64 0], []⟩ 8 (by kernel_rfl) (by kernel_rfl) (by kernel_rfl) (by kernel_rfl)) ?_
  intro W base args ds gs before hval0 hW hcnd hsz0 _
  have hval : ∀ (j : Nat) t v, Try.f4.params[j]? = some t → args[j]? = some v → Value.okWide Try.prog W .any base t v := hval0
  have hW' := hW
  obtain ⟨p, q, hA0, hV, rfl, hfz, hnd⟩ := hW
  have hA : DataW.TrodAll enc Try.prog W 0 (fun _ => true) true Try.f4.params.toList args.toList ds p := hA0
  rw [Try.params4] at hA hval
  obtain ⟨v0, vs0, d0, ds0, p0, q0, hargs, rfl, rfl, h0, r0⟩ := trodAll_cons hA
  obtain ⟨v1, vs1, d1, ds1, p1, q1, rfl, rfl, rfl, h1, r1⟩ := trodAll_cons r0
  obtain ⟨rfl, rfl, rfl⟩ := trodAll_nil r1
  obtain rfl : args = #[v0, v1] := by cases args; simp_all
  obtain ⟨rfl, rfl⟩ := trodVars_none hV
  have k0 := h0
  have lt0 : ∀ x ∈ p0, x.block < W.heap.size := by obtain ⟨m, hm⟩ := k0; exact DataW.trod_lt m _ _ _ hm
  obtain ⟨cs0, rfl, _⟩ := okWide_struct Try.underlying24 (hval 0 24 v0 rfl rfl)
  obtain ⟨a0, A0, c0, l0, e0, w0, hc0, hC0, y0⟩ : ∃ (a : Int) (A : Option Addr) (cap : Nat) (l : List P.S57), cs0 = #[.int .i64 a, .slice A l.length cap] ∧ P.Fits a ∧ l.length ≤ cap ∧ Kd.C P.k57 W A l.length l ∧ ∀ s ∈ l, P.Fits s.f0 ∧ P.Fits s.f1 ∧ P.Fits s.f2 := by
    obtain ⟨fuel, hf⟩ := h0
    obtain ⟨a, A, cap, l, e, h1, h2, h3, h4⟩ := P.open24 hf
    exact ⟨a, A, cap, l, Array.toList_inj.1 e, h1, h2, h3, h4⟩
  subst e0
  obtain ⟨a1, rfl, rfl, rfl, w1⟩ := open_int Try.underlying3 (hval 1 3 v1 rfl rfl) h1
  clear hA0 hval0 hsz0
  obtain ⟨k, hP⟩ := Pure.PlanMeans a0 l0 a1 w0 y0 w1
  refine (P.tensilelaw09_PlanMeans.calls k a0 A0 c0 l0 a1 true W hC0 hc0 hP).mono fun e W' ⟨he, bel⟩ => ?_
  subst he
  exact ⟨_, rfl, _, _, _, [], _, [], hW', trodAll_mk1 (shut_bool Try.underlying4 _), (trodAll_cons_mk (Below.trod laidOut (by kernel_rfl) (of_decide_eq_true (by kernel_rfl)) k0 bel lt0) (trodAll_cons_mk (shut_int Try.underlying3 w1) trodAll_mk0)), rfl, bel.frame _, fun h => by cases h⟩
theorem over : Rows.planMeansRow.holds Try.pinned (OpenSpec.ofChange Rows.planMeansSpec) :=
  OpenClaim.holds_of_wide 4 Try.f4 rfl rfl rfl rfl rfl rfl rfl ⟨rfl, rfl, rfl, rfl, rfl⟩ rfl rfl rfl rfl rfl (by kernel_rfl) Try.func4 (by kernel_rfl)
    (of_decide_eq_true (by kernel_rfl)) (by unfold Func.isWrapper; first | (rw [if_pos (by decide +kernel)]; kernel_rfl) | (rw [if_neg (by decide +kernel)]; exact ⟨rfl, rfl⟩))
    (fun os started H enc _ => lifted os started H enc)
theorem proved : Rows.PlanMeansSaid := over
end Go.Proofs.Ytigpnafpdmdmhaa.planMeans
namespace Go.Proofs.Ytigpnafpdmdmhaa
/-- The row, under a short name, for the claim. -/
theorem planMeans_holds : Rows.PlanMeansSaid := planMeans.proved
end Go.Proofs.Ytigpnafpdmdmhaa
#print axioms Go.Proofs.Ytigpnafpdmdmhaa.planMeans_holds
