/- The statement PlanSplit: whatever the input (its guards are the law's own), the call returns true, and each argument reads as it did. -/
import Derived.Test.YtigpnafpdmdmhaaB2
import Derived.Test.YtigpnafpdmdmhaaWMore
import Derived.Test.YtigpnafpdmdmhaaWN
import Derived.Test.YtigpnafpdmdmhaaWNEv
import Derived.Test.YtigpnafpdmdmhaaWShare
import Derived.Test.YtigpnafpdmdmhaaB1
import Derived.Test.YtigpnafpdmdmhaaB0
import Derived.Test.YtigpnafpdmdmhaaRows
import Derived.WalkKit
import Derived.ProofKit
import Derived.OpenShut
import Derived.ShutString
import Derived.ChangeOld
import Derived.Below
import Derived.SizedLaws
set_option linter.unusedVariables false
set_option linter.unusedSimpArgs false
namespace Go.Proofs.Ytigpnafpdmdmhaa.P
open Go.RowKit Go.Proofs.YtigpnafpdmdmhaaW.PrintWords Go.Proofs.YtigpnafpdmdmhaaW.PrintLast Go.Proofs.YtigpnafpdmdmhaaW.PrintMore
theorem k57_mkF (W : World) (ok : Nat → Prop) (x : S57) : Kd.FK k57 W ok x [.int .i64 x.f0, .int .i64 x.f1, .int .i64 x.f2] := fun W2 _ => k57_mk W2 x
theorem k61_mkF (W : World) (ok : Nat → Prop) (x : S61) : Kd.FK k61 W ok x [.int .i64 x.f0, .int .i64 x.f1, .int .i64 x.f2] := fun W2 _ => k61_mk W2 x
end Go.Proofs.Ytigpnafpdmdmhaa.P

namespace Go.Proofs.Ytigpnafpdmdmhaa.P
open Go.RowKit Go.Proofs.YtigpnafpdmdmhaaW.PrintWords Go.Proofs.YtigpnafpdmdmhaaW.PrintLast Go.Proofs.YtigpnafpdmdmhaaW.PrintMore
attribute [local go_sem] max2_int min2_int max_two min_two max_three min_three max_four min_four   -- for this text's walks alone

attribute [local go_sem high] eqA34
/-! ### tensilelaw09_PlanSplit: function 10 -/
def tensilelaw09_PlanSplit.f (a0 : Int) (a1 : Int) (a2 : Int) (a3 : Int) (a4 : Int) : Option (Bool) := if (wrap64 ((wrap64 (2 + (Int.tmod (wrap64 (a0)) 29))) - 1)) = 0 then (none) else (if (wrap64 ((wrap64 (2 + (Int.tmod (wrap64 (a1)) (wrap64 ((wrap64 (2 + (Int.tmod (wrap64 (a0)) 29))) - 1))))) + 2)) = 0 then (none) else (if (wrap64 ((wrap64 (2 + (Int.tmod (wrap64 (a1)) (wrap64 ((wrap64 (2 + (Int.tmod (wrap64 (a0)) 29))) - 1))))) - 1)) = 0 then (none) else (if (wrap64 ((wrap64 (2 + (Int.tmod (wrap64 (a0)) 29))) + 1)) = 0 then (none) else ((plan_Chance.f (wrap64 (2 + (Int.tmod (wrap64 (a0)) 29))) (([(⟨wrap64 (2 + (Int.tmod (wrap64 (a1)) (wrap64 ((wrap64 (2 + (Int.tmod (wrap64 (a0)) 29))) - 1)))), wrap64 ((Int.tmod (wrap64 (a2)) (wrap64 ((wrap64 (2 + (Int.tmod (wrap64 (a1)) (wrap64 ((wrap64 (2 + (Int.tmod (wrap64 (a0)) 29))) - 1))))) + 2))) - 1), wrap64 ((wrap64 ((Int.tmod (wrap64 (a2)) (wrap64 ((wrap64 (2 + (Int.tmod (wrap64 (a1)) (wrap64 ((wrap64 (2 + (Int.tmod (wrap64 (a0)) 29))) - 1))))) + 2))) - 1)) + 1)⟩ : S61)] : List (S61))) (Int.tmod (wrap64 (a4)) (wrap64 ((wrap64 (2 + (Int.tmod (wrap64 (a0)) 29))) + 1)))).bind fun bt466 => ((plan_Chance.f (wrap64 (2 + (Int.tmod (wrap64 (a0)) 29))) (([(⟨wrap64 (1 + (Int.tmod (wrap64 (a3)) (wrap64 ((wrap64 (2 + (Int.tmod (wrap64 (a1)) (wrap64 ((wrap64 (2 + (Int.tmod (wrap64 (a0)) 29))) - 1))))) - 1)))), (-1), mn (wrap64 ((wrap64 (1 + (Int.tmod (wrap64 (a3)) (wrap64 ((wrap64 (2 + (Int.tmod (wrap64 (a1)) (wrap64 ((wrap64 (2 + (Int.tmod (wrap64 (a0)) 29))) - 1))))) - 1))))) + 1)) (wrap64 ((wrap64 ((Int.tmod (wrap64 (a2)) (wrap64 ((wrap64 (2 + (Int.tmod (wrap64 (a1)) (wrap64 ((wrap64 (2 + (Int.tmod (wrap64 (a0)) 29))) - 1))))) + 2))) - 1)) + 1))⟩ : S61), (⟨wrap64 ((wrap64 (2 + (Int.tmod (wrap64 (a1)) (wrap64 ((wrap64 (2 + (Int.tmod (wrap64 (a0)) 29))) - 1))))) - (wrap64 (1 + (Int.tmod (wrap64 (a3)) (wrap64 ((wrap64 (2 + (Int.tmod (wrap64 (a1)) (wrap64 ((wrap64 (2 + (Int.tmod (wrap64 (a0)) 29))) - 1))))) - 1)))))), wrap64 ((Int.tmod (wrap64 (a2)) (wrap64 ((wrap64 (2 + (Int.tmod (wrap64 (a1)) (wrap64 ((wrap64 (2 + (Int.tmod (wrap64 (a0)) 29))) - 1))))) + 2))) - 1), wrap64 ((wrap64 ((Int.tmod (wrap64 (a2)) (wrap64 ((wrap64 (2 + (Int.tmod (wrap64 (a1)) (wrap64 ((wrap64 (2 + (Int.tmod (wrap64 (a0)) 29))) - 1))))) + 2))) - 1)) + 1)⟩ : S61)] : List (S61))) (Int.tmod (wrap64 (a4)) (wrap64 ((wrap64 (2 + (Int.tmod (wrap64 (a0)) 29))) + 1)))).bind fun bt470 => (if bt466.2.2 = 0 then (if bt470.2.2 = 0 then (if (bt466.1 == bt470.1 && (bt466.2.1 == bt470.2.1)) = true then ((tensilelaw09_wakes.f).bind fun t474 => (some t474)) else (none)) else (none)) else (none)))))))
def tensilelaw09_PlanSplit.T7 : Bool × List (List Nat × List Nat) := (true, [([], []), ([], []), ([1], [1]), ([], []), ([3], [3]), ([2, 4], [2, 4]), ([0, 5], [0, 5]), ([6], [6]), ([7], [7]), ([7], [7]), ([], []), ([10, 8, 6, 0, 1, 2, 3, 4, 5, 6, 7, 8, 10], [8, 10]), ([9, 11, 0, 1, 2, 3, 4, 5, 6, 7, 8, 9, 10, 11], [9])])
def tensilelaw09_PlanSplit.B7 : List Nat := [0, 0, 2, 0, 8, 30, 63, 127, 255, 255, 0, 1535, 4095]
theorem tensilelaw09_PlanSplit.tab7 : rtab .any (opsOf Try.f10 7) = tensilelaw09_PlanSplit.T7 := by kernel_rfl
theorem tensilelaw09_PlanSplit.bits7 : waitsOk tensilelaw09_PlanSplit.T7.2 tensilelaw09_PlanSplit.B7 = true := by kernel_rfl
def tensilelaw09_PlanSplit.T8 : Bool × List (List Nat × List Nat) := (true, [([], []), ([], []), ([1], [1]), ([], []), ([3], [3]), ([2, 4], [2, 4]), ([0, 5], [0, 5]), ([6], [6]), ([7], [7]), ([7], [7]), ([], []), ([10, 8, 6, 0, 1, 2, 3, 4, 5, 6, 7, 8, 10], [8, 10]), ([9, 11, 0, 1, 2, 3, 4, 5, 6, 7, 8, 9, 10, 11], [9])])
def tensilelaw09_PlanSplit.B8 : List Nat := [0, 0, 2, 0, 8, 30, 63, 127, 255, 255, 0, 1535, 4095]
theorem tensilelaw09_PlanSplit.tab8 : rtab .any (opsOf Try.f10 8) = tensilelaw09_PlanSplit.T8 := by kernel_rfl
theorem tensilelaw09_PlanSplit.bits8 : waitsOk tensilelaw09_PlanSplit.T8.2 tensilelaw09_PlanSplit.B8 = true := by kernel_rfl
set_option maxHeartbeats 8000000 in
set_option maxRecDepth 100000 in
theorem tensilelaw09_PlanSplit.calls (a0 : Int) (a1 : Int) (a2 : Int) (a3 : Int) (a4 : Int) (r : Bool) (w : World) (h : tensilelaw09_PlanSplit.f a0 a1 a2 a3 a4 = some r) :
    Calls Try.prog 10 #[.int .u8 a0, .int .u8 a1, .int .u8 a2, .int .u8 a3, .int .u8 a4] w fun e w' => e = .returned (.bool r) ∧ Below w.heap.size w w' := by
  have hu61 := Try.underlying61
  have hu31 := Try.underlying31
  have hu34 := Try.underlying34
  have HB := Aside0.mk (Below.refl w.heap.size w)
  have H : (if (wrap64 ((wrap64 (2 + (Int.tmod (wrap64 (a0)) 29))) - 1)) = 0 then (none) else (if (wrap64 ((wrap64 (2 + (Int.tmod (wrap64 (a1)) (wrap64 ((wrap64 (2 + (Int.tmod (wrap64 (a0)) 29))) - 1))))) + 2)) = 0 then (none) else (if (wrap64 ((wrap64 (2 + (Int.tmod (wrap64 (a1)) (wrap64 ((wrap64 (2 + (Int.tmod (wrap64 (a0)) 29))) - 1))))) - 1)) = 0 then (none) else (if (wrap64 ((wrap64 (2 + (Int.tmod (wrap64 (a0)) 29))) + 1)) = 0 then (none) else ((plan_Chance.f (wrap64 (2 + (Int.tmod (wrap64 (a0)) 29))) (([(⟨wrap64 (2 + (Int.tmod (wrap64 (a1)) (wrap64 ((wrap64 (2 + (Int.tmod (wrap64 (a0)) 29))) - 1)))), wrap64 ((Int.tmod (wrap64 (a2)) (wrap64 ((wrap64 (2 + (Int.tmod (wrap64 (a1)) (wrap64 ((wrap64 (2 + (Int.tmod (wrap64 (a0)) 29))) - 1))))) + 2))) - 1), wrap64 ((wrap64 ((Int.tmod (wrap64 (a2)) (wrap64 ((wrap64 (2 + (Int.tmod (wrap64 (a1)) (wrap64 ((wrap64 (2 + (Int.tmod (wrap64 (a0)) 29))) - 1))))) + 2))) - 1)) + 1)⟩ : S61)] : List (S61))) (Int.tmod (wrap64 (a4)) (wrap64 ((wrap64 (2 + (Int.tmod (wrap64 (a0)) 29))) + 1)))).bind fun bt466 => ((plan_Chance.f (wrap64 (2 + (Int.tmod (wrap64 (a0)) 29))) (([(⟨wrap64 (1 + (Int.tmod (wrap64 (a3)) (wrap64 ((wrap64 (2 + (Int.tmod (wrap64 (a1)) (wrap64 ((wrap64 (2 + (Int.tmod (wrap64 (a0)) 29))) - 1))))) - 1)))), (-1), mn (wrap64 ((wrap64 (1 + (Int.tmod (wrap64 (a3)) (wrap64 ((wrap64 (2 + (Int.tmod (wrap64 (a1)) (wrap64 ((wrap64 (2 + (Int.tmod (wrap64 (a0)) 29))) - 1))))) - 1))))) + 1)) (wrap64 ((wrap64 ((Int.tmod (wrap64 (a2)) (wrap64 ((wrap64 (2 + (Int.tmod (wrap64 (a1)) (wrap64 ((wrap64 (2 + (Int.tmod (wrap64 (a0)) 29))) - 1))))) + 2))) - 1)) + 1))⟩ : S61), (⟨wrap64 ((wrap64 (2 + (Int.tmod (wrap64 (a1)) (wrap64 ((wrap64 (2 + (Int.tmod (wrap64 (a0)) 29))) - 1))))) - (wrap64 (1 + (Int.tmod (wrap64 (a3)) (wrap64 ((wrap64 (2 + (Int.tmod (wrap64 (a1)) (wrap64 ((wrap64 (2 + (Int.tmod (wrap64 (a0)) 29))) - 1))))) - 1)))))), wrap64 ((Int.tmod (wrap64 (a2)) (wrap64 ((wrap64 (2 + (Int.tmod (wrap64 (a1)) (wrap64 ((wrap64 (2 + (Int.tmod (wrap64 (a0)) 29))) - 1))))) + 2))) - 1), wrap64 ((wrap64 ((Int.tmod (wrap64 (a2)) (wrap64 ((wrap64 (2 + (Int.tmod (wrap64 (a1)) (wrap64 ((wrap64 (2 + (Int.tmod (wrap64 (a0)) 29))) - 1))))) + 2))) - 1)) + 1)⟩ : S61)] : List (S61))) (Int.tmod (wrap64 (a4)) (wrap64 ((wrap64 (2 + (Int.tmod (wrap64 (a0)) 29))) + 1)))).bind fun bt470 => (if bt466.2.2 = 0 then (if bt470.2.2 = 0 then (if (bt466.1 == bt470.1 && (bt466.2.1 == bt470.2.1)) = true then ((tensilelaw09_wakes.f).bind fun t474 => (some t474)) else (none)) else (none)) else (none)))))))) = some r := h
  clear h
  by_cases c6 : (wrap64 ((wrap64 (2 + (Int.tmod (wrap64 (a0)) 29))) - 1)) = 0
  · rw [if_pos c6] at H
    exact absurd H (by simp)
  · rw [if_neg c6] at H
    have c6b0 : ((wrap64 ((wrap64 (2 + (Int.tmod (wrap64 (a0)) 29))) - 1)) == 0) = false := beq_eq_false_iff_ne.mpr c6
    have c6b1 : ((wrap64 ((wrap64 (2 + (Int.tmod (wrap64 (a0)) 29))) - 1)) != 0) = true := bne_iff_ne.mpr c6
    by_cases c7 : (wrap64 ((wrap64 (2 + (Int.tmod (wrap64 (a1)) (wrap64 ((wrap64 (2 + (Int.tmod (wrap64 (a0)) 29))) - 1))))) + 2)) = 0
    · rw [if_pos c7] at H
      exact absurd H (by simp)
    · rw [if_neg c7] at H
      have c7b0 : ((wrap64 ((wrap64 (2 + (Int.tmod (wrap64 (a1)) (wrap64 ((wrap64 (2 + (Int.tmod (wrap64 (a0)) 29))) - 1))))) + 2)) == 0) = false := beq_eq_false_iff_ne.mpr c7
      have c7b1 : ((wrap64 ((wrap64 (2 + (Int.tmod (wrap64 (a1)) (wrap64 ((wrap64 (2 + (Int.tmod (wrap64 (a0)) 29))) - 1))))) + 2)) != 0) = true := bne_iff_ne.mpr c7
      by_cases c8 : (wrap64 ((wrap64 (2 + (Int.tmod (wrap64 (a1)) (wrap64 ((wrap64 (2 + (Int.tmod (wrap64 (a0)) 29))) - 1))))) - 1)) = 0
      · rw [if_pos c8] at H
        exact absurd H (by simp)
      · rw [if_neg c8] at H
        have c8b0 : ((wrap64 ((wrap64 (2 + (Int.tmod (wrap64 (a1)) (wrap64 ((wrap64 (2 + (Int.tmod (wrap64 (a0)) 29))) - 1))))) - 1)) == 0) = false := beq_eq_false_iff_ne.mpr c8
        have c8b1 : ((wrap64 ((wrap64 (2 + (Int.tmod (wrap64 (a1)) (wrap64 ((wrap64 (2 + (Int.tmod (wrap64 (a0)) 29))) - 1))))) - 1)) != 0) = true := bne_iff_ne.mpr c8
        obtain ⟨y458, hy458⟩ : ∃ y_ : List (S61), y_ = (([(⟨wrap64 (2 + (Int.tmod (wrap64 (a1)) (wrap64 ((wrap64 (2 + (Int.tmod (wrap64 (a0)) 29))) - 1)))), wrap64 ((Int.tmod (wrap64 (a2)) (wrap64 ((wrap64 (2 + (Int.tmod (wrap64 (a1)) (wrap64 ((wrap64 (2 + (Int.tmod (wrap64 (a0)) 29))) - 1))))) + 2))) - 1), wrap64 ((wrap64 ((Int.tmod (wrap64 (a2)) (wrap64 ((wrap64 (2 + (Int.tmod (wrap64 (a1)) (wrap64 ((wrap64 (2 + (Int.tmod (wrap64 (a0)) 29))) - 1))))) + 2))) - 1)) + 1)⟩ : S61)] : List (S61))) := ⟨_, rfl⟩
        replace H : (if (wrap64 ((wrap64 (2 + (Int.tmod (wrap64 (a0)) 29))) + 1)) = 0 then (none) else ((plan_Chance.f (wrap64 (2 + (Int.tmod (wrap64 (a0)) 29))) y458 (Int.tmod (wrap64 (a4)) (wrap64 ((wrap64 (2 + (Int.tmod (wrap64 (a0)) 29))) + 1)))).bind fun bt466 => ((plan_Chance.f (wrap64 (2 + (Int.tmod (wrap64 (a0)) 29))) (([(⟨wrap64 (1 + (Int.tmod (wrap64 (a3)) (wrap64 ((wrap64 (2 + (Int.tmod (wrap64 (a1)) (wrap64 ((wrap64 (2 + (Int.tmod (wrap64 (a0)) 29))) - 1))))) - 1)))), (-1), mn (wrap64 ((wrap64 (1 + (Int.tmod (wrap64 (a3)) (wrap64 ((wrap64 (2 + (Int.tmod (wrap64 (a1)) (wrap64 ((wrap64 (2 + (Int.tmod (wrap64 (a0)) 29))) - 1))))) - 1))))) + 1)) (wrap64 ((wrap64 ((Int.tmod (wrap64 (a2)) (wrap64 ((wrap64 (2 + (Int.tmod (wrap64 (a1)) (wrap64 ((wrap64 (2 + (Int.tmod (wrap64 (a0)) 29))) - 1))))) + 2))) - 1)) + 1))⟩ : S61), (⟨wrap64 ((wrap64 (2 + (Int.tmod (wrap64 (a1)) (wrap64 ((wrap64 (2 + (Int.tmod (wrap64 (a0)) 29))) - 1))))) - (wrap64 (1 + (Int.tmod (wrap64 (a3)) (wrap64 ((wrap64 (2 + (Int.tmod (wrap64 (a1)) (wrap64 ((wrap64 (2 + (Int.tmod (wrap64 (a0)) 29))) - 1))))) - 1)))))), wrap64 ((Int.tmod (wrap64 (a2)) (wrap64 ((wrap64 (2 + (Int.tmod (wrap64 (a1)) (wrap64 ((wrap64 (2 + (Int.tmod (wrap64 (a0)) 29))) - 1))))) + 2))) - 1), wrap64 ((wrap64 ((Int.tmod (wrap64 (a2)) (wrap64 ((wrap64 (2 + (Int.tmod (wrap64 (a1)) (wrap64 ((wrap64 (2 + (Int.tmod (wrap64 (a0)) 29))) - 1))))) + 2))) - 1)) + 1)⟩ : S61)] : List (S61))) (Int.tmod (wrap64 (a4)) (wrap64 ((wrap64 (2 + (Int.tmod (wrap64 (a0)) 29))) + 1)))).bind fun bt470 => (if bt466.2.2 = 0 then (if bt470.2.2 = 0 then (if (bt466.1 == bt470.1 && (bt466.2.1 == bt470.2.1)) = true then ((tensilelaw09_wakes.f).bind fun t474 => (some t474)) else (none)) else (none)) else (none))))) = some r := by first | (rw [hy458]; with_reducible exact H) | (have H2_ := (Option.bind_some _ _).symm.trans H; rw [hy458]; with_reducible exact H2_) | (have H2_ := (Option.bind_some _ _).symm.trans H; with_reducible exact H2_) | with_reducible exact H | (rw [hy458]; exact H) | exact H
        have Ny458 := Aside0.mk hy458
        clear hy458
        obtain ⟨ji9, hji9⟩ : ∃ j_ : Int, (mn (wrap64 ((wrap64 (1 + (Int.tmod (wrap64 (a3)) (wrap64 ((wrap64 (2 + (Int.tmod (wrap64 (a1)) (wrap64 ((wrap64 (2 + (Int.tmod (wrap64 (a0)) 29))) - 1))))) - 1))))) + 1)) (wrap64 ((wrap64 ((Int.tmod (wrap64 (a2)) (wrap64 ((wrap64 (2 + (Int.tmod (wrap64 (a1)) (wrap64 ((wrap64 (2 + (Int.tmod (wrap64 (a0)) 29))) - 1))))) + 2))) - 1)) + 1))) = j_ := ⟨_, rfl⟩
        replace H : (if (wrap64 ((wrap64 (2 + (Int.tmod (wrap64 (a0)) 29))) + 1)) = 0 then (none) else ((plan_Chance.f (wrap64 (2 + (Int.tmod (wrap64 (a0)) 29))) y458 (Int.tmod (wrap64 (a4)) (wrap64 ((wrap64 (2 + (Int.tmod (wrap64 (a0)) 29))) + 1)))).bind fun bt466 => ((plan_Chance.f (wrap64 (2 + (Int.tmod (wrap64 (a0)) 29))) (([(⟨wrap64 (1 + (Int.tmod (wrap64 (a3)) (wrap64 ((wrap64 (2 + (Int.tmod (wrap64 (a1)) (wrap64 ((wrap64 (2 + (Int.tmod (wrap64 (a0)) 29))) - 1))))) - 1)))), (-1), ji9⟩ : S61), (⟨wrap64 ((wrap64 (2 + (Int.tmod (wrap64 (a1)) (wrap64 ((wrap64 (2 + (Int.tmod (wrap64 (a0)) 29))) - 1))))) - (wrap64 (1 + (Int.tmod (wrap64 (a3)) (wrap64 ((wrap64 (2 + (Int.tmod (wrap64 (a1)) (wrap64 ((wrap64 (2 + (Int.tmod (wrap64 (a0)) 29))) - 1))))) - 1)))))), wrap64 ((Int.tmod (wrap64 (a2)) (wrap64 ((wrap64 (2 + (Int.tmod (wrap64 (a1)) (wrap64 ((wrap64 (2 + (Int.tmod (wrap64 (a0)) 29))) - 1))))) + 2))) - 1), wrap64 ((wrap64 ((Int.tmod (wrap64 (a2)) (wrap64 ((wrap64 (2 + (Int.tmod (wrap64 (a1)) (wrap64 ((wrap64 (2 + (Int.tmod (wrap64 (a0)) 29))) - 1))))) + 2))) - 1)) + 1)⟩ : S61)] : List (S61))) (Int.tmod (wrap64 (a4)) (wrap64 ((wrap64 (2 + (Int.tmod (wrap64 (a0)) 29))) + 1)))).bind fun bt470 => (if bt466.2.2 = 0 then (if bt470.2.2 = 0 then (if (bt466.1 == bt470.1 && (bt466.2.1 == bt470.2.1)) = true then ((tensilelaw09_wakes.f).bind fun t474 => (some t474)) else (none)) else (none)) else (none))))) = some r := by first | (rw [hji9] at H; exact H) | (simp only [hji9] at H ⊢; exact H)
        have hji9_ : (if (wrap64 ((wrap64 ((Int.tmod (wrap64 (a2)) (wrap64 ((wrap64 (2 + (Int.tmod (wrap64 (a1)) (wrap64 ((wrap64 (2 + (Int.tmod (wrap64 (a0)) 29))) - 1))))) + 2))) - 1)) + 1)) < (wrap64 ((wrap64 (1 + (Int.tmod (wrap64 (a3)) (wrap64 ((wrap64 (2 + (Int.tmod (wrap64 (a1)) (wrap64 ((wrap64 (2 + (Int.tmod (wrap64 (a0)) 29))) - 1))))) - 1))))) + 1)) then (wrap64 ((wrap64 ((Int.tmod (wrap64 (a2)) (wrap64 ((wrap64 (2 + (Int.tmod (wrap64 (a1)) (wrap64 ((wrap64 (2 + (Int.tmod (wrap64 (a0)) 29))) - 1))))) + 2))) - 1)) + 1)) else (wrap64 ((wrap64 (1 + (Int.tmod (wrap64 (a3)) (wrap64 ((wrap64 (2 + (Int.tmod (wrap64 (a1)) (wrap64 ((wrap64 (2 + (Int.tmod (wrap64 (a0)) 29))) - 1))))) - 1))))) + 1))) = ji9 := hji9
        obtain ⟨y462, hy462⟩ : ∃ y_ : List (S61), y_ = (([(⟨wrap64 (1 + (Int.tmod (wrap64 (a3)) (wrap64 ((wrap64 (2 + (Int.tmod (wrap64 (a1)) (wrap64 ((wrap64 (2 + (Int.tmod (wrap64 (a0)) 29))) - 1))))) - 1)))), (-1), ji9⟩ : S61), (⟨wrap64 ((wrap64 (2 + (Int.tmod (wrap64 (a1)) (wrap64 ((wrap64 (2 + (Int.tmod (wrap64 (a0)) 29))) - 1))))) - (wrap64 (1 + (Int.tmod (wrap64 (a3)) (wrap64 ((wrap64 (2 + (Int.tmod (wrap64 (a1)) (wrap64 ((wrap64 (2 + (Int.tmod (wrap64 (a0)) 29))) - 1))))) - 1)))))), wrap64 ((Int.tmod (wrap64 (a2)) (wrap64 ((wrap64 (2 + (Int.tmod (wrap64 (a1)) (wrap64 ((wrap64 (2 + (Int.tmod (wrap64 (a0)) 29))) - 1))))) + 2))) - 1), wrap64 ((wrap64 ((Int.tmod (wrap64 (a2)) (wrap64 ((wrap64 (2 + (Int.tmod (wrap64 (a1)) (wrap64 ((wrap64 (2 + (Int.tmod (wrap64 (a0)) 29))) - 1))))) + 2))) - 1)) + 1)⟩ : S61)] : List (S61))) := ⟨_, rfl⟩
        replace H : (if (wrap64 ((wrap64 (2 + (Int.tmod (wrap64 (a0)) 29))) + 1)) = 0 then (none) else ((plan_Chance.f (wrap64 (2 + (Int.tmod (wrap64 (a0)) 29))) y458 (Int.tmod (wrap64 (a4)) (wrap64 ((wrap64 (2 + (Int.tmod (wrap64 (a0)) 29))) + 1)))).bind fun bt466 => ((plan_Chance.f (wrap64 (2 + (Int.tmod (wrap64 (a0)) 29))) y462 (Int.tmod (wrap64 (a4)) (wrap64 ((wrap64 (2 + (Int.tmod (wrap64 (a0)) 29))) + 1)))).bind fun bt470 => (if bt466.2.2 = 0 then (if bt470.2.2 = 0 then (if (bt466.1 == bt470.1 && (bt466.2.1 == bt470.2.1)) = true then ((tensilelaw09_wakes.f).bind fun t474 => (some t474)) else (none)) else (none)) else (none))))) = some r := by first | (rw [hy462]; with_reducible exact H) | (have H2_ := (Option.bind_some _ _).symm.trans H; rw [hy462]; with_reducible exact H2_) | (have H2_ := (Option.bind_some _ _).symm.trans H; with_reducible exact H2_) | with_reducible exact H | (rw [hy462]; exact H) | exact H
        have Ny462 := Aside0.mk hy462
        clear hy462
        by_cases c10 : (wrap64 ((wrap64 (2 + (Int.tmod (wrap64 (a0)) 29))) + 1)) = 0
        · rw [if_pos c10] at H
          exact absurd H (by simp)
        · rw [if_neg c10] at H
          have c10b0 : ((wrap64 ((wrap64 (2 + (Int.tmod (wrap64 (a0)) 29))) + 1)) == 0) = false := beq_eq_false_iff_ne.mpr c10
          have c10b1 : ((wrap64 ((wrap64 (2 + (Int.tmod (wrap64 (a0)) 29))) + 1)) != 0) = true := bne_iff_ne.mpr c10
          replace H := Option.bind_eq_some_iff.mp H
          obtain ⟨⟨t466, t467, t468⟩, A110, H⟩ := H
          replace H : ((plan_Chance.f (wrap64 (2 + (Int.tmod (wrap64 (a0)) 29))) y462 (Int.tmod (wrap64 (a4)) (wrap64 ((wrap64 (2 + (Int.tmod (wrap64 (a0)) 29))) + 1)))).bind fun bt470 => (if t468 = 0 then (if bt470.2.2 = 0 then (if (t466 == bt470.1 && (t467 == bt470.2.1)) = true then ((tensilelaw09_wakes.f).bind fun t474 => (some t474)) else (none)) else (none)) else (none))) = some r := H
          have A11 := Aside0.mk A110
          clear A110
          replace H := Option.bind_eq_some_iff.mp H
          obtain ⟨⟨t470, t471, t472⟩, A120, H⟩ := H
          replace H : (if t468 = 0 then (if t472 = 0 then (if (t466 == t470 && (t467 == t471)) = true then ((tensilelaw09_wakes.f).bind fun t474 => (some t474)) else (none)) else (none)) else (none)) = some r := H
          have A12 := Aside0.mk A120
          clear A120
          by_cases c13 : t468 = 0
          · rw [if_pos c13] at H
            have c13b0 : (t468 == 0) = true := beq_iff_eq.mpr c13
            have c13b1 : (t468 != 0) = false := bne_eq_false_iff_eq.mpr c13
            clear c13
            by_cases c14 : t472 = 0
            · rw [if_pos c14] at H
              have c14b0 : (t472 == 0) = true := beq_iff_eq.mpr c14
              have c14b1 : (t472 != 0) = false := bne_eq_false_iff_eq.mpr c14
              clear c14
              by_cases c15 : (t466 == t470 && (t467 == t471)) = true
              · rw [if_pos c15] at H
                have c15b0 : (t466 == t470 && (t467 == t471)) = true := c15
                (try (have c15b1 : decide (t466 = t470 && (t467 == t471)) = true := by simpa using c15))
                (try (have c15b2 : (t466 == t470 && (t467 == t471)) = true := by simpa using c15))
                clear c15
                replace H := Option.bind_eq_some_iff.mp H
                obtain ⟨t474, A160, H⟩ := H
                replace H : (some t474) = some r := H
                have A16 := Aside0.mk A160
                clear A160
                obtain rfl := Option.some.inj H
                go_enter Try.func10, Try.ntmps10
                try go_wp2_with (first | ((with_reducible refine gate_dst (N := 49) rfl ?_); refine Kd.R_lit k61 _ 61 ?hg (N := 49) ?hd (xs := ([(⟨wrap64 (2 + (Int.tmod (wrap64 (a1)) (wrap64 ((wrap64 (2 + (Int.tmod (wrap64 (a0)) 29))) - 1)))), wrap64 ((Int.tmod (wrap64 (a2)) (wrap64 ((wrap64 (2 + (Int.tmod (wrap64 (a1)) (wrap64 ((wrap64 (2 + (Int.tmod (wrap64 (a0)) 29))) - 1))))) + 2))) - 1), wrap64 ((wrap64 ((Int.tmod (wrap64 (a2)) (wrap64 ((wrap64 (2 + (Int.tmod (wrap64 (a1)) (wrap64 ((wrap64 (2 + (Int.tmod (wrap64 (a0)) 29))) - 1))))) + 2))) - 1)) + 1)⟩ : S61)] : List (S61))) (inner := [.int .i64 (wrap64 (2 + (Int.tmod (wrap64 (a1)) (wrap64 ((wrap64 (2 + (Int.tmod (wrap64 (a0)) 29))) - 1))))), .int .i64 (wrap64 ((Int.tmod (wrap64 (a2)) (wrap64 ((wrap64 (2 + (Int.tmod (wrap64 (a1)) (wrap64 ((wrap64 (2 + (Int.tmod (wrap64 (a0)) 29))) - 1))))) + 2))) - 1)), .int .i64 (wrap64 ((wrap64 ((Int.tmod (wrap64 (a2)) (wrap64 ((wrap64 (2 + (Int.tmod (wrap64 (a1)) (wrap64 ((wrap64 (2 + (Int.tmod (wrap64 (a0)) 29))) - 1))))) + 2))) - 1)) + 1))]) (ok := fun _ => True) (okp := fun _ => True) ?hr ?hp (fun _ hk => hk) trivial (Below.refl _ _) (Nat.le_refl _) (by simp) ?_; (case hd => rfl); (case hg => rfl); (case hr => first | (go_simp; done) | (go_simp; rfl)); (case hp => exact (Reps.c3 (show Kd.M k61 _ _ _ (⟨wrap64 (2 + (Int.tmod (wrap64 (a1)) (wrap64 ((wrap64 (2 + (Int.tmod (wrap64 (a0)) 29))) - 1)))), wrap64 ((Int.tmod (wrap64 (a2)) (wrap64 ((wrap64 (2 + (Int.tmod (wrap64 (a1)) (wrap64 ((wrap64 (2 + (Int.tmod (wrap64 (a0)) 29))) - 1))))) + 2))) - 1), wrap64 ((wrap64 ((Int.tmod (wrap64 (a2)) (wrap64 ((wrap64 (2 + (Int.tmod (wrap64 (a1)) (wrap64 ((wrap64 (2 + (Int.tmod (wrap64 (a0)) 29))) - 1))))) + 2))) - 1)) + 1)⟩ : S61) [.int .i64 (wrap64 (2 + (Int.tmod (wrap64 (a1)) (wrap64 ((wrap64 (2 + (Int.tmod (wrap64 (a0)) 29))) - 1))))), .int .i64 (wrap64 ((Int.tmod (wrap64 (a2)) (wrap64 ((wrap64 (2 + (Int.tmod (wrap64 (a1)) (wrap64 ((wrap64 (2 + (Int.tmod (wrap64 (a0)) 29))) - 1))))) + 2))) - 1)), .int .i64 (wrap64 ((wrap64 ((Int.tmod (wrap64 (a2)) (wrap64 ((wrap64 (2 + (Int.tmod (wrap64 (a1)) (wrap64 ((wrap64 (2 + (Int.tmod (wrap64 (a0)) 29))) - 1))))) + 2))) - 1)) + 1))] from (k61_mkM _ _ _ (⟨wrap64 (2 + (Int.tmod (wrap64 (a1)) (wrap64 ((wrap64 (2 + (Int.tmod (wrap64 (a0)) 29))) - 1)))), wrap64 ((Int.tmod (wrap64 (a2)) (wrap64 ((wrap64 (2 + (Int.tmod (wrap64 (a1)) (wrap64 ((wrap64 (2 + (Int.tmod (wrap64 (a0)) 29))) - 1))))) + 2))) - 1), wrap64 ((wrap64 ((Int.tmod (wrap64 (a2)) (wrap64 ((wrap64 (2 + (Int.tmod (wrap64 (a1)) (wrap64 ((wrap64 (2 + (Int.tmod (wrap64 (a0)) 29))) - 1))))) + 2))) - 1)) + 1)⟩ : S61) )) (Reps.none _ _))); intro v459 w17 ho18 hb hg_ hnew_; clear hg_ hnew_; (first | rw [← Ny458.out] at ho18 | (simp only [Int.reduceToNat] at ho18; rw [← Ny458.out] at ho18)); have n0_ := Aside0.mk (Kd.R_lower ho18 (below_size (by repeat (first | (with_reducible first | exact HB.out | apply below_alloc | apply pw_below_drewN | apply below_drew1) | exact HB.out)))); have n1_ := Aside0.mk (below_step (by repeat (first | (with_reducible first | exact HB.out | apply below_alloc | apply pw_below_drewN | apply below_drew1) | exact HB.out)) hb); clear HB; have HO460 := n0_; have HB := n1_; clear n0_ n1_; clear hb ho18; obtain ⟨Ao19, co19, eo19⟩ := Kd.R_slice HO460.out; subst eo19) | ((with_reducible refine gate_dst (N := 15) rfl ?_); refine box_event ?hg (N := 15) ?hd (cs := #[.int .i64 0, .slice none 0 0]) (t := 31) ?hr ?_; (case hd => rfl); (case hg => rfl); (case hr => first | (go_simp; done) | (go_simp; rfl)); intro gb461 hg w20 hbox hb; have n0_ := Aside0.mk (Kd.R_below (by (with_reducible repeat (first | apply Kd.R_alloc | apply Kd.R_drewN | apply Kd.R_drew)); exact HO460.out) hb); have n1_ := Aside0.mk (below_step (by repeat (first | (with_reducible first | exact HB.out | apply below_alloc | apply pw_below_drewN | apply below_drew1) | exact HB.out)) hb); have n2_ := Aside0.mk (hbox); have n3_ := Aside0.mk ((by rw [hg]; exact (below_size (by repeat (first | (with_reducible first | exact HB.out | apply below_alloc | apply pw_below_drewN | apply below_drew1) | exact HB.out))) : w.heap.size ≤ gb461)); have n4_ := Aside0.mk ((by rw [hg]; exact (below_size (by repeat (first | (with_reducible first | exact HB.out | apply below_alloc | apply pw_below_drewN | apply below_drew1) | exact HB.out))) : w.heap.size ≤ gb461)); clear HO460; clear HB; have HO460 := n0_; have HB := n1_; have BK461 := n2_; have GW461 := n3_; have GE461 := n4_; clear n0_ n1_ n2_ n3_ n4_; clear hb hbox hg; have hcz21_0 : w20.cell? ⟨gb461, 0, none⟩ = some (.int .i64 0) := (blk_cell BK461.out 0).trans rfl; have hcz21_1 : w20.cell? ⟨gb461, 1, none⟩ = some (.slice none 0 0) := (blk_cell BK461.out 1).trans rfl; have hfz21_0 := blk_frozen BK461.out 0; have hfz21_1 := blk_frozen BK461.out 1) | ((with_reducible refine gate_dst (N := 66) rfl ?_); refine Kd.R_lit k61 _ 61 ?hg (N := 66) ?hd (xs := ([(⟨wrap64 (1 + (Int.tmod (wrap64 (a3)) (wrap64 ((wrap64 (2 + (Int.tmod (wrap64 (a1)) (wrap64 ((wrap64 (2 + (Int.tmod (wrap64 (a0)) 29))) - 1))))) - 1)))), (-1), ji9⟩ : S61), (⟨wrap64 ((wrap64 (2 + (Int.tmod (wrap64 (a1)) (wrap64 ((wrap64 (2 + (Int.tmod (wrap64 (a0)) 29))) - 1))))) - (wrap64 (1 + (Int.tmod (wrap64 (a3)) (wrap64 ((wrap64 (2 + (Int.tmod (wrap64 (a1)) (wrap64 ((wrap64 (2 + (Int.tmod (wrap64 (a0)) 29))) - 1))))) - 1)))))), wrap64 ((Int.tmod (wrap64 (a2)) (wrap64 ((wrap64 (2 + (Int.tmod (wrap64 (a1)) (wrap64 ((wrap64 (2 + (Int.tmod (wrap64 (a0)) 29))) - 1))))) + 2))) - 1), wrap64 ((wrap64 ((Int.tmod (wrap64 (a2)) (wrap64 ((wrap64 (2 + (Int.tmod (wrap64 (a1)) (wrap64 ((wrap64 (2 + (Int.tmod (wrap64 (a0)) 29))) - 1))))) + 2))) - 1)) + 1)⟩ : S61)] : List (S61))) (inner := [.int .i64 (wrap64 (1 + (Int.tmod (wrap64 (a3)) (wrap64 ((wrap64 (2 + (Int.tmod (wrap64 (a1)) (wrap64 ((wrap64 (2 + (Int.tmod (wrap64 (a0)) 29))) - 1))))) - 1))))), .int .i64 (-1), .int .i64 ji9, .int .i64 (wrap64 ((wrap64 (2 + (Int.tmod (wrap64 (a1)) (wrap64 ((wrap64 (2 + (Int.tmod (wrap64 (a0)) 29))) - 1))))) - (wrap64 (1 + (Int.tmod (wrap64 (a3)) (wrap64 ((wrap64 (2 + (Int.tmod (wrap64 (a1)) (wrap64 ((wrap64 (2 + (Int.tmod (wrap64 (a0)) 29))) - 1))))) - 1))))))), .int .i64 (wrap64 ((Int.tmod (wrap64 (a2)) (wrap64 ((wrap64 (2 + (Int.tmod (wrap64 (a1)) (wrap64 ((wrap64 (2 + (Int.tmod (wrap64 (a0)) 29))) - 1))))) + 2))) - 1)), .int .i64 (wrap64 ((wrap64 ((Int.tmod (wrap64 (a2)) (wrap64 ((wrap64 (2 + (Int.tmod (wrap64 (a1)) (wrap64 ((wrap64 (2 + (Int.tmod (wrap64 (a0)) 29))) - 1))))) + 2))) - 1)) + 1))]) (ok := fun _ => True) (okp := fun _ => True) ?hr ?hp (fun _ hk => hk) trivial (Below.refl _ _) (Nat.le_refl _) (by simp) ?_; (case hd => rfl); (case hg => rfl); (case hr => first | (go_simp; done) | (go_simp; rfl)); (case hp => exact (Reps.c3 (show Kd.M k61 _ _ _ (⟨wrap64 (1 + (Int.tmod (wrap64 (a3)) (wrap64 ((wrap64 (2 + (Int.tmod (wrap64 (a1)) (wrap64 ((wrap64 (2 + (Int.tmod (wrap64 (a0)) 29))) - 1))))) - 1)))), (-1), ji9⟩ : S61) [.int .i64 (wrap64 (1 + (Int.tmod (wrap64 (a3)) (wrap64 ((wrap64 (2 + (Int.tmod (wrap64 (a1)) (wrap64 ((wrap64 (2 + (Int.tmod (wrap64 (a0)) 29))) - 1))))) - 1))))), .int .i64 (-1), .int .i64 ji9] from (k61_mkM _ _ _ (⟨wrap64 (1 + (Int.tmod (wrap64 (a3)) (wrap64 ((wrap64 (2 + (Int.tmod (wrap64 (a1)) (wrap64 ((wrap64 (2 + (Int.tmod (wrap64 (a0)) 29))) - 1))))) - 1)))), (-1), ji9⟩ : S61) )) (Reps.c3 (show Kd.M k61 _ _ _ (⟨wrap64 ((wrap64 (2 + (Int.tmod (wrap64 (a1)) (wrap64 ((wrap64 (2 + (Int.tmod (wrap64 (a0)) 29))) - 1))))) - (wrap64 (1 + (Int.tmod (wrap64 (a3)) (wrap64 ((wrap64 (2 + (Int.tmod (wrap64 (a1)) (wrap64 ((wrap64 (2 + (Int.tmod (wrap64 (a0)) 29))) - 1))))) - 1)))))), wrap64 ((Int.tmod (wrap64 (a2)) (wrap64 ((wrap64 (2 + (Int.tmod (wrap64 (a1)) (wrap64 ((wrap64 (2 + (Int.tmod (wrap64 (a0)) 29))) - 1))))) + 2))) - 1), wrap64 ((wrap64 ((Int.tmod (wrap64 (a2)) (wrap64 ((wrap64 (2 + (Int.tmod (wrap64 (a1)) (wrap64 ((wrap64 (2 + (Int.tmod (wrap64 (a0)) 29))) - 1))))) + 2))) - 1)) + 1)⟩ : S61) [.int .i64 (wrap64 ((wrap64 (2 + (Int.tmod (wrap64 (a1)) (wrap64 ((wrap64 (2 + (Int.tmod (wrap64 (a0)) 29))) - 1))))) - (wrap64 (1 + (Int.tmod (wrap64 (a3)) (wrap64 ((wrap64 (2 + (Int.tmod (wrap64 (a1)) (wrap64 ((wrap64 (2 + (Int.tmod (wrap64 (a0)) 29))) - 1))))) - 1))))))), .int .i64 (wrap64 ((Int.tmod (wrap64 (a2)) (wrap64 ((wrap64 (2 + (Int.tmod (wrap64 (a1)) (wrap64 ((wrap64 (2 + (Int.tmod (wrap64 (a0)) 29))) - 1))))) + 2))) - 1)), .int .i64 (wrap64 ((wrap64 ((Int.tmod (wrap64 (a2)) (wrap64 ((wrap64 (2 + (Int.tmod (wrap64 (a1)) (wrap64 ((wrap64 (2 + (Int.tmod (wrap64 (a0)) 29))) - 1))))) + 2))) - 1)) + 1))] from (k61_mkM _ _ _ (⟨wrap64 ((wrap64 (2 + (Int.tmod (wrap64 (a1)) (wrap64 ((wrap64 (2 + (Int.tmod (wrap64 (a0)) 29))) - 1))))) - (wrap64 (1 + (Int.tmod (wrap64 (a3)) (wrap64 ((wrap64 (2 + (Int.tmod (wrap64 (a1)) (wrap64 ((wrap64 (2 + (Int.tmod (wrap64 (a0)) 29))) - 1))))) - 1)))))), wrap64 ((Int.tmod (wrap64 (a2)) (wrap64 ((wrap64 (2 + (Int.tmod (wrap64 (a1)) (wrap64 ((wrap64 (2 + (Int.tmod (wrap64 (a0)) 29))) - 1))))) + 2))) - 1), wrap64 ((wrap64 ((Int.tmod (wrap64 (a2)) (wrap64 ((wrap64 (2 + (Int.tmod (wrap64 (a1)) (wrap64 ((wrap64 (2 + (Int.tmod (wrap64 (a0)) 29))) - 1))))) + 2))) - 1)) + 1)⟩ : S61) )) (Reps.none _ _)))); intro v463 w22 ho23 hb hg_ hnew_; clear hg_ hnew_; (first | rw [← Ny462.out] at ho23 | (simp only [Int.reduceToNat] at ho23; rw [← Ny462.out] at ho23)); have n0_ := Aside0.mk (Kd.R_elder' (by (with_reducible repeat (first | apply Kd.R_alloc | apply Kd.R_drewN | apply Kd.R_drew)); exact (Kd.R_mono (Kd.R_far (p := ⟨gb461, 1, none⟩) (Kd.R_far (p := ⟨gb461, 0, none⟩) (Kd.R_types HO460.out BK461.out (by decide)) (fun _ hk => hk.2) (.int .i64 (wrap64 (2 + (Int.tmod (wrap64 (a0)) 29))))) (fun _ hk => hk.2) (.slice Ao19 y458.length co19)) (fun _ h_ => h_.1))) (Kd.R_base ho23) hb); have n1_ := Aside0.mk (Kd.R_lower (Kd.R_new' ho23 (Kd.R_lt (by (with_reducible repeat (first | apply Kd.R_alloc | apply Kd.R_drewN | apply Kd.R_drew)); exact (Kd.R_mono (Kd.R_far (p := ⟨gb461, 1, none⟩) (Kd.R_far (p := ⟨gb461, 0, none⟩) (Kd.R_types HO460.out BK461.out (by decide)) (fun _ hk => hk.2) (.int .i64 (wrap64 (2 + (Int.tmod (wrap64 (a0)) 29))))) (fun _ hk => hk.2) (.slice Ao19 y458.length co19)) (fun _ h_ => h_.1))))) (below_size (by repeat (first | (with_reducible first | exact HB.out | apply below_alloc | apply pw_below_drewN | apply below_drew1 | refine below_set ?_ GE461.out) | exact HB.out)))); have n2_ := Aside0.mk (blk_below (g := gb461) (o := .cells #[.int .i64 (wrap64 (2 + (Int.tmod (wrap64 (a0)) 29))), .slice Ao19 y458.length co19] 31 (0, 0)) (by (with_reducible repeat (first | refine blk_drewN ?_ _ | refine blk_drew ?_ | refine blk_alloc ?_ _)); refine blk_put (cs := #[.int .i64 (wrap64 (2 + (Int.tmod (wrap64 (a0)) 29))), .slice none 0 0]) ?_ 1 _ rfl; (with_reducible repeat (first | refine blk_drewN ?_ _ | refine blk_drew ?_ | refine blk_alloc ?_ _)); refine blk_put (cs := #[.int .i64 0, .slice none 0 0]) ?_ 0 _ rfl; (with_reducible repeat (first | refine blk_drewN ?_ _ | refine blk_drew ?_ | refine blk_alloc ?_ _)); exact BK461.out) hb); have n3_ := Aside0.mk (below_step (by repeat (first | (with_reducible first | exact HB.out | apply below_alloc | apply pw_below_drewN | apply below_drew1 | refine below_set ?_ GE461.out) | exact HB.out)) hb); clear HO460; clear BK461; clear HB; have HO460 := n0_; have HO464 := n1_; have BK461 := n2_; have HB := n3_; clear n0_ n1_ n2_ n3_; clear hb ho23; obtain ⟨Ao24, co24, eo24⟩ := Kd.R_slice HO464.out; subst eo24) | ((with_reducible refine gate_dst (N := 16) rfl ?_); refine box_event ?hg (N := 16) ?hd (cs := #[.int .i64 0, .slice none 0 0]) (t := 31) ?hr ?_; (case hd => rfl); (case hg => rfl); (case hr => first | (go_simp; done) | (go_simp; rfl)); intro gb465 hg w25 hbox hb; have n0_ := Aside0.mk (Kd.R_below (by (with_reducible repeat (first | apply Kd.R_alloc | apply Kd.R_drewN | apply Kd.R_drew)); exact HO460.out) hb); have n1_ := Aside0.mk (Kd.R_below (by (with_reducible repeat (first | apply Kd.R_alloc | apply Kd.R_drewN | apply Kd.R_drew)); exact HO464.out) hb); have n2_ := Aside0.mk (blk_below (g := gb461) (o := .cells #[.int .i64 (wrap64 (2 + (Int.tmod (wrap64 (a0)) 29))), .slice Ao19 y458.length co19] 31 (0, 0)) (by (with_reducible repeat (first | refine blk_drewN ?_ _ | refine blk_drew ?_ | refine blk_alloc ?_ _)); exact BK461.out) hb); have n3_ := Aside0.mk (below_step (by repeat (first | (with_reducible first | exact HB.out | apply below_alloc | apply pw_below_drewN | apply below_drew1 | refine below_set ?_ GE461.out) | exact HB.out)) hb); have n4_ := Aside0.mk (hbox); have n5_ := Aside0.mk ((by rw [hg]; exact (below_size (by repeat (first | (with_reducible first | exact HB.out | apply below_alloc | apply pw_below_drewN | apply below_drew1 | refine below_set ?_ GE461.out) | exact HB.out))) : w.heap.size ≤ gb465)); have n6_ := Aside0.mk ((by rw [hg]; exact (below_size (by repeat (first | (with_reducible first | exact HB.out | apply below_alloc | apply pw_below_drewN | apply below_drew1 | refine below_set ?_ GE461.out) | exact HB.out))) : w.heap.size ≤ gb465)); have n7_ := Aside0.mk ((by rw [hg]; exact Nat.ne_of_lt (blk_lt (g := gb461) (o := .cells #[.int .i64 (wrap64 (2 + (Int.tmod (wrap64 (a0)) 29))), .slice Ao19 y458.length co19] 31 (0, 0)) (by (with_reducible repeat (first | refine blk_drewN ?_ _ | refine blk_drew ?_ | refine blk_alloc ?_ _)); exact BK461.out)) : gb461 ≠ gb465)); have n8_ := Aside0.mk ((by rw [hg]; exact Nat.ne_of_gt (blk_lt (g := gb461) (o := .cells #[.int .i64 (wrap64 (2 + (Int.tmod (wrap64 (a0)) 29))), .slice Ao19 y458.length co19] 31 (0, 0)) (by (with_reducible repeat (first | refine blk_drewN ?_ _ | refine blk_drew ?_ | refine blk_alloc ?_ _)); exact BK461.out)) : gb465 ≠ gb461)); clear HO460; clear HO464; clear BK461; clear HB; have HO460 := n0_; have HO464 := n1_; have BK461 := n2_; have HB := n3_; have BK465 := n4_; have GW465 := n5_; have GE465 := n6_; have NB461_465 := n7_; have NB465_461 := n8_; clear n0_ n1_ n2_ n3_ n4_ n5_ n6_ n7_ n8_; clear hb hbox hg; have hnb26 := NB465_461.out; have hnc26 := NB461_465.out; have hcz27_0 : w25.cell? ⟨gb465, 0, none⟩ = some (.int .i64 0) := (blk_cell BK465.out 0).trans rfl; have hcz27_1 : w25.cell? ⟨gb465, 1, none⟩ = some (.slice none 0 0) := (blk_cell BK465.out 1).trans rfl; have hfz27_0 := blk_frozen BK465.out 0; have hfz27_1 := blk_frozen BK465.out 1))
                have n0_ : Aside0 (Kd.R k61 61 ((w25.setCell ⟨gb465, 0, none⟩ (.int .i64 (wrap64 (2 + (Int.tmod (wrap64 (a0)) 29))))).setCell ⟨gb465, 1, none⟩ (.slice Ao24 y462.length co24)) w.heap.size (fun k_ => some k_ ≠ (.slice Ao24 y462.length co24 : Value).ownBlock) (.slice Ao19 y458.length co19) y458) := ⟨by (with_reducible repeat (first | apply Kd.R_alloc | apply Kd.R_drewN | apply Kd.R_drew)); exact Kd.R_mono (Kd.R_far (p := ⟨gb465, 1, none⟩) (Kd.R_far (p := ⟨gb465, 0, none⟩) (Kd.R_types HO460.out BK465.out (by decide)) (fun _ hk => hk.2) (.int .i64 (wrap64 (2 + (Int.tmod (wrap64 (a0)) 29))))) (fun _ hk => hk.2) (.slice Ao24 y462.length co24)) (fun _ hk => hk.1.2)⟩
                have n1_ : Aside0 (Kd.R k61 61 ((w25.setCell ⟨gb465, 0, none⟩ (.int .i64 (wrap64 (2 + (Int.tmod (wrap64 (a0)) 29))))).setCell ⟨gb465, 1, none⟩ (.slice Ao24 y462.length co24)) w.heap.size (fun k_ => some k_ ≠ (.slice Ao19 y458.length co19 : Value).ownBlock) (.slice Ao24 y462.length co24) y462) := ⟨by (with_reducible repeat (first | apply Kd.R_alloc | apply Kd.R_drewN | apply Kd.R_drew)); exact Kd.R_mono (Kd.R_far (p := ⟨gb465, 1, none⟩) (Kd.R_far (p := ⟨gb465, 0, none⟩) (Kd.R_types HO464.out BK465.out (by decide)) (fun _ hk => hk.2) (.int .i64 (wrap64 (2 + (Int.tmod (wrap64 (a0)) 29))))) (fun _ hk => hk.2) (.slice Ao24 y462.length co24)) (fun _ hk => hk.1.2)⟩
                have n2_ : Aside0 (((w25.setCell ⟨gb465, 0, none⟩ (.int .i64 (wrap64 (2 + (Int.tmod (wrap64 (a0)) 29))))).setCell ⟨gb465, 1, none⟩ (.slice Ao24 y462.length co24)).heap[gb461]? = some (.cells #[.int .i64 (wrap64 (2 + (Int.tmod (wrap64 (a0)) 29))), .slice Ao19 y458.length co19] 31 (0, 0))) := ⟨by (with_reducible repeat (first | refine blk_drewN ?_ _ | refine blk_drew ?_ | refine blk_alloc ?_ _)); refine blk_far ?_ NB461_465.out _; (with_reducible repeat (first | refine blk_drewN ?_ _ | refine blk_drew ?_ | refine blk_alloc ?_ _)); refine blk_far ?_ NB461_465.out _; (with_reducible repeat (first | refine blk_drewN ?_ _ | refine blk_drew ?_ | refine blk_alloc ?_ _)); exact BK461.out⟩
                have n3_ : Aside0 (((w25.setCell ⟨gb465, 0, none⟩ (.int .i64 (wrap64 (2 + (Int.tmod (wrap64 (a0)) 29))))).setCell ⟨gb465, 1, none⟩ (.slice Ao24 y462.length co24)).heap[gb465]? = some (.cells #[.int .i64 (wrap64 (2 + (Int.tmod (wrap64 (a0)) 29))), .slice Ao24 y462.length co24] 31 (0, 0))) := ⟨by (with_reducible repeat (first | refine blk_drewN ?_ _ | refine blk_drew ?_ | refine blk_alloc ?_ _)); refine blk_put (cs := #[.int .i64 (wrap64 (2 + (Int.tmod (wrap64 (a0)) 29))), .slice none 0 0]) ?_ 1 _ rfl; (with_reducible repeat (first | refine blk_drewN ?_ _ | refine blk_drew ?_ | refine blk_alloc ?_ _)); refine blk_put (cs := #[.int .i64 0, .slice none 0 0]) ?_ 0 _ rfl; (with_reducible repeat (first | refine blk_drewN ?_ _ | refine blk_drew ?_ | refine blk_alloc ?_ _)); exact BK465.out⟩
                have n4_ : Aside0 (Below w.heap.size w ((w25.setCell ⟨gb465, 0, none⟩ (.int .i64 (wrap64 (2 + (Int.tmod (wrap64 (a0)) 29))))).setCell ⟨gb465, 1, none⟩ (.slice Ao24 y462.length co24))) := ⟨by repeat (first | (with_reducible first | exact HB.out | apply below_alloc | apply pw_below_drewN | apply below_drew1 | refine below_set ?_ GE461.out | refine below_set ?_ GE465.out) | exact HB.out)⟩
                (try clear HO460)
                (try clear HO464)
                (try clear BK461)
                (try clear BK465)
                (try clear HB)
                generalize ((w25.setCell ⟨gb465, 0, none⟩ (.int .i64 (wrap64 (2 + (Int.tmod (wrap64 (a0)) 29))))).setCell ⟨gb465, 1, none⟩ (.slice Ao24 y462.length co24)) = w28 at n0_ n1_ n2_ n3_ n4_ ⊢
                have HO460 := n0_
                have HO464 := n1_
                have BK461 := n2_
                have BK465 := n3_
                have HB := n4_
                clear n0_ n1_ n2_ n3_ n4_
                have n0_ := Aside0.mk (Kd.R_drew HO460.out)
                have n1_ := Aside0.mk (Kd.R_drew HO464.out)
                have n2_ := Aside0.mk (blk_drew BK461.out)
                have n3_ := Aside0.mk (blk_drew BK465.out)
                have n4_ := Aside0.mk (below_drew1 HB.out)
                clear HO460
                clear HO464
                clear BK461
                clear BK465
                clear HB
                have HO460 := n0_
                have HO464 := n1_
                have BK461 := n2_
                have BK465 := n3_
                have HB := n4_
                clear n0_ n1_ n2_ n3_ n4_
                refine start_ (n := 13) (S := fun w' => w'.cell? ⟨gb461, 0, none⟩ = some (.int .i64 (wrap64 (2 + (Int.tmod (wrap64 (a0)) 29)))) ∧ w'.cell? ⟨gb461, 1, none⟩ = some (.slice Ao19 y458.length co19)) (ds := []) #[false, false, false, false, false, false, false, false, false, false, false, false, false] (by kernel_rfl) rfl rfl ⟨(blk_cell BK461.out 0).trans rfl, (blk_cell BK461.out 1).trans rfl⟩ (fun hHeld => ?_); refine with_tabW tensilelaw09_PlanSplit.tab7 tensilelaw09_PlanSplit.bits7 (fun HT_ HW_ => ?_)
                generalize w28.drew = w29 at HO460 HO464 BK461 BK465 HB hHeld ⊢
                refine pure_ (i := 1) (N := some 70) (v := ?_) (a' := ?_) #[false, true, false, false, false, false, false, false, false, false, false, false, false] rfl rfl (any_of HT_.out (by kernel_rfl)) (fun _ _ _ h => h) (Or.inl ⟨by rfl, ?_⟩) ?_ ?_
                rotate_left
                · intro w'
                  go_simp
                  with_reducible rfl
                rotate_left
                · simp only [Act.put, List.setIfInBounds_toArray, List.set_cons_zero, List.set_cons_succ, i64_w, i32_w]
                  rfl
                refine pure_ (i := 2) (N := some 71) (v := ?_) (a' := ?_) #[false, true, true, false, false, false, false, false, false, false, false, false, false] rfl rfl (any_of HT_.out (by kernel_rfl)) (fun _ _ _ h => h) (Or.inl ⟨by rfl, ?_⟩) ?_ ?_
                rotate_left
                · intro w'
                  go_simp
                  with_reducible rfl
                rotate_left
                · simp only [Act.put, List.setIfInBounds_toArray, List.set_cons_zero, List.set_cons_succ, i64_w, i32_w]
                  rfl
                refine pure_ (i := 3) (N := some 72) (v := ?_) (a' := ?_) #[false, true, true, true, false, false, false, false, false, false, false, false, false] rfl rfl (any_of HT_.out (by kernel_rfl)) (fun _ _ _ h => h) (Or.inl ⟨by rfl, ?_⟩) ?_ ?_
                rotate_left
                · intro w'
                  go_simp
                  with_reducible rfl
                rotate_left
                · simp only [Act.put, List.setIfInBounds_toArray, List.set_cons_zero, List.set_cons_succ, i64_w, i32_w]
                  rfl
                refine pure_ (i := 4) (N := some 73) (v := ?_) (a' := ?_) #[false, true, true, true, true, false, false, false, false, false, false, false, false] rfl rfl (any_of HT_.out (by kernel_rfl)) (fun _ _ _ h => h) (Or.inl ⟨by rfl, ?_⟩) ?_ ?_
                rotate_left
                · intro w'
                  go_simp
                  with_reducible rfl
                rotate_left
                · simp only [Act.put, List.setIfInBounds_toArray, List.set_cons_zero, List.set_cons_succ, i64_w, i32_w]
                  rfl
                refine pure_ (i := 5) (N := some 74) (v := ?_) (a' := ?_) #[false, true, true, true, true, true, false, false, false, false, false, false, false] rfl rfl (any_of HT_.out (by kernel_rfl)) (fun _ _ _ h => h) (Or.inl ⟨by rfl, ?_⟩) ?_ ?_
                rotate_left
                · intro w'
                  go_simp
                  with_reducible rfl
                rotate_left
                · simp only [Act.put, List.setIfInBounds_toArray, List.set_cons_zero, List.set_cons_succ, i64_w, i32_w]
                  rfl
                refine take_ (i := 0) (N := some 69) (v := ?_) (a' := ?_) #[true, true, true, true, true, true, false, false, false, false, false, false, false] rfl rfl (take_ofW HT_.out HW_.out (by kernel_rfl)) (fun _ _ _ h => h) (Or.inl ⟨by rfl, ?_⟩) hHeld ?_ ?_
                rotate_left
                · rintro w' ⟨s0, s1⟩
                  go_simp
                  with_reducible rfl
                rotate_left
                · simp only [Act.put, List.setIfInBounds_toArray, List.set_cons_zero, List.set_cons_succ, i64_w, i32_w]
                  rfl
                refine join_ (σ := Nat) 2 #[true, true, true, true, true, true, true, true, true, true, true, false, false] (fun s_ => [(75, .tuple #[.agg #[.int .i64 t466, .int .i64 t467], .int .i64 t468]), (17, .pointer (some ⟨s_, 0, none⟩)), (68, .tuple #[.agg #[.int .i64 t466, .int .i64 t467], .int .i64 t468]), (76, .agg #[.int .i64 t466, .int .i64 t467]), (77, .int .i64 t468)]) (fun s_ w' => (w'.cell? ⟨gb461, 0, none⟩ = some (.int .i64 (wrap64 (2 + (Int.tmod (wrap64 (a0)) 29)))) ∧ w'.cell? ⟨gb461, 1, none⟩ = some (.slice Ao19 y458.length co19)) ∧ (Kd.R k61 61 w' w.heap.size (fun k_ => some k_ ≠ (.slice Ao24 y462.length co24 : Value).ownBlock) (.slice Ao19 y458.length co19) y458) ∧ (Kd.R k61 61 w' w.heap.size (fun k_ => some k_ ≠ (.slice Ao19 y458.length co19 : Value).ownBlock) (.slice Ao24 y462.length co24) y462) ∧ (w'.heap[gb461]? = some (.cells #[.int .i64 (wrap64 (2 + (Int.tmod (wrap64 (a0)) 29))), .slice Ao19 y458.length co19] 31 (0, 0))) ∧ (w'.heap[gb465]? = some (.cells #[.int .i64 (wrap64 (2 + (Int.tmod (wrap64 (a0)) 29))), .slice Ao24 y462.length co24] 31 (0, 0))) ∧ (w'.heap[s_]? = some (.cells #[.int .i64 0, .int .i64 0] 34 (0, 0))) ∧ (w.heap.size ≤ s_) ∧ (w.heap.size ≤ s_) ∧ (gb461 ≠ s_) ∧ (s_ ≠ gb461) ∧ (gb465 ≠ s_) ∧ (s_ ≠ gb465) ∧ (Below w.heap.size w w')) ?_ ?_
                rotate_left
                · intro hCont
                  refine two_ (i := 6) (j := 10) (Ni := some 75) (Nj := some 17) #[true, true, true, true, true, true, true, false, false, false, false, false, false] #[true, true, true, true, true, true, false, false, false, false, true, false, false] rfl rfl rfl rfl (two_of HT_.out (by kernel_rfl)) (by decide) (by decide) (fun K hK => ?_) (fun K hK => ?_)
                  · skip
                    refine goes_ Try.func18 (by kernel_rfl) rfl #[.agg #[.int .i64 (wrap64 (2 + (Int.tmod (wrap64 (a0)) 29))), .slice Ao19 y458.length co19], .int .i64 (Int.tmod (wrap64 (a4)) (wrap64 ((wrap64 (2 + (Int.tmod (wrap64 (a0)) 29))) + 1)))] (by rfl) rfl rfl (by (try simp only [List.map_toArray, List.map_cons, List.map_nil]); first | done | rfl | (simp only [List.length_drop, List.length_take]; rfl)) ?_
                    with_reducible refine (plan_Chance.calls (wrap64 (2 + (Int.tmod (wrap64 (a0)) 29))) _ _ y458 (Int.tmod (wrap64 (a4)) (wrap64 ((wrap64 (2 + (Int.tmod (wrap64 (a0)) 29))) + 1))) t466 t467 t468 _ ?side1 ?side2 A11.out).mono ?_
                    (case side1 => repeat (first | exact (Kd.R_reads' HO460.out).2.2 | (with_reducible refine Kd.C_alloc ?_ _) | (with_reducible refine Kd.C_drewN ?_ _) | (with_reducible refine Kd.C_drew ?_)))
                    (case side2 => exact (Kd.R_reads' HO460.out).2.1)
                    rintro e w30 ⟨rfl, hb⟩
                    refine ⟨_, rfl, ?_⟩
                    have n0_ := Aside0.mk (Kd.R_below (by (with_reducible repeat (first | apply Kd.R_alloc | apply Kd.R_drewN | apply Kd.R_drew)); exact HO460.out) hb)
                    have n1_ := Aside0.mk (Kd.R_below (by (with_reducible repeat (first | apply Kd.R_alloc | apply Kd.R_drewN | apply Kd.R_drew)); exact HO464.out) hb)
                    have n2_ := Aside0.mk (blk_below (g := gb461) (o := .cells #[.int .i64 (wrap64 (2 + (Int.tmod (wrap64 (a0)) 29))), .slice Ao19 y458.length co19] 31 (0, 0)) (by (with_reducible repeat (first | refine blk_drewN ?_ _ | refine blk_drew ?_ | refine blk_alloc ?_ _)); exact BK461.out) hb)
                    have n3_ := Aside0.mk (blk_below (g := gb465) (o := .cells #[.int .i64 (wrap64 (2 + (Int.tmod (wrap64 (a0)) 29))), .slice Ao24 y462.length co24] 31 (0, 0)) (by (with_reducible repeat (first | refine blk_drewN ?_ _ | refine blk_drew ?_ | refine blk_alloc ?_ _)); exact BK465.out) hb)
                    have n4_ := Aside0.mk (below_step (by repeat (first | (with_reducible first | exact HB.out | apply below_alloc | apply pw_below_drewN | apply below_drew1 | refine below_set ?_ GE461.out | refine below_set ?_ GE465.out) | exact HB.out)) hb)
                    clear HO460
                    clear HO464
                    clear BK461
                    clear BK465
                    clear HB
                    have HO460 := n0_
                    have HO464 := n1_
                    have BK461 := n2_
                    have BK465 := n3_
                    have HB := n4_
                    clear n0_ n1_ n2_ n3_ n4_
                    (try clear hb)
                    (try clear hb2)
                    (try clear hk)
                    (try clear hi)
                    refine hK.out _ _ ⟨(blk_cell BK461.out 0).trans rfl, (blk_cell BK461.out 1).trans rfl⟩ (fun hHeld => ?_)
                    clear hK K
                    refine norm_ (a' := ?_) ?_ ?_
                    rotate_left
                    · show Act.put _ (some 75) _ = _
                      simp only [Act.put, List.setIfInBounds_toArray, List.set_cons_zero, List.set_cons_succ, i64_w, i32_w]
                      rfl
                    refine pure_ (i := 7) (N := some 68) (v := ?_) (a' := ?_) #[true, true, true, true, true, true, true, true, false, false, false, false, false] rfl rfl (any_of HT_.out (by kernel_rfl)) (fun _ _ _ h => h) (Or.inl ⟨by rfl, ?_⟩) ?_ ?_
                    rotate_left
                    · intro w'
                      go_simp
                      with_reducible rfl
                    rotate_left
                    · simp only [Act.put, List.setIfInBounds_toArray, List.set_cons_zero, List.set_cons_succ, i64_w, i32_w]
                      rfl
                    refine pure_ (i := 8) (N := some 76) (v := ?_) (a' := ?_) #[true, true, true, true, true, true, true, true, true, false, false, false, false] rfl rfl (any_of HT_.out (by kernel_rfl)) (fun _ _ _ h => h) (Or.inl ⟨by rfl, ?_⟩) ?_ ?_
                    rotate_left
                    · intro w'
                      go_simp
                      with_reducible rfl
                    rotate_left
                    · simp only [Act.put, List.setIfInBounds_toArray, List.set_cons_zero, List.set_cons_succ, i64_w, i32_w]
                      rfl
                    refine pure_ (i := 9) (N := some 77) (v := ?_) (a' := ?_) #[true, true, true, true, true, true, true, true, true, true, false, false, false] rfl rfl (any_of HT_.out (by kernel_rfl)) (fun _ _ _ h => h) (Or.inl ⟨by rfl, ?_⟩) ?_ ?_
                    rotate_left
                    · intro w'
                      go_simp
                      with_reducible rfl
                    rotate_left
                    · simp only [Act.put, List.setIfInBounds_toArray, List.set_cons_zero, List.set_cons_succ, i64_w, i32_w]
                      rfl
                    refine one_ (i := 10) (N := some 17) #[true, true, true, true, true, true, true, true, true, true, true, false, false] rfl rfl (one_of HT_.out (by kernel_rfl)) (by decide) (fun K hK => ?_)
                    refine box_step ?hg (N := 17) ?hd (cs := #[.int .i64 0, .int .i64 0]) (t := 34) ?hr ?_; (case hd => rfl); (case hg => rfl); (case hr => first | (go_simp; done) | (go_simp; rfl))
                    intro gb469 hg w31 hbox hb
                    have n0_ := Aside0.mk (Kd.R_below (by (with_reducible repeat (first | apply Kd.R_alloc | apply Kd.R_drewN | apply Kd.R_drew)); exact HO460.out) hb)
                    have n1_ := Aside0.mk (Kd.R_below (by (with_reducible repeat (first | apply Kd.R_alloc | apply Kd.R_drewN | apply Kd.R_drew)); exact HO464.out) hb)
                    have n2_ := Aside0.mk (blk_below (g := gb461) (o := .cells #[.int .i64 (wrap64 (2 + (Int.tmod (wrap64 (a0)) 29))), .slice Ao19 y458.length co19] 31 (0, 0)) (by (with_reducible repeat (first | refine blk_drewN ?_ _ | refine blk_drew ?_ | refine blk_alloc ?_ _)); exact BK461.out) hb)
                    have n3_ := Aside0.mk (blk_below (g := gb465) (o := .cells #[.int .i64 (wrap64 (2 + (Int.tmod (wrap64 (a0)) 29))), .slice Ao24 y462.length co24] 31 (0, 0)) (by (with_reducible repeat (first | refine blk_drewN ?_ _ | refine blk_drew ?_ | refine blk_alloc ?_ _)); exact BK465.out) hb)
                    have n4_ := Aside0.mk (below_step (by repeat (first | (with_reducible first | exact HB.out | apply below_alloc | apply pw_below_drewN | apply below_drew1 | refine below_set ?_ GE461.out | refine below_set ?_ GE465.out) | exact HB.out)) hb)
                    have n5_ := Aside0.mk (hbox)
                    have n6_ := Aside0.mk ((by rw [hg]; exact (below_size (by repeat (first | (with_reducible first | exact HB.out | apply below_alloc | apply pw_below_drewN | apply below_drew1 | refine below_set ?_ GE461.out | refine below_set ?_ GE465.out) | exact HB.out))) : w.heap.size ≤ gb469))
                    have n7_ := Aside0.mk ((by rw [hg]; exact (below_size (by repeat (first | (with_reducible first | exact HB.out | apply below_alloc | apply pw_below_drewN | apply below_drew1 | refine below_set ?_ GE461.out | refine below_set ?_ GE465.out) | exact HB.out))) : w.heap.size ≤ gb469))
                    have n8_ := Aside0.mk ((by rw [hg]; exact Nat.ne_of_lt (blk_lt (g := gb461) (o := .cells #[.int .i64 (wrap64 (2 + (Int.tmod (wrap64 (a0)) 29))), .slice Ao19 y458.length co19] 31 (0, 0)) (by (with_reducible repeat (first | refine blk_drewN ?_ _ | refine blk_drew ?_ | refine blk_alloc ?_ _)); exact BK461.out)) : gb461 ≠ gb469))
                    have n9_ := Aside0.mk ((by rw [hg]; exact Nat.ne_of_gt (blk_lt (g := gb461) (o := .cells #[.int .i64 (wrap64 (2 + (Int.tmod (wrap64 (a0)) 29))), .slice Ao19 y458.length co19] 31 (0, 0)) (by (with_reducible repeat (first | refine blk_drewN ?_ _ | refine blk_drew ?_ | refine blk_alloc ?_ _)); exact BK461.out)) : gb469 ≠ gb461))
                    have n10_ := Aside0.mk ((by rw [hg]; exact Nat.ne_of_lt (blk_lt (g := gb465) (o := .cells #[.int .i64 (wrap64 (2 + (Int.tmod (wrap64 (a0)) 29))), .slice Ao24 y462.length co24] 31 (0, 0)) (by (with_reducible repeat (first | refine blk_drewN ?_ _ | refine blk_drew ?_ | refine blk_alloc ?_ _)); exact BK465.out)) : gb465 ≠ gb469))
                    have n11_ := Aside0.mk ((by rw [hg]; exact Nat.ne_of_gt (blk_lt (g := gb465) (o := .cells #[.int .i64 (wrap64 (2 + (Int.tmod (wrap64 (a0)) 29))), .slice Ao24 y462.length co24] 31 (0, 0)) (by (with_reducible repeat (first | refine blk_drewN ?_ _ | refine blk_drew ?_ | refine blk_alloc ?_ _)); exact BK465.out)) : gb469 ≠ gb465))
                    clear HO460
                    clear HO464
                    clear BK461
                    clear BK465
                    clear HB
                    have HO460 := n0_
                    have HO464 := n1_
                    have BK461 := n2_
                    have BK465 := n3_
                    have HB := n4_
                    have BK469 := n5_
                    have GW469 := n6_
                    have GE469 := n7_
                    have NB461_469 := n8_
                    have NB469_461 := n9_
                    have NB465_469 := n10_
                    have NB469_465 := n11_
                    clear n0_ n1_ n2_ n3_ n4_ n5_ n6_ n7_ n8_ n9_ n10_ n11_
                    clear hb hbox hg
                    refine hK.out _ _ ⟨(blk_cell BK461.out 0).trans rfl, (blk_cell BK461.out 1).trans rfl⟩ (fun hHeld => ?_)
                    clear hK K
                    refine norm_ (a' := ?_) ?_ ?_
                    rotate_left
                    · show Act.put _ (some 17) _ = _
                      simp only [Act.put, List.setIfInBounds_toArray, List.set_cons_zero, List.set_cons_succ, i64_w, i32_w]
                      rfl
                    exact norm_ (by simp only [putAll, Act.put, List.setIfInBounds_toArray, List.set_cons_zero, List.set_cons_succ]) (hCont (gb469) _ ⟨hHeld, (by (with_reducible repeat (first | apply Kd.R_alloc | apply Kd.R_drewN | apply Kd.R_drew)); exact HO460.out), (by (with_reducible repeat (first | apply Kd.R_alloc | apply Kd.R_drewN | apply Kd.R_drew)); exact HO464.out), (by (with_reducible repeat (first | refine blk_drewN ?_ _ | refine blk_drew ?_ | refine blk_alloc ?_ _)); exact BK461.out), (by (with_reducible repeat (first | refine blk_drewN ?_ _ | refine blk_drew ?_ | refine blk_alloc ?_ _)); exact BK465.out), (by (with_reducible repeat (first | refine blk_drewN ?_ _ | refine blk_drew ?_ | refine blk_alloc ?_ _)); exact BK469.out), GW469.out, GE469.out, NB461_469.out, NB469_461.out, NB465_469.out, NB469_465.out, (by repeat (first | (with_reducible first | exact HB.out | apply below_alloc | apply pw_below_drewN | apply below_drew1 | refine below_set ?_ GE461.out | refine below_set ?_ GE465.out | refine below_set ?_ GE469.out) | exact HB.out))⟩)
                  · skip
                    refine box_step ?hg (N := 17) ?hd (cs := #[.int .i64 0, .int .i64 0]) (t := 34) ?hr ?_; (case hd => rfl); (case hg => rfl); (case hr => first | (go_simp; done) | (go_simp; rfl))
                    intro gb469 hg w30 hbox hb
                    have n0_ := Aside0.mk (Kd.R_below (by (with_reducible repeat (first | apply Kd.R_alloc | apply Kd.R_drewN | apply Kd.R_drew)); exact HO460.out) hb)
                    have n1_ := Aside0.mk (Kd.R_below (by (with_reducible repeat (first | apply Kd.R_alloc | apply Kd.R_drewN | apply Kd.R_drew)); exact HO464.out) hb)
                    have n2_ := Aside0.mk (blk_below (g := gb461) (o := .cells #[.int .i64 (wrap64 (2 + (Int.tmod (wrap64 (a0)) 29))), .slice Ao19 y458.length co19] 31 (0, 0)) (by (with_reducible repeat (first | refine blk_drewN ?_ _ | refine blk_drew ?_ | refine blk_alloc ?_ _)); exact BK461.out) hb)
                    have n3_ := Aside0.mk (blk_below (g := gb465) (o := .cells #[.int .i64 (wrap64 (2 + (Int.tmod (wrap64 (a0)) 29))), .slice Ao24 y462.length co24] 31 (0, 0)) (by (with_reducible repeat (first | refine blk_drewN ?_ _ | refine blk_drew ?_ | refine blk_alloc ?_ _)); exact BK465.out) hb)
                    have n4_ := Aside0.mk (below_step (by repeat (first | (with_reducible first | exact HB.out | apply below_alloc | apply pw_below_drewN | apply below_drew1 | refine below_set ?_ GE461.out | refine below_set ?_ GE465.out) | exact HB.out)) hb)
                    have n5_ := Aside0.mk (hbox)
                    have n6_ := Aside0.mk ((by rw [hg]; exact (below_size (by repeat (first | (with_reducible first | exact HB.out | apply below_alloc | apply pw_below_drewN | apply below_drew1 | refine below_set ?_ GE461.out | refine below_set ?_ GE465.out) | exact HB.out))) : w.heap.size ≤ gb469))
                    have n7_ := Aside0.mk ((by rw [hg]; exact (below_size (by repeat (first | (with_reducible first | exact HB.out | apply below_alloc | apply pw_below_drewN | apply below_drew1 | refine below_set ?_ GE461.out | refine below_set ?_ GE465.out) | exact HB.out))) : w.heap.size ≤ gb469))
                    have n8_ := Aside0.mk ((by rw [hg]; exact Nat.ne_of_lt (blk_lt (g := gb461) (o := .cells #[.int .i64 (wrap64 (2 + (Int.tmod (wrap64 (a0)) 29))), .slice Ao19 y458.length co19] 31 (0, 0)) (by (with_reducible repeat (first | refine blk_drewN ?_ _ | refine blk_drew ?_ | refine blk_alloc ?_ _)); exact BK461.out)) : gb461 ≠ gb469))
                    have n9_ := Aside0.mk ((by rw [hg]; exact Nat.ne_of_gt (blk_lt (g := gb461) (o := .cells #[.int .i64 (wrap64 (2 + (Int.tmod (wrap64 (a0)) 29))), .slice Ao19 y458.length co19] 31 (0, 0)) (by (with_reducible repeat (first | refine blk_drewN ?_ _ | refine blk_drew ?_ | refine blk_alloc ?_ _)); exact BK461.out)) : gb469 ≠ gb461))
                    have n10_ := Aside0.mk ((by rw [hg]; exact Nat.ne_of_lt (blk_lt (g := gb465) (o := .cells #[.int .i64 (wrap64 (2 + (Int.tmod (wrap64 (a0)) 29))), .slice Ao24 y462.length co24] 31 (0, 0)) (by (with_reducible repeat (first | refine blk_drewN ?_ _ | refine blk_drew ?_ | refine blk_alloc ?_ _)); exact BK465.out)) : gb465 ≠ gb469))
                    have n11_ := Aside0.mk ((by rw [hg]; exact Nat.ne_of_gt (blk_lt (g := gb465) (o := .cells #[.int .i64 (wrap64 (2 + (Int.tmod (wrap64 (a0)) 29))), .slice Ao24 y462.length co24] 31 (0, 0)) (by (with_reducible repeat (first | refine blk_drewN ?_ _ | refine blk_drew ?_ | refine blk_alloc ?_ _)); exact BK465.out)) : gb469 ≠ gb465))
                    clear HO460
                    clear HO464
                    clear BK461
                    clear BK465
                    clear HB
                    have HO460 := n0_
                    have HO464 := n1_
                    have BK461 := n2_
                    have BK465 := n3_
                    have HB := n4_
                    have BK469 := n5_
                    have GW469 := n6_
                    have GE469 := n7_
                    have NB461_469 := n8_
                    have NB469_461 := n9_
                    have NB465_469 := n10_
                    have NB469_465 := n11_
                    clear n0_ n1_ n2_ n3_ n4_ n5_ n6_ n7_ n8_ n9_ n10_ n11_
                    clear hb hbox hg
                    refine hK.out _ _ ⟨(blk_cell BK461.out 0).trans rfl, (blk_cell BK461.out 1).trans rfl⟩ (fun hHeld => ?_)
                    clear hK K
                    refine norm_ (a' := ?_) ?_ ?_
                    rotate_left
                    · show Act.put _ (some 17) _ = _
                      simp only [Act.put, List.setIfInBounds_toArray, List.set_cons_zero, List.set_cons_succ, i64_w, i32_w]
                      rfl
                    refine one_ (i := 6) (N := some 75) #[true, true, true, true, true, true, true, false, false, false, true, false, false] rfl rfl (one_of HT_.out (by kernel_rfl)) (by decide) (fun K hK => ?_)
                    refine goes_ Try.func18 (by kernel_rfl) rfl #[.agg #[.int .i64 (wrap64 (2 + (Int.tmod (wrap64 (a0)) 29))), .slice Ao19 y458.length co19], .int .i64 (Int.tmod (wrap64 (a4)) (wrap64 ((wrap64 (2 + (Int.tmod (wrap64 (a0)) 29))) + 1)))] (by rfl) rfl rfl (by (try simp only [List.map_toArray, List.map_cons, List.map_nil]); first | done | rfl | (simp only [List.length_drop, List.length_take]; rfl)) ?_
                    with_reducible refine (plan_Chance.calls (wrap64 (2 + (Int.tmod (wrap64 (a0)) 29))) _ _ y458 (Int.tmod (wrap64 (a4)) (wrap64 ((wrap64 (2 + (Int.tmod (wrap64 (a0)) 29))) + 1))) t466 t467 t468 _ ?side1 ?side2 A11.out).mono ?_
                    (case side1 => repeat (first | exact (Kd.R_reads' HO460.out).2.2 | (with_reducible refine Kd.C_alloc ?_ _) | (with_reducible refine Kd.C_drewN ?_ _) | (with_reducible refine Kd.C_drew ?_)))
                    (case side2 => exact (Kd.R_reads' HO460.out).2.1)
                    rintro e w31 ⟨rfl, hb⟩
                    refine ⟨_, rfl, ?_⟩
                    have n0_ := Aside0.mk (Kd.R_below (by (with_reducible repeat (first | apply Kd.R_alloc | apply Kd.R_drewN | apply Kd.R_drew)); exact HO460.out) hb)
                    have n1_ := Aside0.mk (Kd.R_below (by (with_reducible repeat (first | apply Kd.R_alloc | apply Kd.R_drewN | apply Kd.R_drew)); exact HO464.out) hb)
                    have n2_ := Aside0.mk (blk_below (g := gb461) (o := .cells #[.int .i64 (wrap64 (2 + (Int.tmod (wrap64 (a0)) 29))), .slice Ao19 y458.length co19] 31 (0, 0)) (by (with_reducible repeat (first | refine blk_drewN ?_ _ | refine blk_drew ?_ | refine blk_alloc ?_ _)); exact BK461.out) hb)
                    have n3_ := Aside0.mk (blk_below (g := gb465) (o := .cells #[.int .i64 (wrap64 (2 + (Int.tmod (wrap64 (a0)) 29))), .slice Ao24 y462.length co24] 31 (0, 0)) (by (with_reducible repeat (first | refine blk_drewN ?_ _ | refine blk_drew ?_ | refine blk_alloc ?_ _)); exact BK465.out) hb)
                    have n4_ := Aside0.mk (blk_below (g := gb469) (o := .cells #[.int .i64 0, .int .i64 0] 34 (0, 0)) (by (with_reducible repeat (first | refine blk_drewN ?_ _ | refine blk_drew ?_ | refine blk_alloc ?_ _)); exact BK469.out) hb)
                    have n5_ := Aside0.mk (below_step (by repeat (first | (with_reducible first | exact HB.out | apply below_alloc | apply pw_below_drewN | apply below_drew1 | refine below_set ?_ GE461.out | refine below_set ?_ GE465.out | refine below_set ?_ GE469.out) | exact HB.out)) hb)
                    clear HO460
                    clear HO464
                    clear BK461
                    clear BK465
                    clear BK469
                    clear HB
                    have HO460 := n0_
                    have HO464 := n1_
                    have BK461 := n2_
                    have BK465 := n3_
                    have BK469 := n4_
                    have HB := n5_
                    clear n0_ n1_ n2_ n3_ n4_ n5_
                    (try clear hb)
                    (try clear hb2)
                    (try clear hk)
                    (try clear hi)
                    refine hK.out _ _ ⟨(blk_cell BK461.out 0).trans rfl, (blk_cell BK461.out 1).trans rfl⟩ (fun hHeld => ?_)
                    clear hK K
                    refine norm_ (a' := ?_) ?_ ?_
                    rotate_left
                    · show Act.put _ (some 75) _ = _
                      simp only [Act.put, List.setIfInBounds_toArray, List.set_cons_zero, List.set_cons_succ, i64_w, i32_w]
                      rfl
                    refine pure_ (i := 7) (N := some 68) (v := ?_) (a' := ?_) #[true, true, true, true, true, true, true, true, false, false, true, false, false] rfl rfl (any_of HT_.out (by kernel_rfl)) (fun _ _ _ h => h) (Or.inl ⟨by rfl, ?_⟩) ?_ ?_
                    rotate_left
                    · intro w'
                      go_simp
                      with_reducible rfl
                    rotate_left
                    · simp only [Act.put, List.setIfInBounds_toArray, List.set_cons_zero, List.set_cons_succ, i64_w, i32_w]
                      rfl
                    refine pure_ (i := 8) (N := some 76) (v := ?_) (a' := ?_) #[true, true, true, true, true, true, true, true, true, false, true, false, false] rfl rfl (any_of HT_.out (by kernel_rfl)) (fun _ _ _ h => h) (Or.inl ⟨by rfl, ?_⟩) ?_ ?_
                    rotate_left
                    · intro w'
                      go_simp
                      with_reducible rfl
                    rotate_left
                    · simp only [Act.put, List.setIfInBounds_toArray, List.set_cons_zero, List.set_cons_succ, i64_w, i32_w]
                      rfl
                    refine pure_ (i := 9) (N := some 77) (v := ?_) (a' := ?_) #[true, true, true, true, true, true, true, true, true, true, true, false, false] rfl rfl (any_of HT_.out (by kernel_rfl)) (fun _ _ _ h => h) (Or.inl ⟨by rfl, ?_⟩) ?_ ?_
                    rotate_left
                    · intro w'
                      go_simp
                      with_reducible rfl
                    rotate_left
                    · simp only [Act.put, List.setIfInBounds_toArray, List.set_cons_zero, List.set_cons_succ, i64_w, i32_w]
                      rfl
                    exact norm_ (by simp only [putAll, Act.put, List.setIfInBounds_toArray, List.set_cons_zero, List.set_cons_succ]) (hCont (gb469) _ ⟨hHeld, (by (with_reducible repeat (first | apply Kd.R_alloc | apply Kd.R_drewN | apply Kd.R_drew)); exact HO460.out), (by (with_reducible repeat (first | apply Kd.R_alloc | apply Kd.R_drewN | apply Kd.R_drew)); exact HO464.out), (by (with_reducible repeat (first | refine blk_drewN ?_ _ | refine blk_drew ?_ | refine blk_alloc ?_ _)); exact BK461.out), (by (with_reducible repeat (first | refine blk_drewN ?_ _ | refine blk_drew ?_ | refine blk_alloc ?_ _)); exact BK465.out), (by (with_reducible repeat (first | refine blk_drewN ?_ _ | refine blk_drew ?_ | refine blk_alloc ?_ _)); exact BK469.out), GW469.out, GE469.out, NB461_469.out, NB469_461.out, NB465_469.out, NB469_465.out, (by repeat (first | (with_reducible first | exact HB.out | apply below_alloc | apply pw_below_drewN | apply below_drew1 | refine below_set ?_ GE461.out | refine below_set ?_ GE465.out | refine below_set ?_ GE469.out) | exact HB.out))⟩)
                rintro gb469 w32 ⟨hS_, h0_, h1_, h2_, h3_, h4_, h5_, h6_, h7_, h8_, h9_, h10_, h11_⟩
                have n0_ : Aside0 (Kd.R k61 61 w32 w.heap.size (fun k_ => some k_ ≠ (.slice Ao24 y462.length co24 : Value).ownBlock) (.slice Ao19 y458.length co19) y458) := ⟨h0_⟩
                have n1_ : Aside0 (Kd.R k61 61 w32 w.heap.size (fun k_ => some k_ ≠ (.slice Ao19 y458.length co19 : Value).ownBlock) (.slice Ao24 y462.length co24) y462) := ⟨h1_⟩
                have n2_ : Aside0 (w32.heap[gb461]? = some (.cells #[.int .i64 (wrap64 (2 + (Int.tmod (wrap64 (a0)) 29))), .slice Ao19 y458.length co19] 31 (0, 0))) := ⟨h2_⟩
                have n3_ : Aside0 (w32.heap[gb465]? = some (.cells #[.int .i64 (wrap64 (2 + (Int.tmod (wrap64 (a0)) 29))), .slice Ao24 y462.length co24] 31 (0, 0))) := ⟨h3_⟩
                have n4_ : Aside0 (w32.heap[gb469]? = some (.cells #[.int .i64 0, .int .i64 0] 34 (0, 0))) := ⟨h4_⟩
                have n5_ : Aside0 (w.heap.size ≤ gb469) := ⟨h5_⟩
                have n6_ : Aside0 (w.heap.size ≤ gb469) := ⟨h6_⟩
                have n7_ : Aside0 (gb461 ≠ gb469) := ⟨h7_⟩
                have n8_ : Aside0 (gb469 ≠ gb461) := ⟨h8_⟩
                have n9_ : Aside0 (gb465 ≠ gb469) := ⟨h9_⟩
                have n10_ : Aside0 (gb469 ≠ gb465) := ⟨h10_⟩
                have n11_ : Aside0 (Below w.heap.size w w32) := ⟨h11_⟩
                clear HO460
                clear HO464
                clear BK461
                clear BK465
                clear HB
                clear h0_ h1_ h2_ h3_ h4_ h5_ h6_ h7_ h8_ h9_ h10_ h11_
                have HO460 := n0_
                have HO464 := n1_
                have BK461 := n2_
                have BK465 := n3_
                have BK469 := n4_
                have GW469 := n5_
                have GE469 := n6_
                have NB461_469 := n7_
                have NB469_461 := n8_
                have NB465_469 := n9_
                have NB469_465 := n10_
                have HB := n11_
                clear n0_ n1_ n2_ n3_ n4_ n5_ n6_ n7_ n8_ n9_ n10_ n11_
                have hHeld : w32.cell? ⟨gb461, 0, none⟩ = some (.int .i64 (wrap64 (2 + (Int.tmod (wrap64 (a0)) 29)))) ∧ w32.cell? ⟨gb461, 1, none⟩ = some (.slice Ao19 y458.length co19) := hS_
                refine norm_ (a' := ?_) ?_ ?_
                rotate_left
                · simp only [putAll, Act.put, List.setIfInBounds_toArray, List.set_cons_zero, List.set_cons_succ]
                  rfl
                refine one_ (i := 11) (N := none) #[true, true, true, true, true, true, true, true, true, true, true, true, false] rfl rfl (one_of HT_.out (by kernel_rfl)) (by decide) (fun K hK => ?_)
                have hs33 : w32.cell? ⟨gb469, 0, none⟩ = some (.int .i64 0) := (blk_cell BK469.out 0).trans rfl
                have hfs33 := blk_frozen BK469.out 0
                have hns33_0 := NB461_469.out
                have hns33_1 := NB465_469.out
                have hms33_0 := NB469_461.out
                have hms33_1 := NB469_465.out
                have hs34 : w32.cell? ⟨gb469, 1, none⟩ = some (.int .i64 0) := (blk_cell BK469.out 1).trans rfl
                have hfs34 := blk_frozen BK469.out 1
                have hns34_0 := NB461_469.out
                have hns34_1 := NB465_469.out
                have hms34_0 := NB469_461.out
                have hms34_1 := NB469_465.out
                refine skip_ (w1 := ?_) (by rfl) rfl ?_ ?_
                rotate_left
                · go_simp
                  rfl
                refine hK.out _ _ ⟨((cell_far (p := ⟨gb469, _, none⟩) NB461_469.out _).trans (((cell_far (p := ⟨gb469, _, none⟩) NB461_469.out _).trans (hHeld.1)))), ((cell_far (p := ⟨gb469, _, none⟩) NB461_469.out _).trans (((cell_far (p := ⟨gb469, _, none⟩) NB461_469.out _).trans (hHeld.2))))⟩ (fun hHeld => ?_)
                clear hK K
                refine pure_ (i := 12) (N := some 18) (v := ?_) (a' := ?_) #[true, true, true, true, true, true, true, true, true, true, true, true, true] rfl rfl (any_of HT_.out (by kernel_rfl)) (fun _ _ _ h => h) (Or.inl ⟨by rfl, ?_⟩) ?_ ?_
                rotate_left
                · intro w'
                  go_simp
                  with_reducible rfl
                rotate_left
                · simp only [Act.put, List.setIfInBounds_toArray, List.set_cons_zero, List.set_cons_succ, i64_w, i32_w]
                  rfl
                refine done_ (done_of HT_.out (by kernel_rfl)) ?_
                try go_wp2
                have n0_ : Aside0 (Kd.R k61 61 ((w32.setCell ⟨gb469, 0, none⟩ (.int .i64 t466)).setCell ⟨gb469, 1, none⟩ (.int .i64 t467)) w.heap.size (fun k_ => some k_ ≠ (.slice Ao24 y462.length co24 : Value).ownBlock) (.slice Ao19 y458.length co19) y458) := ⟨by (with_reducible repeat (first | apply Kd.R_alloc | apply Kd.R_drewN | apply Kd.R_drew)); exact Kd.R_mono (Kd.R_far (p := ⟨gb469, 1, none⟩) (Kd.R_far (p := ⟨gb469, 0, none⟩) (Kd.R_types HO460.out BK469.out (by decide)) (fun _ hk => hk.2) (.int .i64 t466)) (fun _ hk => hk.2) (.int .i64 t467)) (fun _ hk => hk.1)⟩
                have n1_ : Aside0 (Kd.R k61 61 ((w32.setCell ⟨gb469, 0, none⟩ (.int .i64 t466)).setCell ⟨gb469, 1, none⟩ (.int .i64 t467)) w.heap.size (fun k_ => some k_ ≠ (.slice Ao19 y458.length co19 : Value).ownBlock) (.slice Ao24 y462.length co24) y462) := ⟨by (with_reducible repeat (first | apply Kd.R_alloc | apply Kd.R_drewN | apply Kd.R_drew)); exact Kd.R_mono (Kd.R_far (p := ⟨gb469, 1, none⟩) (Kd.R_far (p := ⟨gb469, 0, none⟩) (Kd.R_types HO464.out BK469.out (by decide)) (fun _ hk => hk.2) (.int .i64 t466)) (fun _ hk => hk.2) (.int .i64 t467)) (fun _ hk => hk.1)⟩
                have n2_ : Aside0 (((w32.setCell ⟨gb469, 0, none⟩ (.int .i64 t466)).setCell ⟨gb469, 1, none⟩ (.int .i64 t467)).heap[gb461]? = some (.cells #[.int .i64 (wrap64 (2 + (Int.tmod (wrap64 (a0)) 29))), .slice Ao19 y458.length co19] 31 (0, 0))) := ⟨by (with_reducible repeat (first | refine blk_drewN ?_ _ | refine blk_drew ?_ | refine blk_alloc ?_ _)); refine blk_far ?_ NB461_469.out _; (with_reducible repeat (first | refine blk_drewN ?_ _ | refine blk_drew ?_ | refine blk_alloc ?_ _)); refine blk_far ?_ NB461_469.out _; (with_reducible repeat (first | refine blk_drewN ?_ _ | refine blk_drew ?_ | refine blk_alloc ?_ _)); exact BK461.out⟩
                have n3_ : Aside0 (((w32.setCell ⟨gb469, 0, none⟩ (.int .i64 t466)).setCell ⟨gb469, 1, none⟩ (.int .i64 t467)).heap[gb465]? = some (.cells #[.int .i64 (wrap64 (2 + (Int.tmod (wrap64 (a0)) 29))), .slice Ao24 y462.length co24] 31 (0, 0))) := ⟨by (with_reducible repeat (first | refine blk_drewN ?_ _ | refine blk_drew ?_ | refine blk_alloc ?_ _)); refine blk_far ?_ NB465_469.out _; (with_reducible repeat (first | refine blk_drewN ?_ _ | refine blk_drew ?_ | refine blk_alloc ?_ _)); refine blk_far ?_ NB465_469.out _; (with_reducible repeat (first | refine blk_drewN ?_ _ | refine blk_drew ?_ | refine blk_alloc ?_ _)); exact BK465.out⟩
                have n4_ : Aside0 (((w32.setCell ⟨gb469, 0, none⟩ (.int .i64 t466)).setCell ⟨gb469, 1, none⟩ (.int .i64 t467)).heap[gb469]? = some (.cells #[.int .i64 t466, .int .i64 t467] 34 (0, 0))) := ⟨by (with_reducible repeat (first | refine blk_drewN ?_ _ | refine blk_drew ?_ | refine blk_alloc ?_ _)); refine blk_put (cs := #[.int .i64 t466, .int .i64 0]) ?_ 1 _ rfl; (with_reducible repeat (first | refine blk_drewN ?_ _ | refine blk_drew ?_ | refine blk_alloc ?_ _)); refine blk_put (cs := #[.int .i64 0, .int .i64 0]) ?_ 0 _ rfl; (with_reducible repeat (first | refine blk_drewN ?_ _ | refine blk_drew ?_ | refine blk_alloc ?_ _)); exact BK469.out⟩
                have n5_ : Aside0 (Below w.heap.size w ((w32.setCell ⟨gb469, 0, none⟩ (.int .i64 t466)).setCell ⟨gb469, 1, none⟩ (.int .i64 t467))) := ⟨by repeat (first | (with_reducible first | exact HB.out | apply below_alloc | apply pw_below_drewN | apply below_drew1 | refine below_set ?_ GE461.out | refine below_set ?_ GE465.out | refine below_set ?_ GE469.out) | exact HB.out)⟩
                (try clear HO460)
                (try clear HO464)
                (try clear BK461)
                (try clear BK465)
                (try clear BK469)
                (try clear HB)
                generalize ((w32.setCell ⟨gb469, 0, none⟩ (.int .i64 t466)).setCell ⟨gb469, 1, none⟩ (.int .i64 t467)) = w35 at n0_ n1_ n2_ n3_ n4_ n5_ ⊢
                have HO460 := n0_
                have HO464 := n1_
                have BK461 := n2_
                have BK465 := n3_
                have BK469 := n4_
                have HB := n5_
                clear n0_ n1_ n2_ n3_ n4_ n5_
                have n0_ := Aside0.mk (Kd.R_drew HO460.out)
                have n1_ := Aside0.mk (Kd.R_drew HO464.out)
                have n2_ := Aside0.mk (blk_drew BK461.out)
                have n3_ := Aside0.mk (blk_drew BK465.out)
                have n4_ := Aside0.mk (blk_drew BK469.out)
                have n5_ := Aside0.mk (below_drew1 HB.out)
                clear HO460
                clear HO464
                clear BK461
                clear BK465
                clear BK469
                clear HB
                have HO460 := n0_
                have HO464 := n1_
                have BK461 := n2_
                have BK465 := n3_
                have BK469 := n4_
                have HB := n5_
                clear n0_ n1_ n2_ n3_ n4_ n5_
                refine start_ (n := 13) (S := fun w' => w'.cell? ⟨gb465, 0, none⟩ = some (.int .i64 (wrap64 (2 + (Int.tmod (wrap64 (a0)) 29)))) ∧ w'.cell? ⟨gb465, 1, none⟩ = some (.slice Ao24 y462.length co24)) (ds := []) #[false, false, false, false, false, false, false, false, false, false, false, false, false] (by kernel_rfl) rfl rfl ⟨(blk_cell BK465.out 0).trans rfl, (blk_cell BK465.out 1).trans rfl⟩ (fun hHeld => ?_); refine with_tabW tensilelaw09_PlanSplit.tab8 tensilelaw09_PlanSplit.bits8 (fun HT_ HW_ => ?_)
                generalize w35.drew = w36 at HO460 HO464 BK461 BK465 BK469 HB hHeld ⊢
                refine pure_ (i := 1) (N := some 80) (v := ?_) (a' := ?_) #[false, true, false, false, false, false, false, false, false, false, false, false, false] rfl rfl (any_of HT_.out (by kernel_rfl)) (fun _ _ _ h => h) (Or.inl ⟨by rfl, ?_⟩) ?_ ?_
                rotate_left
                · intro w'
                  go_simp
                  with_reducible rfl
                rotate_left
                · simp only [Act.put, List.setIfInBounds_toArray, List.set_cons_zero, List.set_cons_succ, i64_w, i32_w]
                  rfl
                refine pure_ (i := 2) (N := some 81) (v := ?_) (a' := ?_) #[false, true, true, false, false, false, false, false, false, false, false, false, false] rfl rfl (any_of HT_.out (by kernel_rfl)) (fun _ _ _ h => h) (Or.inl ⟨by rfl, ?_⟩) ?_ ?_
                rotate_left
                · intro w'
                  go_simp
                  with_reducible rfl
                rotate_left
                · simp only [Act.put, List.setIfInBounds_toArray, List.set_cons_zero, List.set_cons_succ, i64_w, i32_w]
                  rfl
                refine pure_ (i := 3) (N := some 82) (v := ?_) (a' := ?_) #[false, true, true, true, false, false, false, false, false, false, false, false, false] rfl rfl (any_of HT_.out (by kernel_rfl)) (fun _ _ _ h => h) (Or.inl ⟨by rfl, ?_⟩) ?_ ?_
                rotate_left
                · intro w'
                  go_simp
                  with_reducible rfl
                rotate_left
                · simp only [Act.put, List.setIfInBounds_toArray, List.set_cons_zero, List.set_cons_succ, i64_w, i32_w]
                  rfl
                refine pure_ (i := 4) (N := some 83) (v := ?_) (a' := ?_) #[false, true, true, true, true, false, false, false, false, false, false, false, false] rfl rfl (any_of HT_.out (by kernel_rfl)) (fun _ _ _ h => h) (Or.inl ⟨by rfl, ?_⟩) ?_ ?_
                rotate_left
                · intro w'
                  go_simp
                  with_reducible rfl
                rotate_left
                · simp only [Act.put, List.setIfInBounds_toArray, List.set_cons_zero, List.set_cons_succ, i64_w, i32_w]
                  rfl
                refine pure_ (i := 5) (N := some 84) (v := ?_) (a' := ?_) #[false, true, true, true, true, true, false, false, false, false, false, false, false] rfl rfl (any_of HT_.out (by kernel_rfl)) (fun _ _ _ h => h) (Or.inl ⟨by rfl, ?_⟩) ?_ ?_
                rotate_left
                · intro w'
                  go_simp
                  with_reducible rfl
                rotate_left
                · simp only [Act.put, List.setIfInBounds_toArray, List.set_cons_zero, List.set_cons_succ, i64_w, i32_w]
                  rfl
                refine take_ (i := 0) (N := some 79) (v := ?_) (a' := ?_) #[true, true, true, true, true, true, false, false, false, false, false, false, false] rfl rfl (take_ofW HT_.out HW_.out (by kernel_rfl)) (fun _ _ _ h => h) (Or.inl ⟨by rfl, ?_⟩) hHeld ?_ ?_
                rotate_left
                · rintro w' ⟨s0, s1⟩
                  go_simp
                  with_reducible rfl
                rotate_left
                · simp only [Act.put, List.setIfInBounds_toArray, List.set_cons_zero, List.set_cons_succ, i64_w, i32_w]
                  rfl
                refine join_ (σ := Nat) 2 #[true, true, true, true, true, true, true, true, true, true, true, false, false] (fun s_ => [(85, .tuple #[.agg #[.int .i64 t470, .int .i64 t471], .int .i64 t472]), (19, .pointer (some ⟨s_, 0, none⟩)), (78, .tuple #[.agg #[.int .i64 t470, .int .i64 t471], .int .i64 t472]), (86, .agg #[.int .i64 t470, .int .i64 t471]), (87, .int .i64 t472)]) (fun s_ w' => (w'.cell? ⟨gb465, 0, none⟩ = some (.int .i64 (wrap64 (2 + (Int.tmod (wrap64 (a0)) 29)))) ∧ w'.cell? ⟨gb465, 1, none⟩ = some (.slice Ao24 y462.length co24)) ∧ (Kd.R k61 61 w' w.heap.size (fun k_ => some k_ ≠ (.slice Ao24 y462.length co24 : Value).ownBlock) (.slice Ao19 y458.length co19) y458) ∧ (Kd.R k61 61 w' w.heap.size (fun k_ => some k_ ≠ (.slice Ao19 y458.length co19 : Value).ownBlock) (.slice Ao24 y462.length co24) y462) ∧ (w'.heap[gb461]? = some (.cells #[.int .i64 (wrap64 (2 + (Int.tmod (wrap64 (a0)) 29))), .slice Ao19 y458.length co19] 31 (0, 0))) ∧ (w'.heap[gb465]? = some (.cells #[.int .i64 (wrap64 (2 + (Int.tmod (wrap64 (a0)) 29))), .slice Ao24 y462.length co24] 31 (0, 0))) ∧ (w'.heap[gb469]? = some (.cells #[.int .i64 t466, .int .i64 t467] 34 (0, 0))) ∧ (w'.heap[s_]? = some (.cells #[.int .i64 0, .int .i64 0] 34 (0, 0))) ∧ (w.heap.size ≤ s_) ∧ (w.heap.size ≤ s_) ∧ (gb461 ≠ s_) ∧ (s_ ≠ gb461) ∧ (gb465 ≠ s_) ∧ (s_ ≠ gb465) ∧ (gb469 ≠ s_) ∧ (s_ ≠ gb469) ∧ (Below w.heap.size w w')) ?_ ?_
                rotate_left
                · intro hCont
                  refine two_ (i := 6) (j := 10) (Ni := some 85) (Nj := some 19) #[true, true, true, true, true, true, true, false, false, false, false, false, false] #[true, true, true, true, true, true, false, false, false, false, true, false, false] rfl rfl rfl rfl (two_of HT_.out (by kernel_rfl)) (by decide) (by decide) (fun K hK => ?_) (fun K hK => ?_)
                  · skip
                    refine goes_ Try.func18 (by kernel_rfl) rfl #[.agg #[.int .i64 (wrap64 (2 + (Int.tmod (wrap64 (a0)) 29))), .slice Ao24 y462.length co24], .int .i64 (Int.tmod (wrap64 (a4)) (wrap64 ((wrap64 (2 + (Int.tmod (wrap64 (a0)) 29))) + 1)))] (by rfl) rfl rfl (by (try simp only [List.map_toArray, List.map_cons, List.map_nil]); first | done | rfl | (simp only [List.length_drop, List.length_take]; rfl)) ?_
                    with_reducible refine (plan_Chance.calls (wrap64 (2 + (Int.tmod (wrap64 (a0)) 29))) _ _ y462 (Int.tmod (wrap64 (a4)) (wrap64 ((wrap64 (2 + (Int.tmod (wrap64 (a0)) 29))) + 1))) t470 t471 t472 _ ?side1 ?side2 A12.out).mono ?_
                    (case side1 => repeat (first | exact (Kd.R_reads' HO464.out).2.2 | (with_reducible refine Kd.C_alloc ?_ _) | (with_reducible refine Kd.C_drewN ?_ _) | (with_reducible refine Kd.C_drew ?_)))
                    (case side2 => exact (Kd.R_reads' HO464.out).2.1)
                    rintro e w37 ⟨rfl, hb⟩
                    refine ⟨_, rfl, ?_⟩
                    have n0_ := Aside0.mk (Kd.R_below (by (with_reducible repeat (first | apply Kd.R_alloc | apply Kd.R_drewN | apply Kd.R_drew)); exact HO460.out) hb)
                    have n1_ := Aside0.mk (Kd.R_below (by (with_reducible repeat (first | apply Kd.R_alloc | apply Kd.R_drewN | apply Kd.R_drew)); exact HO464.out) hb)
                    have n2_ := Aside0.mk (blk_below (g := gb461) (o := .cells #[.int .i64 (wrap64 (2 + (Int.tmod (wrap64 (a0)) 29))), .slice Ao19 y458.length co19] 31 (0, 0)) (by (with_reducible repeat (first | refine blk_drewN ?_ _ | refine blk_drew ?_ | refine blk_alloc ?_ _)); exact BK461.out) hb)
                    have n3_ := Aside0.mk (blk_below (g := gb465) (o := .cells #[.int .i64 (wrap64 (2 + (Int.tmod (wrap64 (a0)) 29))), .slice Ao24 y462.length co24] 31 (0, 0)) (by (with_reducible repeat (first | refine blk_drewN ?_ _ | refine blk_drew ?_ | refine blk_alloc ?_ _)); exact BK465.out) hb)
                    have n4_ := Aside0.mk (blk_below (g := gb469) (o := .cells #[.int .i64 t466, .int .i64 t467] 34 (0, 0)) (by (with_reducible repeat (first | refine blk_drewN ?_ _ | refine blk_drew ?_ | refine blk_alloc ?_ _)); exact BK469.out) hb)
                    have n5_ := Aside0.mk (below_step (by repeat (first | (with_reducible first | exact HB.out | apply below_alloc | apply pw_below_drewN | apply below_drew1 | refine below_set ?_ GE461.out | refine below_set ?_ GE465.out | refine below_set ?_ GE469.out) | exact HB.out)) hb)
                    clear HO460
                    clear HO464
                    clear BK461
                    clear BK465
                    clear BK469
                    clear HB
                    have HO460 := n0_
                    have HO464 := n1_
                    have BK461 := n2_
                    have BK465 := n3_
                    have BK469 := n4_
                    have HB := n5_
                    clear n0_ n1_ n2_ n3_ n4_ n5_
                    (try clear hb)
                    (try clear hb2)
                    (try clear hk)
                    (try clear hi)
                    refine hK.out _ _ ⟨(blk_cell BK465.out 0).trans rfl, (blk_cell BK465.out 1).trans rfl⟩ (fun hHeld => ?_)
                    clear hK K
                    refine norm_ (a' := ?_) ?_ ?_
                    rotate_left
                    · show Act.put _ (some 85) _ = _
                      simp only [Act.put, List.setIfInBounds_toArray, List.set_cons_zero, List.set_cons_succ, i64_w, i32_w]
                      rfl
                    refine pure_ (i := 7) (N := some 78) (v := ?_) (a' := ?_) #[true, true, true, true, true, true, true, true, false, false, false, false, false] rfl rfl (any_of HT_.out (by kernel_rfl)) (fun _ _ _ h => h) (Or.inl ⟨by rfl, ?_⟩) ?_ ?_
                    rotate_left
                    · intro w'
                      go_simp
                      with_reducible rfl
                    rotate_left
                    · simp only [Act.put, List.setIfInBounds_toArray, List.set_cons_zero, List.set_cons_succ, i64_w, i32_w]
                      rfl
                    refine pure_ (i := 8) (N := some 86) (v := ?_) (a' := ?_) #[true, true, true, true, true, true, true, true, true, false, false, false, false] rfl rfl (any_of HT_.out (by kernel_rfl)) (fun _ _ _ h => h) (Or.inl ⟨by rfl, ?_⟩) ?_ ?_
                    rotate_left
                    · intro w'
                      go_simp
                      with_reducible rfl
                    rotate_left
                    · simp only [Act.put, List.setIfInBounds_toArray, List.set_cons_zero, List.set_cons_succ, i64_w, i32_w]
                      rfl
                    refine pure_ (i := 9) (N := some 87) (v := ?_) (a' := ?_) #[true, true, true, true, true, true, true, true, true, true, false, false, false] rfl rfl (any_of HT_.out (by kernel_rfl)) (fun _ _ _ h => h) (Or.inl ⟨by rfl, ?_⟩) ?_ ?_
                    rotate_left
                    · intro w'
                      go_simp
                      with_reducible rfl
                    rotate_left
                    · simp only [Act.put, List.setIfInBounds_toArray, List.set_cons_zero, List.set_cons_succ, i64_w, i32_w]
                      rfl
                    refine one_ (i := 10) (N := some 19) #[true, true, true, true, true, true, true, true, true, true, true, false, false] rfl rfl (one_of HT_.out (by kernel_rfl)) (by decide) (fun K hK => ?_)
                    refine box_step ?hg (N := 19) ?hd (cs := #[.int .i64 0, .int .i64 0]) (t := 34) ?hr ?_; (case hd => rfl); (case hg => rfl); (case hr => first | (go_simp; done) | (go_simp; rfl))
                    intro gb473 hg w38 hbox hb
                    have n0_ := Aside0.mk (Kd.R_below (by (with_reducible repeat (first | apply Kd.R_alloc | apply Kd.R_drewN | apply Kd.R_drew)); exact HO460.out) hb)
                    have n1_ := Aside0.mk (Kd.R_below (by (with_reducible repeat (first | apply Kd.R_alloc | apply Kd.R_drewN | apply Kd.R_drew)); exact HO464.out) hb)
                    have n2_ := Aside0.mk (blk_below (g := gb461) (o := .cells #[.int .i64 (wrap64 (2 + (Int.tmod (wrap64 (a0)) 29))), .slice Ao19 y458.length co19] 31 (0, 0)) (by (with_reducible repeat (first | refine blk_drewN ?_ _ | refine blk_drew ?_ | refine blk_alloc ?_ _)); exact BK461.out) hb)
                    have n3_ := Aside0.mk (blk_below (g := gb465) (o := .cells #[.int .i64 (wrap64 (2 + (Int.tmod (wrap64 (a0)) 29))), .slice Ao24 y462.length co24] 31 (0, 0)) (by (with_reducible repeat (first | refine blk_drewN ?_ _ | refine blk_drew ?_ | refine blk_alloc ?_ _)); exact BK465.out) hb)
                    have n4_ := Aside0.mk (blk_below (g := gb469) (o := .cells #[.int .i64 t466, .int .i64 t467] 34 (0, 0)) (by (with_reducible repeat (first | refine blk_drewN ?_ _ | refine blk_drew ?_ | refine blk_alloc ?_ _)); exact BK469.out) hb)
                    have n5_ := Aside0.mk (below_step (by repeat (first | (with_reducible first | exact HB.out | apply below_alloc | apply pw_below_drewN | apply below_drew1 | refine below_set ?_ GE461.out | refine below_set ?_ GE465.out | refine below_set ?_ GE469.out) | exact HB.out)) hb)
                    have n6_ := Aside0.mk (hbox)
                    have n7_ := Aside0.mk ((by rw [hg]; exact (below_size (by repeat (first | (with_reducible first | exact HB.out | apply below_alloc | apply pw_below_drewN | apply below_drew1 | refine below_set ?_ GE461.out | refine below_set ?_ GE465.out | refine below_set ?_ GE469.out) | exact HB.out))) : w.heap.size ≤ gb473))
                    have n8_ := Aside0.mk ((by rw [hg]; exact (below_size (by repeat (first | (with_reducible first | exact HB.out | apply below_alloc | apply pw_below_drewN | apply below_drew1 | refine below_set ?_ GE461.out | refine below_set ?_ GE465.out | refine below_set ?_ GE469.out) | exact HB.out))) : w.heap.size ≤ gb473))
                    have n9_ := Aside0.mk ((by rw [hg]; exact Nat.ne_of_lt (blk_lt (g := gb461) (o := .cells #[.int .i64 (wrap64 (2 + (Int.tmod (wrap64 (a0)) 29))), .slice Ao19 y458.length co19] 31 (0, 0)) (by (with_reducible repeat (first | refine blk_drewN ?_ _ | refine blk_drew ?_ | refine blk_alloc ?_ _)); exact BK461.out)) : gb461 ≠ gb473))
                    have n10_ := Aside0.mk ((by rw [hg]; exact Nat.ne_of_gt (blk_lt (g := gb461) (o := .cells #[.int .i64 (wrap64 (2 + (Int.tmod (wrap64 (a0)) 29))), .slice Ao19 y458.length co19] 31 (0, 0)) (by (with_reducible repeat (first | refine blk_drewN ?_ _ | refine blk_drew ?_ | refine blk_alloc ?_ _)); exact BK461.out)) : gb473 ≠ gb461))
                    have n11_ := Aside0.mk ((by rw [hg]; exact Nat.ne_of_lt (blk_lt (g := gb465) (o := .cells #[.int .i64 (wrap64 (2 + (Int.tmod (wrap64 (a0)) 29))), .slice Ao24 y462.length co24] 31 (0, 0)) (by (with_reducible repeat (first | refine blk_drewN ?_ _ | refine blk_drew ?_ | refine blk_alloc ?_ _)); exact BK465.out)) : gb465 ≠ gb473))
                    have n12_ := Aside0.mk ((by rw [hg]; exact Nat.ne_of_gt (blk_lt (g := gb465) (o := .cells #[.int .i64 (wrap64 (2 + (Int.tmod (wrap64 (a0)) 29))), .slice Ao24 y462.length co24] 31 (0, 0)) (by (with_reducible repeat (first | refine blk_drewN ?_ _ | refine blk_drew ?_ | refine blk_alloc ?_ _)); exact BK465.out)) : gb473 ≠ gb465))
                    have n13_ := Aside0.mk ((by rw [hg]; exact Nat.ne_of_lt (blk_lt (g := gb469) (o := .cells #[.int .i64 t466, .int .i64 t467] 34 (0, 0)) (by (with_reducible repeat (first | refine blk_drewN ?_ _ | refine blk_drew ?_ | refine blk_alloc ?_ _)); exact BK469.out)) : gb469 ≠ gb473))
                    have n14_ := Aside0.mk ((by rw [hg]; exact Nat.ne_of_gt (blk_lt (g := gb469) (o := .cells #[.int .i64 t466, .int .i64 t467] 34 (0, 0)) (by (with_reducible repeat (first | refine blk_drewN ?_ _ | refine blk_drew ?_ | refine blk_alloc ?_ _)); exact BK469.out)) : gb473 ≠ gb469))
                    clear HO460
                    clear HO464
                    clear BK461
                    clear BK465
                    clear BK469
                    clear HB
                    have HO460 := n0_
                    have HO464 := n1_
                    have BK461 := n2_
                    have BK465 := n3_
                    have BK469 := n4_
                    have HB := n5_
                    have BK473 := n6_
                    have GW473 := n7_
                    have GE473 := n8_
                    have NB461_473 := n9_
                    have NB473_461 := n10_
                    have NB465_473 := n11_
                    have NB473_465 := n12_
                    have NB469_473 := n13_
                    have NB473_469 := n14_
                    clear n0_ n1_ n2_ n3_ n4_ n5_ n6_ n7_ n8_ n9_ n10_ n11_ n12_ n13_ n14_
                    clear hb hbox hg
                    refine hK.out _ _ ⟨(blk_cell BK465.out 0).trans rfl, (blk_cell BK465.out 1).trans rfl⟩ (fun hHeld => ?_)
                    clear hK K
                    refine norm_ (a' := ?_) ?_ ?_
                    rotate_left
                    · show Act.put _ (some 19) _ = _
                      simp only [Act.put, List.setIfInBounds_toArray, List.set_cons_zero, List.set_cons_succ, i64_w, i32_w]
                      rfl
                    exact norm_ (by simp only [putAll, Act.put, List.setIfInBounds_toArray, List.set_cons_zero, List.set_cons_succ]) (hCont (gb473) _ ⟨hHeld, (by (with_reducible repeat (first | apply Kd.R_alloc | apply Kd.R_drewN | apply Kd.R_drew)); exact HO460.out), (by (with_reducible repeat (first | apply Kd.R_alloc | apply Kd.R_drewN | apply Kd.R_drew)); exact HO464.out), (by (with_reducible repeat (first | refine blk_drewN ?_ _ | refine blk_drew ?_ | refine blk_alloc ?_ _)); exact BK461.out), (by (with_reducible repeat (first | refine blk_drewN ?_ _ | refine blk_drew ?_ | refine blk_alloc ?_ _)); exact BK465.out), (by (with_reducible repeat (first | refine blk_drewN ?_ _ | refine blk_drew ?_ | refine blk_alloc ?_ _)); exact BK469.out), (by (with_reducible repeat (first | refine blk_drewN ?_ _ | refine blk_drew ?_ | refine blk_alloc ?_ _)); exact BK473.out), GW473.out, GE473.out, NB461_473.out, NB473_461.out, NB465_473.out, NB473_465.out, NB469_473.out, NB473_469.out, (by repeat (first | (with_reducible first | exact HB.out | apply below_alloc | apply pw_below_drewN | apply below_drew1 | refine below_set ?_ GE461.out | refine below_set ?_ GE465.out | refine below_set ?_ GE469.out | refine below_set ?_ GE473.out) | exact HB.out))⟩)
                  · skip
                    refine box_step ?hg (N := 19) ?hd (cs := #[.int .i64 0, .int .i64 0]) (t := 34) ?hr ?_; (case hd => rfl); (case hg => rfl); (case hr => first | (go_simp; done) | (go_simp; rfl))
                    intro gb473 hg w37 hbox hb
                    have n0_ := Aside0.mk (Kd.R_below (by (with_reducible repeat (first | apply Kd.R_alloc | apply Kd.R_drewN | apply Kd.R_drew)); exact HO460.out) hb)
                    have n1_ := Aside0.mk (Kd.R_below (by (with_reducible repeat (first | apply Kd.R_alloc | apply Kd.R_drewN | apply Kd.R_drew)); exact HO464.out) hb)
                    have n2_ := Aside0.mk (blk_below (g := gb461) (o := .cells #[.int .i64 (wrap64 (2 + (Int.tmod (wrap64 (a0)) 29))), .slice Ao19 y458.length co19] 31 (0, 0)) (by (with_reducible repeat (first | refine blk_drewN ?_ _ | refine blk_drew ?_ | refine blk_alloc ?_ _)); exact BK461.out) hb)
                    have n3_ := Aside0.mk (blk_below (g := gb465) (o := .cells #[.int .i64 (wrap64 (2 + (Int.tmod (wrap64 (a0)) 29))), .slice Ao24 y462.length co24] 31 (0, 0)) (by (with_reducible repeat (first | refine blk_drewN ?_ _ | refine blk_drew ?_ | refine blk_alloc ?_ _)); exact BK465.out) hb)
                    have n4_ := Aside0.mk (blk_below (g := gb469) (o := .cells #[.int .i64 t466, .int .i64 t467] 34 (0, 0)) (by (with_reducible repeat (first | refine blk_drewN ?_ _ | refine blk_drew ?_ | refine blk_alloc ?_ _)); exact BK469.out) hb)
                    have n5_ := Aside0.mk (below_step (by repeat (first | (with_reducible first | exact HB.out | apply below_alloc | apply pw_below_drewN | apply below_drew1 | refine below_set ?_ GE461.out | refine below_set ?_ GE465.out | refine below_set ?_ GE469.out) | exact HB.out)) hb)
                    have n6_ := Aside0.mk (hbox)
                    have n7_ := Aside0.mk ((by rw [hg]; exact (below_size (by repeat (first | (with_reducible first | exact HB.out | apply below_alloc | apply pw_below_drewN | apply below_drew1 | refine below_set ?_ GE461.out | refine below_set ?_ GE465.out | refine below_set ?_ GE469.out) | exact HB.out))) : w.heap.size ≤ gb473))
                    have n8_ := Aside0.mk ((by rw [hg]; exact (below_size (by repeat (first | (with_reducible first | exact HB.out | apply below_alloc | apply pw_below_drewN | apply below_drew1 | refine below_set ?_ GE461.out | refine below_set ?_ GE465.out | refine below_set ?_ GE469.out) | exact HB.out))) : w.heap.size ≤ gb473))
                    have n9_ := Aside0.mk ((by rw [hg]; exact Nat.ne_of_lt (blk_lt (g := gb461) (o := .cells #[.int .i64 (wrap64 (2 + (Int.tmod (wrap64 (a0)) 29))), .slice Ao19 y458.length co19] 31 (0, 0)) (by (with_reducible repeat (first | refine blk_drewN ?_ _ | refine blk_drew ?_ | refine blk_alloc ?_ _)); exact BK461.out)) : gb461 ≠ gb473))
                    have n10_ := Aside0.mk ((by rw [hg]; exact Nat.ne_of_gt (blk_lt (g := gb461) (o := .cells #[.int .i64 (wrap64 (2 + (Int.tmod (wrap64 (a0)) 29))), .slice Ao19 y458.length co19] 31 (0, 0)) (by (with_reducible repeat (first | refine blk_drewN ?_ _ | refine blk_drew ?_ | refine blk_alloc ?_ _)); exact BK461.out)) : gb473 ≠ gb461))
                    have n11_ := Aside0.mk ((by rw [hg]; exact Nat.ne_of_lt (blk_lt (g := gb465) (o := .cells #[.int .i64 (wrap64 (2 + (Int.tmod (wrap64 (a0)) 29))), .slice Ao24 y462.length co24] 31 (0, 0)) (by (with_reducible repeat (first | refine blk_drewN ?_ _ | refine blk_drew ?_ | refine blk_alloc ?_ _)); exact BK465.out)) : gb465 ≠ gb473))
                    have n12_ := Aside0.mk ((by rw [hg]; exact Nat.ne_of_gt (blk_lt (g := gb465) (o := .cells #[.int .i64 (wrap64 (2 + (Int.tmod (wrap64 (a0)) 29))), .slice Ao24 y462.length co24] 31 (0, 0)) (by (with_reducible repeat (first | refine blk_drewN ?_ _ | refine blk_drew ?_ | refine blk_alloc ?_ _)); exact BK465.out)) : gb473 ≠ gb465))
                    have n13_ := Aside0.mk ((by rw [hg]; exact Nat.ne_of_lt (blk_lt (g := gb469) (o := .cells #[.int .i64 t466, .int .i64 t467] 34 (0, 0)) (by (with_reducible repeat (first | refine blk_drewN ?_ _ | refine blk_drew ?_ | refine blk_alloc ?_ _)); exact BK469.out)) : gb469 ≠ gb473))
                    have n14_ := Aside0.mk ((by rw [hg]; exact Nat.ne_of_gt (blk_lt (g := gb469) (o := .cells #[.int .i64 t466, .int .i64 t467] 34 (0, 0)) (by (with_reducible repeat (first | refine blk_drewN ?_ _ | refine blk_drew ?_ | refine blk_alloc ?_ _)); exact BK469.out)) : gb473 ≠ gb469))
                    clear HO460
                    clear HO464
                    clear BK461
                    clear BK465
                    clear BK469
                    clear HB
                    have HO460 := n0_
                    have HO464 := n1_
                    have BK461 := n2_
                    have BK465 := n3_
                    have BK469 := n4_
                    have HB := n5_
                    have BK473 := n6_
                    have GW473 := n7_
                    have GE473 := n8_
                    have NB461_473 := n9_
                    have NB473_461 := n10_
                    have NB465_473 := n11_
                    have NB473_465 := n12_
                    have NB469_473 := n13_
                    have NB473_469 := n14_
                    clear n0_ n1_ n2_ n3_ n4_ n5_ n6_ n7_ n8_ n9_ n10_ n11_ n12_ n13_ n14_
                    clear hb hbox hg
                    refine hK.out _ _ ⟨(blk_cell BK465.out 0).trans rfl, (blk_cell BK465.out 1).trans rfl⟩ (fun hHeld => ?_)
                    clear hK K
                    refine norm_ (a' := ?_) ?_ ?_
                    rotate_left
                    · show Act.put _ (some 19) _ = _
                      simp only [Act.put, List.setIfInBounds_toArray, List.set_cons_zero, List.set_cons_succ, i64_w, i32_w]
                      rfl
                    refine one_ (i := 6) (N := some 85) #[true, true, true, true, true, true, true, false, false, false, true, false, false] rfl rfl (one_of HT_.out (by kernel_rfl)) (by decide) (fun K hK => ?_)
                    refine goes_ Try.func18 (by kernel_rfl) rfl #[.agg #[.int .i64 (wrap64 (2 + (Int.tmod (wrap64 (a0)) 29))), .slice Ao24 y462.length co24], .int .i64 (Int.tmod (wrap64 (a4)) (wrap64 ((wrap64 (2 + (Int.tmod (wrap64 (a0)) 29))) + 1)))] (by rfl) rfl rfl (by (try simp only [List.map_toArray, List.map_cons, List.map_nil]); first | done | rfl | (simp only [List.length_drop, List.length_take]; rfl)) ?_
                    with_reducible refine (plan_Chance.calls (wrap64 (2 + (Int.tmod (wrap64 (a0)) 29))) _ _ y462 (Int.tmod (wrap64 (a4)) (wrap64 ((wrap64 (2 + (Int.tmod (wrap64 (a0)) 29))) + 1))) t470 t471 t472 _ ?side1 ?side2 A12.out).mono ?_
                    (case side1 => repeat (first | exact (Kd.R_reads' HO464.out).2.2 | (with_reducible refine Kd.C_alloc ?_ _) | (with_reducible refine Kd.C_drewN ?_ _) | (with_reducible refine Kd.C_drew ?_)))
                    (case side2 => exact (Kd.R_reads' HO464.out).2.1)
                    rintro e w38 ⟨rfl, hb⟩
                    refine ⟨_, rfl, ?_⟩
                    have n0_ := Aside0.mk (Kd.R_below (by (with_reducible repeat (first | apply Kd.R_alloc | apply Kd.R_drewN | apply Kd.R_drew)); exact HO460.out) hb)
                    have n1_ := Aside0.mk (Kd.R_below (by (with_reducible repeat (first | apply Kd.R_alloc | apply Kd.R_drewN | apply Kd.R_drew)); exact HO464.out) hb)
                    have n2_ := Aside0.mk (blk_below (g := gb461) (o := .cells #[.int .i64 (wrap64 (2 + (Int.tmod (wrap64 (a0)) 29))), .slice Ao19 y458.length co19] 31 (0, 0)) (by (with_reducible repeat (first | refine blk_drewN ?_ _ | refine blk_drew ?_ | refine blk_alloc ?_ _)); exact BK461.out) hb)
                    have n3_ := Aside0.mk (blk_below (g := gb465) (o := .cells #[.int .i64 (wrap64 (2 + (Int.tmod (wrap64 (a0)) 29))), .slice Ao24 y462.length co24] 31 (0, 0)) (by (with_reducible repeat (first | refine blk_drewN ?_ _ | refine blk_drew ?_ | refine blk_alloc ?_ _)); exact BK465.out) hb)
                    have n4_ := Aside0.mk (blk_below (g := gb469) (o := .cells #[.int .i64 t466, .int .i64 t467] 34 (0, 0)) (by (with_reducible repeat (first | refine blk_drewN ?_ _ | refine blk_drew ?_ | refine blk_alloc ?_ _)); exact BK469.out) hb)
                    have n5_ := Aside0.mk (blk_below (g := gb473) (o := .cells #[.int .i64 0, .int .i64 0] 34 (0, 0)) (by (with_reducible repeat (first | refine blk_drewN ?_ _ | refine blk_drew ?_ | refine blk_alloc ?_ _)); exact BK473.out) hb)
                    have n6_ := Aside0.mk (below_step (by repeat (first | (with_reducible first | exact HB.out | apply below_alloc | apply pw_below_drewN | apply below_drew1 | refine below_set ?_ GE461.out | refine below_set ?_ GE465.out | refine below_set ?_ GE469.out | refine below_set ?_ GE473.out) | exact HB.out)) hb)
                    clear HO460
                    clear HO464
                    clear BK461
                    clear BK465
                    clear BK469
                    clear BK473
                    clear HB
                    have HO460 := n0_
                    have HO464 := n1_
                    have BK461 := n2_
                    have BK465 := n3_
                    have BK469 := n4_
                    have BK473 := n5_
                    have HB := n6_
                    clear n0_ n1_ n2_ n3_ n4_ n5_ n6_
                    (try clear hb)
                    (try clear hb2)
                    (try clear hk)
                    (try clear hi)
                    refine hK.out _ _ ⟨(blk_cell BK465.out 0).trans rfl, (blk_cell BK465.out 1).trans rfl⟩ (fun hHeld => ?_)
                    clear hK K
                    refine norm_ (a' := ?_) ?_ ?_
                    rotate_left
                    · show Act.put _ (some 85) _ = _
                      simp only [Act.put, List.setIfInBounds_toArray, List.set_cons_zero, List.set_cons_succ, i64_w, i32_w]
                      rfl
                    refine pure_ (i := 7) (N := some 78) (v := ?_) (a' := ?_) #[true, true, true, true, true, true, true, true, false, false, true, false, false] rfl rfl (any_of HT_.out (by kernel_rfl)) (fun _ _ _ h => h) (Or.inl ⟨by rfl, ?_⟩) ?_ ?_
                    rotate_left
                    · intro w'
                      go_simp
                      with_reducible rfl
                    rotate_left
                    · simp only [Act.put, List.setIfInBounds_toArray, List.set_cons_zero, List.set_cons_succ, i64_w, i32_w]
                      rfl
                    refine pure_ (i := 8) (N := some 86) (v := ?_) (a' := ?_) #[true, true, true, true, true, true, true, true, true, false, true, false, false] rfl rfl (any_of HT_.out (by kernel_rfl)) (fun _ _ _ h => h) (Or.inl ⟨by rfl, ?_⟩) ?_ ?_
                    rotate_left
                    · intro w'
                      go_simp
                      with_reducible rfl
                    rotate_left
                    · simp only [Act.put, List.setIfInBounds_toArray, List.set_cons_zero, List.set_cons_succ, i64_w, i32_w]
                      rfl
                    refine pure_ (i := 9) (N := some 87) (v := ?_) (a' := ?_) #[true, true, true, true, true, true, true, true, true, true, true, false, false] rfl rfl (any_of HT_.out (by kernel_rfl)) (fun _ _ _ h => h) (Or.inl ⟨by rfl, ?_⟩) ?_ ?_
                    rotate_left
                    · intro w'
                      go_simp
                      with_reducible rfl
                    rotate_left
                    · simp only [Act.put, List.setIfInBounds_toArray, List.set_cons_zero, List.set_cons_succ, i64_w, i32_w]
                      rfl
                    exact norm_ (by simp only [putAll, Act.put, List.setIfInBounds_toArray, List.set_cons_zero, List.set_cons_succ]) (hCont (gb473) _ ⟨hHeld, (by (with_reducible repeat (first | apply Kd.R_alloc | apply Kd.R_drewN | apply Kd.R_drew)); exact HO460.out), (by (with_reducible repeat (first | apply Kd.R_alloc | apply Kd.R_drewN | apply Kd.R_drew)); exact HO464.out), (by (with_reducible repeat (first | refine blk_drewN ?_ _ | refine blk_drew ?_ | refine blk_alloc ?_ _)); exact BK461.out), (by (with_reducible repeat (first | refine blk_drewN ?_ _ | refine blk_drew ?_ | refine blk_alloc ?_ _)); exact BK465.out), (by (with_reducible repeat (first | refine blk_drewN ?_ _ | refine blk_drew ?_ | refine blk_alloc ?_ _)); exact BK469.out), (by (with_reducible repeat (first | refine blk_drewN ?_ _ | refine blk_drew ?_ | refine blk_alloc ?_ _)); exact BK473.out), GW473.out, GE473.out, NB461_473.out, NB473_461.out, NB465_473.out, NB473_465.out, NB469_473.out, NB473_469.out, (by repeat (first | (with_reducible first | exact HB.out | apply below_alloc | apply pw_below_drewN | apply below_drew1 | refine below_set ?_ GE461.out | refine below_set ?_ GE465.out | refine below_set ?_ GE469.out | refine below_set ?_ GE473.out) | exact HB.out))⟩)
                rintro gb473 w39 ⟨hS_, h0_, h1_, h2_, h3_, h4_, h5_, h6_, h7_, h8_, h9_, h10_, h11_, h12_, h13_, h14_⟩
                have n0_ : Aside0 (Kd.R k61 61 w39 w.heap.size (fun k_ => some k_ ≠ (.slice Ao24 y462.length co24 : Value).ownBlock) (.slice Ao19 y458.length co19) y458) := ⟨h0_⟩
                have n1_ : Aside0 (Kd.R k61 61 w39 w.heap.size (fun k_ => some k_ ≠ (.slice Ao19 y458.length co19 : Value).ownBlock) (.slice Ao24 y462.length co24) y462) := ⟨h1_⟩
                have n2_ : Aside0 (w39.heap[gb461]? = some (.cells #[.int .i64 (wrap64 (2 + (Int.tmod (wrap64 (a0)) 29))), .slice Ao19 y458.length co19] 31 (0, 0))) := ⟨h2_⟩
                have n3_ : Aside0 (w39.heap[gb465]? = some (.cells #[.int .i64 (wrap64 (2 + (Int.tmod (wrap64 (a0)) 29))), .slice Ao24 y462.length co24] 31 (0, 0))) := ⟨h3_⟩
                have n4_ : Aside0 (w39.heap[gb469]? = some (.cells #[.int .i64 t466, .int .i64 t467] 34 (0, 0))) := ⟨h4_⟩
                have n5_ : Aside0 (w39.heap[gb473]? = some (.cells #[.int .i64 0, .int .i64 0] 34 (0, 0))) := ⟨h5_⟩
                have n6_ : Aside0 (w.heap.size ≤ gb473) := ⟨h6_⟩
                have n7_ : Aside0 (w.heap.size ≤ gb473) := ⟨h7_⟩
                have n8_ : Aside0 (gb461 ≠ gb473) := ⟨h8_⟩
                have n9_ : Aside0 (gb473 ≠ gb461) := ⟨h9_⟩
                have n10_ : Aside0 (gb465 ≠ gb473) := ⟨h10_⟩
                have n11_ : Aside0 (gb473 ≠ gb465) := ⟨h11_⟩
                have n12_ : Aside0 (gb469 ≠ gb473) := ⟨h12_⟩
                have n13_ : Aside0 (gb473 ≠ gb469) := ⟨h13_⟩
                have n14_ : Aside0 (Below w.heap.size w w39) := ⟨h14_⟩
                clear HO460
                clear HO464
                clear BK461
                clear BK465
                clear BK469
                clear HB
                clear h0_ h1_ h2_ h3_ h4_ h5_ h6_ h7_ h8_ h9_ h10_ h11_ h12_ h13_ h14_
                have HO460 := n0_
                have HO464 := n1_
                have BK461 := n2_
                have BK465 := n3_
                have BK469 := n4_
                have BK473 := n5_
                have GW473 := n6_
                have GE473 := n7_
                have NB461_473 := n8_
                have NB473_461 := n9_
                have NB465_473 := n10_
                have NB473_465 := n11_
                have NB469_473 := n12_
                have NB473_469 := n13_
                have HB := n14_
                clear n0_ n1_ n2_ n3_ n4_ n5_ n6_ n7_ n8_ n9_ n10_ n11_ n12_ n13_ n14_
                have hHeld : w39.cell? ⟨gb465, 0, none⟩ = some (.int .i64 (wrap64 (2 + (Int.tmod (wrap64 (a0)) 29)))) ∧ w39.cell? ⟨gb465, 1, none⟩ = some (.slice Ao24 y462.length co24) := hS_
                refine norm_ (a' := ?_) ?_ ?_
                rotate_left
                · simp only [putAll, Act.put, List.setIfInBounds_toArray, List.set_cons_zero, List.set_cons_succ]
                  rfl
                refine one_ (i := 11) (N := none) #[true, true, true, true, true, true, true, true, true, true, true, true, false] rfl rfl (one_of HT_.out (by kernel_rfl)) (by decide) (fun K hK => ?_)
                have hs40 : w39.cell? ⟨gb473, 0, none⟩ = some (.int .i64 0) := (blk_cell BK473.out 0).trans rfl
                have hfs40 := blk_frozen BK473.out 0
                have hns40_0 := NB461_473.out
                have hns40_1 := NB465_473.out
                have hns40_2 := NB469_473.out
                have hms40_0 := NB473_461.out
                have hms40_1 := NB473_465.out
                have hms40_2 := NB473_469.out
                have hs41 : w39.cell? ⟨gb473, 1, none⟩ = some (.int .i64 0) := (blk_cell BK473.out 1).trans rfl
                have hfs41 := blk_frozen BK473.out 1
                have hns41_0 := NB461_473.out
                have hns41_1 := NB465_473.out
                have hns41_2 := NB469_473.out
                have hms41_0 := NB473_461.out
                have hms41_1 := NB473_465.out
                have hms41_2 := NB473_469.out
                refine skip_ (w1 := ?_) (by rfl) rfl ?_ ?_
                rotate_left
                · go_simp
                  rfl
                refine hK.out _ _ ⟨((cell_far (p := ⟨gb473, _, none⟩) NB465_473.out _).trans (((cell_far (p := ⟨gb473, _, none⟩) NB465_473.out _).trans (hHeld.1)))), ((cell_far (p := ⟨gb473, _, none⟩) NB465_473.out _).trans (((cell_far (p := ⟨gb473, _, none⟩) NB465_473.out _).trans (hHeld.2))))⟩ (fun hHeld => ?_)
                clear hK K
                refine pure_ (i := 12) (N := some 20) (v := ?_) (a' := ?_) #[true, true, true, true, true, true, true, true, true, true, true, true, true] rfl rfl (any_of HT_.out (by kernel_rfl)) (fun _ _ _ h => h) (Or.inl ⟨by rfl, ?_⟩) ?_ ?_
                rotate_left
                · intro w'
                  go_simp
                  with_reducible rfl
                rotate_left
                · simp only [Act.put, List.setIfInBounds_toArray, List.set_cons_zero, List.set_cons_succ, i64_w, i32_w]
                  rfl
                refine done_ (done_of HT_.out (by kernel_rfl)) ?_
                have hnb42 := NB469_461.out
                have hnc42 := NB461_469.out
                have hnb43 := NB469_465.out
                have hnc43 := NB465_469.out
                have hnb44 := NB469_473.out
                have hnc44 := NB473_469.out
                have hcz45_0 : w39.cell? ⟨gb469, 0, none⟩ = some (.int .i64 t466) := (blk_cell BK469.out 0).trans rfl
                have hcz45_1 : w39.cell? ⟨gb469, 1, none⟩ = some (.int .i64 t467) := (blk_cell BK469.out 1).trans rfl
                have hfz45_0 := blk_frozen BK469.out 0
                have hfz45_1 := blk_frozen BK469.out 1
                have hnb46 := NB473_461.out
                have hnc46 := NB461_473.out
                have hnb47 := NB473_465.out
                have hnc47 := NB465_473.out
                have hcz48_0 : w39.cell? ⟨gb473, 0, none⟩ = some (.int .i64 0) := (blk_cell BK473.out 0).trans rfl
                have hcz48_1 : w39.cell? ⟨gb473, 1, none⟩ = some (.int .i64 0) := (blk_cell BK473.out 1).trans rfl
                have hfz48_0 := blk_frozen BK473.out 0
                have hfz48_1 := blk_frozen BK473.out 1
                try go_wp2_with (first | (go_at_call 15; (with_reducible refine (tensilelaw09_wakes.calls  t474 _ A16.out).mono ?_); rintro e w49 ⟨rfl, hb⟩; have n0_ := Aside0.mk (Kd.R_below (by (with_reducible repeat (first | apply Kd.R_alloc | apply Kd.R_drewN | apply Kd.R_drew)); exact (Kd.R_mono (Kd.R_far (p := ⟨gb473, 1, none⟩) (Kd.R_far (p := ⟨gb473, 0, none⟩) (Kd.R_types HO460.out BK473.out (by decide)) (fun _ hk => hk.2) (.int .i64 t470)) (fun _ hk => hk.2) (.int .i64 t471)) (fun _ h_ => h_.1))) hb); have n1_ := Aside0.mk (Kd.R_below (by (with_reducible repeat (first | apply Kd.R_alloc | apply Kd.R_drewN | apply Kd.R_drew)); exact (Kd.R_mono (Kd.R_far (p := ⟨gb473, 1, none⟩) (Kd.R_far (p := ⟨gb473, 0, none⟩) (Kd.R_types HO464.out BK473.out (by decide)) (fun _ hk => hk.2) (.int .i64 t470)) (fun _ hk => hk.2) (.int .i64 t471)) (fun _ h_ => h_.1))) hb); have n2_ := Aside0.mk (blk_below (g := gb461) (o := .cells #[.int .i64 (wrap64 (2 + (Int.tmod (wrap64 (a0)) 29))), .slice Ao19 y458.length co19] 31 (0, 0)) (by (with_reducible repeat (first | refine blk_drewN ?_ _ | refine blk_drew ?_ | refine blk_alloc ?_ _)); refine blk_far ?_ NB461_473.out _; (with_reducible repeat (first | refine blk_drewN ?_ _ | refine blk_drew ?_ | refine blk_alloc ?_ _)); refine blk_far ?_ NB461_473.out _; (with_reducible repeat (first | refine blk_drewN ?_ _ | refine blk_drew ?_ | refine blk_alloc ?_ _)); exact BK461.out) hb); have n3_ := Aside0.mk (blk_below (g := gb465) (o := .cells #[.int .i64 (wrap64 (2 + (Int.tmod (wrap64 (a0)) 29))), .slice Ao24 y462.length co24] 31 (0, 0)) (by (with_reducible repeat (first | refine blk_drewN ?_ _ | refine blk_drew ?_ | refine blk_alloc ?_ _)); refine blk_far ?_ NB465_473.out _; (with_reducible repeat (first | refine blk_drewN ?_ _ | refine blk_drew ?_ | refine blk_alloc ?_ _)); refine blk_far ?_ NB465_473.out _; (with_reducible repeat (first | refine blk_drewN ?_ _ | refine blk_drew ?_ | refine blk_alloc ?_ _)); exact BK465.out) hb); have n4_ := Aside0.mk (blk_below (g := gb469) (o := .cells #[.int .i64 t466, .int .i64 t467] 34 (0, 0)) (by (with_reducible repeat (first | refine blk_drewN ?_ _ | refine blk_drew ?_ | refine blk_alloc ?_ _)); refine blk_far ?_ NB469_473.out _; (with_reducible repeat (first | refine blk_drewN ?_ _ | refine blk_drew ?_ | refine blk_alloc ?_ _)); refine blk_far ?_ NB469_473.out _; (with_reducible repeat (first | refine blk_drewN ?_ _ | refine blk_drew ?_ | refine blk_alloc ?_ _)); exact BK469.out) hb); have n5_ := Aside0.mk (blk_below (g := gb473) (o := .cells #[.int .i64 t470, .int .i64 t471] 34 (0, 0)) (by (with_reducible repeat (first | refine blk_drewN ?_ _ | refine blk_drew ?_ | refine blk_alloc ?_ _)); refine blk_put (cs := #[.int .i64 t470, .int .i64 0]) ?_ 1 _ rfl; (with_reducible repeat (first | refine blk_drewN ?_ _ | refine blk_drew ?_ | refine blk_alloc ?_ _)); refine blk_put (cs := #[.int .i64 0, .int .i64 0]) ?_ 0 _ rfl; (with_reducible repeat (first | refine blk_drewN ?_ _ | refine blk_drew ?_ | refine blk_alloc ?_ _)); exact BK473.out) hb); have n6_ := Aside0.mk (below_step (by repeat (first | (with_reducible first | exact HB.out | apply below_alloc | apply pw_below_drewN | apply below_drew1 | refine below_set ?_ GE461.out | refine below_set ?_ GE465.out | refine below_set ?_ GE469.out | refine below_set ?_ GE473.out) | exact HB.out)) hb); clear HO460; clear HO464; clear BK461; clear BK465; clear BK469; clear BK473; clear HB; have HO460 := n0_; have HO464 := n1_; have BK461 := n2_; have BK465 := n3_; have BK469 := n4_; have BK473 := n5_; have HB := n6_; clear n0_ n1_ n2_ n3_ n4_ n5_ n6_; (try clear hb); (try clear hb2); (try clear hk); (try clear hi)))
                go_ret
                exact ⟨by first | rfl | (simp [errW_none, errW_some] <;> rfl) | (simp only [← hji9]; first | rfl | (simp [errW_none, errW_some] <;> rfl)) | (simp [*, errW_none, errW_some] <;> rfl), by repeat (first | (with_reducible first | exact HB.out | apply below_alloc | apply pw_below_drewN | apply below_drew1 | refine below_set ?_ GE461.out | refine below_set ?_ GE465.out | refine below_set ?_ GE469.out | refine below_set ?_ GE473.out) | exact HB.out)⟩
              · rw [if_neg c15] at H
                exact absurd H (by simp)
            · rw [if_neg c14] at H
              exact absurd H (by simp)
          · rw [if_neg c13] at H
            exact absurd H (by simp)

/-- THE ONE PURE STATEMENT of tensilelaw09_PlanSplit: yours. -/
def tensilelaw09_PlanSplit.Pure : Prop := ∀ (a0 : Int) (a1 : Int) (a2 : Int) (a3 : Int) (a4 : Int), (Lit.int .u8 a0).wf = true → (Lit.int .u8 a1).wf = true → (Lit.int .u8 a2).wf = true → (Lit.int .u8 a3).wf = true → (Lit.int .u8 a4).wf = true → tensilelaw09_PlanSplit.f a0 a1 a2 a3 a4 = some true
theorem tensilelaw09_PlanSplit.walk (P : tensilelaw09_PlanSplit.Pure) (a0 : Int) (a1 : Int) (a2 : Int) (a3 : Int) (a4 : Int) (w : World) (w0 : (Lit.int .u8 a0).wf = true) (w1 : (Lit.int .u8 a1).wf = true) (w2 : (Lit.int .u8 a2).wf = true) (w3 : (Lit.int .u8 a3).wf = true) (w4 : (Lit.int .u8 a4).wf = true) :
    Calls Try.prog 10 #[.int .u8 a0, .int .u8 a1, .int .u8 a2, .int .u8 a3, .int .u8 a4] w fun e w' => e = .returned (.bool true) ∧ Below w.heap.size w w' := by
  have h := P a0 a1 a2 a3 a4 w0 w1 w2 w3 w4
  refine (tensilelaw09_PlanSplit.calls a0 a1 a2 a3 a4 true w h).mono ?_
  rintro e w' ⟨rfl, hd⟩
  exact ⟨rfl, hd⟩

end Go.Proofs.Ytigpnafpdmdmhaa.P

namespace Go.Proofs.Ytigpnafpdmdmhaa.Pure
open Go.RowKit Go.Proofs.Ytigpnafpdmdmhaa.P

/-- A stage of the reference as the program's. -/
def c61 (s : S57) : S61 := ⟨s.f0, s.f1, s.f2⟩
/-- A stage of the reference as the hand contracts tell it. -/
def cSt (s : S57) : Hand.Stg := ⟨s.f0, s.f1, s.f2⟩
theorem toStg_c61 (l : List S57) : toStg (l.map c61) = l.map cSt := by
  unfold toStg
  rw [List.map_map]
  rfl

theorem plan_f (a : Int) (l : List S57) (hl : l.length ≤ 5) : ∀ k, 7 ≤ k → tensilelaw09_Plan.f k a l = some (a, l.map c61) := by
  intro k hk
  obtain ⟨k, rfl⟩ : ∃ m, k = m + 7 := ⟨k - 7, by omega⟩
  match l, hl with
  | [], _ => rfl
  | [_], _ => simp [tensilelaw09_Plan.f, tensilelaw09_Plan.l0, rd_T57, c61, wrap64]
  | [_, _], _ => simp [tensilelaw09_Plan.f, tensilelaw09_Plan.l0, rd_T57, c61, wrap64]
  | [_, _, _], _ => simp [tensilelaw09_Plan.f, tensilelaw09_Plan.l0, rd_T57, c61, wrap64]
  | [_, _, _, _], _ => simp [tensilelaw09_Plan.f, tensilelaw09_Plan.l0, rd_T57, c61, wrap64]
  | [_, _, _, _, _], _ => simp [tensilelaw09_Plan.f, tensilelaw09_Plan.l0, rd_T57, c61, wrap64]

theorem fits_in {n : Int} (h : Fits n) : -9223372036854775808 ≤ n ∧ n ≤ 9223372036854775807 := by
  unfold Fits Lit.wf at h
  rw [Bool.and_eq_true, decide_eq_true_eq, decide_eq_true_eq] at h
  exact h

/-- What the reference's loop asks of each stage. -/
def okFrom (lot : Int) : Int → Option S57 → List S57 → Prop
  | _, _, [] => True
  | taken, prev, s :: l => (1 ≤ s.f0 ∧ s.f0 ≤ 30 ∧ taken + s.f0 ≤ lot) ∧ (-1 ≤ s.f1 ∧ s.f1 ≤ 30) ∧ (s.f1 < s.f2 ∧ s.f2 ≤ taken + s.f0 + 1) ∧ (∀ p, prev = some p → p.f1 ≤ s.f1 ∧ p.f2 ≤ s.f2) ∧ (l = [] → s.f2 = s.f1 + 1) ∧ okFrom lot (taken + s.f0) (some s) l

instance okDec (lot : Int) : ∀ (l : List S57) (taken : Int) (prev : Option S57), Decidable (okFrom lot taken prev l)
  | [], _, _ => isTrue trivial
  | s :: l, taken, prev => by
    have := okDec lot l (taken + s.f0) (some s)
    have h2 : Decidable (∀ p, prev = some p → p.f1 ≤ s.f1 ∧ p.f2 ≤ s.f2) := match prev with
      | none => isTrue (fun _ h => by cases h)
      | some p => if h : p.f1 ≤ s.f1 ∧ p.f2 ≤ s.f2 then isTrue (fun q hq => by cases hq; exact h) else isFalse (fun hq => h (hq p rfl))
    have h3 : Decidable (l = []) := match l with
      | [] => isTrue rfl
      | _ :: _ => isFalse (fun h => by cases h)
    unfold okFrom
    infer_instance

end Go.Proofs.Ytigpnafpdmdmhaa.Pure

namespace Go.Proofs.Ytigpnafpdmdmhaa.Pure
open Go.RowKit Go.Proofs.Ytigpnafpdmdmhaa.P
open Hand (Stg)

theorem In_f (a b c : Int) : tensileref09_In.f a b c = some (decide (b ≤ a ∧ a ≤ c)) := by
  unfold tensileref09_In.f
  split
  · rename_i h; simp [show b ≤ a from h]
  · rename_i h; simp [show ¬ b ≤ a from h]

theorem rd_pre (pre : List S57) (s : S57) (suf : List S57) : rd_T57 (pre ++ s :: suf) (pre.length : Int) = s := by
  unfold rd_T57
  rw [Int.toNat_natCast, List.getD_eq_getElem?_getD, List.getElem?_append_right (Nat.le_refl _), Nat.sub_self]
  rfl

/-- What is asked of the stages, from so many pieces and the limits of the stage before on. -/
def good (lot : Int) : Int → Int → Int → List Stg → Prop
  | _, _, _, [] => True
  | t, pa, pr, s :: l => (1 ≤ s.take ∧ t + s.take ≤ lot) ∧ (pa ≤ s.accept ∧ s.accept < s.reject ∧ s.reject ≤ t + s.take + 1 ∧ pr ≤ s.reject) ∧ (l = [] → s.reject = s.accept + 1) ∧ good lot (t + s.take) s.accept s.reject l

theorem good_cons (lot t pa pr : Int) (s : Stg) (l : List Stg) : good lot t pa pr (s :: l) ↔ ((1 ≤ s.take ∧ t + s.take ≤ lot) ∧ (pa ≤ s.accept ∧ s.accept < s.reject ∧ s.reject ≤ t + s.take + 1 ∧ pr ≤ s.reject) ∧ (l = [] → s.reject = s.accept + 1) ∧ good lot (t + s.take) s.accept s.reject l) := Iff.rfl
theorem if_iff {P Q : Prop} [Decidable P] [Decidable Q] {α : Type} {x y : α} (h : P ↔ Q) : (if P then x else y) = if Q then x else y := by
  by_cases hp : P
  · rw [if_pos hp, if_pos (h.1 hp)]
  · rw [if_neg hp, if_neg (fun hq => hp (h.2 hq))]
theorem good_take {lot : Int} : ∀ {l : List Stg} {t pa pr : Int}, good lot t pa pr l → ∀ s ∈ l, 1 ≤ s.take
  | _ :: _, _, _, _, h, s, hs => by
    rcases List.mem_cons.1 hs with rfl | hs
    · exact h.1.1
    · exact good_take h.2.2.2 s hs

open Classical in
theorem fault_l0 (a : Int) (ha : a ≤ 30) : ∀ (suf pre : List S57) (k : Nat) (t pa pr : Int), 5 * suf.length + 5 ≤ k → (pre ++ suf).length ≤ 3 → 0 ≤ t → t ≤ a →
    (pre = [] ∧ pa = -1 ∧ pr = 0 ∨ ∃ pre' p, pre = pre' ++ [p] ∧ p.f1 = pa ∧ p.f2 = pr) → -1 ≤ pa → 0 ≤ pr → (∀ s ∈ suf, Fits s.f0 ∧ Fits s.f1 ∧ Fits s.f2) →
    tensileref09_Fault.l0 k t (pre.length : Int) a (pre ++ suf) = some (if good a t pa pr (suf.map cSt) then 0 else 1) := by
  intro suf
  induction suf with
  | nil =>
    intro pre k t pa pr hk _ _ _ _ _ _ _
    obtain ⟨k, rfl⟩ : ∃ m, k = m + 1 := ⟨k - 1, by omega⟩
    simp [tensileref09_Fault.l0, good]
  | cons s suf ih =>
    intro pre k t pa pr hk hlen ht ht30 hp hpa hpr hf
    obtain ⟨k, rfl⟩ : ∃ m, k = m + 5 := ⟨k - 5, by omega⟩
    obtain ⟨f0, f1, f2⟩ := hf s (by simp)
    have b0 := fits_in f0
    have b1 := fits_in f1
    have b2 := fits_in f2
    have hlt : (pre.length : Int) < ((pre ++ s :: suf).length : Int) := by simp; omega
    have hl : ((pre ++ s :: suf).length : Int) = pre.length + suf.length + 1 := by simp; omega
    have hl3 : pre.length + suf.length + 1 ≤ 3 := by simpa [Nat.add_assoc] using hlen
    have hrec : ∀ (k' : Nat), 5 * suf.length + 5 ≤ k' → t + s.f0 ≤ a → 1 ≤ s.f0 → -1 ≤ s.f1 → 0 ≤ s.f2 →
        tensileref09_Fault.l0 k' (t + s.f0) ((pre.length : Int) + 1) a (pre ++ s :: suf) = some (if good a (t + s.f0) s.f1 s.f2 (suf.map cSt) then 0 else 1) := fun k' h1 h2 h3 h4 h5 => by
      have := ih (pre ++ [s]) k' (t + s.f0) s.f1 s.f2 h1 (by simpa using hlen) (by omega) h2 (.inr ⟨pre, s, rfl, rfl, rfl⟩) h4 h5 (fun x hx => hf x (by simp [hx]))
      simpa using this
    have hlast : ((pre.length : Int) = wrap64 (((pre ++ s :: suf).length : Int) - 1)) ↔ suf = [] := by
      rw [hl, show wrap64 ((pre.length : Int) + suf.length + 1 - 1) = (pre.length : Int) + suf.length by unfold wrap64; omega, ← List.length_eq_zero_iff]
      omega
    have hmid : ∀ m, tensileref09_Fault.j4 (m + 1) (t + s.f0) (pre.length : Int) false a (pre ++ s :: suf) s.f0 s.f1 s.f2 = (if (suf = [] → s.f2 = wrap64 (s.f1 + 1)) then tensileref09_Fault.l0 m (t + s.f0) ((pre.length : Int) + 1) a (pre ++ s :: suf) else some 1) := fun m => by
      rw [tensileref09_Fault.j4, if_neg (by decide), show wrap64 ((pre.length : Int) + 1) = (pre.length : Int) + 1 by unfold wrap64; omega]
      by_cases h : suf = []
      · rw [if_pos (hlast.2 h)]
        simp [h]
      · rw [if_neg (fun e => h (hlast.1 e))]
        simp [h]
    have hj4 : ∀ m, tensileref09_Fault.j4 (m + 1) (t + s.f0) (pre.length : Int) true a (pre ++ s :: suf) s.f0 s.f1 s.f2 = some 1 := fun m => by
      rw [tensileref09_Fault.j4, if_pos rfl]
    have hj3 : ∀ m, tensileref09_Fault.j3 (m + 2) (t + s.f0) (pre.length : Int) false a (pre ++ s :: suf) s.f0 s.f1 s.f2 = (if (pre ≠ [] → pa ≤ s.f1 ∧ pr ≤ s.f2) then tensileref09_Fault.j4 (m + 1) (t + s.f0) (pre.length : Int) false a (pre ++ s :: suf) s.f0 s.f1 s.f2 else some 1) := fun m => by
      rw [tensileref09_Fault.j3, if_neg (by decide)]
      rcases hp with ⟨rfl, -, -⟩ | ⟨pre', p, rfl, rfl, rfl⟩
      · simp
      · have hl3' : pre'.length + 1 + suf.length + 1 ≤ 3 := by simpa using hl3
        have e1 : wrap64 (((pre' ++ [p]).length : Int) - 1) = (pre'.length : Int) := by rw [List.length_append]; simp; unfold wrap64; omega
        have e2 : rd_T57 (pre' ++ [p] ++ s :: suf) (pre'.length : Int) = p := by
          rw [List.append_assoc]; exact rd_pre pre' p (s :: suf)
        rw [if_pos (by simp <;> omega), e1, e2, if_pos (by omega), if_pos (by simp <;> omega)]
        by_cases h1 : p.f1 ≤ s.f1
        · rw [if_neg (by omega)]
          by_cases h2 : p.f2 ≤ s.f2
          · rw [if_pos (fun _ => ⟨h1, h2⟩), decide_eq_false (by omega)]
          · rw [if_neg (fun h => h2 (h (by simp)).2), decide_eq_true (by omega), hj4]
        · rw [if_pos (by omega), if_neg (fun h => h1 (h (by simp)).1), hj4]
    rw [tensileref09_Fault.l0, if_pos hlt, if_pos (by omega), rd_pre, In_f, Option.bind_some, List.map_cons]
    have hc : good a t pa pr (cSt s :: suf.map cSt) ↔ ((1 ≤ s.f0 ∧ t + s.f0 ≤ a) ∧ (pa ≤ s.f1 ∧ s.f1 < s.f2 ∧ s.f2 ≤ t + s.f0 + 1 ∧ pr ≤ s.f2) ∧ (suf = [] → s.f2 = s.f1 + 1) ∧ good a (t + s.f0) s.f1 s.f2 (suf.map cSt)) := by
      have hm : (suf.map cSt = []) = (suf = []) := by simp
      rw [good_cons, hm]
      exact Iff.rfl
    have hP : ∀ {P : Prop} (x y : Option Int), ¬ P → (if P then x else y) = y := fun x y h => if_neg h
    by_cases h1 : 1 ≤ s.f0 ∧ s.f0 ≤ 30
    case neg =>
      rw [decide_eq_false h1, if_neg (by decide), tensileref09_Fault.j2, if_pos rfl, if_neg (fun h => h1 (by have := (hc.1 h).1; omega))]
    rw [decide_eq_true h1, if_pos rfl, show wrap64 (t + s.f0) = t + s.f0 by unfold wrap64; omega]
    by_cases h2 : t + s.f0 ≤ a
    case neg =>
      rw [decide_eq_true (by omega), tensileref09_Fault.j2, if_pos rfl, if_neg (fun h => h2 (hc.1 h).1.2)]
    rw [decide_eq_false (by omega), tensileref09_Fault.j2, if_neg (by decide), In_f, Option.bind_some, show wrap64 (t + s.f0) = t + s.f0 by unfold wrap64; omega, show wrap64 (t + s.f0 + 1) = t + s.f0 + 1 by unfold wrap64; omega]
    by_cases h3 : -1 ≤ s.f1 ∧ s.f1 ≤ 30
    case neg =>
      rw [decide_eq_false h3, if_neg (by decide), tensileref09_Fault.j3, if_pos rfl, if_neg (fun h => h3 (by have := (hc.1 h).2.1; omega))]
    rw [decide_eq_true h3, if_pos rfl]
    by_cases h4 : s.f1 < s.f2
    case neg =>
      rw [if_pos (by omega), tensileref09_Fault.j3, if_pos rfl, if_neg (fun h => h4 (hc.1 h).2.1.2.1)]
    rw [if_neg (by omega)]
    by_cases h5 : s.f2 ≤ t + s.f0 + 1
    case neg =>
      rw [decide_eq_true (by omega), tensileref09_Fault.j3, if_pos rfl, if_neg (fun h => h5 (hc.1 h).2.1.2.2.1)]
    rw [decide_eq_false (by omega), hj3]
    by_cases h6 : pre ≠ [] → pa ≤ s.f1 ∧ pr ≤ s.f2
    case neg =>
      rw [if_neg h6, if_neg (fun h => h6 (fun _ => ⟨(hc.1 h).2.1.1, (hc.1 h).2.1.2.2.2⟩))]
    have h6' : pa ≤ s.f1 ∧ pr ≤ s.f2 := by
      rcases hp with ⟨rfl, rfl, rfl⟩ | ⟨pre', p, rfl, rfl, rfl⟩
      · omega
      · exact h6 (by simp)
    rw [if_pos h6, hmid]
    have e7 : wrap64 (s.f1 + 1) = s.f1 + 1 := by unfold wrap64; omega
    rw [e7]
    by_cases h7 : suf = [] → s.f2 = s.f1 + 1
    case neg => rw [if_neg h7, if_neg (fun h => h7 (hc.1 h).2.2.1)]
    rw [if_pos h7, hrec _ (by simp at hk; omega) h2 h1.1 h3.1 (by omega)]
    congr 1
    exact if_iff ⟨fun h => hc.2 ⟨⟨h1.1, h2⟩, ⟨h6'.1, h4, h5, h6'.2⟩, h7, h⟩, fun h => (hc.1 h).2.2.2⟩

theorem chk_max (lot t : Int) : ∀ (l : List Stg) (t : Int) (last : Stg), last.accept = 9223372036854775807 → 0 ≤ last.reject → (∀ s ∈ l, s.accept ≤ 9223372036854775807) → Hand.chk lot t last l = 1
  | [], t, last, h, h2, _ => by
    unfold Hand.chk
    rw [h, if_neg (by unfold wrap64; omega)]
  | s :: l, t, last, h, h2, h3 => by
    unfold Hand.chk
    split; · rfl
    split; · rfl
    split; · rfl
    split
    · exact chk_max lot t l _ s (by have := h3 s (by simp); omega) (by omega) (fun x hx => h3 x (by simp [hx]))
    · rfl

open Classical in
theorem chk_good (lot : Int) (hl : lot ≤ 30) : ∀ (l : List Stg) (t : Int) (last : Stg), 0 ≤ t → t ≤ lot → -1 ≤ last.accept → 0 ≤ last.reject → (∀ s ∈ l, 1 ≤ s.take ∧ s.accept ≤ 9223372036854775807) → (l = [] → last.reject = last.accept + 1) → last.accept ≤ 30 →
    Hand.chk lot t last l = if good lot t last.accept last.reject l then 0 else 1
  | [], t, last, _, _, h1, _, _, h2, h3 => by
    have h2 := h2 rfl
    unfold Hand.chk good
    rw [if_pos trivial, h2, if_pos (by unfold wrap64; omega)]
  | s :: l, t, last, ht, ht2, h1, h2, h3, _, h4 => by
    obtain ⟨k1, k2⟩ := h3 s (by simp)
    have h3' : ∀ s ∈ l, 1 ≤ s.take ∧ s.accept ≤ 9223372036854775807 := fun x hx => h3 x (by simp [hx])
    unfold Hand.chk
    by_cases c1 : lot - t < s.take
    · rw [if_pos c1, if_neg (fun h => by have := h.1.2; omega)]
    rw [if_neg c1]
    by_cases c2 : s.accept < last.accept
    · rw [if_pos c2, if_neg (fun h => by have := h.2.1.1; omega)]
    rw [if_neg c2]
    by_cases c3 : s.reject < last.reject
    · rw [if_pos c3, if_neg (fun h => by have := h.2.1.2.2.2; omega)]
    rw [if_neg c3]
    by_cases c5 : s.accept = 9223372036854775807
    · have : ¬ good lot t last.accept last.reject (s :: l) := fun h => by have := h.2.1.2; omega
      rw [if_neg this]
      split
      · exact chk_max lot t l _ s c5 (by omega) (fun x hx => (h3' x hx).2)
      · rfl
    have e : wrap64 (s.accept + 1) = s.accept + 1 := by unfold wrap64; omega
    rw [e]
    by_cases c4 : s.accept + 1 ≤ s.reject ∧ s.reject ≤ t + s.take + 1
    case neg => rw [if_neg c4, if_neg (fun h => c4 (by have := h.2.1.2; omega))]
    rw [if_pos c4]
    by_cases c6 : l = [] → s.reject = s.accept + 1
    case neg =>
      rw [if_neg (fun h => c6 h.2.2.1)]
      obtain rfl : l = [] := Classical.byContradiction fun h => c6 (fun h' => absurd h' h)
      unfold Hand.chk
      rw [e, if_neg (fun h => c6 (fun _ => h))]
    rw [chk_good lot hl l (t + s.take) s (by omega) (by omega) (by omega) (by omega) h3' c6 (by omega)]
    exact if_iff ⟨fun h => ⟨⟨k1, by omega⟩, ⟨by omega, by omega, c4.2, by omega⟩, c6, h⟩, fun h => h.2.2.2⟩

theorem fault_f (a : Int) (l : List S57) (ha : Fits a) (hl : ∀ s ∈ l, Fits s.f0 ∧ Fits s.f1 ∧ Fits s.f2) (hlen : l.length ≤ 5) (k : Nat) (hk : 30 ≤ k) :
    tensileref09_Fault.f k a l = some (Hand.checkPlan a (l.map cSt)) := by
  classical
  unfold tensileref09_Fault.f Hand.checkPlan
  rw [List.length_map]
  by_cases h3 : 3 < l.length
  · rw [if_pos h3, if_pos (by omega)]
  rw [if_neg h3, if_neg (by omega), In_f, Option.bind_some]
  obtain ⟨k, rfl⟩ : ∃ m, k = m + 1 := ⟨k - 1, by omega⟩
  by_cases h1 : 1 ≤ a ∧ a ≤ 30
  case neg => rw [decide_eq_false h1, if_neg (by decide), tensileref09_Fault.j0, if_pos rfl, if_neg (fun h => h1 ⟨h.1, h.2.1⟩)]
  rw [decide_eq_true h1, if_pos rfl]
  by_cases h2 : l.length = 0
  · rw [tensileref09_Fault.j0, if_pos (by simp [h2]), if_neg (fun h => h.2.2.1 h2)]
  have e0 : ((l.length : Int) == 0) = false := by simpa using (by omega : ¬ ((l.length : Int) = 0))
  rw [tensileref09_Fault.j0, e0, if_neg (by decide)]
  have := fault_l0 a h1.2 l [] k 0 (-1) 0 (by omega) (by simpa using (by omega : l.length ≤ 3)) (by omega) (by omega) (.inl ⟨rfl, rfl, rfl⟩) (by omega) (by omega) hl
  have e1 : (([] : List S57).length : Int) = 0 := rfl
  rw [e1, List.nil_append] at this
  rw [this]
  congr 1
  by_cases h4 : (l.map cSt).all (fun s => decide (1 ≤ s.take)) = true
  · rw [if_pos (show 1 ≤ a ∧ a ≤ 30 ∧ l.length ≠ 0 ∧ (l.map cSt).all (fun s => decide (1 ≤ s.take)) = true from ⟨h1.1, h1.2, h2, h4⟩)]
    refine (chk_good a h1.2 (l.map cSt) 0 ⟨0, -1, 0⟩ (by omega) (by omega) (by decide) (by decide) ?_ (fun h => ?_) (by decide)).symm
    · intro s hs
      refine ⟨by simpa using List.all_eq_true.1 h4 s hs, ?_⟩
      obtain ⟨x, hx, rfl⟩ := List.mem_map.1 hs
      exact (fits_in (hl x hx).2.1).2
    · rw [List.map_eq_nil_iff] at h
      exact absurd (by simp [h]) h2
  · rw [if_neg (show ¬ (1 ≤ a ∧ a ≤ 30 ∧ l.length ≠ 0 ∧ (l.map cSt).all (fun s => decide (1 ≤ s.take)) = true) from fun h => h4 h.2.2.2), if_neg]
    intro h
    refine h4 (List.all_eq_true.2 fun s hs => ?_)
    simpa using good_take h s hs
end Go.Proofs.Ytigpnafpdmdmhaa.Pure

namespace Go.Proofs.Ytigpnafpdmdmhaa.Ma

/-- A sum. -/
def sm : Nat → (Nat → Nat) → Nat
  | 0, _ => 0
  | k + 1, f => sm k f + f k

theorem sm_congr {f g : Nat → Nat} : ∀ {k : Nat}, (∀ i, i < k → f i = g i) → sm k f = sm k g
  | 0, _ => rfl
  | k + 1, h => by rw [sm, sm, sm_congr (k := k) (fun i hi => h i (by omega)), h k (by omega)]

theorem sm_le {f g : Nat → Nat} : ∀ {k : Nat}, (∀ i, i < k → f i ≤ g i) → sm k f ≤ sm k g
  | 0, _ => Nat.le_refl _
  | k + 1, h => by
    rw [sm, sm]
    exact Nat.add_le_add (sm_le (k := k) (fun i hi => h i (by omega))) (h k (by omega))

theorem sm_add (f g : Nat → Nat) : ∀ k : Nat, sm k (fun i => f i + g i) = sm k f + sm k g
  | 0 => rfl
  | k + 1 => by rw [sm, sm, sm, sm_add f g k]; omega

theorem sm_mul (c : Nat) (f : Nat → Nat) : ∀ k : Nat, sm k (fun i => c * f i) = c * sm k f
  | 0 => rfl
  | k + 1 => by rw [sm, sm, sm_mul c f k, Nat.mul_add]

theorem sm_head (f : Nat → Nat) : ∀ k : Nat, sm (k + 1) f = f 0 + sm k (fun i => f (i + 1))
  | 0 => by simp [sm]
  | k + 1 => by
    have := sm_head f k
    rw [sm, this, sm]
    omega

/-- How many choices of some out of more. -/
def ch : Nat → Nat → Nat
  | _, 0 => 1
  | 0, _ + 1 => 0
  | n + 1, k + 1 => ch n k + ch n (k + 1)

theorem ch_zero : ∀ n, ch n 0 = 1 := by intro n; cases n <;> rfl
theorem ch_above : ∀ (n k : Nat), n < k → ch n k = 0
  | 0, 0, h => absurd h (by omega)
  | 0, _ + 1, _ => rfl
  | _ + 1, 0, h => absurd h (by omega)
  | n + 1, k + 1, h => by rw [ch, ch_above n k (by omega), ch_above n (k + 1) (by omega)]
theorem ch_pos : ∀ (n k : Nat), k ≤ n → 0 < ch n k
  | _, 0, _ => by rw [ch_zero]; omega
  | 0, _ + 1, h => absurd h (by omega)
  | n + 1, k + 1, h => by rw [ch]; have := ch_pos n k (by omega); omega

/-- The sum over the numbers of bad ones among k that are taken of B bad ones and g good ones. -/
def sw (B g k : Nat) (H : Nat → Nat) : Nat := sm (k + 1) (fun n => ch B n * ch g (k - n) * H n)

theorem sw_congr {B g k : Nat} {H H' : Nat → Nat} (h : ∀ n, n ≤ k → n ≤ B → k ≤ n + g → H n = H' n) : sw B g k H = sw B g k H' := by
  unfold sw
  refine sm_congr fun n hn => ?_
  by_cases h1 : n ≤ B
  · by_cases h2 : k ≤ n + g
    · rw [h n (by omega) h1 h2]
    · rw [ch_above g (k - n) (by omega)]; simp
  · rw [ch_above B n (by omega)]; simp

theorem sw_le {B g k : Nat} {H H' : Nat → Nat} (h : ∀ n, n ≤ k → n ≤ B → k ≤ n + g → H n ≤ H' n) : sw B g k H ≤ sw B g k H' := by
  unfold sw
  refine sm_le fun n hn => ?_
  by_cases h1 : n ≤ B
  · by_cases h2 : k ≤ n + g
    · exact Nat.mul_le_mul_left _ (h n (by omega) h1 h2)
    · rw [ch_above g (k - n) (by omega)]; simp
  · rw [ch_above B n (by omega)]; simp

theorem sw_mul (B g k c : Nat) (H : Nat → Nat) : sw B g k (fun n => c * H n) = c * sw B g k H := by
  unfold sw
  rw [← sm_mul]
  exact sm_congr fun n _ => by rw [← Nat.mul_assoc, ← Nat.mul_assoc, Nat.mul_comm c]; 

theorem sw_zero (B g : Nat) (H : Nat → Nat) : sw B g 0 H = H 0 := by
  unfold sw
  simp [sm, ch_zero]

theorem sw_bad (B g k : Nat) (H : Nat → Nat) : sw (B + 1) g (k + 1) H = sw B g (k + 1) H + sw B g k (fun n => H (n + 1)) := by
  unfold sw
  rw [sm_head, sm_head (fun n => ch B n * ch g (k + 1 - n) * H n), ch_zero, ch_zero, Nat.add_assoc, ← sm_add]
  congr 1
  refine sm_congr fun n hn => ?_
  rw [ch, show k + 1 - (n + 1) = k - n by omega, Nat.add_mul, Nat.add_mul, Nat.add_comm]

theorem sw_good (B g k : Nat) (H : Nat → Nat) : sw B (g + 1) (k + 1) H = sw B g (k + 1) H + sw B g k H := by
  unfold sw
  rw [sm, sm.eq_def (k + 1 + 1)]
  simp only [Nat.sub_self, ch_zero, Nat.mul_one]
  have e : sm (k + 1) (fun n => ch B n * ch (g + 1) (k + 1 - n) * H n) = sm (k + 1) (fun n => ch B n * ch g (k + 1 - n) * H n) + sm (k + 1) (fun n => ch B n * ch g (k - n) * H n) := by
    rw [← sm_add]
    refine sm_congr fun n hn => ?_
    rw [show k + 1 - n = (k - n) + 1 by omega, ch, Nat.mul_add, Nat.add_mul, Nat.add_comm]
  rw [e]
  omega

/-- Vandermonde. -/
theorem sw_const (c : Nat) : ∀ (B g k : Nat), sw B g k (fun _ => c) = ch (B + g) k * c
  | B, g, 0 => by rw [sw_zero, ch_zero, Nat.one_mul]
  | 0, 0, k + 1 => by
    rw [ch_above 0 (k + 1) (by omega), Nat.zero_mul]
    unfold sw
    have : ∀ n, n < k + 1 + 1 → ch 0 n * ch 0 (k + 1 - n) * c = 0 * c := fun n hn => by
      cases n with
      | zero => rw [ch_above 0 (k + 1 - 0) (by omega)]; simp
      | succ n => rw [ch_above 0 (n + 1) (by omega)]; simp
    rw [sm_congr (g := fun _ => 0 * c) this]
    simp only [Nat.zero_mul]
    have z : ∀ m, sm m (fun _ => 0) = 0 := fun m => by induction m with
      | zero => rfl
      | succ m ih => rw [sm, ih]
    exact z _
  | 0, g + 1, k + 1 => by
    rw [sw_good, sw_const c 0 g (k + 1), sw_const c 0 g k, ← Nat.add_assoc, ch, Nat.add_mul, Nat.add_comm]
  | B + 1, g, k + 1 => by
    rw [sw_bad, sw_const c B g (k + 1), sw_const c B g k, show B + 1 + g = (B + g) + 1 by omega, ch, Nat.add_mul, Nat.add_comm]
termination_by B g k => B + g + k

end Go.Proofs.Ytigpnafpdmdmhaa.Ma

namespace Go.Proofs.Ytigpnafpdmdmhaa.Ma
open Hand (Stg Cnt saysV tri lastDec fits)

theorem tri_ch : ∀ n k, tri n k = (ch n k : Int)
  | _, 0 => by rw [Hand.tri_zero, ch_zero]; rfl
  | 0, _ + 1 => rfl
  | n + 1, k + 1 => by rw [tri, ch, tri_ch n k, tri_ch n (k + 1)]; omega

/-- How many draws there are of the stages, out of L pieces. -/
def rest : List Stg → Nat → Nat
  | [], _ => 1
  | s :: l, L => ch L s.take.toNat * rest l (L - s.take.toNat)

/-- The pieces of stages. -/
def tot : List Stg → Nat
  | [] => 0
  | s :: l => s.take.toNat + tot l

/-- The sum over all draws from a stage on of what an acceptance (al) or a rejection (rj) by so many pieces bears. -/
def cg (al rj : Nat → Nat → Nat) : List Stg → Nat → Nat → Nat → Nat → Nat
  | [], _, _, _, _ => 0
  | s :: l, L, B, f, t => sw B (L - B) s.take.toNat fun n =>
    if ((f + n : Nat) : Int) ≤ s.accept then al (t + s.take.toNat) (rest l (L - s.take.toNat))
    else if s.reject ≤ ((f + n : Nat) : Int) then rj (t + s.take.toNat) (rest l (L - s.take.toNat))
    else cg al rj l (L - s.take.toNat) (B - n) (f + n) (t + s.take.toNat)

def cA := cg (fun _ r => r) (fun _ _ => 0)
def cP := cg (fun t r => t * r) (fun t r => t * r)
def cD := cg (fun _ r => r) (fun _ r => r)

theorem cg_le {al rj al' rj' : Nat → Nat → Nat} (h1 : ∀ t r, al t r ≤ al' t r) (h2 : ∀ t r, rj t r ≤ rj' t r) : ∀ (l : List Stg) (L B f t : Nat), cg al rj l L B f t ≤ cg al' rj' l L B f t
  | [], _, _, _, _ => Nat.le_refl _
  | s :: l, L, B, f, t => by
    unfold cg
    refine sw_le fun n _ _ _ => ?_
    split
    · exact h1 _ _
    · split
      · exact h2 _ _
      · exact cg_le h1 h2 l _ _ _ _

theorem cg_mul (c : Nat) (al rj : Nat → Nat → Nat) : ∀ (l : List Stg) (L B f t : Nat), cg (fun t r => c * al t r) (fun t r => c * rj t r) l L B f t = c * cg al rj l L B f t
  | [], _, _, _, _ => rfl
  | s :: l, L, B, f, t => by
    unfold cg
    rw [← sw_mul]
    refine sw_congr fun n _ _ _ => ?_
    split
    · rfl
    · split
      · rfl
      · exact cg_mul c al rj l _ _ _ _

theorem lastDec_tail {s s' : Stg} {l : List Stg} (h : lastDec (s :: s' :: l)) : lastDec (s' :: l) := h

theorem cD_rest : ∀ (l : List Stg) (L B f t : Nat), l ≠ [] → lastDec l → B ≤ L → cD l L B f t = rest l L
  | [], _, _, _, _, h, _, _ => absurd rfl h
  | s :: l, L, B, f, t, _, hd, hB => by
    have e : cD (s :: l) L B f t = sw B (L - B) s.take.toNat fun _ => rest l (L - s.take.toNat) := by
      show cg _ _ (s :: l) L B f t = _
      unfold cg
      refine sw_congr fun n h1 h2 h3 => ?_
      split
      · rfl
      · split
        · rfl
        · rename_i h4 h5
          cases l with
          | nil => exact absurd (show saysV s ((f + n : Nat) : Int) = 3 by unfold saysV; rw [if_neg h4, if_neg h5]) (Hand.lastDec_open hd)
          | cons s' l => exact cD_rest (s' :: l) _ _ _ _ (by simp) hd (by omega)
    rw [e, sw_const, show B + (L - B) = L by omega]
    rfl

theorem cA_le (l : List Stg) (L B f t : Nat) : cA l L B f t ≤ cD l L B f t := cg_le (fun _ _ => Nat.le_refl _) (fun _ _ => Nat.zero_le _) l L B f t

theorem cP_le : ∀ (l : List Stg) (L B f t T : Nat), t + tot l ≤ T → cP l L B f t ≤ T * cD l L B f t
  | [], _, _, _, _, _, _ => Nat.zero_le _
  | s :: l, L, B, f, t, T, h => by
    have h' : t + s.take.toNat + tot l ≤ T := by unfold tot at h; omega
    show cg _ _ (s :: l) L B f t ≤ T * cg _ _ (s :: l) L B f t
    unfold cg
    rw [← sw_mul]
    refine sw_le fun n _ _ _ => ?_
    split
    · exact Nat.mul_le_mul_right _ (by omega)
    · split
      · exact Nat.mul_le_mul_right _ (by omega)
      · exact cP_le l _ _ _ _ T h'

theorem cP_ge : ∀ (l : List Stg) (L B f t T : Nat), (∀ s l', l = s :: l' → T ≤ t + s.take.toNat) → T * cD l L B f t ≤ cP l L B f t
  | [], _, _, _, _, _, _ => Nat.le_refl _
  | s :: l, L, B, f, t, T, h => by
    have h' := h s l rfl
    show T * cg _ _ (s :: l) L B f t ≤ cg _ _ (s :: l) L B f t
    unfold cg
    rw [← sw_mul]
    refine sw_le fun n _ _ _ => ?_
    split
    · exact Nat.mul_le_mul_right _ (by omega)
    · split
      · exact Nat.mul_le_mul_right _ (by omega)
      · exact cP_ge l _ _ _ _ T (fun s' l' _ => by omega)

/-! ### Bounds -/
def rowN : Nat → List Nat
  | 0 => [1]
  | n + 1 => 1 :: (List.zipWith (· + ·) (rowN n) ((rowN n).tail ++ [0]))
theorem rowN_length : ∀ n, (rowN n).length = n + 1
  | 0 => rfl
  | n + 1 => by simp [rowN, rowN_length n]
theorem rowN_ch : ∀ n k, k ≤ n → (rowN n)[k]? = some (ch n k)
  | 0, 0, _ => rfl
  | 0, _ + 1, h => absurd h (by omega)
  | n + 1, 0, _ => by simp [rowN, ch_zero]
  | n + 1, k + 1, h => by
    have hl := rowN_length n
    rw [rowN, List.getElem?_cons_succ, List.getElem?_zipWith, rowN_ch n k (by omega)]
    by_cases h1 : k + 1 ≤ n
    · rw [List.getElem?_append_left (by simp [hl]; omega), List.getElem?_tail, rowN_ch n (k + 1) h1]
      rfl
    · rw [List.getElem?_append_right (by simp [hl]; omega)]
      have : k - (rowN n).tail.length = 0 := by simp [hl]; omega
      rw [this]
      have h2 := ch_above n (k + 1) (by omega)
      simp [ch, h2]

/-- All of a row of the triangle, times some function of what is left, is at most M. -/
def rowB (n : Nat) (g : Nat → Nat) (M : Nat) : Bool := ((rowN n).zipIdx).all fun x => decide (x.1 * g (n - x.2) ≤ M)
theorem rowB_ch {n M : Nat} {g : Nat → Nat} (h : rowB n g M = true) (k : Nat) : ch n k * g (n - k) ≤ M := by
  by_cases hk : k ≤ n
  · have h1 := rowN_ch n k hk
    have h2 := List.all_eq_true.1 h (ch n k, k) (List.mem_iff_getElem?.2 ⟨k, by simp [h1]⟩)
    exact of_decide_eq_true h2
  · rw [ch_above n k (by omega)]; simp

def b1 : List Nat := [1, 1, 2, 3, 6, 10, 20, 35, 70, 126, 252, 462, 924, 1716, 3432, 6435, 12870, 24310, 48620, 92378, 184756, 352716, 705432, 1352078, 2704156, 5200300, 10400600, 20058300, 40116600, 77558760, 155117520]
def b2 : List Nat := [1, 1, 2, 6, 12, 30, 90, 210, 560, 1680, 4200, 11550, 34650, 90090, 252252, 756756, 2018016, 5717712, 17153136, 46558512, 133024320, 399072960, 1097450640, 3155170590, 9465511770, 26293088250, 75957810500, 227873431500, 638045608200, 1850332263780, 5550996791340]
def b3 : List Nat := [1, 1, 2, 6, 24, 60, 180, 630, 2520, 7560, 25200, 92400, 369600, 1201200, 4204200, 15765750, 63063000, 214414200, 771891120, 2933186256, 11732745024, 41064607584, 150570227808, 577185873264, 2308743493056, 8245512475200, 30626189193600, 118129586889600, 472518347558400, 1712879009899200, 6423296287122000]
theorem b1_ok : ∀ n, n < 31 → rowB n (fun _ => 1) (b1.getD n 0) = true := by decide +kernel
theorem b2_ok : ∀ n, n < 31 → rowB n (fun m => b1.getD m 0) (b2.getD n 0) = true := by decide +kernel
theorem b3_ok : ∀ n, n < 31 → rowB n (fun m => b2.getD m 0) (b3.getD n 0) = true := by decide +kernel
theorem b3_le : ∀ n, n < 31 → b3.getD n 0 ≤ 6430000000000000 := by decide +kernel

theorem rest1 (l : List Stg) (L : Nat) (hL : L < 31) (hl : l.length ≤ 1) : rest l L ≤ b1.getD L 0 := by
  match l, hl with
  | [], _ =>
    have := rowB_ch (b1_ok L hL) 0
    rw [ch_zero] at this
    exact this
  | [s], _ => exact rowB_ch (b1_ok L hL) s.take.toNat
theorem rest2 (l : List Stg) (L : Nat) (hL : L < 31) (hl : l.length ≤ 2) : rest l L ≤ b2.getD L 0 := by
  match l, hl with
  | [], _ =>
    have h1 := rowB_ch (b2_ok L hL) 0
    have h2 := rest1 [] L hL (by simp)
    rw [ch_zero, Nat.one_mul, Nat.sub_zero] at h1
    exact Nat.le_trans h2 h1
  | s :: l, h =>
    have h1 := rowB_ch (b2_ok L hL) s.take.toNat
    have h2 := rest1 l (L - s.take.toNat) (by omega) (by simpa using h)
    exact Nat.le_trans (Nat.mul_le_mul_left _ h2) h1
theorem rest3 (l : List Stg) (L : Nat) (hL : L < 31) (hl : l.length ≤ 3) : rest l L ≤ b3.getD L 0 := by
  match l, hl with
  | [], _ =>
    have h1 := rowB_ch (b3_ok L hL) 0
    have h2 := rest2 [] L hL (by simp)
    rw [ch_zero, Nat.one_mul, Nat.sub_zero] at h1
    exact Nat.le_trans h2 h1
  | s :: l, h =>
    have h1 := rowB_ch (b3_ok L hL) s.take.toNat
    have h2 := rest2 l (L - s.take.toNat) (by omega) (by simpa using h)
    exact Nat.le_trans (Nat.mul_le_mul_left _ h2) h1
theorem rest_le (l : List Stg) (L : Nat) (hL : L ≤ 30) (hl : l.length ≤ 3) : rest l L ≤ 6430000000000000 :=
  Nat.le_trans (rest3 l L (by omega) hl) (b3_le L (by omega))

theorem rest_pos : ∀ (l : List Stg) (L t : Nat), fits L t l → ∀ m, m = L - t → 0 < rest l m
  | [], _, _, _, _, _ => Nat.one_pos
  | s :: l, L, t, h, m, hm => by
    obtain ⟨h1, h2, h3⟩ := h
    exact Nat.mul_pos (ch_pos _ _ (by omega)) (rest_pos l L _ h3 _ (by omega))

theorem fits_tot : ∀ (l : List Stg) (L t : Nat), t ≤ L → fits L t l → t + tot l ≤ L
  | [], _, _, ht, _ => ht
  | s :: l, L, t, _, h => by
    obtain ⟨h1, h2, h3⟩ := h
    have := fits_tot l L _ h2 h3
    unfold tot
    omega
end Go.Proofs.Ytigpnafpdmdmhaa.Ma

namespace Go.Proofs.Ytigpnafpdmdmhaa.Ma
open Hand (Stg Cnt saysV tri lastDec fits drList drVal drLo cntW decided restW Valid)
open Go.RowKit

theorem w_mod (x : Int) : ∃ q : Int, wrap64 x = x + q * 18446744073709551616 := by
  unfold wrap64; exact ⟨-((x + 9223372036854775808) / 18446744073709551616), by omega⟩
theorem w_eq {x y : Int} (q : Int) (h : x = y + q * 18446744073709551616) : wrap64 x = wrap64 y := by
  subst h; unfold wrap64; omega
theorem w_add (x y : Int) : wrap64 (wrap64 x + wrap64 y) = wrap64 (x + y) := by
  obtain ⟨a, ha⟩ := w_mod x
  obtain ⟨b, hb⟩ := w_mod y
  exact w_eq (a + b) (by rw [ha, hb, Int.add_mul]; omega)
theorem w_mul (x y : Int) : wrap64 (wrap64 x * wrap64 y) = wrap64 (x * y) := by
  obtain ⟨a, ha⟩ := w_mod x
  obtain ⟨b, hb⟩ := w_mod y
  refine w_eq (a * wrap64 y + x * b) ?_
  rw [ha, Int.add_mul]
  conv => lhs; lhs; rw [hb, Int.mul_add]
  rw [Int.add_mul, ← Int.mul_assoc x b, Int.mul_right_comm a]
  omega
theorem w_mulr (x y : Int) : wrap64 (x * wrap64 y) = wrap64 (x * y) := by
  rw [Int.mul_comm, Hand.mul_mod, Int.mul_comm]
theorem w_id {x : Int} (h1 : -9223372036854775808 ≤ x) (h2 : x ≤ 9223372036854775807) : wrap64 x = x := by unfold wrap64; omega

theorem w_nat {x : Int} (n : Nat) (h : x = n) (hn : n ≤ 100000) : wrap64 x = n := by
  subst h
  exact w_id (by omega) (by omega)
theorem restW_rest (lot : Nat) : ∀ (l : List Stg) (t : Nat), restW lot t l = wrap64 (rest l (lot - t) : Int)
  | [], _ => by unfold restW rest wrap64; omega
  | s :: l, t => by
    rw [restW, restW_rest lot l, rest, tri_ch, w_mulr, Nat.sub_sub]
    simp

/-- Counts in the machine's words. -/
def wc (a p d : Nat) : Cnt := ⟨wrap64 (a : Int), wrap64 (p : Int), wrap64 (d : Int)⟩

theorem wc_zero : wc 0 0 0 = ⟨0, 0, 0⟩ := by
  have w0 : wrap64 ((0 : Nat) : Int) = 0 := by unfold wrap64; omega
  unfold wc
  rw [w0]
theorem add_wc (a p d m a' p' d' : Nat) : (wc a p d).add (wrap64 (m : Int)) (wc a' p' d') = wc (a + m * a') (p + m * p') (d + m * d') := by
  have h : ∀ x y : Nat, wrap64 (wrap64 (x : Int) + wrap64 (wrap64 (m : Int) * wrap64 (y : Int))) = wrap64 ((x + m * y : Nat) : Int) := fun x y => by
    rw [w_mul, w_add]; simp
  unfold Cnt.add wc
  simp only [h]

theorem foldl_wc (p x y z : Nat → Nat) : ∀ (m s a b c : Nat),
    (List.range' s m).foldl (fun o n => o.add (wrap64 (p n : Int)) (wc (x n) (y n) (z n))) (wc a b c) =
      wc (a + sm m (fun i => p (s + i) * x (s + i))) (b + sm m (fun i => p (s + i) * y (s + i))) (c + sm m (fun i => p (s + i) * z (s + i)))
  | 0, _, _, _, _ => rfl
  | m + 1, s, a, b, c => by
    rw [List.range'_succ, List.foldl_cons, add_wc, foldl_wc p x y z m (s + 1)]
    have h : ∀ q : Nat → Nat, ∀ v : Nat, v + p s * q s + sm m (fun i => p (s + 1 + i) * q (s + 1 + i)) = v + sm (m + 1) (fun i => p (s + i) * q (s + i)) := fun q v => by
      rw [sm_head, Nat.add_zero, Nat.add_assoc]
      congr 2
      exact sm_congr fun i _ => by rw [Nat.add_assoc, Nat.add_comm 1]
    rw [h, h, h]

theorem sm_split (f : Nat → Nat) (a : Nat) : ∀ m, sm (a + m) f = sm a f + sm m (fun i => f (a + i))
  | 0 => rfl
  | m + 1 => by rw [← Nat.add_assoc, sm, sm_split f a m, sm, Nat.add_assoc]
theorem sm_null {f : Nat → Nat} {k : Nat} (h : ∀ i, i < k → f i = 0) : sm k f = 0 := by
  induction k with
  | zero => rfl
  | succ k ih => rw [sm, ih (fun i hi => h i (by omega)), h k (by omega)]

theorem sw_dr (B g k : Nat) (H : Nat → Nat) : sm (min k B + 1 - (k - g)) (fun i => ch B (k - g + i) * ch g (k - (k - g + i)) * H (k - g + i)) = sw B g k H := by
  unfold sw
  have lo : ∀ n, n < k - g → ch B n * ch g (k - n) * H n = 0 := fun n hn => by rw [ch_above g (k - n) (by omega)]; simp
  have hi : ∀ n, B < n → ch B n * ch g (k - n) * H n = 0 := fun n hn => by rw [ch_above B n hn]; simp
  by_cases h : k - g ≤ min k B
  · obtain ⟨m, hm⟩ : ∃ m, k + 1 = (k - g) + ((min k B + 1 - (k - g)) + m) := ⟨k + 1 - (min k B + 1), by omega⟩
    conv => rhs; rw [hm, sm_split, sm_split]
    rw [sm_null (k := k - g) (fun i hi' => lo i hi'), sm_null (k := m) (fun i hi' => hi _ (by omega))]
    omega
  · rw [show min k B + 1 - (k - g) = 0 by omega]
    refine Eq.symm (sm_null fun i hi' => ?_)
    by_cases h1 : i < k - g
    · exact lo i h1
    · exact hi i (by omega)

theorem fold_sw (B g k : Nat) (x y z : Nat → Nat) : (List.range' (k - g) (min k B + 1 - (k - g))).foldl (fun o n => o.add (wrap64 ((ch B n * ch g (k - n) : Nat) : Int)) (wc (x n) (y n) (z n))) ⟨0, 0, 0⟩ = wc (sw B g k x) (sw B g k y) (sw B g k z) := by
  rw [← wc_zero, foldl_wc (fun n => ch B n * ch g (k - n)), ← sw_dr B g k x, ← sw_dr B g k y, ← sw_dr B g k z, Nat.zero_add, Nat.zero_add, Nat.zero_add]
theorem decided_wc (lot : Nat) (s : Stg) (l : List Stg) (tk f : Nat) (a p d : Nat) :
    decided lot s l tk (f : Int) (wc a p d) = wc
      (if (f : Int) ≤ s.accept then rest l (lot - tk) else if s.reject ≤ (f : Int) then 0 else a)
      (if (f : Int) ≤ s.accept then tk * rest l (lot - tk) else if s.reject ≤ (f : Int) then tk * rest l (lot - tk) else p)
      (if (f : Int) ≤ s.accept then rest l (lot - tk) else if s.reject ≤ (f : Int) then rest l (lot - tk) else d) := by
  have e : wrap64 ((tk : Int) * restW lot tk l) = wrap64 ((tk * rest l (lot - tk) : Nat) : Int) := by
    rw [restW_rest, w_mulr]; simp
  unfold decided saysV
  rw [e, restW_rest]
  have w0 : wrap64 ((0 : Nat) : Int) = 0 := by unfold wrap64; omega
  have n1 : ¬ ((2 : Int) = 1) := by decide
  have n2 : ¬ ((3 : Int) = 1) := by decide
  have n3 : ¬ ((3 : Int) = 2) := by decide
  by_cases h1 : (f : Int) ≤ s.accept
  · simp only [if_pos h1, wc]; rfl
  · by_cases h2 : s.reject ≤ (f : Int)
    · simp only [if_neg h1, if_pos h2, if_neg n1, wc, w0]; rfl
    · simp only [if_neg h1, if_neg h2, if_neg n2, if_neg n3]

theorem cntW_wc (lot bad : Nat) : ∀ (l : List Stg) (t b : Nat), cntW lot bad l t b = wc (cA l (lot - t) (bad - b) b t) (cP l (lot - t) (bad - b) b t) (cD l (lot - t) (bad - b) b t)
  | [], _, _ => wc_zero.symm
  | s :: l, t, b => by
    unfold cntW drList
    rw [List.foldl_map]
    have e : ∀ (o : Cnt) (n : Nat), o.add (drVal s.take.toNat (lot - t) (bad - b) n).2 (decided lot s l (t + s.take.toNat) ((b : Int) + (drVal s.take.toNat (lot - t) (bad - b) n).1) (cntW lot bad l (t + s.take.toNat) (b + (drVal s.take.toNat (lot - t) (bad - b) n).1.toNat)))
        = o.add (wrap64 ((ch (bad - b) n * ch (lot - t - (bad - b)) (s.take.toNat - n) : Nat) : Int)) (wc
          (if ((b + n : Nat) : Int) ≤ s.accept then rest l (lot - t - s.take.toNat) else if s.reject ≤ ((b + n : Nat) : Int) then 0 else cA l (lot - t - s.take.toNat) (bad - b - n) (b + n) (t + s.take.toNat))
          (if ((b + n : Nat) : Int) ≤ s.accept then (t + s.take.toNat) * rest l (lot - t - s.take.toNat) else if s.reject ≤ ((b + n : Nat) : Int) then (t + s.take.toNat) * rest l (lot - t - s.take.toNat) else cP l (lot - t - s.take.toNat) (bad - b - n) (b + n) (t + s.take.toNat))
          (if ((b + n : Nat) : Int) ≤ s.accept then rest l (lot - t - s.take.toNat) else if s.reject ≤ ((b + n : Nat) : Int) then rest l (lot - t - s.take.toNat) else cD l (lot - t - s.take.toNat) (bad - b - n) (b + n) (t + s.take.toNat))) := fun o n => by
      have h1 : (drVal s.take.toNat (lot - t) (bad - b) n).1 = (n : Int) := rfl
      have h2 : (drVal s.take.toNat (lot - t) (bad - b) n).2 = wrap64 ((ch (bad - b) n * ch (lot - t - (bad - b)) (s.take.toNat - n) : Nat) : Int) := by
        unfold drVal
        simp only [tri_ch]
        simp
      rw [h1, h2, Int.toNat_natCast, cntW_wc lot bad l, show (b : Int) + (n : Int) = ((b + n : Nat) : Int) by simp, decided_wc]
      simp only [Nat.sub_sub]
    rw [show (fun (x : Cnt) (y : Nat) => x.add (drVal s.take.toNat (lot - t) (bad - b) y).2 (decided lot s l (t + s.take.toNat) ((b : Int) + (drVal s.take.toNat (lot - t) (bad - b) y).1) (cntW lot bad l (t + s.take.toNat) (b + (drVal s.take.toNat (lot - t) (bad - b) y).1.toNat)))) = _ from funext fun o => funext fun n => e o n]
    exact fold_sw (bad - b) (lot - t - (bad - b)) s.take.toNat
      (fun n => if ((b + n : Nat) : Int) ≤ s.accept then rest l (lot - t - s.take.toNat) else if s.reject ≤ ((b + n : Nat) : Int) then 0 else cA l (lot - t - s.take.toNat) (bad - b - n) (b + n) (t + s.take.toNat))
      (fun n => if ((b + n : Nat) : Int) ≤ s.accept then (t + s.take.toNat) * rest l (lot - t - s.take.toNat) else if s.reject ≤ ((b + n : Nat) : Int) then (t + s.take.toNat) * rest l (lot - t - s.take.toNat) else cP l (lot - t - s.take.toNat) (bad - b - n) (b + n) (t + s.take.toNat))
      (fun n => if ((b + n : Nat) : Int) ≤ s.accept then rest l (lot - t - s.take.toNat) else if s.reject ≤ ((b + n : Nat) : Int) then rest l (lot - t - s.take.toNat) else cD l (lot - t - s.take.toNat) (bad - b - n) (b + n) (t + s.take.toNat))
termination_by l => l.length

/-- A valid plan's counts, for so many bad pieces: no number is too great for the machine. -/
theorem cnt_ok {lot : Nat} {l : List Stg} (h : Valid lot l) (bad : Nat) (hb : bad ≤ lot) :
    cntW lot bad l 0 0 = ⟨(cA l lot bad 0 0 : Int), (cP l lot bad 0 0 : Int), (rest l lot : Int)⟩ ∧ cA l lot bad 0 0 ≤ rest l lot ∧ cP l lot bad 0 0 ≤ tot l * rest l lot ∧ tot l ≤ lot ∧ 0 < rest l lot ∧ rest l lot ≤ 6430000000000000 := by
  have h1 : lot ≤ 30 := by have := h.hi; omega
  have hf : fits lot 0 l := by have := h.fit; rwa [Int.toNat_natCast] at this
  have h2 := rest_le l lot h1 h.len
  have h3 := cD_rest l lot bad 0 0 h.ne h.last hb
  have h4 := cA_le l lot bad 0 0
  have h5 := cP_le l lot bad 0 0 (tot l) (by omega)
  have h6 : tot l ≤ lot := by have := fits_tot l lot 0 (by omega) hf; omega
  have h7 := rest_pos l lot 0 hf lot (by omega)
  rw [h3] at h4 h5
  have h8 : tot l * rest l lot ≤ 30 * 6430000000000000 := Nat.mul_le_mul (by omega) h2
  refine ⟨?_, h4, h5, h6, h7, h2⟩
  rw [cntW_wc, Nat.sub_zero, Nat.sub_zero, h3]
  unfold wc
  rw [w_id (by omega) (by omega), w_id (by omega) (by omega), w_id (by omega) (by omega)]
end Go.Proofs.Ytigpnafpdmdmhaa.Ma

namespace Go.Proofs.Ytigpnafpdmdmhaa.P
open Go.RowKit Go.Proofs.YtigpnafpdmdmhaaW.PrintWords Go.Proofs.YtigpnafpdmdmhaaW.PrintLast

/-! ### tensilelaw09_ready: function 26 -/
def tensilelaw09_ready.f (k : Nat) (a0_0 : Int) (l0_1 : List (S57)) : Option (Bool) := (tensilelaw09_Thin.f a0_0 l0_1).bind fun t164 => (if t164 = true then ((tensileref09_Fault.f k a0_0 l0_1).bind fun t165 => (some (t165 == 0))) else (some false))
theorem tensilelaw09_ready.mono : ∀ a0 a1 k, LeO (tensilelaw09_ready.f k a0 a1) (tensilelaw09_ready.f (k + 1) a0 a1) := by
  intro a0 a1 k
  unfold tensilelaw09_ready.f
  repeat' first
      | (with_reducible exact tensileref09_Fault.mono _ _ _)
      | (with_reducible exact LeO.refl _)
      | (with_reducible exact LeO.none _)
      | (with_reducible refine LeO.ite ?_ ?_)
      | (with_reducible refine LeO.bind ?_ (fun _ => ?_))
      | exact tensileref09_Fault.mono _ _ _
      | exact LeO.none _
      | refine LeO.ite ?_ ?_
      | refine LeO.bind ?_ (fun _ => ?_)
set_option maxHeartbeats 8000000 in
set_option maxRecDepth 100000 in
theorem tensilelaw09_ready.calls (k : Nat) (a0_0 : Int) (A0_1 : Option Addr) (c0_1 : Nat) (l0_1 : List (S57)) (r : Bool) (w : World) (hr0_1 : Kd.C k57 w A0_1 l0_1.length l0_1) (hc0_1 : l0_1.length ≤ c0_1) (h : tensilelaw09_ready.f k a0_0 l0_1 = some r) :
    Calls Try.prog 26 #[.agg #[.int .i64 a0_0, .slice A0_1 l0_1.length c0_1]] w fun e w' => e = .returned (.bool r) ∧ Below w.heap.size w w' := by
  have hu24 := Try.underlying24
  have HR0_1 := Aside0.mk hr0_1
  have HC0_1 := Aside0.mk hc0_1
  clear hr0_1 hc0_1
  have HB := Aside0.mk (Below.refl w.heap.size w)
  have H : ((tensilelaw09_Thin.f a0_0 l0_1).bind fun t164 => (if t164 = true then ((tensileref09_Fault.f k a0_0 l0_1).bind fun t165 => (some (t165 == 0))) else (some false))) = some r := h
  clear h
  replace H := Option.bind_eq_some_iff.mp H
  obtain ⟨t164, A20, H⟩ := H
  replace H : (if t164 = true then ((tensileref09_Fault.f k a0_0 l0_1).bind fun t165 => (some (t165 == 0))) else (some false)) = some r := H
  have A2 := Aside0.mk A20
  clear A20
  by_cases c3 : t164 = true
  · subst c3
    have H1 : ((tensileref09_Fault.f k a0_0 l0_1).bind fun t165 => (some (t165 == 0))) = some r := by rw [if_pos rfl] at H; exact H
    clear H
    have H := H1
    clear H1
    replace H := Option.bind_eq_some_iff.mp H
    obtain ⟨t165, A40, H⟩ := H
    replace H : (some (t165 == 0)) = some r := H
    have A4 := Aside0.mk A40
    clear A40
    obtain rfl := Option.some.inj H
    go_enter Try.func26, Try.ntmps26
    go_wp2_with (first | ((with_reducible refine gate_dst (N := 1) rfl ?_); refine box_event ?hg (N := 1) ?hd (cs := #[.int .i64 a0_0, .slice A0_1 l0_1.length c0_1]) (t := 24) ?hr ?_; (case hd => rfl); (case hg => rfl); (case hr => first | (go_simp; done) | (go_simp; rfl)); intro gb163 hg w5 hbox hb; have n0_ := Aside0.mk (below_step (by repeat (first | (with_reducible first | exact HB.out | apply below_alloc | apply pw_below_drewN | apply below_drew1) | exact HB.out)) hb); have n1_ := Aside0.mk (hbox); have n2_ := Aside0.mk ((by rw [hg]; exact (below_size (by repeat (first | (with_reducible first | exact HB.out | apply below_alloc | apply pw_below_drewN | apply below_drew1) | exact HB.out))) : w.heap.size ≤ gb163)); have n3_ := Aside0.mk ((by rw [hg]; exact (below_size (by repeat (first | (with_reducible first | exact HB.out | apply below_alloc | apply pw_below_drewN | apply below_drew1) | exact HB.out))) : w.heap.size ≤ gb163)); clear HB; have HB := n0_; have BK163 := n1_; have GW163 := n2_; have GE163 := n3_; clear n0_ n1_ n2_ n3_; clear hb hbox hg; have hcz6_0 : w5.cell? ⟨gb163, 0, none⟩ = some (.int .i64 a0_0) := (blk_cell BK163.out 0).trans rfl; have hcz6_1 : w5.cell? ⟨gb163, 1, none⟩ = some (.slice A0_1 l0_1.length c0_1) := (blk_cell BK163.out 1).trans rfl; have hfz6_0 := blk_frozen BK163.out 0; have hfz6_1 := blk_frozen BK163.out 1) | ((with_reducible refine gate_callee (f := 14) rfl ?_); refine goesL_ (some 4) rfl rfl Try.func14 (by kernel_rfl) rfl #[.agg #[.int .i64 a0_0, .slice A0_1 l0_1.length c0_1]] rfl (by (try simp only [List.map_toArray, List.map_cons, List.map_nil]); first | done | rfl | (simp only [List.length_drop, List.length_take]; rfl)) ?_; (with_reducible refine (tensilelaw09_Thin.calls a0_0 _ _ l0_1 true _ ?side1 ?side2 A2.out).mono ?_); (case side1 => repeat (first | exact (Kd.C_below HR0_1.out HB.out) | (with_reducible refine Kd.C_alloc ?_ _) | (with_reducible refine Kd.C_drewN ?_ _) | (with_reducible refine Kd.C_drew ?_))); (case side2 => exact HC0_1.out); rintro e w7 ⟨rfl, hb⟩; refine ⟨_, rfl, ?_⟩; have n0_ := Aside0.mk (blk_below (g := gb163) (o := .cells #[.int .i64 a0_0, .slice A0_1 l0_1.length c0_1] 24 (0, 0)) (by (with_reducible repeat (first | refine blk_drewN ?_ _ | refine blk_drew ?_ | refine blk_alloc ?_ _)); exact BK163.out) hb); have n1_ := Aside0.mk (below_step (by repeat (first | (with_reducible first | exact HB.out | apply below_alloc | apply pw_below_drewN | apply below_drew1 | refine below_set ?_ GE163.out) | exact HB.out)) hb); clear BK163; clear HB; have BK163 := n0_; have HB := n1_; clear n0_ n1_; (try clear hb); (try clear hb2); (try clear hk); (try clear hi); have hcz8_0 : w7.cell? ⟨gb163, 0, none⟩ = some (.int .i64 a0_0) := (blk_cell BK163.out 0).trans rfl; have hcz8_1 : w7.cell? ⟨gb163, 1, none⟩ = some (.slice A0_1 l0_1.length c0_1) := (blk_cell BK163.out 1).trans rfl; have hfz8_0 := blk_frozen BK163.out 0; have hfz8_1 := blk_frozen BK163.out 1) | (go_at_call 37; (with_reducible refine (tensileref09_Fault.calls k a0_0 _ _ l0_1 t165 _ ?side1 ?side2 A4.out).mono ?_); (case side1 => repeat (first | exact (Kd.C_below HR0_1.out HB.out) | (with_reducible refine Kd.C_alloc ?_ _) | (with_reducible refine Kd.C_drewN ?_ _) | (with_reducible refine Kd.C_drew ?_))); (case side2 => exact HC0_1.out); rintro e w9 ⟨rfl, hb⟩; have n0_ := Aside0.mk (blk_below (g := gb163) (o := .cells #[.int .i64 a0_0, .slice A0_1 l0_1.length c0_1] 24 (0, 0)) (by (with_reducible repeat (first | refine blk_drewN ?_ _ | refine blk_drew ?_ | refine blk_alloc ?_ _)); exact BK163.out) hb); have n1_ := Aside0.mk (below_step (by repeat (first | (with_reducible first | exact HB.out | apply below_alloc | apply pw_below_drewN | apply below_drew1 | refine below_set ?_ GE163.out) | exact HB.out)) hb); clear BK163; clear HB; have BK163 := n0_; have HB := n1_; clear n0_ n1_; (try clear hb); (try clear hb2); (try clear hk); (try clear hi)))
    go_ret
    exact ⟨by first | rfl | (simp [errW_none, errW_some] <;> rfl) | (simp [*, errW_none, errW_some] <;> rfl), by repeat (first | (with_reducible first | exact HB.out | apply below_alloc | apply pw_below_drewN | apply below_drew1 | refine below_set ?_ GE163.out) | exact HB.out)⟩
  · replace c3 := Bool.eq_false_iff.mpr c3
    subst c3
    have H1 : (some false) = some r := by rw [if_neg (show ¬ (false = true) by decide)] at H; exact H
    clear H
    have H := H1
    clear H1
    obtain rfl := Option.some.inj H
    go_enter Try.func26, Try.ntmps26
    go_wp2_with (first | ((with_reducible refine gate_dst (N := 1) rfl ?_); refine box_event ?hg (N := 1) ?hd (cs := #[.int .i64 a0_0, .slice A0_1 l0_1.length c0_1]) (t := 24) ?hr ?_; (case hd => rfl); (case hg => rfl); (case hr => first | (go_simp; done) | (go_simp; rfl)); intro gb163 hg w10 hbox hb; have n0_ := Aside0.mk (below_step (by repeat (first | (with_reducible first | exact HB.out | apply below_alloc | apply pw_below_drewN | apply below_drew1) | exact HB.out)) hb); have n1_ := Aside0.mk (hbox); have n2_ := Aside0.mk ((by rw [hg]; exact (below_size (by repeat (first | (with_reducible first | exact HB.out | apply below_alloc | apply pw_below_drewN | apply below_drew1) | exact HB.out))) : w.heap.size ≤ gb163)); have n3_ := Aside0.mk ((by rw [hg]; exact (below_size (by repeat (first | (with_reducible first | exact HB.out | apply below_alloc | apply pw_below_drewN | apply below_drew1) | exact HB.out))) : w.heap.size ≤ gb163)); clear HB; have HB := n0_; have BK163 := n1_; have GW163 := n2_; have GE163 := n3_; clear n0_ n1_ n2_ n3_; clear hb hbox hg; have hcz11_0 : w10.cell? ⟨gb163, 0, none⟩ = some (.int .i64 a0_0) := (blk_cell BK163.out 0).trans rfl; have hcz11_1 : w10.cell? ⟨gb163, 1, none⟩ = some (.slice A0_1 l0_1.length c0_1) := (blk_cell BK163.out 1).trans rfl; have hfz11_0 := blk_frozen BK163.out 0; have hfz11_1 := blk_frozen BK163.out 1) | ((with_reducible refine gate_callee (f := 14) rfl ?_); refine goesL_ (some 4) rfl rfl Try.func14 (by kernel_rfl) rfl #[.agg #[.int .i64 a0_0, .slice A0_1 l0_1.length c0_1]] rfl (by (try simp only [List.map_toArray, List.map_cons, List.map_nil]); first | done | rfl | (simp only [List.length_drop, List.length_take]; rfl)) ?_; (with_reducible refine (tensilelaw09_Thin.calls a0_0 _ _ l0_1 false _ ?side1 ?side2 A2.out).mono ?_); (case side1 => repeat (first | exact (Kd.C_below HR0_1.out HB.out) | (with_reducible refine Kd.C_alloc ?_ _) | (with_reducible refine Kd.C_drewN ?_ _) | (with_reducible refine Kd.C_drew ?_))); (case side2 => exact HC0_1.out); rintro e w12 ⟨rfl, hb⟩; refine ⟨_, rfl, ?_⟩; have n0_ := Aside0.mk (blk_below (g := gb163) (o := .cells #[.int .i64 a0_0, .slice A0_1 l0_1.length c0_1] 24 (0, 0)) (by (with_reducible repeat (first | refine blk_drewN ?_ _ | refine blk_drew ?_ | refine blk_alloc ?_ _)); exact BK163.out) hb); have n1_ := Aside0.mk (below_step (by repeat (first | (with_reducible first | exact HB.out | apply below_alloc | apply pw_below_drewN | apply below_drew1 | refine below_set ?_ GE163.out) | exact HB.out)) hb); clear BK163; clear HB; have BK163 := n0_; have HB := n1_; clear n0_ n1_; (try clear hb); (try clear hb2); (try clear hk); (try clear hi)))
    go_ret
    exact ⟨by first | rfl | (simp [errW_none, errW_some] <;> rfl) | (simp [*, errW_none, errW_some] <;> rfl), by repeat (first | (with_reducible first | exact HB.out | apply below_alloc | apply pw_below_drewN | apply below_drew1 | refine below_set ?_ GE163.out) | exact HB.out)⟩

end Go.Proofs.Ytigpnafpdmdmhaa.P

namespace Go.Proofs.Ytigpnafpdmdmhaa.Pure
open Go.RowKit Go.Proofs.Ytigpnafpdmdmhaa.P Go.Proofs.YtigpnafpdmdmhaaW.PrintWords
open Hand (Stg saysV fits lastDec Valid Cnt cntW shareV)
open Ma


theorem wakes_f : tensilelaw09_wakes.f = some true := rfl

theorem ready_f (a : Int) (l : List S57) (ha : Fits a) (hl : ∀ s ∈ l, Fits s.f0 ∧ Fits s.f1 ∧ Fits s.f2) (K : Nat) (hK : 30 ≤ K) :
    tensilelaw09_ready.f K a l = some (decide (l.length ≤ 5) && (Hand.checkPlan a (l.map cSt) == 0)) := by
  unfold tensilelaw09_ready.f tensilelaw09_Thin.f
  rw [Option.bind_some]
  by_cases h5 : l.length ≤ 5
  · have h5' : (l.length : Int) ≤ 5 := by omega
    rw [decide_eq_true h5, decide_eq_true h5', if_pos rfl, fault_f a l ha hl h5 K hK, Option.bind_some, Bool.true_and]
  · have h5' : ¬ (l.length : Int) ≤ 5 := by omega
    rw [decide_eq_false h5, decide_eq_false h5', if_neg (by decide), Bool.false_and]

theorem good_of (a : Int) (l : List S57) (hl : ∀ s ∈ l, Fits s.f0 ∧ Fits s.f1 ∧ Fits s.f2) (h : Hand.checkPlan a (l.map cSt) = 0) : good a 0 (-1) 0 (l.map cSt) := by
  classical
  unfold Hand.checkPlan at h
  split at h; · cases h
  split at h
  case isFalse => cases h
  rename_i h1
  obtain ⟨a1, a2, a3, a4⟩ := h1
  have := chk_good a a2 (l.map cSt) 0 ⟨0, -1, 0⟩ (by omega) (by omega) (by decide) (by decide) (fun s hs => by
    refine ⟨by simpa using List.all_eq_true.1 a4 s hs, ?_⟩
    obtain ⟨x, hx, rfl⟩ := List.mem_map.1 hs
    exact (fits_in (hl x hx).2.1).2) (fun e => absurd (by simp [e]) a3) (by decide)
  rw [h] at this
  by_cases hg : good a 0 (-1) 0 (l.map cSt)
  · exact hg
  · rw [if_neg hg] at this; cases this

theorem good_reject {lot : Int} : ∀ {l : List Stg} {t pa pr : Int}, good lot t pa pr l → ∀ s ∈ l, pr ≤ s.reject ∧ s.accept < s.reject
  | _ :: _, _, _, _, h, s, hs => by
    rcases List.mem_cons.1 hs with rfl | hs
    · exact ⟨h.2.1.2.2.2, h.2.1.2.1⟩
    · have h1 := good_reject h.2.2.2 s hs
      exact ⟨Int.le_trans h.2.1.2.2.2 h1.1, h1.2⟩
theorem good_take30 {lot : Int} : ∀ {l : List Stg} {t pa pr : Int}, 0 ≤ t → lot ≤ 30 → good lot t pa pr l → ∀ s ∈ l, 1 ≤ s.take ∧ s.take ≤ 30
  | _ :: _, _, _, _, h0, hl, h, s, hs => by
    have h1 := h.1
    rcases List.mem_cons.1 hs with rfl | hs
    · omega
    · exact good_take30 (by omega) hl h.2.2.2 s hs
theorem take30 {a : Int} {l : List S57} (ha : a ≤ 30) (h : good a 0 (-1) 0 (l.map cSt)) : ∀ s ∈ l, 1 ≤ s.f0 ∧ s.f0 ≤ 30 :=
  fun s hs => good_take30 (by omega) ha h (cSt s) (List.mem_map.2 ⟨s, hs, rfl⟩)

/-- What a share of a valid plan says. -/
theorem share_ok (sel : Cnt → Int) (a : Int) (ls : List Stg) (h0 : Hand.checkPlan a ls = 0) (bad : Int) (hb0 : 0 ≤ bad) (hb : bad ≤ a) (n : Nat) (hn : sel (cntW a.toNat bad.toNat ls 0 0) = n) (hn2 : n ≤ 30 * 6430000000000000) :
    shareV sel a ls bad = some (((n / Nat.gcd n (rest ls a.toNat) : Nat) : Int), ((rest ls a.toNat / Nat.gcd n (rest ls a.toNat) : Nat) : Int), 0) := by
  have hv := Hand.checkPlan_ok h0
  obtain ⟨lot, rfl⟩ : ∃ m : Nat, a = m := ⟨a.toNat, by omega⟩
  obtain ⟨b, rfl⟩ : ∃ m : Nat, bad = m := ⟨bad.toNat, by omega⟩
  rw [Int.toNat_natCast] at hn ⊢
  rw [Int.toNat_natCast] at hn
  obtain ⟨c1, c2, c3, c4, c5, c6⟩ := cnt_ok hv b (by omega)
  have ed : (cntW lot b ls 0 0).draws = (rest ls lot : Int) := by rw [c1]
  unfold shareV
  rw [if_pos h0, if_pos ⟨hb0, hb⟩, Int.toNat_natCast, Int.toNat_natCast, hn, ed]
  rw [if_pos ⟨by omega, by omega, by omega, by omega⟩, Int.toNat_natCast, Int.toNat_natCast]

theorem chance_ok (a : Int) (ls : List Stg) (h0 : Hand.checkPlan a ls = 0) (bad : Int) (hb0 : 0 ≤ bad) (hb : bad ≤ a) :
    shareV Cnt.accepts a ls bad = some (((cA ls a.toNat bad.toNat 0 0 / Nat.gcd (cA ls a.toNat bad.toNat 0 0) (rest ls a.toNat) : Nat) : Int), ((rest ls a.toNat / Nat.gcd (cA ls a.toNat bad.toNat 0 0) (rest ls a.toNat) : Nat) : Int), 0) := by
  have hv := Hand.checkPlan_ok h0
  obtain ⟨lot, rfl⟩ : ∃ m : Nat, a = m := ⟨a.toNat, by omega⟩
  obtain ⟨c1, c2, c3, c4, c5, c6⟩ := cnt_ok hv bad.toNat (by omega)
  refine share_ok Cnt.accepts _ ls h0 bad hb0 hb _ ?_ ?_
  · rw [Int.toNat_natCast, c1]
  · rw [Int.toNat_natCast]
    omega

theorem mean_ok (a : Int) (ls : List Stg) (h0 : Hand.checkPlan a ls = 0) (bad : Int) (hb0 : 0 ≤ bad) (hb : bad ≤ a) :
    shareV Cnt.pieces a ls bad = some (((cP ls a.toNat bad.toNat 0 0 / Nat.gcd (cP ls a.toNat bad.toNat 0 0) (rest ls a.toNat) : Nat) : Int), ((rest ls a.toNat / Nat.gcd (cP ls a.toNat bad.toNat 0 0) (rest ls a.toNat) : Nat) : Int), 0) := by
  have hv := Hand.checkPlan_ok h0
  obtain ⟨lot, rfl⟩ : ∃ m : Nat, a = m := ⟨a.toNat, by omega⟩
  obtain ⟨c1, c2, c3, c4, c5, c6⟩ := cnt_ok hv bad.toNat (by omega)
  have h30 := hv.hi
  have h8 : tot ls * rest ls lot ≤ 30 * 6430000000000000 := Nat.mul_le_mul (by omega) c6
  refine share_ok Cnt.pieces _ ls h0 bad hb0 hb _ ?_ ?_
  · rw [Int.toNat_natCast, c1]
  · rw [Int.toNat_natCast]
    exact Nat.le_trans c3 h8

theorem share_bad (sel : Cnt → Int) (a : Int) (ls : List Stg) (h0 : Hand.checkPlan a ls = 0) (bad : Int) (hb : ¬ (0 ≤ bad ∧ bad ≤ a)) : shareV sel a ls bad = some (0, 0, 2) := by
  unfold shareV
  rw [if_pos h0, if_neg hb]
theorem share_err (sel : Cnt → Int) (a : Int) (ls : List Stg) (h0 : ¬ Hand.checkPlan a ls = 0) (bad : Int) : shareV sel a ls bad = some (0, 0, Hand.checkPlan a ls) := by
  unfold shareV
  rw [if_neg h0]


end Go.Proofs.Ytigpnafpdmdmhaa.Pure

namespace Go.Proofs.Ytigpnafpdmdmhaa.Pure
open Go.RowKit Go.Proofs.Ytigpnafpdmdmhaa.P Go.Proofs.YtigpnafpdmdmhaaW.PrintWords
open Ma
theorem u8_nat {x : Int} (h : (Lit.int .u8 x).wf = true) : ∃ n : Nat, x = n ∧ n ≤ 255 := by
  unfold Lit.wf at h
  rw [Bool.and_eq_true, decide_eq_true_eq, decide_eq_true_eq] at h
  have h1 : (0 : Int) ≤ x := h.1
  have h2 : x ≤ 255 := h.2
  exact ⟨x.toNat, by omega, by omega⟩

end Go.Proofs.Ytigpnafpdmdmhaa.Pure

namespace Go.Proofs.Ytigpnafpdmdmhaa.Ma
open Hand (Stg Cnt saysV tri lastDec fits Valid)

theorem cD_le : ∀ (l : List Stg) (L B f t : Nat), B ≤ L → cD l L B f t ≤ rest l L
  | [], _, _, _, _, _ => Nat.zero_le _
  | s :: l, L, B, f, t, hB => by
    have e : cD (s :: l) L B f t ≤ sw B (L - B) s.take.toNat fun _ => rest l (L - s.take.toNat) := by
      show cg _ _ (s :: l) L B f t ≤ _
      unfold cg
      refine sw_le fun n h1 h2 h3 => ?_
      split
      · exact Nat.le_refl _
      · split
        · exact Nat.le_refl _
        · exact cD_le l _ _ _ _ (by omega)
    rw [sw_const, show B + (L - B) = L by omega] at e
    exact e
theorem cA_rest (l : List Stg) (L B f t : Nat) (h : B ≤ L) : cA l L B f t ≤ rest l L := Nat.le_trans (cA_le l L B f t) (cD_le l L B f t h)

/-- What a stage's number of bad ones leaves of the acceptances. -/
def gA (s : Stg) (l : List Stg) (L B f t : Nat) : Nat :=
  if (f : Int) ≤ s.accept then rest l L else if s.reject ≤ (f : Int) then 0 else cA l L B f t
theorem cA_cons (s : Stg) (l : List Stg) (L B f t : Nat) : cA (s :: l) L B f t = sw B (L - B) s.take.toNat fun n => gA s l (L - s.take.toNat) (B - n) (f + n) (t + s.take.toNat) := rfl

theorem gA_f {s : Stg} {l : List Stg} {L B f t : Nat} (hB : B ≤ L) (h : cA l L B (f + 1) t ≤ cA l L B f t) : gA s l L B (f + 1) t ≤ gA s l L B f t := by
  unfold gA
  have h1 : ((f + 1 : Nat) : Int) = (f : Int) + 1 := by simp
  have h2 := cA_rest l L B (f + 1) t hB
  rw [h1]
  split
  · rw [if_pos (by omega)]; exact Nat.le_refl _
  · split
    · exact Nat.zero_le _
    · split
      · exact h2
      · rw [if_neg (by omega)]; exact h
theorem gA_b {s : Stg} {l : List Stg} {L B f t : Nat} (h : cA l L (B + 1) f t ≤ cA l L B f t) : gA s l L (B + 1) f t ≤ gA s l L B f t := by
  unfold gA
  split
  · exact Nat.le_refl _
  · split
    · exact Nat.le_refl _
    · exact h

theorem cA_mono : ∀ (l : List Stg) (L B f t : Nat), (B ≤ L → cA l L B (f + 1) t ≤ cA l L B f t) ∧ (B + 1 ≤ L → cA l L (B + 1) f t ≤ cA l L B f t)
  | [], _, _, _, _ => ⟨fun _ => Nat.le_refl _, fun _ => Nat.le_refl _⟩
  | s :: l, L, B, f, t => by
    constructor
    · intro hB
      rw [cA_cons, cA_cons]
      refine sw_le fun n h1 h2 h3 => ?_
      rw [Nat.add_right_comm f 1 n]
      exact gA_f (by omega) ((cA_mono l _ _ _ _).1 (by omega))
    · intro hB
      rw [cA_cons, cA_cons]
      generalize hk : s.take.toNat = k
      cases k with
      | zero =>
        rw [sw_zero, sw_zero]
        exact gA_b ((cA_mono l _ _ _ _).2 (by omega))
      | succ k =>
        obtain ⟨g, hg⟩ : ∃ g, L - B = g + 1 := ⟨L - B - 1, by omega⟩
        rw [show L - (B + 1) = g by omega, hg, sw_bad, sw_good]
        refine Nat.add_le_add (sw_le fun n h1 h2 h3 => ?_) (sw_le fun n h1 h2 h3 => ?_)
        · rw [show B + 1 - n = (B - n) + 1 by omega]
          exact gA_b ((cA_mono l _ _ _ _).2 (by omega))
        · rw [show B + 1 - (n + 1) = B - n by omega, ← Nat.add_assoc]
          exact gA_f (by omega) ((cA_mono l _ _ _ _).1 (by omega))

/-- With no bad piece. -/
theorem cA_none : ∀ (l : List Stg) (L t : Nat), l ≠ [] → lastDec l → (∀ s ∈ l, 0 < s.reject) → cA l L 0 0 t = rest l L
  | [], _, _, h, _, _ => absurd rfl h
  | s :: l, L, t, _, hd, hr => by
    have h0 : 0 < s.reject := hr s (by simp)
    have e : cA (s :: l) L 0 0 t = sw 0 (L - 0) s.take.toNat fun _ => rest l (L - s.take.toNat) := by
      rw [cA_cons]
      refine sw_congr fun n _ hn _ => ?_
      obtain rfl : n = 0 := by omega
      unfold gA
      split
      · rfl
      · rename_i h1
        rw [if_neg (by omega)]
        cases l with
        | nil =>
          have : s.reject ≤ s.accept + 1 := hd
          exact absurd h1 (by simp; omega)
        | cons s' l => exact cA_none (s' :: l) _ _ (by simp) hd (fun x hx => hr x (by simp [hx]))
    rw [e, sw_const, show 0 + (L - 0) = L by omega]
    rfl
theorem cA_rejected (s : Stg) (l : List Stg) (L t : Nat) (h1 : s.accept < 0) (h2 : s.reject ≤ 0) : cA (s :: l) L 0 0 t = 0 := by
  have e : cA (s :: l) L 0 0 t = sw 0 (L - 0) s.take.toNat fun _ => 0 := by
    rw [cA_cons]
    refine sw_congr fun n _ hn _ => ?_
    obtain rfl : n = 0 := by omega
    unfold gA
    rw [if_neg (by simp; omega), if_pos (by simpa using h2)]
  rw [e, sw_const, Nat.mul_zero]
/-- Each Accept is less than the pieces taken by then. -/
def strict : List Stg → Nat → Prop
  | [], _ => True
  | s :: l, t => s.accept < ((t + s.take.toNat : Nat) : Int) ∧ strict l (t + s.take.toNat)
/-- With bad ones alone. -/
theorem cA_all : ∀ (l : List Stg) (L t : Nat), fits (L + t) t l → strict l t → cA l L L t t = 0
  | [], _, _, _, _ => rfl
  | s :: l, L, t, hf, hs => by
    obtain ⟨f1, f2, f3⟩ := hf
    obtain ⟨h1, h2⟩ := hs
    have e : cA (s :: l) L L t t = sw L (L - L) s.take.toNat fun _ => 0 := by
      rw [cA_cons]
      refine sw_congr fun n h3 _ h4 => ?_
      obtain rfl : n = s.take.toNat := by omega
      unfold gA
      rw [if_neg (by omega)]
      split
      · rfl
      · exact cA_all l _ _ (by rw [show L - s.take.toNat + (t + s.take.toNat) = L + t by omega]; exact f3) h2
    rw [e, sw_const, Nat.mul_zero]

/-- The first stage always decides. -/
theorem cP_first (s : Stg) (l : List Stg) (L B t : Nat) (hB : B ≤ L) (h : s.reject = s.accept + 1) : cP (s :: l) L B 0 t = (t + s.take.toNat) * rest (s :: l) L := by
  have e : cP (s :: l) L B 0 t = sw B (L - B) s.take.toNat fun _ => (t + s.take.toNat) * rest l (L - s.take.toNat) := by
    show cg _ _ (s :: l) L B 0 t = _
    unfold cg
    refine sw_congr fun n _ _ _ => ?_
    split
    · rfl
    · rw [if_pos (by omega)]
  rw [e, sw_const, show B + (L - B) = L by omega, rest, ← Nat.mul_assoc, ← Nat.mul_assoc, Nat.mul_comm (ch L _)]
end Go.Proofs.Ytigpnafpdmdmhaa.Ma

namespace Go.Proofs.Ytigpnafpdmdmhaa.Ma
open Hand (Stg Cnt saysV tri lastDec fits Valid)

theorem ch_self : ∀ n, ch n n = 1
  | 0 => rfl
  | n + 1 => by rw [ch, ch_self n, ch_above n (n + 1) (by omega)]

theorem sw_add (B g k : Nat) (H H' : Nat → Nat) : sw B g k (fun n => H n + H' n) = sw B g k H + sw B g k H' := by
  unfold sw
  rw [← sm_add]
  exact sm_congr fun n _ => by rw [Nat.mul_add]

theorem sw_none (k : Nat) (H : Nat → Nat) : sw 0 0 (k + 1) H = 0 := by
  rw [sw_congr (H' := fun _ => 0) (fun n _ h1 h2 => by omega), sw_const, Nat.mul_zero]

/-- Two samples, one behind the other. -/
def two (B g f u : Nat) (K : Nat → Nat) : Nat := sw B g f fun m => sw (B - m) (g - (f - m)) u fun j => K (m + j)

theorem two_bad (B g f u : Nat) (K : Nat → Nat) : two (B + 1) g (f + 1) (u + 1) K = two B g (f + 1) (u + 1) K + two B g (f + 1) u (fun n => K (n + 1)) + two B g f (u + 1) (fun n => K (n + 1)) := by
  unfold two
  rw [sw_bad, ← sw_add]
  congr 1
  · refine sw_congr fun m h1 h2 h3 => ?_
    rw [show B + 1 - m = (B - m) + 1 by omega, sw_bad]
    rfl
  · refine sw_congr fun m h1 h2 h3 => ?_
    rw [show B + 1 - (m + 1) = B - m by omega, show f + 1 - (m + 1) = f - m by omega]
    refine sw_congr fun j _ _ _ => ?_
    rw [show m + 1 + j = m + j + 1 by omega]
theorem two_good (B g f u : Nat) (K : Nat → Nat) : two B (g + 1) (f + 1) (u + 1) K = two B g (f + 1) (u + 1) K + two B g (f + 1) u K + two B g f (u + 1) K := by
  unfold two
  rw [sw_good, ← sw_add]
  congr 1
  · refine sw_congr fun m h1 h2 h3 => ?_
    rw [show g + 1 - (f + 1 - m) = (g - (f + 1 - m)) + 1 by omega, sw_good]
  · refine sw_congr fun m h1 h2 h3 => ?_
    rw [show g + 1 - (f + 1 - m) = g - (f - m) by omega]

theorem two_one : ∀ (B g f u : Nat) (K : Nat → Nat), two B g f u K = ch (f + u) f * sw B g (f + u) K
  | B, g, 0, u, K => by
    unfold two
    rw [sw_zero, ch_zero, Nat.zero_add, Nat.one_mul]
    exact sw_congr fun j _ _ _ => by rw [Nat.zero_add]
  | B, g, f + 1, 0, K => by
    unfold two
    rw [Nat.add_zero, ch_self, Nat.one_mul]
    exact sw_congr fun j _ _ _ => by rw [sw_zero, Nat.add_zero]
  | 0, 0, f + 1, u + 1, K => by
    unfold two
    rw [sw_none, show f + 1 + (u + 1) = (f + u + 1) + 1 by omega, sw_none, Nat.mul_zero]
  | 0, g + 1, f + 1, u + 1, K => by
    rw [two_good, two_one 0 g (f + 1) (u + 1), two_one 0 g (f + 1) u, two_one 0 g f (u + 1), show f + 1 + (u + 1) = (f + u + 1) + 1 by omega, sw_good, show f + 1 + u = f + u + 1 by omega, show f + (u + 1) = f + u + 1 by omega, ch, Nat.mul_add, Nat.add_mul, Nat.add_mul]
    omega
  | B + 1, g, f + 1, u + 1, K => by
    rw [two_bad, two_one B g (f + 1) (u + 1), two_one B g (f + 1) u, two_one B g f (u + 1), show f + 1 + (u + 1) = (f + u + 1) + 1 by omega, sw_bad, show f + 1 + u = f + u + 1 by omega, show f + (u + 1) = f + u + 1 by omega, ch, Nat.mul_add, Nat.add_mul, Nat.add_mul]
    omega
termination_by B g f u => B + g + f + u

/-- A plan of one stage, split. -/
theorem split_A (n t f B : Nat) (a r r1 : Int) (ht : t ≤ n) (hf : f ≤ t) (hB : B ≤ n) (hr : ∀ m : Nat, m ≤ f → (r1 ≤ (m : Int) → a < m)) (hrr : r = a + 1) :
    cA [⟨(f : Int), -1, r1⟩, ⟨((t - f : Nat) : Int), a, r⟩] n B 0 0 = ch t f * cA [⟨(t : Int), a, r⟩] n B 0 0 := by
  subst hrr
  have e1 : cA [⟨(t : Int), a, a + 1⟩] n B 0 0 = sw B (n - B) t fun j => if (j : Int) ≤ a then 1 else 0 := by
    rw [cA_cons, Int.toNat_natCast]
    refine sw_congr fun j _ _ _ => ?_
    unfold gA
    rw [Nat.zero_add]
    by_cases h : (j : Int) ≤ a
    · rw [if_pos h, if_pos h]; rfl
    · rw [if_neg h, if_neg h, if_pos (show a + 1 ≤ (j : Int) by omega)]
  have e2 : cA [⟨(f : Int), -1, r1⟩, ⟨((t - f : Nat) : Int), a, a + 1⟩] n B 0 0 = two B (n - B) f (t - f) fun j => if (j : Int) ≤ a then 1 else 0 := by
    rw [cA_cons, Int.toNat_natCast]
    unfold two
    refine sw_congr fun m h1 h2 h3 => ?_
    have e3 : sw (B - m) (n - B - (f - m)) (t - f) (fun j => if ((m + j : Nat) : Int) ≤ a then 1 else 0) = cA [⟨((t - f : Nat) : Int), a, a + 1⟩] (n - f) (B - m) (0 + m) (0 + f) := by
      rw [cA_cons, Int.toNat_natCast, show n - f - (B - m) = n - B - (f - m) by omega]
      refine sw_congr fun j _ _ _ => ?_
      unfold gA
      rw [Nat.zero_add]
      by_cases h : ((m + j : Nat) : Int) ≤ a
      · rw [if_pos h, if_pos h]; rfl
      · rw [if_neg h, if_neg h, if_pos (show a + 1 ≤ ((m + j : Nat) : Int) by omega)]
    rw [e3]
    unfold gA
    rw [if_neg (by simp; omega)]
    split
    · rename_i h
      rw [← e3]
      have := hr m h1 (by simpa using h)
      rw [sw_congr (H' := fun _ => 0) (fun j _ _ _ => if_neg (by omega)), sw_const, Nat.mul_zero]
    · rfl
  rw [e1, e2, two_one, show f + (t - f) = t by omega]

theorem split_D (n t f : Nat) (hf : f ≤ t) : ch n f * ch (n - f) (t - f) = ch t f * ch n t := by
  have h := two_one 0 n f (t - f) (fun _ => 1)
  unfold two at h
  rw [show f + (t - f) = t by omega, sw_const, Nat.zero_add, Nat.mul_one] at h
  rw [← h, sw_congr (H' := fun _ => ch (n - f) (t - f)) (fun m h1 h2 h3 => ?_), sw_const, Nat.zero_add]
  obtain rfl : m = 0 := by omega
  rw [sw_const, Nat.mul_one, show 0 - 0 + (n - (f - 0)) = n - f by omega]
end Go.Proofs.Ytigpnafpdmdmhaa.Ma

namespace Go.Proofs.Ytigpnafpdmdmhaa.Pure
open Go.RowKit Go.Proofs.Ytigpnafpdmdmhaa.P Go.Proofs.YtigpnafpdmdmhaaW.PrintWords

open Hand (Stg saysV fits lastDec Valid Cnt cntW shareV)
open Ma

theorem one_ok (n t : Nat) (a : Int) (h1 : 2 ≤ n) (h2 : n ≤ 30) (h3 : 1 ≤ t) (h4 : t ≤ n) (h5 : -1 ≤ a) (h6 : a ≤ t) : Hand.checkPlan (n : Int) [⟨(t : Int), a, a + 1⟩] = 0 := by
  have w : wrap64 (a + 1) = a + 1 := w_id (by omega) (by omega)
  unfold Hand.checkPlan
  rw [if_neg (by simp), if_pos ⟨by omega, by omega, by simp, by simp; omega⟩]
  unfold Hand.chk
  dsimp only
  rw [if_neg (by omega), if_neg (by omega), if_neg (by omega), w, if_pos ⟨by omega, by omega⟩]
  unfold Hand.chk
  dsimp only
  rw [w, if_pos rfl]

theorem two_ok (n t f : Nat) (a r : Int) (h1 : 2 ≤ n) (h2 : n ≤ 30) (h4 : t ≤ n) (h5 : -1 ≤ a) (h6 : a ≤ t) (h7 : 1 ≤ f) (h8 : f < t) (h9 : 0 ≤ r) (h10 : r ≤ f + 1) (h11 : r ≤ a + 1) :
    Hand.checkPlan (n : Int) [⟨(f : Int), -1, r⟩, ⟨((t - f : Nat) : Int), a, a + 1⟩] = 0 := by
  have w : wrap64 (a + 1) = a + 1 := w_id (by omega) (by omega)
  have w0 : wrap64 (-1 + 1) = 0 := w_id (by omega) (by omega)
  unfold Hand.checkPlan
  rw [if_neg (by simp), if_pos ⟨by omega, by omega, by simp, by simp; omega⟩]
  unfold Hand.chk
  dsimp only
  rw [if_neg (by omega), if_neg (by omega), if_neg (by omega), w0, if_pos ⟨by omega, by omega⟩]
  unfold Hand.chk
  dsimp only
  rw [if_neg (by omega), if_neg (by omega), if_neg (by omega), w, if_pos ⟨by omega, by omega⟩]
  unfold Hand.chk
  dsimp only
  rw [w, if_pos rfl]

theorem frac_same (A D c : Nat) (hc : 0 < c) : (c * A) / Nat.gcd (c * A) (c * D) = A / Nat.gcd A D ∧ (c * D) / Nat.gcd (c * A) (c * D) = D / Nat.gcd A D := by
  rw [Nat.gcd_mul_left, Nat.mul_div_mul_left _ _ hc, Nat.mul_div_mul_left _ _ hc]
  exact ⟨rfl, rfl⟩

theorem rem_n (x : Nat) (hx : x ≤ 1000) (n : Nat) : Int.tmod (wrap64 (x : Int)) (n : Int) = ((x % n : Nat) : Int) := by
  rw [w_nat (x := (x : Int)) x rfl (by omega)]
  rfl

theorem PlanSplit (a0 a1 a2 a3 a4 : Int) (h0 : (Lit.int .u8 a0).wf = true) (h1 : (Lit.int .u8 a1).wf = true) (h2 : (Lit.int .u8 a2).wf = true) (h3 : (Lit.int .u8 a3).wf = true) (h4 : (Lit.int .u8 a4).wf = true) : tensilelaw09_PlanSplit.f a0 a1 a2 a3 a4 = some true := by
  obtain ⟨x0, rfl, y0⟩ := u8_nat h0
  obtain ⟨x1, rfl, y1⟩ := u8_nat h1
  obtain ⟨x2, rfl, y2⟩ := u8_nat h2
  obtain ⟨x3, rfl, y3⟩ := u8_nat h3
  obtain ⟨x4, rfl, y4⟩ := u8_nat h4
  clear h0 h1 h2 h3 h4
  rw [tensilelaw09_PlanSplit.f]
  -- the lot
  obtain ⟨n, hn⟩ : ∃ n, n = 2 + x0 % 29 := ⟨_, rfl⟩
  have n1 : 2 ≤ n := by omega
  have n2 : n ≤ 30 := by omega
  have en : wrap64 (2 + Int.tmod (wrap64 (x0 : Int)) 29) = (n : Int) := by
    rw [show (29 : Int) = ((29 : Nat) : Int) from rfl, rem_n x0 (by omega) 29]
    exact w_nat n (by rw [hn, Int.natCast_add]; rfl) (by omega)
  rw [en]
  clear en
  have em : wrap64 ((n : Int) - 1) = ((n - 1 : Nat) : Int) := w_nat _ (by omega) (by omega)
  rw [em]
  clear em
  -- the Take
  obtain ⟨t, htt⟩ : ∃ t, t = 2 + x1 % (n - 1) := ⟨_, rfl⟩
  have t0 : x1 % (n - 1) < n - 1 := Nat.mod_lt _ (by omega)
  have t1 : 2 ≤ t := by omega
  have t2 : t ≤ n := by omega
  have et : wrap64 (2 + Int.tmod (wrap64 (x1 : Int)) ((n - 1 : Nat) : Int)) = (t : Int) := by
    rw [rem_n x1 (by omega)]
    exact w_nat t (by rw [htt, Int.natCast_add]; rfl) (by omega)
  rw [et]
  clear et
  have e_ : (t : Int) - 1 = ((t - 1 : Nat) : Int) ∧ t + 2 ≤ 100000 ∧ t - 1 ≤ 100000 ∧ n + 1 ≤ 100000 := by omega
  rw [w_nat (x := (t : Int) + 2) (t + 2) rfl e_.2.1, w_nat (x := (t : Int) - 1) (t - 1) e_.1 e_.2.2.1, w_nat (x := (n : Int) + 1) (n + 1) rfl e_.2.2.2]
  clear e_
  -- the Accept
  obtain ⟨a, ha⟩ : ∃ a : Int, a = ((x2 % (t + 2) : Nat) : Int) - 1 := ⟨_, rfl⟩
  have a0 : x2 % (t + 2) < t + 2 := Nat.mod_lt _ (by omega)
  have a1 : -1 ≤ a := by omega
  have a2 : a ≤ t := by omega
  have ea : wrap64 (Int.tmod (wrap64 (x2 : Int)) ((t + 2 : Nat) : Int) - 1) = a := by
    rw [rem_n x2 (by omega), ← ha]
    exact w_id (by omega) (by omega)
  rw [ea]
  clear ea
  rw [w_id (x := a + 1) (by omega) (by omega)]
  -- the first Take
  obtain ⟨f, hf⟩ : ∃ f, f = 1 + x3 % (t - 1) := ⟨_, rfl⟩
  have f0 : x3 % (t - 1) < t - 1 := Nat.mod_lt _ (by omega)
  have f1 : 1 ≤ f := by omega
  have f2 : f < t := by omega
  have ef : wrap64 (1 + Int.tmod (wrap64 (x3 : Int)) ((t - 1 : Nat) : Int)) = (f : Int) := by
    rw [rem_n x3 (by omega)]
    exact w_nat f (by rw [hf, Int.natCast_add]; rfl) (by omega)
  rw [ef]
  clear ef
  rw [w_id (x := (f : Int) + 1) (by omega) (by omega), w_nat (x := (t : Int) - (f : Int)) (t - f) (by omega) (by omega)]
  obtain ⟨r, hr⟩ : ∃ r, r = mn ((f : Int) + 1) (a + 1) := ⟨_, rfl⟩
  have r1 : 0 ≤ r := by rw [hr]; unfold mn; split <;> omega
  have r2 : r ≤ (f : Int) + 1 := by rw [hr]; unfold mn; split <;> omega
  have r3 : r ≤ a + 1 := by rw [hr]; unfold mn; split <;> omega
  have r4 : r = (f : Int) + 1 ∨ r = a + 1 := by rw [hr]; unfold mn; split <;> omega
  rw [← hr]
  obtain ⟨b, hb⟩ : ∃ b, b = x4 % (n + 1) := ⟨_, rfl⟩
  have b0 : x4 % (n + 1) < n + 1 := Nat.mod_lt _ (by omega)
  have b1 : b ≤ n := by omega
  rw [rem_n x4 (by omega), ← hb]
  have z1 : ¬ (((n - 1 : Nat) : Int) = 0) := by omega
  have z2 : ¬ (((t + 2 : Nat) : Int) = 0) := by omega
  have z3 : ¬ (((t - 1 : Nat) : Int) = 0) := by omega
  have z4 : ¬ (((n + 1 : Nat) : Int) = 0) := by omega
  rw [if_neg z1, if_neg z2, if_neg z3, if_neg z4]
  have k1 := one_ok n t a n1 n2 (by omega) t2 a1 a2
  have k2 := two_ok n t f a r n1 n2 t2 a1 a2 f1 f2 r1 r2 r3
  have b2 : (0 : Int) ≤ (b : Int) := by omega
  have b3 : (b : Int) ≤ (n : Int) := by omega
  have c1 := chance_ok (n : Int) _ k1 (b : Int) b2 b3
  have c2 := chance_ok (n : Int) _ k2 (b : Int) b2 b3
  rw [Int.toNat_natCast, Int.toNat_natCast] at c1 c2
  unfold plan_Chance.f
  have s1 : toStg [(⟨(t : Int), a, a + 1⟩ : S61)] = [⟨(t : Int), a, a + 1⟩] := rfl
  have s2 : toStg [(⟨(f : Int), -1, r⟩ : S61), ⟨((t - f : Nat) : Int), a, a + 1⟩] = [⟨(f : Int), -1, r⟩, ⟨((t - f : Nat) : Int), a, a + 1⟩] := rfl
  rw [s1, s2, c1, Option.bind_some, c2, Option.bind_some]
  have sA := split_A n t f b a (a + 1) r t2 (by omega) b1 (fun m hm hrm => by omega) rfl
  have hc : 0 < ch t f := ch_pos _ _ (by omega)
  have d1 : rest [(⟨(t : Int), a, a + 1⟩ : Stg)] n = ch n t := by
    show ch n (t : Int).toNat * 1 = _
    rw [Int.toNat_natCast, Nat.mul_one]
  have d2 : rest [(⟨(f : Int), -1, r⟩ : Stg), ⟨((t - f : Nat) : Int), a, a + 1⟩] n = ch t f * ch n t := by
    show ch n (f : Int).toNat * (ch (n - (f : Int).toNat) ((t - f : Nat) : Int).toNat * 1) = _
    rw [Int.toNat_natCast, Int.toNat_natCast, Nat.mul_one, split_D n t f (by omega)]
  rw [sA, d1, d2, (frac_same _ _ _ hc).1, (frac_same _ _ _ hc).2]
  dsimp only
  rw [if_pos rfl, if_pos rfl, if_pos (by simp), wakes_f]
  rfl
end Go.Proofs.Ytigpnafpdmdmhaa.Pure



namespace Go.Proofs.Ytigpnafpdmdmhaa.planSplit
open Go.ChangeShapes Go.WideShapes Go.ChangeAt Go.RowKit Go.Proofs.YtigpnafpdmdmhaaW.PrintWords
theorem own : ownKnob Try.prog.godebug = none := by kernel_rfl
theorem laidOut : laidOutB Try.prog = true := by kernel_rfl
set_option maxRecDepth 100000 in
theorem lifted (os : Os) (started : os.Started) (H : Type) (enc : TypeId × Value → H) :
    ReturnsInHanded {} Try.checked os 10 .any (Rows.planSplitSpec.pre6 enc Try.prog Try.f10 Rows.planSplitRow.domain false) (Rows.planSplitSpec.post enc Try.prog Try.f10 false true false false) := by
  refine returnsInHanded_of_change_sized (C := Try.checked) own started (by kernel_rfl) Try.func10
    (ChangeSpec.witness6 (enc := enc) (C := Try.checked) false ⟨#[], #[.int .u8 0, .int .u8 0, .int .u8 0, .int .u8 0, .int .u8 0], []⟩ 8 (by kernel_rfl) (by kernel_rfl) (by kernel_rfl) (by kernel_rfl)) ?_
  intro W base args ds gs before hval0 hW hcnd hsz0 _
  have hval : ∀ (j : Nat) t v, Try.f10.params[j]? = some t → args[j]? = some v → Value.okWide Try.prog W .any base t v := hval0
  have hW' := hW
  obtain ⟨p, q, hA0, hV, rfl, hfz, hnd⟩ := hW
  have hA : DataW.TrodAll enc Try.prog W 0 (fun _ => true) true Try.f10.params.toList args.toList ds p := hA0
  rw [Try.params10] at hA hval
  obtain ⟨v0, vs0, d0, ds0, p0, q0, hargs, rfl, rfl, h0, r0⟩ := trodAll_cons hA
  obtain ⟨v1, vs1, d1, ds1, p1, q1, rfl, rfl, rfl, h1, r1⟩ := trodAll_cons r0
  obtain ⟨v2, vs2, d2, ds2, p2, q2, rfl, rfl, rfl, h2, r2⟩ := trodAll_cons r1
  obtain ⟨v3, vs3, d3, ds3, p3, q3, rfl, rfl, rfl, h3, r3⟩ := trodAll_cons r2
  obtain ⟨v4, vs4, d4, ds4, p4, q4, rfl, rfl, rfl, h4, r4⟩ := trodAll_cons r3
  obtain ⟨rfl, rfl, rfl⟩ := trodAll_nil r4
  obtain rfl : args = #[v0, v1, v2, v3, v4] := by cases args; simp_all
  obtain ⟨rfl, rfl⟩ := trodVars_none hV
  obtain ⟨a0, rfl, rfl, rfl, w0⟩ := open_int Try.underlying5 (hval 0 5 v0 rfl rfl) h0
  obtain ⟨a1, rfl, rfl, rfl, w1⟩ := open_int Try.underlying5 (hval 1 5 v1 rfl rfl) h1
  obtain ⟨a2, rfl, rfl, rfl, w2⟩ := open_int Try.underlying5 (hval 2 5 v2 rfl rfl) h2
  obtain ⟨a3, rfl, rfl, rfl, w3⟩ := open_int Try.underlying5 (hval 3 5 v3 rfl rfl) h3
  obtain ⟨a4, rfl, rfl, rfl, w4⟩ := open_int Try.underlying5 (hval 4 5 v4 rfl rfl) h4
  clear hA0 hval0 hsz0
  have hP := Pure.PlanSplit a0 a1 a2 a3 a4 w0 w1 w2 w3 w4
  refine (P.tensilelaw09_PlanSplit.calls a0 a1 a2 a3 a4 true W  hP).mono fun e W' ⟨he, bel⟩ => ?_
  subst he
  exact ⟨_, rfl, _, _, _, [], _, [], hW', trodAll_mk1 (shut_bool Try.underlying4 _), (trodAll_cons_mk (shut_int Try.underlying5 w0) (trodAll_cons_mk (shut_int Try.underlying5 w1) (trodAll_cons_mk (shut_int Try.underlying5 w2) (trodAll_cons_mk (shut_int Try.underlying5 w3) (trodAll_cons_mk (shut_int Try.underlying5 w4) trodAll_mk0))))), rfl, bel.frame _, fun h => by cases h⟩
theorem over : Rows.planSplitRow.holds Try.pinned (OpenSpec.ofChange Rows.planSplitSpec) :=
  OpenClaim.holds_of_wide 10 Try.f10 rfl rfl rfl rfl rfl rfl rfl ⟨rfl, rfl, rfl, rfl, rfl⟩ rfl rfl rfl rfl rfl (by kernel_rfl) Try.func10 (by kernel_rfl)
    (of_decide_eq_true (by kernel_rfl)) (by unfold Func.isWrapper; first | (rw [if_pos (by decide +kernel)]; kernel_rfl) | (rw [if_neg (by decide +kernel)]; exact ⟨rfl, rfl⟩))
    (fun os started H enc _ => lifted os started H enc)
theorem proved : Rows.PlanSplitSaid := over
end Go.Proofs.Ytigpnafpdmdmhaa.planSplit
namespace Go.Proofs.Ytigpnafpdmdmhaa
/-- The row, under a short name, for the claim. -/
theorem planSplit_holds : Rows.PlanSplitSaid := planSplit.proved
end Go.Proofs.Ytigpnafpdmdmhaa
#print axioms Go.Proofs.Ytigpnafpdmdmhaa.planSplit_holds
