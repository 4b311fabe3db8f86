/- The statement PlanFewest: whatever the input (its guards are the law's own), the call returns true, and each argument reads as it did. -/
import Derived.Test.YtigpnafpdmdmhaaC2
import Derived.Test.YtigpnafpdmdmhaaC1
import Derived.Test.YtigpnafpdmdmhaaC0
import Derived.Test.YtigpnafpdmdmhaaPlanFewestA
import Derived.Test.YtigpnafpdmdmhaaRows
import Derived.Test.YtigpnafpdmdmhaaPlanFewestB
import Derived.WalkKit
import Derived.ProofKit
import Derived.OpenShut
import Derived.ShutString
import Derived.ChangeOld
import Derived.Below
import Derived.SizedLaws
set_option linter.unusedVariables false
set_option linter.unusedSimpArgs false
namespace Go.Proofs.Ytigpnafpdmdmhaa.P
open Go.ChangeShapes Go.WideShapes Go.RowKit Go.Proofs.YtigpnafpdmdmhaaW.PrintWords

section
variable {H : Type} {enc : TypeId × Value → H} {W : World}

theorem c64 : Try.prog.cellsOf 64 = 4 := by kernel_rfl

set_option maxRecDepth 10000 in
/-- A demand that came in. -/
theorem open64 {m : Nat} {cs : List Value} {x : DataW H × List MemPlace} (h : DataW.trod enc Try.prog W 0 (fun _ => true) true m 64 cs = some x) :
    ∃ a b c d : Int, cs = [.int .i64 a, .int .i64 b, .int .i64 c, .int .i64 d] ∧ Fits a ∧ Fits b ∧ Fits c ∧ Fits d := by
  obtain ⟨xs, n, _, _, hl, hxl, hf⟩ := DataW.trod_struct Try.underlying64 h
  rw [c64] at hl
  have hx4 : xs.length = 4 := hxl
  match cs, hl, xs, hx4 with
  | [v0, v1, v2, v3], _, [y0, y1, y2, y3], _ =>
    have g0 := hf 0 _ rfl
    have g1 := hf 1 _ rfl
    have g2 := hf 2 _ rfl
    have g3 := hf 3 _ rfl
    simp [c3] at g0 g1 g2 g3
    obtain ⟨a0, e0, _, w0⟩ := DataW.trod_int Try.underlying3 g0
    obtain ⟨a1, e1, _, w1⟩ := DataW.trod_int Try.underlying3 g1
    obtain ⟨a2, e2, _, w2⟩ := DataW.trod_int Try.underlying3 g2
    obtain ⟨a3, e3, _, w3⟩ := DataW.trod_int Try.underlying3 g3
    cases e0; cases e1; cases e2; cases e3
    exact ⟨a0, a1, a2, a3, rfl, w0, w1, w2, w3⟩
end
end Go.Proofs.Ytigpnafpdmdmhaa.P

namespace Go.Proofs.Ytigpnafpdmdmhaa.Pure
open Go.RowKit Go.Proofs.Ytigpnafpdmdmhaa.P

/-- A stage of the reference as the program's. -/
def c61 (s : S57) : S61 := ⟨s.f0, s.f1, s.f2⟩
/-- A stage of the reference as the hand contracts tell it. -/
def cSt (s : S57) : Hand.Stg := ⟨s.f0, s.f1, s.f2⟩
theorem toStg_c61 (l : List S57) : toStg (l.map c61) = l.map cSt := by
  unfold toStg
  rw [List.map_map]
  rfl

theorem plan_f (a : Int) (l : List S57) (hl : l.length ≤ 5) : ∀ k, 7 ≤ k → tensilelaw09_Plan.f k a l = some (a, l.map c61) := by
  intro k hk
  obtain ⟨k, rfl⟩ : ∃ m, k = m + 7 := ⟨k - 7, by omega⟩
  match l, hl with
  | [], _ => rfl
  | [_], _ => simp [tensilelaw09_Plan.f, tensilelaw09_Plan.l0, rd_T57, c61, wrap64]
  | [_, _], _ => simp [tensilelaw09_Plan.f, tensilelaw09_Plan.l0, rd_T57, c61, wrap64]
  | [_, _, _], _ => simp [tensilelaw09_Plan.f, tensilelaw09_Plan.l0, rd_T57, c61, wrap64]
  | [_, _, _, _], _ => simp [tensilelaw09_Plan.f, tensilelaw09_Plan.l0, rd_T57, c61, wrap64]
  | [_, _, _, _, _], _ => simp [tensilelaw09_Plan.f, tensilelaw09_Plan.l0, rd_T57, c61, wrap64]

theorem fits_in {n : Int} (h : Fits n) : -9223372036854775808 ≤ n ∧ n ≤ 9223372036854775807 := by
  unfold Fits Lit.wf at h
  rw [Bool.and_eq_true, decide_eq_true_eq, decide_eq_true_eq] at h
  exact h

/-- What the reference's loop asks of each stage. -/
def okFrom (lot : Int) : Int → Option S57 → List S57 → Prop
  | _, _, [] => True
  | taken, prev, s :: l => (1 ≤ s.f0 ∧ s.f0 ≤ 30 ∧ taken + s.f0 ≤ lot) ∧ (-1 ≤ s.f1 ∧ s.f1 ≤ 30) ∧ (s.f1 < s.f2 ∧ s.f2 ≤ taken + s.f0 + 1) ∧ (∀ p, prev = some p → p.f1 ≤ s.f1 ∧ p.f2 ≤ s.f2) ∧ (l = [] → s.f2 = s.f1 + 1) ∧ okFrom lot (taken + s.f0) (some s) l

instance okDec (lot : Int) : ∀ (l : List S57) (taken : Int) (prev : Option S57), Decidable (okFrom lot taken prev l)
  | [], _, _ => isTrue trivial
  | s :: l, taken, prev => by
    have := okDec lot l (taken + s.f0) (some s)
    have h2 : Decidable (∀ p, prev = some p → p.f1 ≤ s.f1 ∧ p.f2 ≤ s.f2) := match prev with
      | none => isTrue (fun _ h => by cases h)
      | some p => if h : p.f1 ≤ s.f1 ∧ p.f2 ≤ s.f2 then isTrue (fun q hq => by cases hq; exact h) else isFalse (fun hq => h (hq p rfl))
    have h3 : Decidable (l = []) := match l with
      | [] => isTrue rfl
      | _ :: _ => isFalse (fun h => by cases h)
    unfold okFrom
    infer_instance

end Go.Proofs.Ytigpnafpdmdmhaa.Pure

namespace Go.Proofs.Ytigpnafpdmdmhaa.Pure
open Go.RowKit Go.Proofs.Ytigpnafpdmdmhaa.P
open Hand (Stg)

theorem In_f (a b c : Int) : tensileref09_In.f a b c = some (decide (b ≤ a ∧ a ≤ c)) := by
  unfold tensileref09_In.f
  split
  · rename_i h; simp [show b ≤ a from h]
  · rename_i h; simp [show ¬ b ≤ a from h]

theorem rd_pre (pre : List S57) (s : S57) (suf : List S57) : rd_T57 (pre ++ s :: suf) (pre.length : Int) = s := by
  unfold rd_T57
  rw [Int.toNat_natCast, List.getD_eq_getElem?_getD, List.getElem?_append_right (Nat.le_refl _), Nat.sub_self]
  rfl

/-- What is asked of the stages, from so many pieces and the limits of the stage before on. -/
def good (lot : Int) : Int → Int → Int → List Stg → Prop
  | _, _, _, [] => True
  | t, pa, pr, s :: l => (1 ≤ s.take ∧ t + s.take ≤ lot) ∧ (pa ≤ s.accept ∧ s.accept < s.reject ∧ s.reject ≤ t + s.take + 1 ∧ pr ≤ s.reject) ∧ (l = [] → s.reject = s.accept + 1) ∧ good lot (t + s.take) s.accept s.reject l

theorem good_cons (lot t pa pr : Int) (s : Stg) (l : List Stg) : good lot t pa pr (s :: l) ↔ ((1 ≤ s.take ∧ t + s.take ≤ lot) ∧ (pa ≤ s.accept ∧ s.accept < s.reject ∧ s.reject ≤ t + s.take + 1 ∧ pr ≤ s.reject) ∧ (l = [] → s.reject = s.accept + 1) ∧ good lot (t + s.take) s.accept s.reject l) := Iff.rfl
theorem if_iff {P Q : Prop} [Decidable P] [Decidable Q] {α : Type} {x y : α} (h : P ↔ Q) : (if P then x else y) = if Q then x else y := by
  by_cases hp : P
  · rw [if_pos hp, if_pos (h.1 hp)]
  · rw [if_neg hp, if_neg (fun hq => hp (h.2 hq))]
theorem good_take {lot : Int} : ∀ {l : List Stg} {t pa pr : Int}, good lot t pa pr l → ∀ s ∈ l, 1 ≤ s.take
  | _ :: _, _, _, _, h, s, hs => by
    rcases List.mem_cons.1 hs with rfl | hs
    · exact h.1.1
    · exact good_take h.2.2.2 s hs

open Classical in
theorem fault_l0 (a : Int) (ha : a ≤ 30) : ∀ (suf pre : List S57) (k : Nat) (t pa pr : Int), 5 * suf.length + 5 ≤ k → (pre ++ suf).length ≤ 3 → 0 ≤ t → t ≤ a →
    (pre = [] ∧ pa = -1 ∧ pr = 0 ∨ ∃ pre' p, pre = pre' ++ [p] ∧ p.f1 = pa ∧ p.f2 = pr) → -1 ≤ pa → 0 ≤ pr → (∀ s ∈ suf, Fits s.f0 ∧ Fits s.f1 ∧ Fits s.f2) →
    tensileref09_Fault.l0 k t (pre.length : Int) a (pre ++ suf) = some (if good a t pa pr (suf.map cSt) then 0 else 1) := by
  intro suf
  induction suf with
  | nil =>
    intro pre k t pa pr hk _ _ _ _ _ _ _
    obtain ⟨k, rfl⟩ : ∃ m, k = m + 1 := ⟨k - 1, by omega⟩
    simp [tensileref09_Fault.l0, good]
  | cons s suf ih =>
    intro pre k t pa pr hk hlen ht ht30 hp hpa hpr hf
    obtain ⟨k, rfl⟩ : ∃ m, k = m + 5 := ⟨k - 5, by omega⟩
    obtain ⟨f0, f1, f2⟩ := hf s (by simp)
    have b0 := fits_in f0
    have b1 := fits_in f1
    have b2 := fits_in f2
    have hlt : (pre.length : Int) < ((pre ++ s :: suf).length : Int) := by simp; omega
    have hl : ((pre ++ s :: suf).length : Int) = pre.length + suf.length + 1 := by simp; omega
    have hl3 : pre.length + suf.length + 1 ≤ 3 := by simpa [Nat.add_assoc] using hlen
    have hrec : ∀ (k' : Nat), 5 * suf.length + 5 ≤ k' → t + s.f0 ≤ a → 1 ≤ s.f0 → -1 ≤ s.f1 → 0 ≤ s.f2 →
        tensileref09_Fault.l0 k' (t + s.f0) ((pre.length : Int) + 1) a (pre ++ s :: suf) = some (if good a (t + s.f0) s.f1 s.f2 (suf.map cSt) then 0 else 1) := fun k' h1 h2 h3 h4 h5 => by
      have := ih (pre ++ [s]) k' (t + s.f0) s.f1 s.f2 h1 (by simpa using hlen) (by omega) h2 (.inr ⟨pre, s, rfl, rfl, rfl⟩) h4 h5 (fun x hx => hf x (by simp [hx]))
      simpa using this
    have hlast : ((pre.length : Int) = wrap64 (((pre ++ s :: suf).length : Int) - 1)) ↔ suf = [] := by
      rw [hl, show wrap64 ((pre.length : Int) + suf.length + 1 - 1) = (pre.length : Int) + suf.length by unfold wrap64; omega, ← List.length_eq_zero_iff]
      omega
    have hmid : ∀ m, tensileref09_Fault.j4 (m + 1) (t + s.f0) (pre.length : Int) false a (pre ++ s :: suf) s.f0 s.f1 s.f2 = (if (suf = [] → s.f2 = wrap64 (s.f1 + 1)) then tensileref09_Fault.l0 m (t + s.f0) ((pre.length : Int) + 1) a (pre ++ s :: suf) else some 1) := fun m => by
      rw [tensileref09_Fault.j4, if_neg (by decide), show wrap64 ((pre.length : Int) + 1) = (pre.length : Int) + 1 by unfold wrap64; omega]
      by_cases h : suf = []
      · rw [if_pos (hlast.2 h)]
        simp [h]
      · rw [if_neg (fun e => h (hlast.1 e))]
        simp [h]
    have hj4 : ∀ m, tensileref09_Fault.j4 (m + 1) (t + s.f0) (pre.length : Int) true a (pre ++ s :: suf) s.f0 s.f1 s.f2 = some 1 := fun m => by
      rw [tensileref09_Fault.j4, if_pos rfl]
    have hj3 : ∀ m, tensileref09_Fault.j3 (m + 2) (t + s.f0) (pre.length : Int) false a (pre ++ s :: suf) s.f0 s.f1 s.f2 = (if (pre ≠ [] → pa ≤ s.f1 ∧ pr ≤ s.f2) then tensileref09_Fault.j4 (m + 1) (t + s.f0) (pre.length : Int) false a (pre ++ s :: suf) s.f0 s.f1 s.f2 else some 1) := fun m => by
      rw [tensileref09_Fault.j3, if_neg (by decide)]
      rcases hp with ⟨rfl, -, -⟩ | ⟨pre', p, rfl, rfl, rfl⟩
      · simp
      · have hl3' : pre'.length + 1 + suf.length + 1 ≤ 3 := by simpa using hl3
        have e1 : wrap64 (((pre' ++ [p]).length : Int) - 1) = (pre'.length : Int) := by rw [List.length_append]; simp; unfold wrap64; omega
        have e2 : rd_T57 (pre' ++ [p] ++ s :: suf) (pre'.length : Int) = p := by
          rw [List.append_assoc]; exact rd_pre pre' p (s :: suf)
        rw [if_pos (by simp <;> omega), e1, e2, if_pos (by omega), if_pos (by simp <;> omega)]
        by_cases h1 : p.f1 ≤ s.f1
        · rw [if_neg (by omega)]
          by_cases h2 : p.f2 ≤ s.f2
          · rw [if_pos (fun _ => ⟨h1, h2⟩), decide_eq_false (by omega)]
          · rw [if_neg (fun h => h2 (h (by simp)).2), decide_eq_true (by omega), hj4]
        · rw [if_pos (by omega), if_neg (fun h => h1 (h (by simp)).1), hj4]
    rw [tensileref09_Fault.l0, if_pos hlt, if_pos (by omega), rd_pre, In_f, Option.bind_some, List.map_cons]
    have hc : good a t pa pr (cSt s :: suf.map cSt) ↔ ((1 ≤ s.f0 ∧ t + s.f0 ≤ a) ∧ (pa ≤ s.f1 ∧ s.f1 < s.f2 ∧ s.f2 ≤ t + s.f0 + 1 ∧ pr ≤ s.f2) ∧ (suf = [] → s.f2 = s.f1 + 1) ∧ good a (t + s.f0) s.f1 s.f2 (suf.map cSt)) := by
      have hm : (suf.map cSt = []) = (suf = []) := by simp
      rw [good_cons, hm]
      exact Iff.rfl
    have hP : ∀ {P : Prop} (x y : Option Int), ¬ P → (if P then x else y) = y := fun x y h => if_neg h
    by_cases h1 : 1 ≤ s.f0 ∧ s.f0 ≤ 30
    case neg =>
      rw [decide_eq_false h1, if_neg (by decide), tensileref09_Fault.j2, if_pos rfl, if_neg (fun h => h1 (by have := (hc.1 h).1; omega))]
    rw [decide_eq_true h1, if_pos rfl, show wrap64 (t + s.f0) = t + s.f0 by unfold wrap64; omega]
    by_cases h2 : t + s.f0 ≤ a
    case neg =>
      rw [decide_eq_true (by omega), tensileref09_Fault.j2, if_pos rfl, if_neg (fun h => h2 (hc.1 h).1.2)]
    rw [decide_eq_false (by omega), tensileref09_Fault.j2, if_neg (by decide), In_f, Option.bind_some, show wrap64 (t + s.f0) = t + s.f0 by unfold wrap64; omega, show wrap64 (t + s.f0 + 1) = t + s.f0 + 1 by unfold wrap64; omega]
    by_cases h3 : -1 ≤ s.f1 ∧ s.f1 ≤ 30
    case neg =>
      rw [decide_eq_false h3, if_neg (by decide), tensileref09_Fault.j3, if_pos rfl, if_neg (fun h => h3 (by have := (hc.1 h).2.1; omega))]
    rw [decide_eq_true h3, if_pos rfl]
    by_cases h4 : s.f1 < s.f2
    case neg =>
      rw [if_pos (by omega), tensileref09_Fault.j3, if_pos rfl, if_neg (fun h => h4 (hc.1 h).2.1.2.1)]
    rw [if_neg (by omega)]
    by_cases h5 : s.f2 ≤ t + s.f0 + 1
    case neg =>
      rw [decide_eq_true (by omega), tensileref09_Fault.j3, if_pos rfl, if_neg (fun h => h5 (hc.1 h).2.1.2.2.1)]
    rw [decide_eq_false (by omega), hj3]
    by_cases h6 : pre ≠ [] → pa ≤ s.f1 ∧ pr ≤ s.f2
    case neg =>
      rw [if_neg h6, if_neg (fun h => h6 (fun _ => ⟨(hc.1 h).2.1.1, (hc.1 h).2.1.2.2.2⟩))]
    have h6' : pa ≤ s.f1 ∧ pr ≤ s.f2 := by
      rcases hp with ⟨rfl, rfl, rfl⟩ | ⟨pre', p, rfl, rfl, rfl⟩
      · omega
      · exact h6 (by simp)
    rw [if_pos h6, hmid]
    have e7 : wrap64 (s.f1 + 1) = s.f1 + 1 := by unfold wrap64; omega
    rw [e7]
    by_cases h7 : suf = [] → s.f2 = s.f1 + 1
    case neg => rw [if_neg h7, if_neg (fun h => h7 (hc.1 h).2.2.1)]
    rw [if_pos h7, hrec _ (by simp at hk; omega) h2 h1.1 h3.1 (by omega)]
    congr 1
    exact if_iff ⟨fun h => hc.2 ⟨⟨h1.1, h2⟩, ⟨h6'.1, h4, h5, h6'.2⟩, h7, h⟩, fun h => (hc.1 h).2.2.2⟩

theorem chk_max (lot t : Int) : ∀ (l : List Stg) (t : Int) (last : Stg), last.accept = 9223372036854775807 → 0 ≤ last.reject → (∀ s ∈ l, s.accept ≤ 9223372036854775807) → Hand.chk lot t last l = 1
  | [], t, last, h, h2, _ => by
    unfold Hand.chk
    rw [h, if_neg (by unfold wrap64; omega)]
  | s :: l, t, last, h, h2, h3 => by
    unfold Hand.chk
    split; · rfl
    split; · rfl
    split; · rfl
    split
    · exact chk_max lot t l _ s (by have := h3 s (by simp); omega) (by omega) (fun x hx => h3 x (by simp [hx]))
    · rfl

open Classical in
theorem chk_good (lot : Int) (hl : lot ≤ 30) : ∀ (l : List Stg) (t : Int) (last : Stg), 0 ≤ t → t ≤ lot → -1 ≤ last.accept → 0 ≤ last.reject → (∀ s ∈ l, 1 ≤ s.take ∧ s.accept ≤ 9223372036854775807) → (l = [] → last.reject = last.accept + 1) → last.accept ≤ 30 →
    Hand.chk lot t last l = if good lot t last.accept last.reject l then 0 else 1
  | [], t, last, _, _, h1, _, _, h2, h3 => by
    have h2 := h2 rfl
    unfold Hand.chk good
    rw [if_pos trivial, h2, if_pos (by unfold wrap64; omega)]
  | s :: l, t, last, ht, ht2, h1, h2, h3, _, h4 => by
    obtain ⟨k1, k2⟩ := h3 s (by simp)
    have h3' : ∀ s ∈ l, 1 ≤ s.take ∧ s.accept ≤ 9223372036854775807 := fun x hx => h3 x (by simp [hx])
    unfold Hand.chk
    by_cases c1 : lot - t < s.take
    · rw [if_pos c1, if_neg (fun h => by have := h.1.2; omega)]
    rw [if_neg c1]
    by_cases c2 : s.accept < last.accept
    · rw [if_pos c2, if_neg (fun h => by have := h.2.1.1; omega)]
    rw [if_neg c2]
    by_cases c3 : s.reject < last.reject
    · rw [if_pos c3, if_neg (fun h => by have := h.2.1.2.2.2; omega)]
    rw [if_neg c3]
    by_cases c5 : s.accept = 9223372036854775807
    · have : ¬ good lot t last.accept last.reject (s :: l) := fun h => by have := h.2.1.2; omega
      rw [if_neg this]
      split
      · exact chk_max lot t l _ s c5 (by omega) (fun x hx => (h3' x hx).2)
      · rfl
    have e : wrap64 (s.accept + 1) = s.accept + 1 := by unfold wrap64; omega
    rw [e]
    by_cases c4 : s.accept + 1 ≤ s.reject ∧ s.reject ≤ t + s.take + 1
    case neg => rw [if_neg c4, if_neg (fun h => c4 (by have := h.2.1.2; omega))]
    rw [if_pos c4]
    by_cases c6 : l = [] → s.reject = s.accept + 1
    case neg =>
      rw [if_neg (fun h => c6 h.2.2.1)]
      obtain rfl : l = [] := Classical.byContradiction fun h => c6 (fun h' => absurd h' h)
      unfold Hand.chk
      rw [e, if_neg (fun h => c6 (fun _ => h))]
    rw [chk_good lot hl l (t + s.take) s (by omega) (by omega) (by omega) (by omega) h3' c6 (by omega)]
    exact if_iff ⟨fun h => ⟨⟨k1, by omega⟩, ⟨by omega, by omega, c4.2, by omega⟩, c6, h⟩, fun h => h.2.2.2⟩

theorem fault_f (a : Int) (l : List S57) (ha : Fits a) (hl : ∀ s ∈ l, Fits s.f0 ∧ Fits s.f1 ∧ Fits s.f2) (hlen : l.length ≤ 5) (k : Nat) (hk : 30 ≤ k) :
    tensileref09_Fault.f k a l = some (Hand.checkPlan a (l.map cSt)) := by
  classical
  unfold tensileref09_Fault.f Hand.checkPlan
  rw [List.length_map]
  by_cases h3 : 3 < l.length
  · rw [if_pos h3, if_pos (by omega)]
  rw [if_neg h3, if_neg (by omega), In_f, Option.bind_some]
  obtain ⟨k, rfl⟩ : ∃ m, k = m + 1 := ⟨k - 1, by omega⟩
  by_cases h1 : 1 ≤ a ∧ a ≤ 30
  case neg => rw [decide_eq_false h1, if_neg (by decide), tensileref09_Fault.j0, if_pos rfl, if_neg (fun h => h1 ⟨h.1, h.2.1⟩)]
  rw [decide_eq_true h1, if_pos rfl]
  by_cases h2 : l.length = 0
  · rw [tensileref09_Fault.j0, if_pos (by simp [h2]), if_neg (fun h => h.2.2.1 h2)]
  have e0 : ((l.length : Int) == 0) = false := by simpa using (by omega : ¬ ((l.length : Int) = 0))
  rw [tensileref09_Fault.j0, e0, if_neg (by decide)]
  have := fault_l0 a h1.2 l [] k 0 (-1) 0 (by omega) (by simpa using (by omega : l.length ≤ 3)) (by omega) (by omega) (.inl ⟨rfl, rfl, rfl⟩) (by omega) (by omega) hl
  have e1 : (([] : List S57).length : Int) = 0 := rfl
  rw [e1, List.nil_append] at this
  rw [this]
  congr 1
  by_cases h4 : (l.map cSt).all (fun s => decide (1 ≤ s.take)) = true
  · rw [if_pos (show 1 ≤ a ∧ a ≤ 30 ∧ l.length ≠ 0 ∧ (l.map cSt).all (fun s => decide (1 ≤ s.take)) = true from ⟨h1.1, h1.2, h2, h4⟩)]
    refine (chk_good a h1.2 (l.map cSt) 0 ⟨0, -1, 0⟩ (by omega) (by omega) (by decide) (by decide) ?_ (fun h => ?_) (by decide)).symm
    · intro s hs
      refine ⟨by simpa using List.all_eq_true.1 h4 s hs, ?_⟩
      obtain ⟨x, hx, rfl⟩ := List.mem_map.1 hs
      exact (fits_in (hl x hx).2.1).2
    · rw [List.map_eq_nil_iff] at h
      exact absurd (by simp [h]) h2
  · rw [if_neg (show ¬ (1 ≤ a ∧ a ≤ 30 ∧ l.length ≠ 0 ∧ (l.map cSt).all (fun s => decide (1 ≤ s.take)) = true) from fun h => h4 h.2.2.2), if_neg]
    intro h
    refine h4 (List.all_eq_true.2 fun s hs => ?_)
    simpa using good_take h s hs
end Go.Proofs.Ytigpnafpdmdmhaa.Pure

namespace Go.Proofs.Ytigpnafpdmdmhaa.Ma

/-- A sum. -/
def sm : Nat → (Nat → Nat) → Nat
  | 0, _ => 0
  | k + 1, f => sm k f + f k

theorem sm_congr {f g : Nat → Nat} : ∀ {k : Nat}, (∀ i, i < k → f i = g i) → sm k f = sm k g
  | 0, _ => rfl
  | k + 1, h => by rw [sm, sm, sm_congr (k := k) (fun i hi => h i (by omega)), h k (by omega)]

theorem sm_le {f g : Nat → Nat} : ∀ {k : Nat}, (∀ i, i < k → f i ≤ g i) → sm k f ≤ sm k g
  | 0, _ => Nat.le_refl _
  | k + 1, h => by
    rw [sm, sm]
    exact Nat.add_le_add (sm_le (k := k) (fun i hi => h i (by omega))) (h k (by omega))

theorem sm_add (f g : Nat → Nat) : ∀ k : Nat, sm k (fun i => f i + g i) = sm k f + sm k g
  | 0 => rfl
  | k + 1 => by rw [sm, sm, sm, sm_add f g k]; omega

theorem sm_mul (c : Nat) (f : Nat → Nat) : ∀ k : Nat, sm k (fun i => c * f i) = c * sm k f
  | 0 => rfl
  | k + 1 => by rw [sm, sm, sm_mul c f k, Nat.mul_add]

theorem sm_head (f : Nat → Nat) : ∀ k : Nat, sm (k + 1) f = f 0 + sm k (fun i => f (i + 1))
  | 0 => by simp [sm]
  | k + 1 => by
    have := sm_head f k
    rw [sm, this, sm]
    omega

/-- How many choices of some out of more. -/
def ch : Nat → Nat → Nat
  | _, 0 => 1
  | 0, _ + 1 => 0
  | n + 1, k + 1 => ch n k + ch n (k + 1)

theorem ch_zero : ∀ n, ch n 0 = 1 := by intro n; cases n <;> rfl
theorem ch_above : ∀ (n k : Nat), n < k → ch n k = 0
  | 0, 0, h => absurd h (by omega)
  | 0, _ + 1, _ => rfl
  | _ + 1, 0, h => absurd h (by omega)
  | n + 1, k + 1, h => by rw [ch, ch_above n k (by omega), ch_above n (k + 1) (by omega)]
theorem ch_pos : ∀ (n k : Nat), k ≤ n → 0 < ch n k
  | _, 0, _ => by rw [ch_zero]; omega
  | 0, _ + 1, h => absurd h (by omega)
  | n + 1, k + 1, h => by rw [ch]; have := ch_pos n k (by omega); omega

/-- The sum over the numbers of bad ones among k that are taken of B bad ones and g good ones. -/
def sw (B g k : Nat) (H : Nat → Nat) : Nat := sm (k + 1) (fun n => ch B n * ch g (k - n) * H n)

theorem sw_congr {B g k : Nat} {H H' : Nat → Nat} (h : ∀ n, n ≤ k → n ≤ B → k ≤ n + g → H n = H' n) : sw B g k H = sw B g k H' := by
  unfold sw
  refine sm_congr fun n hn => ?_
  by_cases h1 : n ≤ B
  · by_cases h2 : k ≤ n + g
    · rw [h n (by omega) h1 h2]
    · rw [ch_above g (k - n) (by omega)]; simp
  · rw [ch_above B n (by omega)]; simp

theorem sw_le {B g k : Nat} {H H' : Nat → Nat} (h : ∀ n, n ≤ k → n ≤ B → k ≤ n + g → H n ≤ H' n) : sw B g k H ≤ sw B g k H' := by
  unfold sw
  refine sm_le fun n hn => ?_
  by_cases h1 : n ≤ B
  · by_cases h2 : k ≤ n + g
    · exact Nat.mul_le_mul_left _ (h n (by omega) h1 h2)
    · rw [ch_above g (k - n) (by omega)]; simp
  · rw [ch_above B n (by omega)]; simp

theorem sw_mul (B g k c : Nat) (H : Nat → Nat) : sw B g k (fun n => c * H n) = c * sw B g k H := by
  unfold sw
  rw [← sm_mul]
  exact sm_congr fun n _ => by rw [← Nat.mul_assoc, ← Nat.mul_assoc, Nat.mul_comm c]; 

theorem sw_zero (B g : Nat) (H : Nat → Nat) : sw B g 0 H = H 0 := by
  unfold sw
  simp [sm, ch_zero]

theorem sw_bad (B g k : Nat) (H : Nat → Nat) : sw (B + 1) g (k + 1) H = sw B g (k + 1) H + sw B g k (fun n => H (n + 1)) := by
  unfold sw
  rw [sm_head, sm_head (fun n => ch B n * ch g (k + 1 - n) * H n), ch_zero, ch_zero, Nat.add_assoc, ← sm_add]
  congr 1
  refine sm_congr fun n hn => ?_
  rw [ch, show k + 1 - (n + 1) = k - n by omega, Nat.add_mul, Nat.add_mul, Nat.add_comm]

theorem sw_good (B g k : Nat) (H : Nat → Nat) : sw B (g + 1) (k + 1) H = sw B g (k + 1) H + sw B g k H := by
  unfold sw
  rw [sm, sm.eq_def (k + 1 + 1)]
  simp only [Nat.sub_self, ch_zero, Nat.mul_one]
  have e : sm (k + 1) (fun n => ch B n * ch (g + 1) (k + 1 - n) * H n) = sm (k + 1) (fun n => ch B n * ch g (k + 1 - n) * H n) + sm (k + 1) (fun n => ch B n * ch g (k - n) * H n) := by
    rw [← sm_add]
    refine sm_congr fun n hn => ?_
    rw [show k + 1 - n = (k - n) + 1 by omega, ch, Nat.mul_add, Nat.add_mul, Nat.add_comm]
  rw [e]
  omega

/-- Vandermonde. -/
theorem sw_const (c : Nat) : ∀ (B g k : Nat), sw B g k (fun _ => c) = ch (B + g) k * c
  | B, g, 0 => by rw [sw_zero, ch_zero, Nat.one_mul]
  | 0, 0, k + 1 => by
    rw [ch_above 0 (k + 1) (by omega), Nat.zero_mul]
    unfold sw
    have : ∀ n, n < k + 1 + 1 → ch 0 n * ch 0 (k + 1 - n) * c = 0 * c := fun n hn => by
      cases n with
      | zero => rw [ch_above 0 (k + 1 - 0) (by omega)]; simp
      | succ n => rw [ch_above 0 (n + 1) (by omega)]; simp
    rw [sm_congr (g := fun _ => 0 * c) this]
    simp only [Nat.zero_mul]
    have z : ∀ m, sm m (fun _ => 0) = 0 := fun m => by induction m with
      | zero => rfl
      | succ m ih => rw [sm, ih]
    exact z _
  | 0, g + 1, k + 1 => by
    rw [sw_good, sw_const c 0 g (k + 1), sw_const c 0 g k, ← Nat.add_assoc, ch, Nat.add_mul, Nat.add_comm]
  | B + 1, g, k + 1 => by
    rw [sw_bad, sw_const c B g (k + 1), sw_const c B g k, show B + 1 + g = (B + g) + 1 by omega, ch, Nat.add_mul, Nat.add_comm]
termination_by B g k => B + g + k

end Go.Proofs.Ytigpnafpdmdmhaa.Ma

namespace Go.Proofs.Ytigpnafpdmdmhaa.Ma
open Hand (Stg Cnt saysV tri lastDec fits)

theorem tri_ch : ∀ n k, tri n k = (ch n k : Int)
  | _, 0 => by rw [Hand.tri_zero, ch_zero]; rfl
  | 0, _ + 1 => rfl
  | n + 1, k + 1 => by rw [tri, ch, tri_ch n k, tri_ch n (k + 1)]; omega

/-- How many draws there are of the stages, out of L pieces. -/
def rest : List Stg → Nat → Nat
  | [], _ => 1
  | s :: l, L => ch L s.take.toNat * rest l (L - s.take.toNat)

/-- The pieces of stages. -/
def tot : List Stg → Nat
  | [] => 0
  | s :: l => s.take.toNat + tot l

/-- The sum over all draws from a stage on of what an acceptance (al) or a rejection (rj) by so many pieces bears. -/
def cg (al rj : Nat → Nat → Nat) : List Stg → Nat → Nat → Nat → Nat → Nat
  | [], _, _, _, _ => 0
  | s :: l, L, B, f, t => sw B (L - B) s.take.toNat fun n =>
    if ((f + n : Nat) : Int) ≤ s.accept then al (t + s.take.toNat) (rest l (L - s.take.toNat))
    else if s.reject ≤ ((f + n : Nat) : Int) then rj (t + s.take.toNat) (rest l (L - s.take.toNat))
    else cg al rj l (L - s.take.toNat) (B - n) (f + n) (t + s.take.toNat)

def cA := cg (fun _ r => r) (fun _ _ => 0)
def cP := cg (fun t r => t * r) (fun t r => t * r)
def cD := cg (fun _ r => r) (fun _ r => r)

theorem cg_le {al rj al' rj' : Nat → Nat → Nat} (h1 : ∀ t r, al t r ≤ al' t r) (h2 : ∀ t r, rj t r ≤ rj' t r) : ∀ (l : List Stg) (L B f t : Nat), cg al rj l L B f t ≤ cg al' rj' l L B f t
  | [], _, _, _, _ => Nat.le_refl _
  | s :: l, L, B, f, t => by
    unfold cg
    refine sw_le fun n _ _ _ => ?_
    split
    · exact h1 _ _
    · split
      · exact h2 _ _
      · exact cg_le h1 h2 l _ _ _ _

theorem cg_mul (c : Nat) (al rj : Nat → Nat → Nat) : ∀ (l : List Stg) (L B f t : Nat), cg (fun t r => c * al t r) (fun t r => c * rj t r) l L B f t = c * cg al rj l L B f t
  | [], _, _, _, _ => rfl
  | s :: l, L, B, f, t => by
    unfold cg
    rw [← sw_mul]
    refine sw_congr fun n _ _ _ => ?_
    split
    · rfl
    · split
      · rfl
      · exact cg_mul c al rj l _ _ _ _

theorem lastDec_tail {s s' : Stg} {l : List Stg} (h : lastDec (s :: s' :: l)) : lastDec (s' :: l) := h

theorem cD_rest : ∀ (l : List Stg) (L B f t : Nat), l ≠ [] → lastDec l → B ≤ L → cD l L B f t = rest l L
  | [], _, _, _, _, h, _, _ => absurd rfl h
  | s :: l, L, B, f, t, _, hd, hB => by
    have e : cD (s :: l) L B f t = sw B (L - B) s.take.toNat fun _ => rest l (L - s.take.toNat) := by
      show cg _ _ (s :: l) L B f t = _
      unfold cg
      refine sw_congr fun n h1 h2 h3 => ?_
      split
      · rfl
      · split
        · rfl
        · rename_i h4 h5
          cases l with
          | nil => exact absurd (show saysV s ((f + n : Nat) : Int) = 3 by unfold saysV; rw [if_neg h4, if_neg h5]) (Hand.lastDec_open hd)
          | cons s' l => exact cD_rest (s' :: l) _ _ _ _ (by simp) hd (by omega)
    rw [e, sw_const, show B + (L - B) = L by omega]
    rfl

theorem cA_le (l : List Stg) (L B f t : Nat) : cA l L B f t ≤ cD l L B f t := cg_le (fun _ _ => Nat.le_refl _) (fun _ _ => Nat.zero_le _) l L B f t

theorem cP_le : ∀ (l : List Stg) (L B f t T : Nat), t + tot l ≤ T → cP l L B f t ≤ T * cD l L B f t
  | [], _, _, _, _, _, _ => Nat.zero_le _
  | s :: l, L, B, f, t, T, h => by
    have h' : t + s.take.toNat + tot l ≤ T := by unfold tot at h; omega
    show cg _ _ (s :: l) L B f t ≤ T * cg _ _ (s :: l) L B f t
    unfold cg
    rw [← sw_mul]
    refine sw_le fun n _ _ _ => ?_
    split
    · exact Nat.mul_le_mul_right _ (by omega)
    · split
      · exact Nat.mul_le_mul_right _ (by omega)
      · exact cP_le l _ _ _ _ T h'

theorem cP_ge : ∀ (l : List Stg) (L B f t T : Nat), (∀ s l', l = s :: l' → T ≤ t + s.take.toNat) → T * cD l L B f t ≤ cP l L B f t
  | [], _, _, _, _, _, _ => Nat.le_refl _
  | s :: l, L, B, f, t, T, h => by
    have h' := h s l rfl
    show T * cg _ _ (s :: l) L B f t ≤ cg _ _ (s :: l) L B f t
    unfold cg
    rw [← sw_mul]
    refine sw_le fun n _ _ _ => ?_
    split
    · exact Nat.mul_le_mul_right _ (by omega)
    · split
      · exact Nat.mul_le_mul_right _ (by omega)
      · exact cP_ge l _ _ _ _ T (fun s' l' _ => by omega)

/-! ### Bounds -/
def rowN : Nat → List Nat
  | 0 => [1]
  | n + 1 => 1 :: (List.zipWith (· + ·) (rowN n) ((rowN n).tail ++ [0]))
theorem rowN_length : ∀ n, (rowN n).length = n + 1
  | 0 => rfl
  | n + 1 => by simp [rowN, rowN_length n]
theorem rowN_ch : ∀ n k, k ≤ n → (rowN n)[k]? = some (ch n k)
  | 0, 0, _ => rfl
  | 0, _ + 1, h => absurd h (by omega)
  | n + 1, 0, _ => by simp [rowN, ch_zero]
  | n + 1, k + 1, h => by
    have hl := rowN_length n
    rw [rowN, List.getElem?_cons_succ, List.getElem?_zipWith, rowN_ch n k (by omega)]
    by_cases h1 : k + 1 ≤ n
    · rw [List.getElem?_append_left (by simp [hl]; omega), List.getElem?_tail, rowN_ch n (k + 1) h1]
      rfl
    · rw [List.getElem?_append_right (by simp [hl]; omega)]
      have : k - (rowN n).tail.length = 0 := by simp [hl]; omega
      rw [this]
      have h2 := ch_above n (k + 1) (by omega)
      simp [ch, h2]

/-- All of a row of the triangle, times some function of what is left, is at most M. -/
def rowB (n : Nat) (g : Nat → Nat) (M : Nat) : Bool := ((rowN n).zipIdx).all fun x => decide (x.1 * g (n - x.2) ≤ M)
theorem rowB_ch {n M : Nat} {g : Nat → Nat} (h : rowB n g M = true) (k : Nat) : ch n k * g (n - k) ≤ M := by
  by_cases hk : k ≤ n
  · have h1 := rowN_ch n k hk
    have h2 := List.all_eq_true.1 h (ch n k, k) (List.mem_iff_getElem?.2 ⟨k, by simp [h1]⟩)
    exact of_decide_eq_true h2
  · rw [ch_above n k (by omega)]; simp

def b1 : List Nat := [1, 1, 2, 3, 6, 10, 20, 35, 70, 126, 252, 462, 924, 1716, 3432, 6435, 12870, 24310, 48620, 92378, 184756, 352716, 705432, 1352078, 2704156, 5200300, 10400600, 20058300, 40116600, 77558760, 155117520]
def b2 : List Nat := [1, 1, 2, 6, 12, 30, 90, 210, 560, 1680, 4200, 11550, 34650, 90090, 252252, 756756, 2018016, 5717712, 17153136, 46558512, 133024320, 399072960, 1097450640, 3155170590, 9465511770, 26293088250, 75957810500, 227873431500, 638045608200, 1850332263780, 5550996791340]
def b3 : List Nat := [1, 1, 2, 6, 24, 60, 180, 630, 2520, 7560, 25200, 92400, 369600, 1201200, 4204200, 15765750, 63063000, 214414200, 771891120, 2933186256, 11732745024, 41064607584, 150570227808, 577185873264, 2308743493056, 8245512475200, 30626189193600, 118129586889600, 472518347558400, 1712879009899200, 6423296287122000]
theorem b1_ok : ∀ n, n < 31 → rowB n (fun _ => 1) (b1.getD n 0) = true := by decide +kernel
theorem b2_ok : ∀ n, n < 31 → rowB n (fun m => b1.getD m 0) (b2.getD n 0) = true := by decide +kernel
theorem b3_ok : ∀ n, n < 31 → rowB n (fun m => b2.getD m 0) (b3.getD n 0) = true := by decide +kernel
theorem b3_le : ∀ n, n < 31 → b3.getD n 0 ≤ 6430000000000000 := by decide +kernel

theorem rest1 (l : List Stg) (L : Nat) (hL : L < 31) (hl : l.length ≤ 1) : rest l L ≤ b1.getD L 0 := by
  match l, hl with
  | [], _ =>
    have := rowB_ch (b1_ok L hL) 0
    rw [ch_zero] at this
    exact this
  | [s], _ => exact rowB_ch (b1_ok L hL) s.take.toNat
theorem rest2 (l : List Stg) (L : Nat) (hL : L < 31) (hl : l.length ≤ 2) : rest l L ≤ b2.getD L 0 := by
  match l, hl with
  | [], _ =>
    have h1 := rowB_ch (b2_ok L hL) 0
    have h2 := rest1 [] L hL (by simp)
    rw [ch_zero, Nat.one_mul, Nat.sub_zero] at h1
    exact Nat.le_trans h2 h1
  | s :: l, h =>
    have h1 := rowB_ch (b2_ok L hL) s.take.toNat
    have h2 := rest1 l (L - s.take.toNat) (by omega) (by simpa using h)
    exact Nat.le_trans (Nat.mul_le_mul_left _ h2) h1
theorem rest3 (l : List Stg) (L : Nat) (hL : L < 31) (hl : l.length ≤ 3) : rest l L ≤ b3.getD L 0 := by
  match l, hl with
  | [], _ =>
    have h1 := rowB_ch (b3_ok L hL) 0
    have h2 := rest2 [] L hL (by simp)
    rw [ch_zero, Nat.one_mul, Nat.sub_zero] at h1
    exact Nat.le_trans h2 h1
  | s :: l, h =>
    have h1 := rowB_ch (b3_ok L hL) s.take.toNat
    have h2 := rest2 l (L - s.take.toNat) (by omega) (by simpa using h)
    exact Nat.le_trans (Nat.mul_le_mul_left _ h2) h1
theorem rest_le (l : List Stg) (L : Nat) (hL : L ≤ 30) (hl : l.length ≤ 3) : rest l L ≤ 6430000000000000 :=
  Nat.le_trans (rest3 l L (by omega) hl) (b3_le L (by omega))

theorem rest_pos : ∀ (l : List Stg) (L t : Nat), fits L t l → ∀ m, m = L - t → 0 < rest l m
  | [], _, _, _, _, _ => Nat.one_pos
  | s :: l, L, t, h, m, hm => by
    obtain ⟨h1, h2, h3⟩ := h
    exact Nat.mul_pos (ch_pos _ _ (by omega)) (rest_pos l L _ h3 _ (by omega))

theorem fits_tot : ∀ (l : List Stg) (L t : Nat), t ≤ L → fits L t l → t + tot l ≤ L
  | [], _, _, ht, _ => ht
  | s :: l, L, t, _, h => by
    obtain ⟨h1, h2, h3⟩ := h
    have := fits_tot l L _ h2 h3
    unfold tot
    omega
end Go.Proofs.Ytigpnafpdmdmhaa.Ma

namespace Go.Proofs.Ytigpnafpdmdmhaa.Ma
open Hand (Stg Cnt saysV tri lastDec fits drList drVal drLo cntW decided restW Valid)
open Go.RowKit

theorem w_mod (x : Int) : ∃ q : Int, wrap64 x = x + q * 18446744073709551616 := by
  unfold wrap64; exact ⟨-((x + 9223372036854775808) / 18446744073709551616), by omega⟩
theorem w_eq {x y : Int} (q : Int) (h : x = y + q * 18446744073709551616) : wrap64 x = wrap64 y := by
  subst h; unfold wrap64; omega
theorem w_add (x y : Int) : wrap64 (wrap64 x + wrap64 y) = wrap64 (x + y) := by
  obtain ⟨a, ha⟩ := w_mod x
  obtain ⟨b, hb⟩ := w_mod y
  exact w_eq (a + b) (by rw [ha, hb, Int.add_mul]; omega)
theorem w_mul (x y : Int) : wrap64 (wrap64 x * wrap64 y) = wrap64 (x * y) := by
  obtain ⟨a, ha⟩ := w_mod x
  obtain ⟨b, hb⟩ := w_mod y
  refine w_eq (a * wrap64 y + x * b) ?_
  rw [ha, Int.add_mul]
  conv => lhs; lhs; rw [hb, Int.mul_add]
  rw [Int.add_mul, ← Int.mul_assoc x b, Int.mul_right_comm a]
  omega
theorem w_mulr (x y : Int) : wrap64 (x * wrap64 y) = wrap64 (x * y) := by
  rw [Int.mul_comm, Hand.mul_mod, Int.mul_comm]
theorem w_id {x : Int} (h1 : -9223372036854775808 ≤ x) (h2 : x ≤ 9223372036854775807) : wrap64 x = x := by unfold wrap64; omega

theorem w_nat {x : Int} (n : Nat) (h : x = n) (hn : n ≤ 100000) : wrap64 x = n := by
  subst h
  exact w_id (by omega) (by omega)
theorem restW_rest (lot : Nat) : ∀ (l : List Stg) (t : Nat), restW lot t l = wrap64 (rest l (lot - t) : Int)
  | [], _ => by unfold restW rest wrap64; omega
  | s :: l, t => by
    rw [restW, restW_rest lot l, rest, tri_ch, w_mulr, Nat.sub_sub]
    simp

/-- Counts in the machine's words. -/
def wc (a p d : Nat) : Cnt := ⟨wrap64 (a : Int), wrap64 (p : Int), wrap64 (d : Int)⟩

theorem wc_zero : wc 0 0 0 = ⟨0, 0, 0⟩ := by
  have w0 : wrap64 ((0 : Nat) : Int) = 0 := by unfold wrap64; omega
  unfold wc
  rw [w0]
theorem add_wc (a p d m a' p' d' : Nat) : (wc a p d).add (wrap64 (m : Int)) (wc a' p' d') = wc (a + m * a') (p + m * p') (d + m * d') := by
  have h : ∀ x y : Nat, wrap64 (wrap64 (x : Int) + wrap64 (wrap64 (m : Int) * wrap64 (y : Int))) = wrap64 ((x + m * y : Nat) : Int) := fun x y => by
    rw [w_mul, w_add]; simp
  unfold Cnt.add wc
  simp only [h]

theorem foldl_wc (p x y z : Nat → Nat) : ∀ (m s a b c : Nat),
    (List.range' s m).foldl (fun o n => o.add (wrap64 (p n : Int)) (wc (x n) (y n) (z n))) (wc a b c) =
      wc (a + sm m (fun i => p (s + i) * x (s + i))) (b + sm m (fun i => p (s + i) * y (s + i))) (c + sm m (fun i => p (s + i) * z (s + i)))
  | 0, _, _, _, _ => rfl
  | m + 1, s, a, b, c => by
    rw [List.range'_succ, List.foldl_cons, add_wc, foldl_wc p x y z m (s + 1)]
    have h : ∀ q : Nat → Nat, ∀ v : Nat, v + p s * q s + sm m (fun i => p (s + 1 + i) * q (s + 1 + i)) = v + sm (m + 1) (fun i => p (s + i) * q (s + i)) := fun q v => by
      rw [sm_head, Nat.add_zero, Nat.add_assoc]
      congr 2
      exact sm_congr fun i _ => by rw [Nat.add_assoc, Nat.add_comm 1]
    rw [h, h, h]

theorem sm_split (f : Nat → Nat) (a : Nat) : ∀ m, sm (a + m) f = sm a f + sm m (fun i => f (a + i))
  | 0 => rfl
  | m + 1 => by rw [← Nat.add_assoc, sm, sm_split f a m, sm, Nat.add_assoc]
theorem sm_null {f : Nat → Nat} {k : Nat} (h : ∀ i, i < k → f i = 0) : sm k f = 0 := by
  induction k with
  | zero => rfl
  | succ k ih => rw [sm, ih (fun i hi => h i (by omega)), h k (by omega)]

theorem sw_dr (B g k : Nat) (H : Nat → Nat) : sm (min k B + 1 - (k - g)) (fun i => ch B (k - g + i) * ch g (k - (k - g + i)) * H (k - g + i)) = sw B g k H := by
  unfold sw
  have lo : ∀ n, n < k - g → ch B n * ch g (k - n) * H n = 0 := fun n hn => by rw [ch_above g (k - n) (by omega)]; simp
  have hi : ∀ n, B < n → ch B n * ch g (k - n) * H n = 0 := fun n hn => by rw [ch_above B n hn]; simp
  by_cases h : k - g ≤ min k B
  · obtain ⟨m, hm⟩ : ∃ m, k + 1 = (k - g) + ((min k B + 1 - (k - g)) + m) := ⟨k + 1 - (min k B + 1), by omega⟩
    conv => rhs; rw [hm, sm_split, sm_split]
    rw [sm_null (k := k - g) (fun i hi' => lo i hi'), sm_null (k := m) (fun i hi' => hi _ (by omega))]
    omega
  · rw [show min k B + 1 - (k - g) = 0 by omega]
    refine Eq.symm (sm_null fun i hi' => ?_)
    by_cases h1 : i < k - g
    · exact lo i h1
    · exact hi i (by omega)

theorem fold_sw (B g k : Nat) (x y z : Nat → Nat) : (List.range' (k - g) (min k B + 1 - (k - g))).foldl (fun o n => o.add (wrap64 ((ch B n * ch g (k - n) : Nat) : Int)) (wc (x n) (y n) (z n))) ⟨0, 0, 0⟩ = wc (sw B g k x) (sw B g k y) (sw B g k z) := by
  rw [← wc_zero, foldl_wc (fun n => ch B n * ch g (k - n)), ← sw_dr B g k x, ← sw_dr B g k y, ← sw_dr B g k z, Nat.zero_add, Nat.zero_add, Nat.zero_add]
theorem decided_wc (lot : Nat) (s : Stg) (l : List Stg) (tk f : Nat) (a p d : Nat) :
    decided lot s l tk (f : Int) (wc a p d) = wc
      (if (f : Int) ≤ s.accept then rest l (lot - tk) else if s.reject ≤ (f : Int) then 0 else a)
      (if (f : Int) ≤ s.accept then tk * rest l (lot - tk) else if s.reject ≤ (f : Int) then tk * rest l (lot - tk) else p)
      (if (f : Int) ≤ s.accept then rest l (lot - tk) else if s.reject ≤ (f : Int) then rest l (lot - tk) else d) := by
  have e : wrap64 ((tk : Int) * restW lot tk l) = wrap64 ((tk * rest l (lot - tk) : Nat) : Int) := by
    rw [restW_rest, w_mulr]; simp
  unfold decided saysV
  rw [e, restW_rest]
  have w0 : wrap64 ((0 : Nat) : Int) = 0 := by unfold wrap64; omega
  have n1 : ¬ ((2 : Int) = 1) := by decide
  have n2 : ¬ ((3 : Int) = 1) := by decide
  have n3 : ¬ ((3 : Int) = 2) := by decide
  by_cases h1 : (f : Int) ≤ s.accept
  · simp only [if_pos h1, wc]; rfl
  · by_cases h2 : s.reject ≤ (f : Int)
    · simp only [if_neg h1, if_pos h2, if_neg n1, wc, w0]; rfl
    · simp only [if_neg h1, if_neg h2, if_neg n2, if_neg n3]

theorem cntW_wc (lot bad : Nat) : ∀ (l : List Stg) (t b : Nat), cntW lot bad l t b = wc (cA l (lot - t) (bad - b) b t) (cP l (lot - t) (bad - b) b t) (cD l (lot - t) (bad - b) b t)
  | [], _, _ => wc_zero.symm
  | s :: l, t, b => by
    unfold cntW drList
    rw [List.foldl_map]
    have e : ∀ (o : Cnt) (n : Nat), o.add (drVal s.take.toNat (lot - t) (bad - b) n).2 (decided lot s l (t + s.take.toNat) ((b : Int) + (drVal s.take.toNat (lot - t) (bad - b) n).1) (cntW lot bad l (t + s.take.toNat) (b + (drVal s.take.toNat (lot - t) (bad - b) n).1.toNat)))
        = o.add (wrap64 ((ch (bad - b) n * ch (lot - t - (bad - b)) (s.take.toNat - n) : Nat) : Int)) (wc
          (if ((b + n : Nat) : Int) ≤ s.accept then rest l (lot - t - s.take.toNat) else if s.reject ≤ ((b + n : Nat) : Int) then 0 else cA l (lot - t - s.take.toNat) (bad - b - n) (b + n) (t + s.take.toNat))
          (if ((b + n : Nat) : Int) ≤ s.accept then (t + s.take.toNat) * rest l (lot - t - s.take.toNat) else if s.reject ≤ ((b + n : Nat) : Int) then (t + s.take.toNat) * rest l (lot - t - s.take.toNat) else cP l (lot - t - s.take.toNat) (bad - b - n) (b + n) (t + s.take.toNat))
          (if ((b + n : Nat) : Int) ≤ s.accept then rest l (lot - t - s.take.toNat) else if s.reject ≤ ((b + n : Nat) : Int) then rest l (lot - t - s.take.toNat) else cD l (lot - t - s.take.toNat) (bad - b - n) (b + n) (t + s.take.toNat))) := fun o n => by
      have h1 : (drVal s.take.toNat (lot - t) (bad - b) n).1 = (n : Int) := rfl
      have h2 : (drVal s.take.toNat (lot - t) (bad - b) n).2 = wrap64 ((ch (bad - b) n * ch (lot - t - (bad - b)) (s.take.toNat - n) : Nat) : Int) := by
        unfold drVal
        simp only [tri_ch]
        simp
      rw [h1, h2, Int.toNat_natCast, cntW_wc lot bad l, show (b : Int) + (n : Int) = ((b + n : Nat) : Int) by simp, decided_wc]
      simp only [Nat.sub_sub]
    rw [show (fun (x : Cnt) (y : Nat) => x.add (drVal s.take.toNat (lot - t) (bad - b) y).2 (decided lot s l (t + s.take.toNat) ((b : Int) + (drVal s.take.toNat (lot - t) (bad - b) y).1) (cntW lot bad l (t + s.take.toNat) (b + (drVal s.take.toNat (lot - t) (bad - b) y).1.toNat)))) = _ from funext fun o => funext fun n => e o n]
    exact fold_sw (bad - b) (lot - t - (bad - b)) s.take.toNat
      (fun n => if ((b + n : Nat) : Int) ≤ s.accept then rest l (lot - t - s.take.toNat) else if s.reject ≤ ((b + n : Nat) : Int) then 0 else cA l (lot - t - s.take.toNat) (bad - b - n) (b + n) (t + s.take.toNat))
      (fun n => if ((b + n : Nat) : Int) ≤ s.accept then (t + s.take.toNat) * rest l (lot - t - s.take.toNat) else if s.reject ≤ ((b + n : Nat) : Int) then (t + s.take.toNat) * rest l (lot - t - s.take.toNat) else cP l (lot - t - s.take.toNat) (bad - b - n) (b + n) (t + s.take.toNat))
      (fun n => if ((b + n : Nat) : Int) ≤ s.accept then rest l (lot - t - s.take.toNat) else if s.reject ≤ ((b + n : Nat) : Int) then rest l (lot - t - s.take.toNat) else cD l (lot - t - s.take.toNat) (bad - b - n) (b + n) (t + s.take.toNat))
termination_by l => l.length

/-- A valid plan's counts, for so many bad pieces: no number is too great for the machine. -/
theorem cnt_ok {lot : Nat} {l : List Stg} (h : Valid lot l) (bad : Nat) (hb : bad ≤ lot) :
    cntW lot bad l 0 0 = ⟨(cA l lot bad 0 0 : Int), (cP l lot bad 0 0 : Int), (rest l lot : Int)⟩ ∧ cA l lot bad 0 0 ≤ rest l lot ∧ cP l lot bad 0 0 ≤ tot l * rest l lot ∧ tot l ≤ lot ∧ 0 < rest l lot ∧ rest l lot ≤ 6430000000000000 := by
  have h1 : lot ≤ 30 := by have := h.hi; omega
  have hf : fits lot 0 l := by have := h.fit; rwa [Int.toNat_natCast] at this
  have h2 := rest_le l lot h1 h.len
  have h3 := cD_rest l lot bad 0 0 h.ne h.last hb
  have h4 := cA_le l lot bad 0 0
  have h5 := cP_le l lot bad 0 0 (tot l) (by omega)
  have h6 : tot l ≤ lot := by have := fits_tot l lot 0 (by omega) hf; omega
  have h7 := rest_pos l lot 0 hf lot (by omega)
  rw [h3] at h4 h5
  have h8 : tot l * rest l lot ≤ 30 * 6430000000000000 := Nat.mul_le_mul (by omega) h2
  refine ⟨?_, h4, h5, h6, h7, h2⟩
  rw [cntW_wc, Nat.sub_zero, Nat.sub_zero, h3]
  unfold wc
  rw [w_id (by omega) (by omega), w_id (by omega) (by omega), w_id (by omega) (by omega)]
end Go.Proofs.Ytigpnafpdmdmhaa.Ma

namespace Go.Proofs.Ytigpnafpdmdmhaa.Pure
open Go.RowKit Go.Proofs.Ytigpnafpdmdmhaa.P Go.Proofs.YtigpnafpdmdmhaaW.PrintWords
open Hand (Stg saysV fits lastDec Valid Cnt cntW shareV)
open Ma


theorem wakes_f : tensilelaw09_wakes.f = some true := rfl

theorem ready_f (a : Int) (l : List S57) (ha : Fits a) (hl : ∀ s ∈ l, Fits s.f0 ∧ Fits s.f1 ∧ Fits s.f2) (K : Nat) (hK : 30 ≤ K) :
    tensilelaw09_ready.f K a l = some (decide (l.length ≤ 5) && (Hand.checkPlan a (l.map cSt) == 0)) := by
  unfold tensilelaw09_ready.f tensilelaw09_Thin.f
  rw [Option.bind_some]
  by_cases h5 : l.length ≤ 5
  · have h5' : (l.length : Int) ≤ 5 := by omega
    rw [decide_eq_true h5, decide_eq_true h5', if_pos rfl, fault_f a l ha hl h5 K hK, Option.bind_some, Bool.true_and]
  · have h5' : ¬ (l.length : Int) ≤ 5 := by omega
    rw [decide_eq_false h5, decide_eq_false h5', if_neg (by decide), Bool.false_and]

theorem good_of (a : Int) (l : List S57) (hl : ∀ s ∈ l, Fits s.f0 ∧ Fits s.f1 ∧ Fits s.f2) (h : Hand.checkPlan a (l.map cSt) = 0) : good a 0 (-1) 0 (l.map cSt) := by
  classical
  unfold Hand.checkPlan at h
  split at h; · cases h
  split at h
  case isFalse => cases h
  rename_i h1
  obtain ⟨a1, a2, a3, a4⟩ := h1
  have := chk_good a a2 (l.map cSt) 0 ⟨0, -1, 0⟩ (by omega) (by omega) (by decide) (by decide) (fun s hs => by
    refine ⟨by simpa using List.all_eq_true.1 a4 s hs, ?_⟩
    obtain ⟨x, hx, rfl⟩ := List.mem_map.1 hs
    exact (fits_in (hl x hx).2.1).2) (fun e => absurd (by simp [e]) a3) (by decide)
  rw [h] at this
  by_cases hg : good a 0 (-1) 0 (l.map cSt)
  · exact hg
  · rw [if_neg hg] at this; cases this

theorem good_reject {lot : Int} : ∀ {l : List Stg} {t pa pr : Int}, good lot t pa pr l → ∀ s ∈ l, pr ≤ s.reject ∧ s.accept < s.reject
  | _ :: _, _, _, _, h, s, hs => by
    rcases List.mem_cons.1 hs with rfl | hs
    · exact ⟨h.2.1.2.2.2, h.2.1.2.1⟩
    · have h1 := good_reject h.2.2.2 s hs
      exact ⟨Int.le_trans h.2.1.2.2.2 h1.1, h1.2⟩
theorem good_take30 {lot : Int} : ∀ {l : List Stg} {t pa pr : Int}, 0 ≤ t → lot ≤ 30 → good lot t pa pr l → ∀ s ∈ l, 1 ≤ s.take ∧ s.take ≤ 30
  | _ :: _, _, _, _, h0, hl, h, s, hs => by
    have h1 := h.1
    rcases List.mem_cons.1 hs with rfl | hs
    · omega
    · exact good_take30 (by omega) hl h.2.2.2 s hs
theorem take30 {a : Int} {l : List S57} (ha : a ≤ 30) (h : good a 0 (-1) 0 (l.map cSt)) : ∀ s ∈ l, 1 ≤ s.f0 ∧ s.f0 ≤ 30 :=
  fun s hs => good_take30 (by omega) ha h (cSt s) (List.mem_map.2 ⟨s, hs, rfl⟩)

/-- What a share of a valid plan says. -/
theorem share_ok (sel : Cnt → Int) (a : Int) (ls : List Stg) (h0 : Hand.checkPlan a ls = 0) (bad : Int) (hb0 : 0 ≤ bad) (hb : bad ≤ a) (n : Nat) (hn : sel (cntW a.toNat bad.toNat ls 0 0) = n) (hn2 : n ≤ 30 * 6430000000000000) :
    shareV sel a ls bad = some (((n / Nat.gcd n (rest ls a.toNat) : Nat) : Int), ((rest ls a.toNat / Nat.gcd n (rest ls a.toNat) : Nat) : Int), 0) := by
  have hv := Hand.checkPlan_ok h0
  obtain ⟨lot, rfl⟩ : ∃ m : Nat, a = m := ⟨a.toNat, by omega⟩
  obtain ⟨b, rfl⟩ : ∃ m : Nat, bad = m := ⟨bad.toNat, by omega⟩
  rw [Int.toNat_natCast] at hn ⊢
  rw [Int.toNat_natCast] at hn
  obtain ⟨c1, c2, c3, c4, c5, c6⟩ := cnt_ok hv b (by omega)
  have ed : (cntW lot b ls 0 0).draws = (rest ls lot : Int) := by rw [c1]
  unfold shareV
  rw [if_pos h0, if_pos ⟨hb0, hb⟩, Int.toNat_natCast, Int.toNat_natCast, hn, ed]
  rw [if_pos ⟨by omega, by omega, by omega, by omega⟩, Int.toNat_natCast, Int.toNat_natCast]

theorem chance_ok (a : Int) (ls : List Stg) (h0 : Hand.checkPlan a ls = 0) (bad : Int) (hb0 : 0 ≤ bad) (hb : bad ≤ a) :
    shareV Cnt.accepts a ls bad = some (((cA ls a.toNat bad.toNat 0 0 / Nat.gcd (cA ls a.toNat bad.toNat 0 0) (rest ls a.toNat) : Nat) : Int), ((rest ls a.toNat / Nat.gcd (cA ls a.toNat bad.toNat 0 0) (rest ls a.toNat) : Nat) : Int), 0) := by
  have hv := Hand.checkPlan_ok h0
  obtain ⟨lot, rfl⟩ : ∃ m : Nat, a = m := ⟨a.toNat, by omega⟩
  obtain ⟨c1, c2, c3, c4, c5, c6⟩ := cnt_ok hv bad.toNat (by omega)
  refine share_ok Cnt.accepts _ ls h0 bad hb0 hb _ ?_ ?_
  · rw [Int.toNat_natCast, c1]
  · rw [Int.toNat_natCast]
    omega

theorem mean_ok (a : Int) (ls : List Stg) (h0 : Hand.checkPlan a ls = 0) (bad : Int) (hb0 : 0 ≤ bad) (hb : bad ≤ a) :
    shareV Cnt.pieces a ls bad = some (((cP ls a.toNat bad.toNat 0 0 / Nat.gcd (cP ls a.toNat bad.toNat 0 0) (rest ls a.toNat) : Nat) : Int), ((rest ls a.toNat / Nat.gcd (cP ls a.toNat bad.toNat 0 0) (rest ls a.toNat) : Nat) : Int), 0) := by
  have hv := Hand.checkPlan_ok h0
  obtain ⟨lot, rfl⟩ : ∃ m : Nat, a = m := ⟨a.toNat, by omega⟩
  obtain ⟨c1, c2, c3, c4, c5, c6⟩ := cnt_ok hv bad.toNat (by omega)
  have h30 := hv.hi
  have h8 : tot ls * rest ls lot ≤ 30 * 6430000000000000 := Nat.mul_le_mul (by omega) c6
  refine share_ok Cnt.pieces _ ls h0 bad hb0 hb _ ?_ ?_
  · rw [Int.toNat_natCast, c1]
  · rw [Int.toNat_natCast]
    exact Nat.le_trans c3 h8

theorem share_bad (sel : Cnt → Int) (a : Int) (ls : List Stg) (h0 : Hand.checkPlan a ls = 0) (bad : Int) (hb : ¬ (0 ≤ bad ∧ bad ≤ a)) : shareV sel a ls bad = some (0, 0, 2) := by
  unfold shareV
  rw [if_pos h0, if_neg hb]
theorem share_err (sel : Cnt → Int) (a : Int) (ls : List Stg) (h0 : ¬ Hand.checkPlan a ls = 0) (bad : Int) : shareV sel a ls bad = some (0, 0, Hand.checkPlan a ls) := by
  unfold shareV
  rw [if_neg h0]


end Go.Proofs.Ytigpnafpdmdmhaa.Pure

namespace Go.Proofs.Ytigpnafpdmdmhaa.Ma
open Hand (Stg saysV lastDec fits bads playGo)

/-! ### Where results stand -/
/-- Where results stand from a stage on: (true, how many stages follow, the pieces till that stage's end) if it is open; (false, the verdict, the pieces taken) if it is decided. -/
def st (rs : List Bool) : List Stg → Nat → Nat → Bool × Int × Nat
  | [], T, _ => (false, 0, T)
  | s :: l, T, B =>
    if rs.length < T + s.take.toNat then (true, (l.length : Int), T + s.take.toNat)
    else if saysV s ((B + bads ((rs.drop T).take s.take.toNat) : Nat) : Int) = 3 then st rs l (T + s.take.toNat) (B + bads ((rs.drop T).take s.take.toNat))
    else (false, saysV s ((B + bads ((rs.drop T).take s.take.toNat) : Nat) : Int), T + s.take.toNat)

theorem lastDec_ne {s : Stg} {l : List Stg} {b : Int} (hd : lastDec (s :: l)) (h : saysV s b = 3) : l ≠ [] := by
  rintro rfl
  exact Hand.lastDec_open hd h
theorem lastDec_tl {s : Stg} {l : List Stg} (h : lastDec (s :: l)) (hne : l ≠ []) : lastDec l := by
  cases l with
  | nil => exact absurd rfl hne
  | cons s' l => exact h
theorem saysV_two (s : Stg) (b : Int) (h : ¬ saysV s b = 3) : saysV s b = 1 ∨ saysV s b = 2 := by
  unfold saysV at h ⊢
  split
  · exact .inl rfl
  · rename_i h1
    rw [if_neg h1] at h
    split
    · exact .inr rfl
    · rename_i h2
      rw [if_neg h2] at h
      exact absurd rfl h

theorem playGo_st (rs : List Bool) (lot : Nat) : ∀ (l : List Stg) (T B : Nat) (v : Int), l ≠ [] → lastDec l → fits lot T l →
    playGo rs l T B v = if (st rs l T B).1 = true then (3, ((st rs l T B).2.2 : Int) - rs.length, 0) else if (st rs l T B).2.2 < rs.length then (0, 0, 2) else ((st rs l T B).2.1, 0, 0)
  | [], _, _, _, h, _, _ => absurd rfl h
  | s :: l, T, B, v, _, hd, hf => by
    obtain ⟨f1, f2, f3⟩ := hf
    have et : (T : Int) + s.take - rs.length = ((T + s.take.toNat : Nat) : Int) - rs.length := by omega
    rw [playGo, st]
    by_cases h1 : rs.length < T + s.take.toNat
    · rw [if_pos h1, if_pos h1, et]
      rfl
    · rw [if_neg h1, if_neg h1]
      by_cases h2 : saysV s ((B + bads ((rs.drop T).take s.take.toNat) : Nat) : Int) = 3
      · rw [if_pos h2, if_pos h2]
        exact playGo_st rs lot l _ _ _ (lastDec_ne hd h2) (lastDec_tl hd (lastDec_ne hd h2)) f3
      · rw [if_neg h2, if_neg h2]
        rfl

/-- The stretch of a list depends on no more than its beginning. -/
theorem seg_take (rs rs' : List Bool) (T t T' : Nat) (h : T + t ≤ T') (e : rs'.take T' = rs.take T') : (rs'.drop T).take t = (rs.drop T).take t := by
  have key : ∀ l : List Bool, (l.drop T).take t = ((l.take T').drop T).take t := fun l => by
    rw [List.drop_take, List.take_take, Nat.min_eq_left (by omega)]
  rw [key rs', key rs, e]

theorem st_dec (lot : Nat) : ∀ (l : List Stg) (rs : List Bool) (T B : Nat) (v : Int) (T' : Nat), l ≠ [] → lastDec l → fits lot T l → st rs l T B = (false, v, T') →
    (v = 1 ∨ v = 2) ∧ T' ≤ rs.length ∧ T < T' ∧ ∀ rs' : List Bool, T' ≤ rs'.length → rs'.take T' = rs.take T' → st rs' l T B = (false, v, T')
  | [], _, _, _, _, _, h, _, _, _ => absurd rfl h
  | s :: l, rs, T, B, v, T', _, hd, hf, he => by
    obtain ⟨f1, f2, f3⟩ := hf
    rw [st] at he
    by_cases h1 : rs.length < T + s.take.toNat
    · rw [if_pos h1] at he
      simp at he
    rw [if_neg h1] at he
    by_cases h2 : saysV s ((B + bads ((rs.drop T).take s.take.toNat) : Nat) : Int) = 3
    · rw [if_pos h2] at he
      obtain ⟨c1, c2, c3, c4⟩ := st_dec lot l rs _ _ v T' (lastDec_ne hd h2) (lastDec_tl hd (lastDec_ne hd h2)) f3 he
      refine ⟨c1, c2, by omega, fun rs' h3 h4 => ?_⟩
      have e := seg_take rs rs' T s.take.toNat T' (by omega) h4
      rw [st, if_neg (by omega), e, if_pos h2]
      exact c4 rs' h3 h4
    · rw [if_neg h2] at he
      injection he with _ he
      injection he with hv ht
      subst hv ht
      refine ⟨saysV_two _ _ h2, by omega, by omega, fun rs' h3 h4 => ?_⟩
      have e := seg_take rs rs' T s.take.toNat _ (Nat.le_refl _) h4
      rw [st, if_neg (by omega), e, if_neg h2]

theorem st_open (lot : Nat) : ∀ (l : List Stg) (rs : List Bool) (T B : Nat) (k : Int) (T' : Nat), l ≠ [] → lastDec l → fits lot T l → T ≤ rs.length → st rs l T B = (true, k, T') →
    rs.length < T' ∧ T' ≤ lot ∧ 0 ≤ k ∧ k < l.length ∧ ∀ ys : List Bool, rs.length + ys.length = T' → (∃ v, st (rs ++ ys) l T B = (false, v, T')) ∨ ∃ k' T'', st (rs ++ ys) l T B = (true, k', T'') ∧ k' < k
  | [], _, _, _, _, _, h, _, _, _, _ => absurd rfl h
  | s :: l, rs, T, B, k, T', _, hd, hf, hT, he => by
    obtain ⟨f1, f2, f3⟩ := hf
    rw [st] at he
    by_cases h1 : rs.length < T + s.take.toNat
    · rw [if_pos h1] at he
      injection he with _ he
      injection he with hk ht
      subst hk ht
      refine ⟨h1, f2, by omega, by simp; omega, fun ys hy => ?_⟩
      rw [st, if_neg (by rw [List.length_append]; omega)]
      by_cases h2 : saysV s ((B + bads (((rs ++ ys).drop T).take s.take.toNat) : Nat) : Int) = 3
      · rw [if_pos h2]
        have hne := lastDec_ne hd h2
        obtain ⟨s', l', rfl⟩ := List.exists_cons_of_ne_nil hne
        obtain ⟨g1, g2, g3⟩ := f3
        refine .inr ⟨(l'.length : Int), T + s.take.toNat + s'.take.toNat, ?_, by simp; omega⟩
        rw [st, if_pos (by rw [List.length_append]; omega)]
      · rw [if_neg h2]
        exact .inl ⟨_, rfl⟩
    rw [if_neg h1] at he
    by_cases h2 : saysV s ((B + bads ((rs.drop T).take s.take.toNat) : Nat) : Int) = 3
    · rw [if_pos h2] at he
      obtain ⟨c1, c2, c3, c4, c5⟩ := st_open lot l rs _ _ k T' (lastDec_ne hd h2) (lastDec_tl hd (lastDec_ne hd h2)) f3 (by omega) he
      refine ⟨c1, c2, c3, by simp; omega, fun ys hy => ?_⟩
      have e := seg_take rs (rs ++ ys) T s.take.toNat rs.length (by omega) (by rw [List.take_left, List.take_length])
      rw [st, if_neg (by rw [List.length_append]; omega), e, if_pos h2]
      exact c5 ys hy
    · rw [if_neg h2] at he
      simp at he

/-! ### Each stage turned round -/
def turn1 (rs cur : List Bool) (T t : Nat) : List Bool := cur.take T ++ ((rs.drop T).take t).reverse ++ cur.drop (T + t)
def turns (rs : List Bool) : List Stg → Nat → List Bool → List Bool
  | [], _, cur => cur
  | s :: l, T, cur => if T + s.take.toNat ≤ rs.length then turns rs l (T + s.take.toNat) (turn1 rs cur T s.take.toNat) else cur
def upto (rs : List Bool) : List Stg → Nat → Nat
  | [], T => T
  | s :: l, T => if T + s.take.toNat ≤ rs.length then upto rs l (T + s.take.toNat) else T

theorem turn1_length (rs cur : List Bool) (T t : Nat) (h : T + t ≤ rs.length) (hc : cur.length = rs.length) : (turn1 rs cur T t).length = rs.length := by
  unfold turn1
  simp
  omega

theorem turns_st (rs : List Bool) : ∀ (l : List Stg) (T B : Nat) (cur : List Bool), cur.length = rs.length → cur.drop T = rs.drop T → T ≤ rs.length →
    (turns rs l T cur).length = rs.length ∧ (turns rs l T cur).take T = cur.take T ∧ st (turns rs l T cur) l T B = st rs l T B
  | [], _, _, _, hc, _, _ => ⟨hc, rfl, rfl⟩
  | s :: l, T, B, cur, hc, hd, hT => by
    unfold turns
    by_cases h : T + s.take.toNat ≤ rs.length
    · rw [if_pos h]
      obtain ⟨t, ht⟩ : ∃ t, t = s.take.toNat := ⟨_, rfl⟩
      rw [← ht] at h ⊢
      have hl := turn1_length rs cur T t h hc
      have hlen : (cur.take T).length = T := by rw [List.length_take]; omega
      have hlen2 : (((rs.drop T).take t).reverse).length = t := by rw [List.length_reverse, List.length_take, List.length_drop]; omega
      have hd' : (turn1 rs cur T t).drop (T + t) = rs.drop (T + t) := by
        unfold turn1
        rw [List.drop_append_of_le_length (by rw [List.length_append, hlen, hlen2]; exact Nat.le_refl _), List.drop_of_length_le (by rw [List.length_append, hlen, hlen2]; exact Nat.le_refl _), List.nil_append, ← List.drop_drop, hd, List.drop_drop]
      obtain ⟨c1, c2, c3⟩ := turns_st rs l (T + t) (B + bads ((rs.drop T).take t)) (turn1 rs cur T t) hl hd' h
      have e2 : (turn1 rs cur T t).take (T + t) = cur.take T ++ ((rs.drop T).take t).reverse := by
        unfold turn1
        rw [List.take_append_of_le_length (by rw [List.length_append, hlen, hlen2]; exact Nat.le_refl _), List.take_of_length_le (by rw [List.length_append, hlen, hlen2]; exact Nat.le_refl _)]
      have eT : (turn1 rs cur T t).take T = cur.take T := by
        unfold turn1
        rw [List.append_assoc, List.take_append_of_le_length (by rw [hlen]; exact Nat.le_refl _), List.take_of_length_le (by rw [hlen]; exact Nat.le_refl _)]
      have e1 : (turns rs l (T + t) (turn1 rs cur T t)).take T = cur.take T := by
        have := congrArg (List.take T) c2
        rw [List.take_take, List.take_take, Nat.min_eq_left (by omega)] at this
        rw [this, eT]
      have e3 : ((turns rs l (T + t) (turn1 rs cur T t)).drop T).take t = ((rs.drop T).take t).reverse := by
        have : ((turns rs l (T + t) (turn1 rs cur T t)).drop T).take t = ((turns rs l (T + t) (turn1 rs cur T t)).take (T + t)).drop T := by
          rw [List.drop_take, Nat.add_sub_cancel_left]
        rw [this, c2, e2, List.drop_append_of_le_length (by rw [hlen]; exact Nat.le_refl _), List.drop_of_length_le (by rw [hlen]; exact Nat.le_refl _), List.nil_append]
      have e4 : bads (((turns rs l (T + t) (turn1 rs cur T t)).drop T).take t) = bads ((rs.drop T).take t) := by
        rw [e3]
        unfold bads
        exact List.countP_reverse
      refine ⟨c1, e1, ?_⟩
      rw [st, st, ← ht, c1, e4, c3]
    · rw [if_neg h]
      refine ⟨hc, rfl, ?_⟩
      rw [st, st, hc, if_pos (by omega), if_pos (by omega)]

theorem upto_st (lot : Nat) (rs : List Bool) : ∀ (l : List Stg) (T B : Nat) (v : Int), l ≠ [] → lastDec l → fits lot T l → st rs l T B = (false, v, rs.length) → upto rs l T = rs.length
  | [], _, _, _, h, _, _, _ => absurd rfl h
  | s :: l, T, B, v, _, hd, hf, he => by
    obtain ⟨f1, f2, f3⟩ := hf
    rw [st] at he
    unfold upto
    by_cases h1 : rs.length < T + s.take.toNat
    · rw [if_pos h1] at he
      simp at he
    rw [if_neg h1] at he
    rw [if_pos (by omega)]
    by_cases h2 : saysV s ((B + bads ((rs.drop T).take s.take.toNat) : Nat) : Int) = 3
    · rw [if_pos h2] at he
      exact upto_st lot rs l _ _ v (lastDec_ne hd h2) (lastDec_tl hd (lastDec_ne hd h2)) f3 he
    · rw [if_neg h2] at he
      injection he with _ he
      injection he with _ ht
      rw [ht]
      cases l with
      | nil => rfl
      | cons s' l =>
        obtain ⟨g1, _, _⟩ := f3
        unfold upto
        rw [if_neg (by omega)]
end Go.Proofs.Ytigpnafpdmdmhaa.Ma

namespace Go.Proofs.Ytigpnafpdmdmhaa.Pure
open Go.RowKit Go.Proofs.Ytigpnafpdmdmhaa.P Go.Proofs.YtigpnafpdmdmhaaW.PrintWords
open Hand (Stg saysV fits lastDec Valid bads playGo playV)
open Ma

theorem play_step {α : Type} (K : Nat) (a : Int) (l : List S57) (hK : 7 ≤ K) (h5 : l.length ≤ 5) (rs : List Bool) (hrs : rs.length ≤ 1000) (F : Int × Int × Int → Option α) :
    ((tensilelaw09_Plan.f K a l).bind fun bt => (some (([] : List Bool) : List Bool)).bind fun y => if y.length + rs.length < 140737488355328 then (plan_Play.f bt.1 bt.2 (y ++ rs)).bind F else none) = F (playV a (l.map cSt) rs) := by
  rw [plan_f a l h5 K hK, Option.bind_some, Option.bind_some, if_pos (by simp; omega)]
  unfold plan_Play.f
  rw [toStg_c61, Option.bind_some, List.nil_append]

/-- What is asked of a plan here. -/
structure Rdy (a : Int) (l : List S57) (lot : Nat) : Prop where
  ok : Hand.checkPlan a (l.map cSt) = 0
  eq : a = lot
  le : lot ≤ 30
  ne : l.map cSt ≠ []
  last : lastDec (l.map cSt)
  fit : fits lot 0 (l.map cSt)
  len : l.length ≤ 3

theorem rdy_of {a : Int} {l : List S57} (h : Hand.checkPlan a (l.map cSt) = 0) : ∃ lot, Rdy a l lot := by
  have hv := Hand.checkPlan_ok h
  exact ⟨a.toNat, h, by have := hv.lo; omega, by have := hv.hi; omega, hv.ne, hv.last, hv.fit, by simpa using hv.len⟩

theorem playV_st {a : Int} {l : List S57} {lot : Nat} (h : Rdy a l lot) (rs : List Bool) :
    playV a (l.map cSt) rs = if (st rs (l.map cSt) 0 0).1 = true then (3, ((st rs (l.map cSt) 0 0).2.2 : Int) - rs.length, 0) else if (st rs (l.map cSt) 0 0).2.2 < rs.length then (0, 0, 2) else ((st rs (l.map cSt) 0 0).2.1, 0, 0) := by
  unfold playV
  rw [if_pos h.ok]
  exact playGo_st rs lot _ 0 0 0 h.ne h.last h.fit


theorem bads_len (l : List Bool) : bads l ≤ l.length := List.countP_le_length
theorem tot_append (l m : List Stg) : tot (l ++ m) = tot l + tot m := by
  induction l with
  | nil => simp [tot]
  | cons x l ih => rw [List.cons_append, tot, tot, ih, Nat.add_assoc]
theorem lastDec_app : ∀ (l : List Stg) {s : Stg}, lastDec (l ++ [s]) → lastDec [s]
  | [], _, h => h
  | [_], _, h => h
  | _ :: x :: l, _, h => lastDec_app (x :: l) h
theorem saysV_three {s : Stg} {b : Int} (h : saysV s b = 3) : ¬ b ≤ s.accept ∧ ¬ s.reject ≤ b := by
  unfold saysV at h
  split at h
  · exact absurd h (by decide)
  · rename_i h1
    split at h
    · exact absurd h (by decide)
    · rename_i h2
      exact ⟨h1, h2⟩
theorem fits_one {lot : Nat} : ∀ {l : List Stg} {t : Nat}, fits lot t l → ∀ s ∈ l, 1 ≤ s.take
  | _ :: _, _, h, s, hs => by
    rcases List.mem_cons.1 hs with rfl | hs
    · exact h.1
    · exact fits_one h.2.2 s hs
theorem good1 {a : Int} {l : List S57} {lot : Nat} (h : Rdy a l lot) (s : S57) (hs : s ∈ l) : 1 ≤ s.f0 := fits_one h.fit (cSt s) (List.mem_map.2 ⟨s, hs, rfl⟩)
end Go.Proofs.Ytigpnafpdmdmhaa.Pure

namespace Go.Proofs.Ytigpnafpdmdmhaa.Pure
open Go.RowKit Go.Proofs.Ytigpnafpdmdmhaa.P Go.Proofs.YtigpnafpdmdmhaaW.PrintWords
open Ma
theorem u8_nat {x : Int} (h : (Lit.int .u8 x).wf = true) : ∃ n : Nat, x = n ∧ n ≤ 255 := by
  unfold Lit.wf at h
  rw [Bool.and_eq_true, decide_eq_true_eq, decide_eq_true_eq] at h
  have h1 : (0 : Int) ≤ x := h.1
  have h2 : x ≤ 255 := h.2
  exact ⟨x.toNat, by omega, by omega⟩

end Go.Proofs.Ytigpnafpdmdmhaa.Pure

namespace Go.Proofs.Ytigpnafpdmdmhaa.Ma
open Hand (Stg Cnt saysV tri lastDec fits Valid)

theorem cD_le : ∀ (l : List Stg) (L B f t : Nat), B ≤ L → cD l L B f t ≤ rest l L
  | [], _, _, _, _, _ => Nat.zero_le _
  | s :: l, L, B, f, t, hB => by
    have e : cD (s :: l) L B f t ≤ sw B (L - B) s.take.toNat fun _ => rest l (L - s.take.toNat) := by
      show cg _ _ (s :: l) L B f t ≤ _
      unfold cg
      refine sw_le fun n h1 h2 h3 => ?_
      split
      · exact Nat.le_refl _
      · split
        · exact Nat.le_refl _
        · exact cD_le l _ _ _ _ (by omega)
    rw [sw_const, show B + (L - B) = L by omega] at e
    exact e
theorem cA_rest (l : List Stg) (L B f t : Nat) (h : B ≤ L) : cA l L B f t ≤ rest l L := Nat.le_trans (cA_le l L B f t) (cD_le l L B f t h)

/-- What a stage's number of bad ones leaves of the acceptances. -/
def gA (s : Stg) (l : List Stg) (L B f t : Nat) : Nat :=
  if (f : Int) ≤ s.accept then rest l L else if s.reject ≤ (f : Int) then 0 else cA l L B f t
theorem cA_cons (s : Stg) (l : List Stg) (L B f t : Nat) : cA (s :: l) L B f t = sw B (L - B) s.take.toNat fun n => gA s l (L - s.take.toNat) (B - n) (f + n) (t + s.take.toNat) := rfl

theorem gA_f {s : Stg} {l : List Stg} {L B f t : Nat} (hB : B ≤ L) (h : cA l L B (f + 1) t ≤ cA l L B f t) : gA s l L B (f + 1) t ≤ gA s l L B f t := by
  unfold gA
  have h1 : ((f + 1 : Nat) : Int) = (f : Int) + 1 := by simp
  have h2 := cA_rest l L B (f + 1) t hB
  rw [h1]
  split
  · rw [if_pos (by omega)]; exact Nat.le_refl _
  · split
    · exact Nat.zero_le _
    · split
      · exact h2
      · rw [if_neg (by omega)]; exact h
theorem gA_b {s : Stg} {l : List Stg} {L B f t : Nat} (h : cA l L (B + 1) f t ≤ cA l L B f t) : gA s l L (B + 1) f t ≤ gA s l L B f t := by
  unfold gA
  split
  · exact Nat.le_refl _
  · split
    · exact Nat.le_refl _
    · exact h

theorem cA_mono : ∀ (l : List Stg) (L B f t : Nat), (B ≤ L → cA l L B (f + 1) t ≤ cA l L B f t) ∧ (B + 1 ≤ L → cA l L (B + 1) f t ≤ cA l L B f t)
  | [], _, _, _, _ => ⟨fun _ => Nat.le_refl _, fun _ => Nat.le_refl _⟩
  | s :: l, L, B, f, t => by
    constructor
    · intro hB
      rw [cA_cons, cA_cons]
      refine sw_le fun n h1 h2 h3 => ?_
      rw [Nat.add_right_comm f 1 n]
      exact gA_f (by omega) ((cA_mono l _ _ _ _).1 (by omega))
    · intro hB
      rw [cA_cons, cA_cons]
      generalize hk : s.take.toNat = k
      cases k with
      | zero =>
        rw [sw_zero, sw_zero]
        exact gA_b ((cA_mono l _ _ _ _).2 (by omega))
      | succ k =>
        obtain ⟨g, hg⟩ : ∃ g, L - B = g + 1 := ⟨L - B - 1, by omega⟩
        rw [show L - (B + 1) = g by omega, hg, sw_bad, sw_good]
        refine Nat.add_le_add (sw_le fun n h1 h2 h3 => ?_) (sw_le fun n h1 h2 h3 => ?_)
        · rw [show B + 1 - n = (B - n) + 1 by omega]
          exact gA_b ((cA_mono l _ _ _ _).2 (by omega))
        · rw [show B + 1 - (n + 1) = B - n by omega, ← Nat.add_assoc]
          exact gA_f (by omega) ((cA_mono l _ _ _ _).1 (by omega))

/-- With no bad piece. -/
theorem cA_none : ∀ (l : List Stg) (L t : Nat), l ≠ [] → lastDec l → (∀ s ∈ l, 0 < s.reject) → cA l L 0 0 t = rest l L
  | [], _, _, h, _, _ => absurd rfl h
  | s :: l, L, t, _, hd, hr => by
    have h0 : 0 < s.reject := hr s (by simp)
    have e : cA (s :: l) L 0 0 t = sw 0 (L - 0) s.take.toNat fun _ => rest l (L - s.take.toNat) := by
      rw [cA_cons]
      refine sw_congr fun n _ hn _ => ?_
      obtain rfl : n = 0 := by omega
      unfold gA
      split
      · rfl
      · rename_i h1
        rw [if_neg (by omega)]
        cases l with
        | nil =>
          have : s.reject ≤ s.accept + 1 := hd
          exact absurd h1 (by simp; omega)
        | cons s' l => exact cA_none (s' :: l) _ _ (by simp) hd (fun x hx => hr x (by simp [hx]))
    rw [e, sw_const, show 0 + (L - 0) = L by omega]
    rfl
theorem cA_rejected (s : Stg) (l : List Stg) (L t : Nat) (h1 : s.accept < 0) (h2 : s.reject ≤ 0) : cA (s :: l) L 0 0 t = 0 := by
  have e : cA (s :: l) L 0 0 t = sw 0 (L - 0) s.take.toNat fun _ => 0 := by
    rw [cA_cons]
    refine sw_congr fun n _ hn _ => ?_
    obtain rfl : n = 0 := by omega
    unfold gA
    rw [if_neg (by simp; omega), if_pos (by simpa using h2)]
  rw [e, sw_const, Nat.mul_zero]
/-- Each Accept is less than the pieces taken by then. -/
def strict : List Stg → Nat → Prop
  | [], _ => True
  | s :: l, t => s.accept < ((t + s.take.toNat : Nat) : Int) ∧ strict l (t + s.take.toNat)
/-- With bad ones alone. -/
theorem cA_all : ∀ (l : List Stg) (L t : Nat), fits (L + t) t l → strict l t → cA l L L t t = 0
  | [], _, _, _, _ => rfl
  | s :: l, L, t, hf, hs => by
    obtain ⟨f1, f2, f3⟩ := hf
    obtain ⟨h1, h2⟩ := hs
    have e : cA (s :: l) L L t t = sw L (L - L) s.take.toNat fun _ => 0 := by
      rw [cA_cons]
      refine sw_congr fun n h3 _ h4 => ?_
      obtain rfl : n = s.take.toNat := by omega
      unfold gA
      rw [if_neg (by omega)]
      split
      · rfl
      · exact cA_all l _ _ (by rw [show L - s.take.toNat + (t + s.take.toNat) = L + t by omega]; exact f3) h2
    rw [e, sw_const, Nat.mul_zero]

/-- The first stage always decides. -/
theorem cP_first (s : Stg) (l : List Stg) (L B t : Nat) (hB : B ≤ L) (h : s.reject = s.accept + 1) : cP (s :: l) L B 0 t = (t + s.take.toNat) * rest (s :: l) L := by
  have e : cP (s :: l) L B 0 t = sw B (L - B) s.take.toNat fun _ => (t + s.take.toNat) * rest l (L - s.take.toNat) := by
    show cg _ _ (s :: l) L B 0 t = _
    unfold cg
    refine sw_congr fun n _ _ _ => ?_
    split
    · rfl
    · rw [if_pos (by omega)]
  rw [e, sw_const, show B + (L - B) = L by omega, rest, ← Nat.mul_assoc, ← Nat.mul_assoc, Nat.mul_comm (ch L _)]
end Go.Proofs.Ytigpnafpdmdmhaa.Ma

namespace Go.Proofs.Ytigpnafpdmdmhaa.Ma
open Hand (Stg Cnt saysV tri lastDec fits Valid)

theorem ch_self : ∀ n, ch n n = 1
  | 0 => rfl
  | n + 1 => by rw [ch, ch_self n, ch_above n (n + 1) (by omega)]

theorem sw_add (B g k : Nat) (H H' : Nat → Nat) : sw B g k (fun n => H n + H' n) = sw B g k H + sw B g k H' := by
  unfold sw
  rw [← sm_add]
  exact sm_congr fun n _ => by rw [Nat.mul_add]

theorem sw_none (k : Nat) (H : Nat → Nat) : sw 0 0 (k + 1) H = 0 := by
  rw [sw_congr (H' := fun _ => 0) (fun n _ h1 h2 => by omega), sw_const, Nat.mul_zero]

/-- Two samples, one behind the other. -/
def two (B g f u : Nat) (K : Nat → Nat) : Nat := sw B g f fun m => sw (B - m) (g - (f - m)) u fun j => K (m + j)

theorem two_bad (B g f u : Nat) (K : Nat → Nat) : two (B + 1) g (f + 1) (u + 1) K = two B g (f + 1) (u + 1) K + two B g (f + 1) u (fun n => K (n + 1)) + two B g f (u + 1) (fun n => K (n + 1)) := by
  unfold two
  rw [sw_bad, ← sw_add]
  congr 1
  · refine sw_congr fun m h1 h2 h3 => ?_
    rw [show B + 1 - m = (B - m) + 1 by omega, sw_bad]
    rfl
  · refine sw_congr fun m h1 h2 h3 => ?_
    rw [show B + 1 - (m + 1) = B - m by omega, show f + 1 - (m + 1) = f - m by omega]
    refine sw_congr fun j _ _ _ => ?_
    rw [show m + 1 + j = m + j + 1 by omega]
theorem two_good (B g f u : Nat) (K : Nat → Nat) : two B (g + 1) (f + 1) (u + 1) K = two B g (f + 1) (u + 1) K + two B g (f + 1) u K + two B g f (u + 1) K := by
  unfold two
  rw [sw_good, ← sw_add]
  congr 1
  · refine sw_congr fun m h1 h2 h3 => ?_
    rw [show g + 1 - (f + 1 - m) = (g - (f + 1 - m)) + 1 by omega, sw_good]
  · refine sw_congr fun m h1 h2 h3 => ?_
    rw [show g + 1 - (f + 1 - m) = g - (f - m) by omega]

theorem two_one : ∀ (B g f u : Nat) (K : Nat → Nat), two B g f u K = ch (f + u) f * sw B g (f + u) K
  | B, g, 0, u, K => by
    unfold two
    rw [sw_zero, ch_zero, Nat.zero_add, Nat.one_mul]
    exact sw_congr fun j _ _ _ => by rw [Nat.zero_add]
  | B, g, f + 1, 0, K => by
    unfold two
    rw [Nat.add_zero, ch_self, Nat.one_mul]
    exact sw_congr fun j _ _ _ => by rw [sw_zero, Nat.add_zero]
  | 0, 0, f + 1, u + 1, K => by
    unfold two
    rw [sw_none, show f + 1 + (u + 1) = (f + u + 1) + 1 by omega, sw_none, Nat.mul_zero]
  | 0, g + 1, f + 1, u + 1, K => by
    rw [two_good, two_one 0 g (f + 1) (u + 1), two_one 0 g (f + 1) u, two_one 0 g f (u + 1), show f + 1 + (u + 1) = (f + u + 1) + 1 by omega, sw_good, show f + 1 + u = f + u + 1 by omega, show f + (u + 1) = f + u + 1 by omega, ch, Nat.mul_add, Nat.add_mul, Nat.add_mul]
    omega
  | B + 1, g, f + 1, u + 1, K => by
    rw [two_bad, two_one B g (f + 1) (u + 1), two_one B g (f + 1) u, two_one B g f (u + 1), show f + 1 + (u + 1) = (f + u + 1) + 1 by omega, sw_bad, show f + 1 + u = f + u + 1 by omega, show f + (u + 1) = f + u + 1 by omega, ch, Nat.mul_add, Nat.add_mul, Nat.add_mul]
    omega
termination_by B g f u => B + g + f + u

/-- A plan of one stage, split. -/
theorem split_A (n t f B : Nat) (a r r1 : Int) (ht : t ≤ n) (hf : f ≤ t) (hB : B ≤ n) (hr : ∀ m : Nat, m ≤ f → (r1 ≤ (m : Int) → a < m)) (hrr : r = a + 1) :
    cA [⟨(f : Int), -1, r1⟩, ⟨((t - f : Nat) : Int), a, r⟩] n B 0 0 = ch t f * cA [⟨(t : Int), a, r⟩] n B 0 0 := by
  subst hrr
  have e1 : cA [⟨(t : Int), a, a + 1⟩] n B 0 0 = sw B (n - B) t fun j => if (j : Int) ≤ a then 1 else 0 := by
    rw [cA_cons, Int.toNat_natCast]
    refine sw_congr fun j _ _ _ => ?_
    unfold gA
    rw [Nat.zero_add]
    by_cases h : (j : Int) ≤ a
    · rw [if_pos h, if_pos h]; rfl
    · rw [if_neg h, if_neg h, if_pos (show a + 1 ≤ (j : Int) by omega)]
  have e2 : cA [⟨(f : Int), -1, r1⟩, ⟨((t - f : Nat) : Int), a, a + 1⟩] n B 0 0 = two B (n - B) f (t - f) fun j => if (j : Int) ≤ a then 1 else 0 := by
    rw [cA_cons, Int.toNat_natCast]
    unfold two
    refine sw_congr fun m h1 h2 h3 => ?_
    have e3 : sw (B - m) (n - B - (f - m)) (t - f) (fun j => if ((m + j : Nat) : Int) ≤ a then 1 else 0) = cA [⟨((t - f : Nat) : Int), a, a + 1⟩] (n - f) (B - m) (0 + m) (0 + f) := by
      rw [cA_cons, Int.toNat_natCast, show n - f - (B - m) = n - B - (f - m) by omega]
      refine sw_congr fun j _ _ _ => ?_
      unfold gA
      rw [Nat.zero_add]
      by_cases h : ((m + j : Nat) : Int) ≤ a
      · rw [if_pos h, if_pos h]; rfl
      · rw [if_neg h, if_neg h, if_pos (show a + 1 ≤ ((m + j : Nat) : Int) by omega)]
    rw [e3]
    unfold gA
    rw [if_neg (by simp; omega)]
    split
    · rename_i h
      rw [← e3]
      have := hr m h1 (by simpa using h)
      rw [sw_congr (H' := fun _ => 0) (fun j _ _ _ => if_neg (by omega)), sw_const, Nat.mul_zero]
    · rfl
  rw [e1, e2, two_one, show f + (t - f) = t by omega]

theorem split_D (n t f : Nat) (hf : f ≤ t) : ch n f * ch (n - f) (t - f) = ch t f * ch n t := by
  have h := two_one 0 n f (t - f) (fun _ => 1)
  unfold two at h
  rw [show f + (t - f) = t by omega, sw_const, Nat.zero_add, Nat.mul_one] at h
  rw [← h, sw_congr (H' := fun _ => ch (n - f) (t - f)) (fun m h1 h2 h3 => ?_), sw_const, Nat.zero_add]
  obtain rfl : m = 0 := by omega
  rw [sw_const, Nat.mul_one, show 0 - 0 + (n - (f - 0)) = n - f by omega]
end Go.Proofs.Ytigpnafpdmdmhaa.Ma

namespace Go.Proofs.Ytigpnafpdmdmhaa.Pure
open Go.RowKit Go.Proofs.Ytigpnafpdmdmhaa.P Go.Proofs.YtigpnafpdmdmhaaW.PrintWords
open Hand (Stg saysV fits lastDec Valid Cnt cntW keptV keptB search candA candT)
open Ma

theorem one_chk (n t : Nat) (a : Int) (h1 : 1 ≤ n) (h2 : n ≤ 30) (h3 : 1 ≤ t) (h4 : t ≤ n) (h5 : -1 ≤ a) (h6 : a ≤ t) : Hand.checkPlan (n : Int) [⟨(t : Int), a, a + 1⟩] = 0 := by
  have q : a + 1 ≤ 100 ∧ -1 ≤ a + 1 := by omega
  unfold Hand.checkPlan
  rw [if_neg (by simp), if_pos ⟨by omega, by omega, by simp, by simp; omega⟩]
  unfold Hand.chk
  dsimp only
  rw [if_neg (by omega), if_neg (by omega), if_neg (by omega), w_id (x := a + 1) (by omega) (by omega), if_pos ⟨by omega, by omega⟩]
  unfold Hand.chk
  dsimp only
  rw [w_id (x := a + 1) (by omega) (by omega), if_pos rfl]

/-- A demand as described, in numbers from 0 on. -/
structure Dem (g b al be : Nat) : Prop where
  b1 : 1 ≤ b
  b2 : b ≤ 30
  g1 : g < b
  al1 : al ≤ 1000
  be1 : be ≤ 1000

theorem In_nat (x lo hi : Int) : tensileref09_In.f x lo hi = some (decide (lo ≤ x ∧ x ≤ hi)) := In_f x lo hi
theorem within_f (a b c : Int) : plan_within.f a b c = some (decide (b ≤ a ∧ a ≤ c)) := by
  unfold plan_within.f
  split
  · rename_i h; simp [h]
  · rename_i h; simp [h]

theorem dem_of {g b al be : Int} (h : tensileref09_IsDemand.f g b al be = some true) : ∃ g' b' al' be' : Nat, g = g' ∧ b = b' ∧ al = al' ∧ be = be' ∧ Dem g' b' al' be' := by
  unfold tensileref09_IsDemand.f at h
  simp only [In_f, Option.bind_some] at h
  split at h
  case isFalse => cases h
  rename_i h1
  split at h
  case isFalse => cases h
  rename_i h2
  split at h
  case isFalse => cases h
  rename_i h3
  have h4 := Option.some.inj h
  rw [decide_eq_true_eq] at h1 h2 h3 h4
  have e : wrap64 (b - 1) = b - 1 := w_id (by omega) (by omega)
  rw [e] at h2
  clear e h
  exact ⟨g.toNat, b.toNat, al.toNat, be.toNat, by omega, by omega, by omega, by omega, by omega, by omega, by omega, by omega, by omega⟩

theorem dem_some (g b al be : Int) : ∃ r, tensileref09_IsDemand.f g b al be = some r := by
  unfold tensileref09_IsDemand.f
  simp only [In_f, Option.bind_some]
  split
  · split
    · split
      · exact ⟨_, rfl⟩
      · exact ⟨_, rfl⟩
    · exact ⟨_, rfl⟩
  · exact ⟨_, rfl⟩

theorem valid_f {g b al be : Nat} (h : Dem g b al be) : plan_Demand_valid.f (g : Int) (b : Int) (al : Int) (be : Int) = some true := by
  obtain ⟨h1, h2, h3, h4, h5⟩ := h
  unfold plan_Demand_valid.f
  simp only [within_f, Option.bind_some]
  rw [if_pos (decide_eq_true (by omega)), w_id (x := (b : Int) - 1) (by omega) (by omega), if_pos (decide_eq_true (by omega)), if_pos (decide_eq_true (by omega)), decide_eq_true (by omega)]

theorem asked_f {g b al be : Nat} (h : Dem g b al be) (lot most : Nat) (h1 : 1 ≤ lot) (h2 : lot ≤ most) (h3 : b ≤ lot) : plan_Demand_asked.f (g : Int) (b : Int) (al : Int) (be : Int) (lot : Int) (most : Int) = some 0 := by
  unfold plan_Demand_asked.f
  rw [valid_f h, Option.bind_some, if_pos rfl, within_f, Option.bind_some, if_pos (decide_eq_true (by omega)), if_neg (by omega)]

/-- Does a plan keep a demand? -/
def kp (lot : Nat) (l : List Stg) (g b al be : Nat) : Bool :=
  decide ((1000 - al) * rest l lot ≤ cA l lot g 0 0 * 1000) && decide (cA l lot b 0 0 * 1000 ≤ be * rest l lot)

theorem kept_f (lot : Nat) (l : List Stg) (g b al be : Nat) (h0 : Hand.checkPlan (lot : Int) l = 0) (hg : g ≤ lot) (hb : b ≤ lot) (hal : al ≤ 1000) (hbe : be ≤ 1000) :
    keptV (lot : Int) l (g : Int) (b : Int) (al : Int) (be : Int) = some (kp lot l g b al be) := by
  have hv := Hand.checkPlan_ok h0
  obtain ⟨c1, c2, _, _, c5, c6⟩ := cnt_ok hv g hg
  obtain ⟨d1, d2, _, _, _, _⟩ := cnt_ok hv b hb
  unfold keptV
  rw [if_pos ⟨h0, by omega, by omega, by omega, by omega⟩, Int.toNat_natCast, Int.toNat_natCast, Int.toNat_natCast, c1, d1]
  unfold keptB kp
  dsimp only
  generalize cA l lot g 0 0 = x at c2
  generalize cA l lot b 0 0 = y at d2
  generalize rest l lot = D at c2 d2 c5 c6
  clear c1 d1 hv h0
  have m1 : (1000 - al) * D ≤ 6430000000000000000 := Nat.le_trans (Nat.mul_le_mul (show 1000 - al ≤ 1000 by omega) c6) (by decide)
  have m2 : be * D ≤ 6430000000000000000 := Nat.le_trans (Nat.mul_le_mul hbe c6) (by decide)
  have m3 : x * 1000 ≤ 6430000000000000000 := Nat.le_trans (Nat.mul_le_mul_right _ (Nat.le_trans c2 c6)) (by decide)
  have m4 : y * 1000 ≤ 6430000000000000000 := Nat.le_trans (Nat.mul_le_mul_right _ (Nat.le_trans d2 c6)) (by decide)
  have e0 : wrap64 (1000 - (al : Int)) = ((1000 - al : Nat) : Int) := w_nat _ (by omega) (by omega)
  have f1 : ((1000 - al : Nat) : Int) * (D : Int) = (((1000 - al) * D : Nat) : Int) := by rw [Int.natCast_mul]
  have f2 : (be : Int) * (D : Int) = ((be * D : Nat) : Int) := by rw [Int.natCast_mul]
  have f3 : (x : Int) * 1000 = ((x * 1000 : Nat) : Int) := by rw [Int.natCast_mul]; rfl
  have f4 : (y : Int) * 1000 = ((y * 1000 : Nat) : Int) := by rw [Int.natCast_mul]; rfl
  rw [e0, f1, f2, f3, f4]
  clear e0 f1 f2 f3 f4
  obtain ⟨p1, h1⟩ : ∃ p, p = (1000 - al) * D := ⟨_, rfl⟩
  obtain ⟨p2, h2⟩ : ∃ p, p = be * D := ⟨_, rfl⟩
  obtain ⟨p3, h3⟩ : ∃ p, p = x * 1000 := ⟨_, rfl⟩
  obtain ⟨p4, h4⟩ : ∃ p, p = y * 1000 := ⟨_, rfl⟩
  rw [← h1] at m1 ⊢
  rw [← h2] at m2 ⊢
  rw [← h3] at m3 ⊢
  rw [← h4] at m4 ⊢
  clear h1 h2 h3 h4
  clear c2 d2 c5 c6 hg hb hal hbe
  rw [w_id (x := (p1 : Int)) (by omega) (by omega), w_id (x := (p2 : Int)) (by omega) (by omega), w_id (x := (p3 : Int)) (by omega) (by omega), w_id (x := (p4 : Int)) (by omega) (by omega)]
  have i1 : decide ((p1 : Int) ≤ (p3 : Int)) = decide (p1 ≤ p3) := decide_eq_decide.2 Int.ofNat_le
  have i2 : decide ((p4 : Int) ≤ (p2 : Int)) = decide (p4 ≤ p2) := decide_eq_decide.2 Int.ofNat_le
  rw [i1, i2]

theorem cA_anti (l : List Stg) (lot : Nat) : ∀ (d B : Nat), B + d ≤ lot → cA l lot (B + d) 0 0 ≤ cA l lot B 0 0
  | 0, _, _ => Nat.le_refl _
  | d + 1, B, h => Nat.le_trans ((cA_mono l lot (B + d) 0 0).2 (by omega)) (cA_anti l lot d B (by omega))

theorem kp_mono (lot : Nat) (l : List Stg) (g b al be g' b' al' be' : Nat) (hg : g' ≤ g) (hgl : g ≤ lot) (hb : b ≤ b') (hbl : b' ≤ lot) (hal : al ≤ al') (hbe : be ≤ be') (h : kp lot l g b al be = true) : kp lot l g' b' al' be' = true := by
  unfold kp at h ⊢
  rw [Bool.and_eq_true, decide_eq_true_eq, decide_eq_true_eq] at h ⊢
  have m1 := cA_anti l lot (g - g') g' (by omega)
  have m2 := cA_anti l lot (b' - b) b (by omega)
  rw [show g' + (g - g') = g by omega] at m1
  rw [show b + (b' - b) = b' by omega] at m2
  exact ⟨Nat.le_trans (Nat.mul_le_mul_right _ (by omega)) (Nat.le_trans h.1 (Nat.mul_le_mul_right _ m1)), Nat.le_trans (Nat.mul_le_mul_right _ m2) (Nat.le_trans h.2 (Nat.mul_le_mul_right _ hbe))⟩

theorem keeps_f (lot : Nat) (l : List S57) {g b al be : Nat} (h0 : Hand.checkPlan (lot : Int) (l.map cSt) = 0) (hd : Dem g b al be) (hb : b ≤ lot) :
    plan_Keeps.f (lot : Int) (l.map c61) (g : Int) (b : Int) (al : Int) (be : Int) = some (kp lot (l.map cSt) g b al be, 0) := by
  unfold plan_Keeps.f plan_CheckPlan.f plan_Demand_kept.f
  have hg := hd.g1
  rw [toStg_c61, h0, Option.bind_some, if_pos rfl, valid_f hd, Option.bind_some, if_pos rfl, if_neg (by omega), kept_f lot _ g b al be h0 (by omega) hb hd.al1 hd.be1, Option.bind_some]

/-! ### The single plan -/
theorem mem_candA (t : Int) : ∀ (n : Nat) (a : Int) (s : Stg), s ∈ candA t n a ↔ s.take = t ∧ a ≤ s.accept ∧ s.accept < a + n ∧ s.reject = s.accept + 1
  | 0, a, s => by
    constructor
    · intro h; cases h
    · rintro ⟨_, h1, h2, _⟩; omega
  | n + 1, a, s => by
    rw [candA, List.mem_cons, mem_candA t n (a + 1) s]
    constructor
    · rintro (rfl | ⟨h1, h2, h3, h4⟩)
      · exact ⟨rfl, Int.le_refl _, by dsimp only; omega, rfl⟩
      · exact ⟨h1, by omega, by omega, h4⟩
    · rintro ⟨h1, h2, h3, h4⟩
      by_cases e : s.accept = a
      · left
        obtain ⟨x, y, z⟩ := s
        dsimp only at h1 h4 e
        rw [h1, h4, e]
      · right
        exact ⟨h1, by omega, by omega, h4⟩

theorem mem_candT : ∀ (n t : Nat) (s : Stg), s ∈ candT n t ↔ (t : Int) ≤ s.take ∧ s.take < t + n ∧ -1 ≤ s.accept ∧ s.accept ≤ s.take ∧ s.reject = s.accept + 1
  | 0, t, s => by
    constructor
    · intro h; cases h
    · rintro ⟨h1, h2, _⟩; omega
  | n + 1, t, s => by
    rw [candT, List.mem_append, mem_candA, mem_candT n (t + 1) s]
    constructor
    · rintro (⟨h1, h2, h3, h4⟩ | ⟨h1, h2, h3, h4, h5⟩)
      · exact ⟨by omega, by omega, h2, by omega, h4⟩
      · exact ⟨by omega, by omega, h3, h4, h5⟩
    · rintro ⟨h1, h2, h3, h4, h5⟩
      by_cases e : s.take = t
      · exact .inl ⟨e, h3, by omega, h5⟩
      · exact .inr ⟨by omega, by omega, h3, h4, h5⟩

theorem candT_sorted : ∀ (n t : Nat), (candT n t).Pairwise (fun x y => x.take ≤ y.take)
  | 0, _ => List.Pairwise.nil
  | n + 1, t => by
    rw [candT, List.pairwise_append]
    refine ⟨?_, candT_sorted n (t + 1), fun x hx y hy => ?_⟩
    · refine List.Pairwise.imp_of_mem (R := fun _ _ => True) (fun {x y} hx hy _ => ?_) (List.pairwise_of_forall fun _ _ => trivial)
      have h1 := ((mem_candA _ _ _ _).1 hx).1
      have h2 := ((mem_candA _ _ _ _).1 hy).1
      omega
    · have h1 := ((mem_candA _ _ _ _).1 hx).1
      have h2 := ((mem_candT _ _ _).1 hy).1
      omega

theorem search_find (f : Stg → Option Bool) (g : Stg → Bool) : ∀ (l : List Stg) (last : Option Stg), (∀ s ∈ l, f s = some (g s)) → (∃ s ∈ l, g s = true) → search f l last = some (l.find? g)
  | [], _, _, h => by obtain ⟨s, h, _⟩ := h; cases h
  | s :: l, last, hf, he => by
    rw [search, hf s (by simp), Option.bind_some]
    cases hg : g s with
    | true => rw [if_pos rfl, List.find?_cons_of_pos hg]
    | false =>
      rw [if_neg (by decide), List.find?_cons_of_neg (by simp [hg])]
      refine search_find f g l (some s) (fun x hx => hf x (by simp [hx])) ?_
      obtain ⟨x, hx, hgx⟩ := he
      rcases List.mem_cons.1 hx with rfl | hx
      · rw [hg] at hgx; cases hgx
      · exact ⟨x, hx, hgx⟩

/-- A plan of one stage that is one of those that are tried. -/
def Cand (lot : Nat) (s : Stg) : Prop := 1 ≤ s.take ∧ s.take ≤ lot ∧ -1 ≤ s.accept ∧ s.accept ≤ s.take ∧ s.reject = s.accept + 1
theorem cand_mem (lot : Nat) (s : Stg) : s ∈ candT lot 1 ↔ Cand lot s := by
  rw [mem_candT]
  constructor
  · rintro ⟨h1, h2, h3, h4, h5⟩
    exact ⟨h1, by omega, h3, h4, h5⟩
  · rintro ⟨h1, h2, h3, h4, h5⟩
    exact ⟨h1, by omega, h3, h4, h5⟩
theorem cand_ok {lot : Nat} {s : Stg} (h1 : 1 ≤ lot) (h2 : lot ≤ 30) (h : Cand lot s) : Hand.checkPlan (lot : Int) [s] = 0 := by
  obtain ⟨a1, a2, a3, a4, a5⟩ := h
  obtain ⟨x, y, z⟩ := s
  dsimp only at a1 a2 a3 a4 a5
  obtain ⟨t, rfl⟩ : ∃ t : Nat, x = t := ⟨x.toNat, by omega⟩
  rw [a5]
  exact one_chk lot t y h1 h2 (by omega) (by omega) a3 a4

/-- The whole lot is looked at: just the demand's good ones are accepted. -/
theorem whole (lot g B : Nat) (hB : B ≤ lot) : cA [⟨(lot : Int), (g : Int), (g : Int) + 1⟩] lot B 0 0 = if B ≤ g then 1 else 0 := by
  rw [cA_cons, Int.toNat_natCast]
  have e : sw B (lot - B) lot (fun n => gA ⟨(lot : Int), (g : Int), (g : Int) + 1⟩ [] (lot - lot) (B - n) (0 + n) (0 + lot)) = sw B (lot - B) lot fun _ => if B ≤ g then 1 else 0 := by
    refine sw_congr fun n h1 h2 h3 => ?_
    obtain rfl : n = B := by omega
    unfold gA
    dsimp only
    by_cases h : n ≤ g
    · rw [if_pos (by omega), if_pos h]; rfl
    · rw [if_neg (by omega), if_pos (by omega), if_neg h]
  rw [e, sw_const, show B + (lot - B) = lot by omega, ch_self, Nat.one_mul]

theorem whole_kp (lot : Nat) {g b al be : Nat} (h : Dem g b al be) (hb : b ≤ lot) : kp lot [⟨(lot : Int), (g : Int), (g : Int) + 1⟩] g b al be = true := by
  have hg := h.g1
  unfold kp
  rw [whole lot g g (by omega), whole lot g b hb, if_pos (Nat.le_refl _), if_neg (by omega)]
  have hr : rest [(⟨(lot : Int), (g : Int), (g : Int) + 1⟩ : Stg)] lot = 1 := by
    show ch lot (lot : Int).toNat * 1 = 1
    rw [Int.toNat_natCast, ch_self]
  rw [hr]
  simp

/-- The single plan: the first of those that are tried that keeps the demand. -/
theorem single_f (lot : Nat) {g b al be : Nat} (h : Dem g b al be) (h1 : 1 ≤ lot) (h2 : lot ≤ 30) (hb : b ≤ lot) :
    ∃ s, plan_Single.f (lot : Int) (g : Int) (b : Int) (al : Int) (be : Int) = some ((lot : Int), [⟨s.take, s.accept, s.reject⟩], 0) ∧ Cand lot s ∧ kp lot [s] g b al be = true ∧ ∀ c, Cand lot c → c.take < s.take → kp lot [c] g b al be = false := by
  have hg := h.g1
  have hf : ∀ s ∈ candT lot 1, (fun s => keptV (lot : Int) [s] (g : Int) (b : Int) (al : Int) (be : Int)) s = some (kp lot [s] g b al be) := fun s hs => kept_f lot [s] g b al be (cand_ok h1 h2 ((cand_mem lot s).1 hs)) (by omega) hb h.al1 h.be1
  have hw : (⟨(lot : Int), (g : Int), (g : Int) + 1⟩ : Stg) ∈ candT lot 1 := (cand_mem lot _).2 ⟨by dsimp only; omega, by dsimp only; omega, by dsimp only; omega, by dsimp only; omega, rfl⟩
  have hs := search_find _ (fun s => kp lot [s] g b al be) (candT lot 1) none hf ⟨_, hw, whole_kp lot h hb⟩
  obtain ⟨s, hfs⟩ : ∃ s, (candT lot 1).find? (fun s => kp lot [s] g b al be) = some s := by
    cases hx : (candT lot 1).find? (fun s => kp lot [s] g b al be) with
    | some s => exact ⟨s, rfl⟩
    | none => exact absurd (whole_kp lot h hb) (List.find?_eq_none.1 hx _ hw)
  obtain ⟨hk, as_, bs_, hl, ha⟩ := List.find?_eq_some_iff_append.1 hfs
  refine ⟨s, ?_, (cand_mem lot s).1 (by rw [hl]; simp), hk, fun c hc hlt => ?_⟩
  · unfold plan_Single.f
    rw [show (30 : Int) = ((30 : Nat) : Int) from rfl, asked_f h lot 30 h1 h2 hb, Option.bind_some, if_pos rfl, if_pos (by omega), Int.toNat_natCast, hs, hfs]
    rfl
  · have hm := (cand_mem lot c).2 hc
    have hsort := candT_sorted lot 1
    rw [hl] at hm hsort
    rcases List.mem_append.1 hm with hm | hm
    · simpa using ha c hm
    · rcases List.mem_cons.1 hm with rfl | hm
      · exact absurd hlt (Int.lt_irrefl _)
      · have := (List.pairwise_cons.1 (List.pairwise_append.1 hsort).2.1).1 c hm
        omega
end Go.Proofs.Ytigpnafpdmdmhaa.Pure

namespace Go.Proofs.Ytigpnafpdmdmhaa.Pure
open Go.RowKit Go.Proofs.Ytigpnafpdmdmhaa.P Go.Proofs.YtigpnafpdmdmhaaW.PrintWords
open Ma

theorem least_f (a0 a1 b0 b1 : Nat) (h1 : 0 < a1) (h2 : 0 < b1) (h : a0 * b1 ≤ b0 * a1) : tensilelaw09_least.f (a0 : Int) (a1 : Int) (b0 : Int) (b1 : Int) = some true := by
  have p1 : (a1 : Int) > 0 := by omega
  have p2 : decide ((b1 : Int) > 0) = true := decide_eq_true (by omega)
  have p3 : ¬ ((a1 : Int) ≤ 0) := by omega
  have p4 : ¬ ((b1 : Int) ≤ 0) := by omega
  unfold tensilelaw09_least.f
  rw [if_pos p1, p2]
  split; · rfl
  rename_i c1
  split; · rfl
  rename_i c2
  split; · rfl
  rename_i c3
  split; · rfl
  rename_i c4
  first | rw [if_neg p3, if_neg p4] | skip
  have d1 : a0 ≤ 1000000000 := by omega
  have d2 : a1 ≤ 1000000000 := by omega
  have d3 : b0 ≤ 1000000000 := by omega
  have d4 : b1 ≤ 1000000000 := by omega
  have m1 : a0 * b1 ≤ 1000000000 * 1000000000 := Nat.mul_le_mul d1 d4
  have m2 : b0 * a1 ≤ 1000000000 * 1000000000 := Nat.mul_le_mul d3 d2
  rw [← Int.natCast_mul, ← Int.natCast_mul]
  generalize a0 * b1 = x at h m1
  generalize b0 * a1 = y at h m2
  clear d1 d2 d3 d4 c1 c2 c3 c4 p1 p2 p3 p4 h1 h2
  rw [w_id (x := (x : Int)) (by omega) (by omega), w_id (x := (y : Int)) (by omega) (by omega), decide_eq_true (by omega)]

/-- Fractions of one denominator, in their lowest terms. -/
theorem rem_n (x : Nat) (hx : x ≤ 1000) (n : Nat) : Int.tmod (wrap64 (x : Int)) (n : Int) = ((x % n : Nat) : Int) := by
  rw [w_nat (x := (x : Int)) x rfl (by omega)]
  rfl

end Go.Proofs.Ytigpnafpdmdmhaa.Pure

namespace Go.Proofs.Ytigpnafpdmdmhaa.Pure
open Go.RowKit Go.Proofs.Ytigpnafpdmdmhaa.P Go.Proofs.YtigpnafpdmdmhaaW.PrintWords
open Hand (Stg Cnt DSt dL dM dR dA dT mx2 dblGo dblStep betB lotOf cntOf cntW keptV Valid)
open Ma

theorem mem_dL (t a r m : Int) : ∀ (n : Nat) (l : Int) (x : Stg × Stg), x ∈ dL t a r m n l ↔ (x.1.take = t ∧ x.1.accept = a ∧ x.1.reject = r) ∧ x.2.take = m ∧ l ≤ x.2.accept ∧ x.2.accept < l + n ∧ x.2.reject = x.2.accept + 1
  | 0, l, x => by
    constructor
    · intro h; cases h
    · rintro ⟨_, _, h1, h2, _⟩; omega
  | n + 1, l, x => by
    rw [dL, List.mem_cons, mem_dL t a r m n (l + 1) x]
    constructor
    · rintro (rfl | ⟨h1, h2, h3, h4, h5⟩)
      · exact ⟨⟨rfl, rfl, rfl⟩, rfl, by dsimp only; omega, by dsimp only; omega, rfl⟩
      · exact ⟨h1, h2, by omega, by omega, h5⟩
    · rintro ⟨⟨h1, h1', h1''⟩, h2, h3, h4, h5⟩
      by_cases e : x.2.accept = l
      · left
        obtain ⟨⟨x1, x2, x3⟩, ⟨y1, y2, y3⟩⟩ := x
        dsimp only at *
        subst h1 h1' h1'' h2 e h5
        rfl
      · right; exact ⟨⟨h1, h1', h1''⟩, h2, by omega, by omega, h5⟩

theorem mem_dM (t a r : Int) : ∀ (n : Nat) (m : Int) (x : Stg × Stg), x ∈ dM t a r n m ↔ (x.1.take = t ∧ x.1.accept = a ∧ x.1.reject = r) ∧ m ≤ x.2.take ∧ x.2.take < m + n ∧ mx2 a (r - 1) ≤ x.2.accept ∧ x.2.accept ≤ t + x.2.take ∧ x.2.reject = x.2.accept + 1
  | 0, m, x => by
    constructor
    · intro h; cases h
    · rintro ⟨_, h1, h2, _⟩; omega
  | n + 1, m, x => by
    rw [dM, List.mem_append, mem_dL, mem_dM t a r n (m + 1) x]
    constructor
    · rintro (⟨h1, h2, h3, h4, h5⟩ | ⟨h1, h2, h3, h4, h5, h6⟩)
      · exact ⟨h1, by omega, by omega, h3, by omega, h5⟩
      · exact ⟨h1, by omega, by omega, h4, h5, h6⟩
    · rintro ⟨h1, h2, h3, h4, h5, h6⟩
      by_cases e : x.2.take = m
      · exact .inl ⟨h1, e, h4, by omega, h6⟩
      · exact .inr ⟨h1, by omega, by omega, h4, h5, h6⟩

theorem mem_dR (lot t a : Int) : ∀ (n : Nat) (r : Int) (x : Stg × Stg), x ∈ dR lot t a n r ↔ (x.1.take = t ∧ x.1.accept = a) ∧ (r ≤ x.1.reject ∧ x.1.reject < r + n) ∧ 1 ≤ x.2.take ∧ x.2.take ≤ lot - t ∧ mx2 a (x.1.reject - 1) ≤ x.2.accept ∧ x.2.accept ≤ t + x.2.take ∧ x.2.reject = x.2.accept + 1
  | 0, r, x => by
    constructor
    · intro h; cases h
    · rintro ⟨_, h1, _⟩; omega
  | n + 1, r, x => by
    rw [dR, List.mem_append, mem_dM, mem_dR lot t a n (r + 1) x]
    constructor
    · rintro (⟨⟨h1, h1', h1''⟩, h2, h3, h4, h5, h6⟩ | ⟨h1, h2, h3⟩)
      · exact ⟨⟨h1, h1'⟩, by omega, h2, by omega, by rw [h1'']; exact h4, h5, h6⟩
      · exact ⟨h1, by omega, h3⟩
    · rintro ⟨⟨h1, h1'⟩, h2, h3, h4, h5, h6, h7⟩
      by_cases e : x.1.reject = r
      · exact .inl ⟨⟨h1, h1', e⟩, h3, by omega, by rw [← e]; exact h5, h6, h7⟩
      · exact .inr ⟨⟨h1, h1'⟩, by omega, h3, h4, h5, h6, h7⟩

theorem mem_dA (lot t : Int) : ∀ (n : Nat) (a : Int) (x : Stg × Stg), x ∈ dA lot t n a ↔ x.1.take = t ∧ (a ≤ x.1.accept ∧ x.1.accept < a + n) ∧ (x.1.accept + 1 ≤ x.1.reject ∧ x.1.reject ≤ t + 1) ∧ 1 ≤ x.2.take ∧ x.2.take ≤ lot - t ∧ mx2 x.1.accept (x.1.reject - 1) ≤ x.2.accept ∧ x.2.accept ≤ t + x.2.take ∧ x.2.reject = x.2.accept + 1
  | 0, a, x => by
    constructor
    · intro h; cases h
    · rintro ⟨_, h1, _⟩; omega
  | n + 1, a, x => by
    rw [dA, List.mem_append, mem_dR, mem_dA lot t n (a + 1) x]
    constructor
    · rintro (⟨⟨h1, h1'⟩, h2, h3, h4, h5, h6, h7⟩ | ⟨h1, h2, h3⟩)
      · exact ⟨h1, by omega, by omega, h3, h4, by rw [h1']; exact h5, h6, h7⟩
      · exact ⟨h1, by omega, h3⟩
    · rintro ⟨h1, h2, h3, h4, h5, h6, h7, h8⟩
      by_cases e : x.1.accept = a
      · exact .inl ⟨⟨h1, e⟩, by omega, h4, h5, by rw [← e]; exact h6, h7, h8⟩
      · exact .inr ⟨h1, by omega, h3, h4, h5, h6, h7, h8⟩

/-- A plan of two stages that is tried. -/
structure Two (lot : Int) (x : Stg × Stg) : Prop where
  t1 : 1 ≤ x.1.take
  t2 : x.1.take < lot
  a1 : -1 ≤ x.1.accept
  r1 : x.1.accept + 1 ≤ x.1.reject
  r2 : x.1.reject ≤ x.1.take + 1
  m1 : 1 ≤ x.2.take
  m2 : x.2.take ≤ lot - x.1.take
  l1 : mx2 x.1.accept (x.1.reject - 1) ≤ x.2.accept
  l2 : x.2.accept ≤ x.1.take + x.2.take
  l3 : x.2.reject = x.2.accept + 1

theorem mem_dT (lot : Int) : ∀ (n : Nat) (t : Int) (x : Stg × Stg), 1 ≤ t → (x ∈ dT lot n t ↔ (t ≤ x.1.take ∧ x.1.take < t + n) ∧ -1 ≤ x.1.accept ∧ (x.1.accept + 1 ≤ x.1.reject ∧ x.1.reject ≤ x.1.take + 1) ∧ 1 ≤ x.2.take ∧ x.2.take ≤ lot - x.1.take ∧ mx2 x.1.accept (x.1.reject - 1) ≤ x.2.accept ∧ x.2.accept ≤ x.1.take + x.2.take ∧ x.2.reject = x.2.accept + 1)
  | 0, t, x, _ => by
    constructor
    · intro h; cases h
    · rintro ⟨h1, _⟩; omega
  | n + 1, t, x, ht => by
    rw [dT, List.mem_append, mem_dA, mem_dT lot n (t + 1) x (by omega)]
    constructor
    · rintro (⟨h1, h2, h3, h4, h5, h6, h7, h8⟩ | ⟨h1, h2⟩)
      · rw [h1]; exact ⟨by omega, by omega, by omega, h4, h5, h6, h7, h8⟩
      · exact ⟨by omega, h2⟩
    · rintro ⟨h1, h2, h3, h4, h5, h6, h7, h8⟩
      by_cases e : x.1.take = t
      · rw [e] at h3 h5 h7; exact .inl ⟨e, by omega, h3, h4, h5, h6, h7, h8⟩
      · exact .inr ⟨by omega, h2, h3, h4, h5, h6, h7, h8⟩

theorem two_mem (lot : Nat) (h : 1 ≤ lot) (x : Stg × Stg) : x ∈ dT (lot : Int) (lot - 1) 1 ↔ Two (lot : Int) x := by
  rw [mem_dT _ _ _ _ (by omega)]
  constructor
  · rintro ⟨h1, h2, h3, h4, h5, h6, h7, h8⟩
    exact ⟨h1.1, by omega, h2, h3.1, h3.2, h4, h5, h6, h7, h8⟩
  · rintro ⟨h1, h2, h3, h4, h5, h6, h7, h8, h9, h10⟩
    exact ⟨by omega, h3, ⟨h4, h5⟩, h6, h7, h8, h9, h10⟩

theorem mx2_ge (a b c : Int) : mx2 a b ≤ c ↔ a ≤ c ∧ b ≤ c := by
  unfold mx2; split <;> omega

theorem two_chk {lot : Nat} {x : Stg × Stg} (h2 : lot ≤ 30) (h : Two (lot : Int) x) : Hand.checkPlan (lot : Int) [x.1, x.2] = 0 := by
  obtain ⟨⟨pt, pa, pr⟩, ⟨qt, qa, qr⟩⟩ := x
  obtain ⟨a1, a2, a3, a4, a5, a6, a7, a8, a9, a10⟩ := h
  dsimp only at a1 a2 a3 a4 a5 a6 a7 a8 a9 a10 ⊢
  rw [mx2_ge] at a8
  subst a10
  have w : wrap64 (qa + 1) = qa + 1 := w_id (by omega) (by omega)
  have w0 : wrap64 (pa + 1) = pa + 1 := w_id (by omega) (by omega)
  unfold Hand.checkPlan
  rw [if_neg (by simp), if_pos ⟨by omega, by omega, by simp, by simp; omega⟩]
  unfold Hand.chk
  dsimp only
  rw [if_neg (by omega), if_neg (by omega), if_neg (by omega), w0, if_pos ⟨by omega, by omega⟩]
  unfold Hand.chk
  dsimp only
  rw [if_neg (by omega), if_neg (by omega), if_neg (by omega), w, if_pos ⟨by omega, by omega⟩]
  unfold Hand.chk
  dsimp only
  rw [w, if_pos rfl]

theorem two_of {lot : Int} {p q : Stg} (h : good lot 0 (-1) 0 [p, q]) : Two lot (p, q) := by
  obtain ⟨⟨a1, a2⟩, ⟨b1, b2, b3, b4⟩, _, ⟨c1, c2⟩, ⟨d1, d2, d3, d4⟩, e, _⟩ := h
  have e := e rfl
  exact ⟨a1, by dsimp only; omega, b1, by dsimp only; omega, by dsimp only; omega, c1, by dsimp only; omega, (mx2_ge _ _ _).2 ⟨d1, by dsimp only; omega⟩, by dsimp only; omega, e⟩

theorem ch_small : ∀ n < 8, ∀ k < 8, ch n k ≤ 35 := by decide
theorem rest_small {lot : Nat} {x : Stg × Stg} (h7 : lot ≤ 7) (h : Two (lot : Int) x) : rest [x.1, x.2] lot ≤ 1225 := by
  have h1 := h.t2; have h2 := h.t1; have h3 := h.m1; have h4 := h.m2
  have e : rest [x.1, x.2] lot = ch lot x.1.take.toNat * (ch (lot - x.1.take.toNat) x.2.take.toNat * 1) := rfl
  rw [e, Nat.mul_one]
  exact Nat.mul_le_mul (ch_small _ (by omega) _ (by omega)) (ch_small _ (by omega) _ (by omega))
end Go.Proofs.Ytigpnafpdmdmhaa.Pure

namespace Go.Proofs.Ytigpnafpdmdmhaa.Pure
open Go.RowKit Go.Proofs.Ytigpnafpdmdmhaa.P Go.Proofs.YtigpnafpdmdmhaaW.PrintWords
open Hand (Stg Cnt DSt dL dM dR dA dT mx2 dblGo dblStep betB lotOf cntOf cntW keptV Valid)
open Ma

/-- The state behind those seen: none that is kept; or one that is kept, with the least share. -/
def Best (k : Stg × Stg → Bool) (C : Stg × Stg → Cnt) (P D : Stg × Stg → Nat) (seen : List (Stg × Stg)) (s : DSt) : Prop := match s with
  | none => ∀ y ∈ seen, k y = false
  | some (x, c) => c = C x ∧ x ∈ seen ∧ k x = true ∧ ∀ y ∈ seen, k y = true → P x * D y ≤ P y * D x

theorem dbl_best (f : DSt → Stg × Stg → Option DSt) (k : Stg × Stg → Bool) (C : Stg × Stg → Cnt) (P D : Stg × Stg → Nat) (ok : Stg × Stg → Prop) (hD : ∀ x, ok x → 0 < D x)
    (hf0 : ∀ x, ok x → f none x = some (if k x = true then some (x, C x) else none))
    (hf1 : ∀ x y, ok x → ok y → f (some (y, C y)) x = some (if k x = true then (if P x * D y < P y * D x then some (x, C x) else some (y, C y)) else some (y, C y))) :
    ∀ (l seen : List (Stg × Stg)) (s : DSt), (∀ x ∈ l, ok x) → (∀ x ∈ seen, ok x) → Best k C P D seen s → ∃ s', dblGo f l s = some s' ∧ Best k C P D (seen ++ l) s'
  | [], seen, s, _, _, h => ⟨s, rfl, by rw [List.append_nil]; exact h⟩
  | x :: l, seen, s, hl, hs, h => by
    have hx := hl x (by simp)
    have hl' : ∀ x ∈ l, ok x := fun y hy => hl y (by simp [hy])
    have hs' : ∀ y ∈ seen ++ [x], ok y := fun y hy => by
      rcases List.mem_append.1 hy with hy | hy
      · exact hs y hy
      · obtain rfl := List.mem_singleton.1 hy; exact hx
    suffices ∃ s1, f s x = some s1 ∧ Best k C P D (seen ++ [x]) s1 by
      obtain ⟨s1, e1, h1⟩ := this
      obtain ⟨s2, e2, h2⟩ := dbl_best f k C P D ok hD hf0 hf1 l (seen ++ [x]) s1 hl' hs' h1
      exact ⟨s2, by rw [dblGo, e1, Option.bind_some, e2], by rw [List.append_assoc] at h2; exact h2⟩
    cases s with
    | none =>
      refine ⟨_, hf0 x hx, ?_⟩
      cases hk : k x with
      | false =>
        rw [if_neg Bool.false_ne_true]
        intro y hy
        rcases List.mem_append.1 hy with hy | hy
        · exact h y hy
        · obtain rfl := List.mem_singleton.1 hy; exact hk
      | true =>
        rw [if_pos rfl]
        refine ⟨rfl, by simp, hk, fun y hy hky => ?_⟩
        rcases List.mem_append.1 hy with hy | hy
        · rw [h y hy] at hky; cases hky
        · obtain rfl := List.mem_singleton.1 hy; exact Nat.le_refl _
    | some b =>
      obtain ⟨b, c⟩ := b
      obtain ⟨rfl, hb, hkb, hmin⟩ := h
      refine ⟨_, hf1 x b hx (hs b hb), ?_⟩
      cases hk : k x with
      | false =>
        rw [if_neg Bool.false_ne_true]
        refine ⟨rfl, List.mem_append.2 (.inl hb), hkb, fun y hy hky => ?_⟩
        rcases List.mem_append.1 hy with hy | hy
        · exact hmin y hy hky
        · obtain rfl := List.mem_singleton.1 hy; rw [hk] at hky; cases hky
      | true =>
        rw [if_pos rfl]
        by_cases hlt : P x * D b < P b * D x
        · rw [if_pos hlt]
          refine ⟨rfl, by simp, hk, fun y hy hky => ?_⟩
          rcases List.mem_append.1 hy with hy | hy
          · have h1 := hmin y hy hky
            have hDb := hD b (hs b hb)
            refine Nat.le_of_mul_le_mul_left (?_ : D b * (P x * D y) ≤ D b * (P y * D x)) hDb
            calc D b * (P x * D y) = (P x * D b) * D y := by rw [Nat.mul_comm (P x) (D b), Nat.mul_assoc]
              _ ≤ (P b * D x) * D y := Nat.mul_le_mul_right _ (Nat.le_of_lt hlt)
              _ = (P b * D y) * D x := by rw [Nat.mul_assoc, Nat.mul_comm (D x), ← Nat.mul_assoc]
              _ ≤ (P y * D b) * D x := Nat.mul_le_mul_right _ h1
              _ = D b * (P y * D x) := by rw [Nat.mul_comm (P y) (D b), Nat.mul_assoc]
          · obtain rfl := List.mem_singleton.1 hy; exact Nat.le_refl _
        · rw [if_neg hlt]
          refine ⟨rfl, List.mem_append.2 (.inl hb), hkb, fun y hy hky => ?_⟩
          rcases List.mem_append.1 hy with hy | hy
          · exact hmin y hy hky
          · obtain rfl := List.mem_singleton.1 hy; exact Nat.le_of_not_lt hlt

/-- The mean's two parts. -/
def pP (lot g : Nat) (x : Stg × Stg) : Nat := cP [x.1, x.2] lot g 0 0
def pD (lot : Nat) (x : Stg × Stg) : Nat := rest [x.1, x.2] lot

theorem two_cnt {lot g : Nat} (h7 : lot ≤ 7) (hg : g ≤ lot) {x : Stg × Stg} (h : Two (lot : Int) x) : (∃ a : Int, cntW lot g [x.1, x.2] 0 0 = ⟨a, (pP lot g x : Int), (pD lot x : Int)⟩) ∧ 0 < pD lot x ∧ pD lot x ≤ 1225 ∧ pP lot g x ≤ 8575 := by
  have hv := Hand.checkPlan_ok (two_chk (by omega) h)
  obtain ⟨c1, c2, c3, c4, c5, c6⟩ := cnt_ok hv g hg
  have hr := rest_small h7 h
  refine ⟨⟨_, c1⟩, c5, hr, ?_⟩
  have := Nat.mul_le_mul (show tot [x.1, x.2] ≤ 7 by omega) hr
  unfold pP
  omega

theorem cmp_small (a b c d : Nat) (ha : a ≤ 8575) (hb : b ≤ 1225) (hc : c ≤ 8575) (hd : d ≤ 1225) : decide (wrap64 ((a : Int) * (b : Int)) < wrap64 ((c : Int) * (d : Int))) = decide (a * b < c * d) := by
  have h1 := Nat.mul_le_mul ha hb
  have h2 := Nat.mul_le_mul hc hd
  obtain ⟨u, hu⟩ : ∃ u, u = a * b := ⟨_, rfl⟩
  obtain ⟨v, hv⟩ : ∃ v, v = c * d := ⟨_, rfl⟩
  rw [← hu] at h1
  rw [← hv] at h2
  have e1 : (a : Int) * (b : Int) = (u : Int) := by rw [hu, Int.natCast_mul]
  have e2 : (c : Int) * (d : Int) = (v : Int) := by rw [hv, Int.natCast_mul]
  rw [e1, e2, w_id (x := (u : Int)) (by omega) (by omega), w_id (x := (v : Int)) (by omega) (by omega), ← hu, ← hv]
  by_cases h : u < v
  · rw [decide_eq_true h, decide_eq_true (by omega)]
  · rw [decide_eq_false h, decide_eq_false (by omega)]

theorem step_none (lot : Nat) {g b al be : Nat} (hd : Dem g b al be) (h7 : lot ≤ 7) (hb : b ≤ lot) (x : Stg × Stg) (h : Two (lot : Int) x) :
    dblStep (lot : Int) (g : Int) (b : Int) (al : Int) (be : Int) none x = some (if kp lot [x.1, x.2] g b al be = true then some (x, cntW lot g [x.1, x.2] 0 0) else none) := by
  have hg := hd.g1
  unfold dblStep
  rw [kept_f lot _ g b al be (two_chk (by omega) h) (by omega) hb hd.al1 hd.be1, Option.bind_some, Int.toNat_natCast, Int.toNat_natCast]
  have e : betB (lotOf (lot : Int) none) (cntW lot g [x.1, x.2] 0 0) (cntOf none) = true := rfl
  rw [e, if_pos rfl]

theorem step_some (lot : Nat) {g b al be : Nat} (hd : Dem g b al be) (h1 : 1 ≤ lot) (h7 : lot ≤ 7) (hb : b ≤ lot) (x y : Stg × Stg) (h : Two (lot : Int) x) (hy : Two (lot : Int) y) :
    dblStep (lot : Int) (g : Int) (b : Int) (al : Int) (be : Int) (some (y, cntW lot g [y.1, y.2] 0 0)) x = some (if kp lot [x.1, x.2] g b al be = true then (if pP lot g x * pD lot y < pP lot g y * pD lot x then some (x, cntW lot g [x.1, x.2] 0 0) else some (y, cntW lot g [y.1, y.2] 0 0)) else some (y, cntW lot g [y.1, y.2] 0 0)) := by
  have hg := hd.g1
  unfold dblStep
  rw [kept_f lot _ g b al be (two_chk (by omega) h) (by omega) hb hd.al1 hd.be1, Option.bind_some, Int.toNat_natCast, Int.toNat_natCast]
  obtain ⟨⟨a1, c1⟩, c2, c3, c4⟩ := two_cnt h7 (show g ≤ lot by omega) h
  obtain ⟨⟨a2, d1⟩, d2, d3, d4⟩ := two_cnt h7 (show g ≤ lot by omega) hy
  have e : betB (lotOf (lot : Int) (some (y, cntW lot g [y.1, y.2] 0 0))) (cntW lot g [x.1, x.2] 0 0) (cntOf (some (y, cntW lot g [y.1, y.2] 0 0))) = decide (pP lot g x * pD lot y < pP lot g y * pD lot x) := by
    unfold betB lotOf cntOf
    rw [c1, d1]
    dsimp only
    rw [cmp_small _ _ _ _ c4 d3 d4 c3, show (((lot : Int) == 0) = false) by simp; omega, Bool.false_or]
  rw [e]
  simp only [decide_eq_true_eq]

/-- What Double finds. -/
theorem double_f (lot : Nat) {g b al be : Nat} (hd : Dem g b al be) (h1 : 1 ≤ lot) (h7 : lot ≤ 7) (hb : b ≤ lot) :
    (plan_Double.f (lot : Int) (g : Int) (b : Int) (al : Int) (be : Int) = some (0, [], 9) ∧ ∀ y, Two (lot : Int) y → kp lot [y.1, y.2] g b al be = false) ∨
    ∃ x, plan_Double.f (lot : Int) (g : Int) (b : Int) (al : Int) (be : Int) = some ((lot : Int), [⟨x.1.take, x.1.accept, x.1.reject⟩, ⟨x.2.take, x.2.accept, x.2.reject⟩], 0) ∧ Two (lot : Int) x ∧ kp lot [x.1, x.2] g b al be = true ∧
      ∀ y, Two (lot : Int) y → kp lot [y.1, y.2] g b al be = true → pP lot g x * pD lot y ≤ pP lot g y * pD lot x := by
  obtain ⟨s', e, hbest⟩ := dbl_best (dblStep (lot : Int) (g : Int) (b : Int) (al : Int) (be : Int)) (fun x => kp lot [x.1, x.2] g b al be) (fun x => cntW lot g [x.1, x.2] 0 0) (pP lot g) (pD lot) (Two (lot : Int))
    (fun x hx => (two_cnt h7 (show g ≤ lot by have := hd.g1; omega) hx).2.1) (fun x hx => step_none lot hd h7 hb x hx) (fun x y hx hy => step_some lot hd h1 h7 hb x y hx hy)
    (dT (lot : Int) (lot - 1) 1) [] none (fun x hx => (two_mem lot h1 x).1 hx) (fun _ h => by cases h) (fun _ h => by cases h)
  rw [List.nil_append] at hbest
  have hf : plan_Double.f (lot : Int) (g : Int) (b : Int) (al : Int) (be : Int) = some (found2 (lot : Int) s') := by
    unfold plan_Double.f
    rw [show (10 : Int) = ((10 : Nat) : Int) from rfl, asked_f hd lot 10 h1 (by omega) hb, Option.bind_some, if_pos rfl, if_pos (by omega), Int.toNat_natCast, e]
    rfl
  cases s' with
  | none => exact .inl ⟨hf, fun y hy => hbest y ((two_mem lot h1 y).2 hy)⟩
  | some z =>
    obtain ⟨x, c⟩ := z
    obtain ⟨_, hx, hk, hmin⟩ := hbest
    exact .inr ⟨x, hf, (two_mem lot h1 x).1 hx, hk, fun y hy hky => hmin y ((two_mem lot h1 y).2 hy) hky⟩

theorem cross2 (A D A' D' : Nat) (hD : 0 < D) (hD' : 0 < D') (h : A * D' ≤ A' * D) : (A / Nat.gcd A D) * (D' / Nat.gcd A' D') ≤ (A' / Nat.gcd A' D') * (D / Nat.gcd A D) := by
  have g1 : 0 < Nat.gcd A D := Nat.gcd_pos_of_pos_right _ hD
  have g2 : 0 < Nat.gcd A' D' := Nat.gcd_pos_of_pos_right _ hD'
  have e1 := Nat.div_mul_cancel (Nat.gcd_dvd_left A D)
  have e2 := Nat.div_mul_cancel (Nat.gcd_dvd_right A D)
  have e3 := Nat.div_mul_cancel (Nat.gcd_dvd_left A' D')
  have e4 := Nat.div_mul_cancel (Nat.gcd_dvd_right A' D')
  obtain ⟨p, hp⟩ : ∃ p, p = Nat.gcd A D := ⟨_, rfl⟩
  obtain ⟨q, hq⟩ : ∃ q, q = Nat.gcd A' D' := ⟨_, rfl⟩
  rw [← hp] at g1 e1 e2 ⊢
  rw [← hq] at g2 e3 e4 ⊢
  obtain ⟨a, ha⟩ : ∃ a, a = A / p := ⟨_, rfl⟩
  obtain ⟨d, hd⟩ : ∃ d, d = D / p := ⟨_, rfl⟩
  obtain ⟨a', ha'⟩ : ∃ a, a = A' / q := ⟨_, rfl⟩
  obtain ⟨d', hd'⟩ : ∃ d, d = D' / q := ⟨_, rfl⟩
  rw [← ha] at e1 ⊢
  rw [← hd] at e2 ⊢
  rw [← ha'] at e3 ⊢
  rw [← hd'] at e4 ⊢
  rw [← e1, ← e2, ← e3, ← e4] at h
  clear hp hq ha hd ha' hd' e1 e2 e3 e4 hD hD'
  refine Nat.le_of_mul_le_mul_right (?_ : a * d' * (p * q) ≤ a' * d * (p * q)) (Nat.mul_pos g1 g2)
  calc a * d' * (p * q) = a * p * (d' * q) := by rw [Nat.mul_mul_mul_comm]
    _ ≤ a' * q * (d * p) := h
    _ = a' * d * (p * q) := by rw [Nat.mul_mul_mul_comm, Nat.mul_comm q p]
end Go.Proofs.Ytigpnafpdmdmhaa.Pure

namespace Go.Proofs.Ytigpnafpdmdmhaa.Pure
open Go.RowKit Go.Proofs.Ytigpnafpdmdmhaa.P Go.Proofs.YtigpnafpdmdmhaaW.PrintWords
open Hand (Stg Cnt DSt dL dM dR dA dT mx2 dblGo dblStep betB lotOf cntOf cntW keptV Valid)
open Ma

theorem fits_small {x : Int} (h1 : -1000 ≤ x) (h2 : x ≤ 1000) : Fits x := by
  show (Lit.int .i64 x).wf = true
  unfold Lit.wf
  rw [Bool.and_eq_true, decide_eq_true_eq, decide_eq_true_eq]
  exact ⟨show (-9223372036854775808 : Int) ≤ x by omega, show x ≤ (9223372036854775807 : Int) by omega⟩

/-- Stages of the plan as the reference has them. -/
def b57 (s : Stg) : S57 := ⟨s.take, s.accept, s.reject⟩
theorem b57_c (s : Stg) : cSt (b57 s) = s := rfl

theorem back_one (a : Int) (s : Stg) (K : Nat) : tensilelaw09_Back.f (K + 2) a [(⟨s.take, s.accept, s.reject⟩ : S61)] = some (a, [b57 s]) := by
  rw [tensilelaw09_Back.f, tensilelaw09_Back.l0, if_pos (by simp), if_pos (by omega), if_pos (by simp), tensilelaw09_Back.l0, if_neg (by rw [w_id (by omega) (by omega)]; simp)]
  rfl
theorem back_two (a : Int) (s t : Stg) (K : Nat) : tensilelaw09_Back.f (K + 3) a [(⟨s.take, s.accept, s.reject⟩ : S61), ⟨t.take, t.accept, t.reject⟩] = some (a, [b57 s, b57 t]) := by
  have w1 : wrap64 (0 + 1) = 1 := w_id (x := 0 + 1) (by decide) (by decide)
  have w2 : wrap64 (1 + 1) = 2 := w_id (x := 1 + 1) (by decide) (by decide)
  rw [tensilelaw09_Back.f, tensilelaw09_Back.l0, if_pos (by simp), if_pos (by omega), if_pos (by simp), w1, tensilelaw09_Back.l0, if_pos (by simp), if_pos (by omega), if_pos (by simp), w2, tensilelaw09_Back.l0, if_neg (by simp)]
  rfl

theorem fault_one {lot : Nat} (h1 : 1 ≤ lot) (h2 : lot ≤ 30) {s : Stg} (h : Cand lot s) (K : Nat) (hK : 30 ≤ K) : tensileref09_Fault.f K (lot : Int) [b57 s] = some 0 := by
  obtain ⟨a1, a2, a3, a4, a5⟩ := id h
  rw [fault_f (lot : Int) [b57 s] (fits_small (by omega) (by omega)) (fun x hx => by
    obtain rfl := List.mem_singleton.1 hx
    exact ⟨fits_small (by show -1000 ≤ s.take; omega) (by show s.take ≤ 1000; omega), fits_small (by show -1000 ≤ s.accept; omega) (by show s.accept ≤ 1000; omega), fits_small (by show -1000 ≤ s.reject; omega) (by show s.reject ≤ 1000; omega)⟩) (by simp) K hK]
  exact congrArg some (cand_ok h1 h2 h)

theorem fault_two {lot : Nat} (h2 : lot ≤ 30) {x : Stg × Stg} (h : Two (lot : Int) x) (K : Nat) (hK : 30 ≤ K) : tensileref09_Fault.f K (lot : Int) [b57 x.1, b57 x.2] = some 0 := by
  obtain ⟨a1, a2, a3, a4, a5, a6, a7, a8, a9, a10⟩ := id h
  rw [mx2_ge] at a8
  rw [fault_f (lot : Int) [b57 x.1, b57 x.2] (fits_small (by omega) (by omega)) (fun y hy => by
    rcases List.mem_cons.1 hy with rfl | hy
    · exact ⟨fits_small (by show -1000 ≤ x.1.take; omega) (by show x.1.take ≤ 1000; omega), fits_small (by show -1000 ≤ x.1.accept; omega) (by show x.1.accept ≤ 1000; omega), fits_small (by show -1000 ≤ x.1.reject; omega) (by show x.1.reject ≤ 1000; omega)⟩
    · obtain rfl := List.mem_singleton.1 hy
      exact ⟨fits_small (by show -1000 ≤ x.2.take; omega) (by show x.2.take ≤ 1000; omega), fits_small (by show -1000 ≤ x.2.accept; omega) (by show x.2.accept ≤ 1000; omega), fits_small (by show -1000 ≤ x.2.reject; omega) (by show x.2.reject ≤ 1000; omega)⟩) (by simp) K hK]
  exact congrArg some (two_chk h2 h)

/-- The mean of a plan of two stages. -/
theorem mean_two {lot g : Nat} (h7 : lot ≤ 7) (hg : g ≤ lot) {x : Stg × Stg} (h : Two (lot : Int) x) (l : List S57) (hl : l.map cSt = [x.1, x.2]) :
    plan_Mean.f (lot : Int) (l.map c61) (g : Int) = some (((pP lot g x / Nat.gcd (pP lot g x) (pD lot x) : Nat) : Int), ((pD lot x / Nat.gcd (pP lot g x) (pD lot x) : Nat) : Int), 0) := by
  unfold plan_Mean.f
  rw [toStg_c61, hl]
  have := mean_ok (lot : Int) [x.1, x.2] (two_chk (by omega) h) (g : Int) (by omega) (by omega)
  rw [Int.toNat_natCast, Int.toNat_natCast] at this
  exact this

/-- What is told of another plan that was tried. -/
def Oth (lot : Nat) (g b al be : Nat) (x : Stg × Stg) (tr : Bool) (l : List S57) : Prop :=
  tr = true → ∃ y, Two (lot : Int) y ∧ l.map cSt = [y.1, y.2] ∧ l.length ≤ 5 ∧ pP lot g x * pD lot y ≤ pP lot g y * pD lot x

theorem few_j6 {lot g b al be : Nat} (h7 : lot ≤ 7) (hg : g ≤ lot) {x : Stg × Stg} (hx : Two (lot : Int) x) (tr : Bool) (l : List S57) (h : Oth lot g b al be x tr l) (K : Nat) (hK : 8 ≤ K) :
    tensilelaw09_PlanFewest.j6 K tr false (g : Int) (b : Int) (al : Int) (be : Int) (lot : Int) l ((pP lot g x / Nat.gcd (pP lot g x) (pD lot x) : Nat) : Int) ((pD lot x / Nat.gcd (pP lot g x) (pD lot x) : Nat) : Int) = some true := by
  obtain ⟨K, rfl⟩ : ∃ m, K = m + 1 := ⟨K - 1, by omega⟩
  rw [tensilelaw09_PlanFewest.j6, if_neg (by decide)]
  cases tr with
  | false => rw [if_neg (by decide), wakes_f]; rfl
  | true =>
    obtain ⟨y, hy, hl, h5, hle⟩ := h rfl
    have d1 := (two_cnt h7 hg hx).2.1
    have d2 := (two_cnt h7 hg hy).2.1
    rw [if_pos rfl, plan_f (lot : Int) l h5 K (by omega), Option.bind_some]
    dsimp only
    rw [mean_two h7 hg hy l hl, Option.bind_some]
    dsimp only
    rw [if_pos rfl, least_f _ _ _ _ (Nat.div_pos (Nat.gcd_le_right _ d1) (Nat.gcd_pos_of_pos_right _ d1)) (Nat.div_pos (Nat.gcd_le_right _ d2) (Nat.gcd_pos_of_pos_right _ d2)) (cross2 _ _ _ _ d1 d2 hle), Option.bind_some, if_pos rfl, wakes_f]
    rfl

theorem few_j5 {lot g b al be : Nat} (h7 : lot ≤ 7) (hd : Dem g b al be) (hb : b ≤ lot) {x : Stg × Stg} (hx : Two (lot : Int) x) (hk : kp lot [x.1, x.2] g b al be = true) (tr : Bool) (l : List S57) (h : Oth lot g b al be x tr l) (K : Nat) (hK : 9 ≤ K) :
    tensilelaw09_PlanFewest.j5 K tr false (g : Int) (b : Int) (al : Int) (be : Int) (lot : Int) l (lot : Int) [⟨x.1.take, x.1.accept, x.1.reject⟩, ⟨x.2.take, x.2.accept, x.2.reject⟩] = some true := by
  obtain ⟨K, rfl⟩ : ∃ m, K = m + 1 := ⟨K - 1, by omega⟩
  have hg := hd.g1
  have hD : tensilelaw09_Demand.f (g : Int) (b : Int) (al : Int) (be : Int) = some ((g : Int), (b : Int), (al : Int), (be : Int)) := rfl
  have e1 : [(⟨x.1.take, x.1.accept, x.1.reject⟩ : S61), ⟨x.2.take, x.2.accept, x.2.reject⟩] = [b57 x.1, b57 x.2].map c61 := rfl
  have hkk := keeps_f lot [b57 x.1, b57 x.2] (two_chk (by omega) hx) hd hb
  have e2 : kp lot ([b57 x.1, b57 x.2].map cSt) g b al be = true := hk
  rw [e2] at hkk
  rw [tensilelaw09_PlanFewest.j5, if_neg (by decide), hD, Option.bind_some]
  dsimp only
  rw [e1, hkk, Option.bind_some, mean_two h7 (show g ≤ lot by omega) hx [b57 x.1, b57 x.2] rfl, Option.bind_some]
  dsimp only
  rw [if_pos rfl, if_pos rfl]
  exact few_j6 h7 (by omega) hx tr l h K (by omega)

theorem few_j4 {lot g b al be : Nat} (h7 : lot ≤ 7) (hd : Dem g b al be) (hb : b ≤ lot) {x : Stg × Stg} (hx : Two (lot : Int) x) (hk : kp lot [x.1, x.2] g b al be = true) (tr : Bool) (l : List S57) (h : Oth lot g b al be x tr l) (K : Nat) (hK : 40 ≤ K) :
    tensilelaw09_PlanFewest.j4 K (lot : Int) 0 tr (g : Int) (b : Int) (al : Int) (be : Int) (lot : Int) l (lot : Int) [⟨x.1.take, x.1.accept, x.1.reject⟩, ⟨x.2.take, x.2.accept, x.2.reject⟩] = some true := by
  obtain ⟨K, rfl⟩ : ∃ m, K = m + 4 := ⟨K - 4, by omega⟩
  rw [tensilelaw09_PlanFewest.j4, if_pos rfl, back_two, Option.bind_some]
  dsimp only
  rw [fault_two (by omega) hx _ (by omega), Option.bind_some, if_pos rfl, if_pos (by simp)]
  rw [show ((lot : Int) != (lot : Int)) = false by simp]
  exact few_j5 h7 hd hb hx hk tr l h (K + 3) (by omega)
end Go.Proofs.Ytigpnafpdmdmhaa.Pure

namespace Go.Proofs.Ytigpnafpdmdmhaa.Pure
open Go.RowKit Go.Proofs.Ytigpnafpdmdmhaa.P Go.Proofs.YtigpnafpdmdmhaaW.PrintWords
open Hand (Stg Cnt DSt dL dM dR dA dT mx2 dblGo dblStep betB lotOf cntOf cntW keptV Valid)
open Ma

/-- Another plan that came in: told to be of two stages only if it is. -/
def Oth2 (lot : Nat) (o : Int) (l : List S57) (tr : Bool) : Prop := tr = true → o = (lot : Int) ∧ ∃ y, Two (lot : Int) y ∧ l.map cSt = [y.1, y.2] ∧ l.length ≤ 5

theorem few_j3 {lot g b al be : Nat} (h1 : 1 ≤ lot) (h7 : lot ≤ 7) (hd : Dem g b al be) (hb : b ≤ lot) (o : Int) (l : List S57) (tr : Bool) (ht : Oth2 lot o l tr) (K : Nat) (hK : 50 ≤ K) (ql er : Int) (qs : List S61)
    (hq : (ql = 0 ∧ qs = [] ∧ er = 9 ∧ ∀ y, Two (lot : Int) y → kp lot [y.1, y.2] g b al be = false) ∨ ∃ x, ql = (lot : Int) ∧ qs = [⟨x.1.take, x.1.accept, x.1.reject⟩, ⟨x.2.take, x.2.accept, x.2.reject⟩] ∧ er = 0 ∧ Two (lot : Int) x ∧ kp lot [x.1, x.2] g b al be = true ∧
      ∀ y, Two (lot : Int) y → kp lot [y.1, y.2] g b al be = true → pP lot g x * pD lot y ≤ pP lot g y * pD lot x) :
    tensilelaw09_PlanFewest.j3 K (lot : Int) er tr (g : Int) (b : Int) (al : Int) (be : Int) o l ql qs = some true := by
  obtain ⟨K, rfl⟩ : ∃ m, K = m + 1 := ⟨K - 1, by omega⟩
  have hD : tensilelaw09_Demand.f (g : Int) (b : Int) (al : Int) (be : Int) = some ((g : Int), (b : Int), (al : Int), (be : Int)) := rfl
  -- behind the other plan's own answer
  have key : ∀ t2 : Bool, (t2 = true → o = (lot : Int) ∧ ∃ y, Two (lot : Int) y ∧ l.map cSt = [y.1, y.2] ∧ l.length ≤ 5 ∧ kp lot [y.1, y.2] g b al be = true) →
      tensilelaw09_PlanFewest.j4 K (lot : Int) er t2 (g : Int) (b : Int) (al : Int) (be : Int) o l ql qs = some true := by
    intro t2 h2
    rcases hq with ⟨rfl, rfl, rfl, hno⟩ | ⟨x, rfl, rfl, rfl, hx, hk, hmin⟩
    · obtain ⟨K, rfl⟩ : ∃ m, K = m + 1 := ⟨K - 1, by omega⟩
      rw [tensilelaw09_PlanFewest.j4, if_neg (by decide), if_pos rfl]
      cases t2 with
      | false => rw [if_neg (by decide), wakes_f]; rfl
      | true =>
        obtain ⟨_, y, hy, _, _, hky⟩ := h2 rfl
        rw [hno y hy] at hky
        cases hky
    · cases t2 with
      | true =>
        obtain ⟨rfl, y, hy, hl, h5, hky⟩ := h2 rfl
        exact few_j4 h7 hd hb hx hk true l (fun _ => ⟨y, hy, hl, h5, hmin y hy hky⟩) K (by omega)
      | false =>
        obtain ⟨K, rfl⟩ : ∃ m, K = m + 4 := ⟨K - 4, by omega⟩
        have hg := hd.g1
        -- the other plan is not looked at
        rw [tensilelaw09_PlanFewest.j4, if_pos rfl, back_two, Option.bind_some]
        dsimp only
        rw [fault_two (by omega) hx _ (by omega), Option.bind_some, if_pos rfl, if_pos (by simp), show ((lot : Int) != (lot : Int)) = false by simp]
        have e1 : [(⟨x.1.take, x.1.accept, x.1.reject⟩ : S61), ⟨x.2.take, x.2.accept, x.2.reject⟩] = [b57 x.1, b57 x.2].map c61 := rfl
        have hkk := keeps_f lot [b57 x.1, b57 x.2] (two_chk (by omega) hx) hd hb
        have e2 : kp lot ([b57 x.1, b57 x.2].map cSt) g b al be = true := hk
        rw [e2] at hkk
        rw [tensilelaw09_PlanFewest.j5, if_neg (by decide), hD, Option.bind_some]
        dsimp only
        rw [e1, hkk, Option.bind_some, mean_two h7 (show g ≤ lot by omega) hx [b57 x.1, b57 x.2] rfl, Option.bind_some]
        dsimp only
        rw [if_pos rfl, if_pos rfl, show ((0 : Int) != 0) = false by rfl, tensilelaw09_PlanFewest.j6, if_neg (by decide), if_neg (by decide), wakes_f]
        rfl
  rw [tensilelaw09_PlanFewest.j3]
  cases tr with
  | false => rw [if_neg (by decide)]; exact key false (fun h => by cases h)
  | true =>
    obtain ⟨rfl, y, hy, hl, h5⟩ := ht rfl
    rw [if_pos rfl, plan_f (lot : Int) l h5 K (by omega), Option.bind_some, hD, Option.bind_some]
    dsimp only
    rw [keeps_f lot l (by rw [hl]; exact two_chk (by omega) hy) hd hb, Option.bind_some]
    dsimp only
    rw [if_pos rfl]
    exact key _ (fun h => ⟨rfl, y, hy, hl, h5, by rw [hl] at h; exact h⟩)

theorem few_j2 {lot g b al be : Nat} (h1 : 1 ≤ lot) (hd : Dem g b al be) (hb : b ≤ lot) (o : Int) (l : List S57) (ho : Fits o) (hl : ∀ s ∈ l, Fits s.f0 ∧ Fits s.f1 ∧ Fits s.f2) (K : Nat) (hK : 60 ≤ K) :
    tensilelaw09_PlanFewest.j2 K (lot : Int) (g : Int) (b : Int) (al : Int) (be : Int) o l = some true := by
  obtain ⟨K, rfl⟩ : ∃ m, K = m + 1 := ⟨K - 1, by omega⟩
  rw [tensilelaw09_PlanFewest.j2]
  by_cases h7 : (lot : Int) > 7
  · rw [if_pos h7, wakes_f]; rfl
  have h7' : lot ≤ 7 := by omega
  have hD : tensilelaw09_Demand.f (g : Int) (b : Int) (al : Int) (be : Int) = some ((g : Int), (b : Int), (al : Int), (be : Int)) := rfl
  obtain ⟨ql, qs, er, e, hq⟩ : ∃ ql qs er, plan_Double.f (lot : Int) (g : Int) (b : Int) (al : Int) (be : Int) = some (ql, qs, er) ∧ ((ql = 0 ∧ qs = [] ∧ er = 9 ∧ ∀ y, Two (lot : Int) y → kp lot [y.1, y.2] g b al be = false) ∨ ∃ x, ql = (lot : Int) ∧ qs = [⟨x.1.take, x.1.accept, x.1.reject⟩, ⟨x.2.take, x.2.accept, x.2.reject⟩] ∧ er = 0 ∧ Two (lot : Int) x ∧ kp lot [x.1, x.2] g b al be = true ∧
      ∀ y, Two (lot : Int) y → kp lot [y.1, y.2] g b al be = true → pP lot g x * pD lot y ≤ pP lot g y * pD lot x) := by
    rcases double_f lot hd h1 h7' hb with ⟨e, h⟩ | ⟨x, e, h⟩
    · exact ⟨_, _, _, e, .inl ⟨rfl, rfl, rfl, h⟩⟩
    · exact ⟨_, _, _, e, .inr ⟨x, rfl, rfl, rfl, h⟩⟩
  rw [if_neg h7, hD, Option.bind_some]
  dsimp only
  rw [e, Option.bind_some, ready_f o l ho hl K (by omega), Option.bind_some]
  dsimp only
  have hf : Oth2 lot o l false := fun h => by cases h
  by_cases hr : (decide (l.length ≤ 5) && (Hand.checkPlan o (l.map cSt) == 0)) = true
  · rw [if_pos hr]
    by_cases hlo : o = (lot : Int)
    · rw [if_pos hlo]
      refine few_j3 h1 h7' hd hb o l _ (fun h2 => ⟨hlo, ?_⟩) K (by omega) ql er qs hq
      rw [Bool.and_eq_true, decide_eq_true_eq, beq_iff_eq] at hr
      have h2' : l.length = 2 := by have := eq_of_beq h2; omega
      have hgd := good_of o l hl hr.2
      match l, h2', hgd with
      | [s, t], _, hgd => exact ⟨(cSt s, cSt t), by rw [← hlo]; exact two_of hgd, rfl, by simp⟩
    · rw [if_neg hlo]
      exact few_j3 h1 h7' hd hb o l false hf K (by omega) ql er qs hq
  · rw [if_neg hr]
    exact few_j3 h1 h7' hd hb o l false hf K (by omega) ql er qs hq

theorem few_j1 {lot g b al be : Nat} (h1 : 1 ≤ lot) (h2 : lot ≤ 30) (hd : Dem g b al be) (hb : b ≤ lot) (o : Int) (l : List S57) (ho : Fits o) (hl : ∀ s ∈ l, Fits s.f0 ∧ Fits s.f1 ∧ Fits s.f2) (x3 x4 : Nat) (y3 : x3 ≤ 255) (y4 : x4 ≤ 255) {s : Stg} (hs : Cand lot s)
    (hmin : ∀ c, Cand lot c → c.take < s.take → kp lot [c] g b al be = false) (K : Nat) (hK : 70 ≤ K) :
    tensilelaw09_PlanFewest.j1 K (x3 : Int) (x4 : Int) (lot : Int) false (g : Int) (b : Int) (al : Int) (be : Int) o l (lot : Int) [⟨s.take, s.accept, s.reject⟩] = some true := by
  obtain ⟨K, rfl⟩ : ∃ m, K = m + 1 := ⟨K - 1, by omega⟩
  have hD : tensilelaw09_Demand.f (g : Int) (b : Int) (al : Int) (be : Int) = some ((g : Int), (b : Int), (al : Int), (be : Int)) := rfl
  have hm3 := Nat.mod_lt x3 (show 0 < lot by omega)
  have r3 := rem_n x3 (by omega) lot
  obtain ⟨u, hu⟩ : ∃ u, u = x3 % lot := ⟨_, rfl⟩
  rw [← hu] at hm3 r3
  have w1 : wrap64 (1 + (u : Int)) = ((u + 1 : Nat) : Int) := by rw [w_id (by omega) (by omega)]; omega
  have w2 : wrap64 (((u + 1 : Nat) : Int) + 2) = ((u + 3 : Nat) : Int) := by rw [w_id (by omega) (by omega)]; omega
  have hm4 := Nat.mod_lt x4 (show 0 < u + 3 by omega)
  have r4 := rem_n x4 (by omega) (u + 3)
  obtain ⟨v, hv⟩ : ∃ v, v = x4 % (u + 3) := ⟨_, rfl⟩
  rw [← hv] at hm4 r4
  have w3 : wrap64 ((v : Int) - 1) = (v : Int) - 1 := w_id (by omega) (by omega)
  have w4 : wrap64 ((v : Int) - 1 + 1) = (v : Int) - 1 + 1 := w_id (by omega) (by omega)
  have r0 : (rd_T61 [(⟨s.take, s.accept, s.reject⟩ : S61)] 0).f0 = s.take := rfl
  have hj2 := few_j2 h1 hd hb o l ho hl K (by omega)
  rw [tensilelaw09_PlanFewest.j1, if_neg (by decide), if_neg (by omega), if_pos (by simp), r3, w1, r0, w2, r4, w3, w4]
  by_cases hlt : ((u + 1 : Nat) : Int) < s.take
  · have hc : Cand lot ⟨((u + 1 : Nat) : Int), (v : Int) - 1, (v : Int) - 1 + 1⟩ := ⟨by dsimp only; omega, by dsimp only; omega, by dsimp only; omega, by dsimp only; omega, rfl⟩
    have hk := keeps_f lot [(⟨((u + 1 : Nat) : Int), (v : Int) - 1, (v : Int) - 1 + 1⟩ : S57)] (cand_ok h1 h2 hc) hd hb
    have e2 : kp lot ([(⟨((u + 1 : Nat) : Int), (v : Int) - 1, (v : Int) - 1 + 1⟩ : S57)].map cSt) g b al be = false := hmin _ hc hlt
    rw [e2] at hk
    have e1 : [(⟨((u + 1 : Nat) : Int), (v : Int) - 1, (v : Int) - 1 + 1⟩ : S61)] = [(⟨((u + 1 : Nat) : Int), (v : Int) - 1, (v : Int) - 1 + 1⟩ : S57)].map c61 := rfl
    rw [if_pos hlt, if_neg (by omega), hD, Option.bind_some]
    dsimp only
    rw [e1, hk, Option.bind_some]
    dsimp only
    rw [if_pos rfl, if_neg (by decide)]
    exact hj2
  · rw [if_neg hlt]
    exact hj2

theorem PlanFewest (a0 g b al be o : Int) (l : List S57) (a3 a4 : Int) (h0 : (Lit.int .u8 a0).wf = true) (ho : Fits o) (hl : ∀ s ∈ l, Fits s.f0 ∧ Fits s.f1 ∧ Fits s.f2) (h3 : (Lit.int .u8 a3).wf = true) (h4 : (Lit.int .u8 a4).wf = true) : ∃ k, tensilelaw09_PlanFewest.f k a0 g b al be o l a3 a4 = some true := by
  obtain ⟨x0, rfl, y0⟩ := u8_nat h0
  obtain ⟨x3, rfl, y3⟩ := u8_nat h3
  obtain ⟨x4, rfl, y4⟩ := u8_nat h4
  refine ⟨100, ?_⟩
  have hn : Int.tmod (wrap64 (x0 : Int)) 31 = ((x0 % 31 : Nat) : Int) := rem_n x0 (by omega) 31
  have hm := Nat.mod_lt x0 (show 0 < 31 by decide)
  obtain ⟨n, hnn⟩ : ∃ n, n = x0 % 31 := ⟨_, rfl⟩
  rw [← hnn] at hn hm
  rw [tensilelaw09_PlanFewest.f, hn]
  unfold tensilelaw09_asked.f
  obtain ⟨r, hr⟩ := dem_some g b al be
  rw [hr, Option.bind_some]
  cases r with
  | false => rw [if_neg (by decide), Option.bind_some, if_neg (by decide), wakes_f]; rfl
  | true =>
    obtain ⟨g, b, al, be, rfl, rfl, rfl, rfl, hd⟩ := dem_of hr
    rw [if_pos rfl, In_nat, Option.bind_some]
    by_cases h1 : (1 : Int) ≤ (n : Int) ∧ (n : Int) ≤ 30
    case neg => rw [decide_eq_false h1, if_neg (by decide), Option.bind_some, if_neg (by decide), wakes_f]; rfl
    rw [decide_eq_true h1, if_pos rfl]
    by_cases hb : (n : Int) < (b : Int)
    · rw [if_pos hb, Option.bind_some, if_neg (by decide), wakes_f]; rfl
    rw [if_neg hb, Option.bind_some, if_pos rfl]
    obtain ⟨s, e, hs, hk, hmin⟩ := single_f n hd (by omega) (by omega) (by omega)
    have hD : tensilelaw09_Demand.f (g : Int) (b : Int) (al : Int) (be : Int) = some ((g : Int), (b : Int), (al : Int), (be : Int)) := rfl
    rw [hD, Option.bind_some]
    dsimp only
    rw [e, Option.bind_some]
    dsimp only
    rw [if_pos rfl, back_one (n : Int) s 98, Option.bind_some]
    dsimp only
    rw [fault_one (by omega) (by omega) hs 100 (by omega), Option.bind_some, if_pos rfl, if_pos (by simp), show ((n : Int) != (n : Int)) = false by simp]
    have e1 : [(⟨s.take, s.accept, s.reject⟩ : S61)] = [b57 s].map c61 := rfl
    have hkk := keeps_f n [b57 s] (cand_ok (by omega) (by omega) hs) hd (by omega)
    have e2 : kp n ([b57 s].map cSt) g b al be = true := hk
    rw [e2] at hkk
    rw [tensilelaw09_PlanFewest.j0, if_neg (by decide), hD, Option.bind_some]
    dsimp only
    rw [e1, hkk, Option.bind_some]
    dsimp only
    rw [if_pos rfl, show (!true) = false by rfl]
    exact few_j1 (by omega) (by omega) hd (by omega) o l ho hl x3 x4 y3 y4 hs hmin 99 (by omega)
end Go.Proofs.Ytigpnafpdmdmhaa.Pure



namespace Go.Proofs.Ytigpnafpdmdmhaa.planFewest
open Go.ChangeShapes Go.WideShapes Go.ChangeAt Go.RowKit Go.Proofs.YtigpnafpdmdmhaaW.PrintWords
theorem own : ownKnob Try.prog.godebug = none := by kernel_rfl
theorem laidOut : laidOutB Try.prog = true := by kernel_rfl
set_option maxRecDepth 100000 in
theorem lifted (os : Os) (started : os.Started) (H : Type) (enc : TypeId × Value → H) :
    ReturnsInHanded {} Try.checked os 13 .any (Rows.planFewestSpec.pre6 enc Try.prog Try.f13 Rows.planFewestRow.domain false) (Rows.planFewestSpec.post enc Try.prog Try.f13 false true false false) := by
  refine returnsInHanded_of_change_sized (C := Try.checked) own started (by kernel_rfl) Try.func13
    (ChangeSpec.witness6 (enc := enc) (C := Try.checked) false ⟨#[], #[.int .u8 0, .agg #[.int .i64 0, .int .i64 0, .int .i64 0, .int .i64 0], .agg #[.int .i64 0, .slice none 0 0], .int .u8 0, .int .u8 0], []⟩ 8 (by kernel_rfl) (by kernel_rfl) (by kernel_rfl) (by kernel_rfl)) ?_
  intro W base args ds gs before hval0 hW hcnd hsz0 _
  have hval : ∀ (j : Nat) t v, Try.f13.params[j]? = some t → args[j]? = some v → Value.okWide Try.prog W .any base t v := hval0
  have hW' := hW
  obtain ⟨p, q, hA0, hV, rfl, hfz, hnd⟩ := hW
  have hA : DataW.TrodAll enc Try.prog W 0 (fun _ => true) true Try.f13.params.toList args.toList ds p := hA0
  rw [Try.params13] at hA hval
  obtain ⟨v0, vs0, d0, ds0, p0, q0, hargs, rfl, rfl, h0, r0⟩ := trodAll_cons hA
  obtain ⟨v1, vs1, d1, ds1, p1, q1, rfl, rfl, rfl, h1, r1⟩ := trodAll_cons r0
  obtain ⟨v2, vs2, d2, ds2, p2, q2, rfl, rfl, rfl, h2, r2⟩ := trodAll_cons r1
  obtain ⟨v3, vs3, d3, ds3, p3, q3, rfl, rfl, rfl, h3, r3⟩ := trodAll_cons r2
  obtain ⟨v4, vs4, d4, ds4, p4, q4, rfl, rfl, rfl, h4, r4⟩ := trodAll_cons r3
  obtain ⟨rfl, rfl, rfl⟩ := trodAll_nil r4
  obtain rfl : args = #[v0, v1, v2, v3, v4] := by cases args; simp_all
  obtain ⟨rfl, rfl⟩ := trodVars_none hV
  obtain ⟨a0, rfl, rfl, rfl, w0⟩ := open_int Try.underlying5 (hval 0 5 v0 rfl rfl) h0
  have k1 := h1
  have lt1 : ∀ x ∈ p1, x.block < W.heap.size := by obtain ⟨m, hm⟩ := k1; exact DataW.trod_lt m _ _ _ hm
  obtain ⟨cs1, rfl, _⟩ := okWide_struct Try.underlying64 (hval 1 64 v1 rfl rfl)
  obtain ⟨a1_0, a1_1, a1_2, a1_3, e1, w1⟩ : ∃ a b c d : Int, cs1 = #[.int .i64 a, .int .i64 b, .int .i64 c, .int .i64 d] ∧ P.Fits a ∧ P.Fits b ∧ P.Fits c ∧ P.Fits d := by
    obtain ⟨fuel, hf⟩ := h1
    obtain ⟨a, b, c, d, e, h1⟩ := P.open64 hf
    exact ⟨a, b, c, d, Array.toList_inj.1 e, h1⟩
  subst e1
  have k2 := h2
  have lt2 : ∀ x ∈ p2, x.block < W.heap.size := by obtain ⟨m, hm⟩ := k2; exact DataW.trod_lt m _ _ _ hm
  obtain ⟨cs2, rfl, _⟩ := okWide_struct Try.underlying24 (hval 2 24 v2 rfl rfl)
  obtain ⟨a2, A2, c2, l2, e2, w2, hc2, hC2, y2⟩ : ∃ (a : Int) (A : Option Addr) (cap : Nat) (l : List P.S57), cs2 = #[.int .i64 a, .slice A l.length cap] ∧ P.Fits a ∧ l.length ≤ cap ∧ Kd.C P.k57 W A l.length l ∧ ∀ s ∈ l, P.Fits s.f0 ∧ P.Fits s.f1 ∧ P.Fits s.f2 := by
    obtain ⟨fuel, hf⟩ := h2
    obtain ⟨a, A, cap, l, e, h1, h2, h3, h4⟩ := P.open24 hf
    exact ⟨a, A, cap, l, Array.toList_inj.1 e, h1, h2, h3, h4⟩
  subst e2
  obtain ⟨a3, rfl, rfl, rfl, w3⟩ := open_int Try.underlying5 (hval 3 5 v3 rfl rfl) h3
  obtain ⟨a4, rfl, rfl, rfl, w4⟩ := open_int Try.underlying5 (hval 4 5 v4 rfl rfl) h4
  clear hA0 hval0 hsz0
  obtain ⟨k, hP⟩ := Pure.PlanFewest a0 a1_0 a1_1 a1_2 a1_3 a2 l2 a3 a4 w0 w2 y2 w3 w4
  refine (P.tensilelaw09_PlanFewest.calls k a0 a1_0 a1_1 a1_2 a1_3 a2 A2 c2 l2 a3 a4 true W hC2 hc2 hP).mono fun e W' ⟨he, bel⟩ => ?_
  subst he
  exact ⟨_, rfl, _, _, _, [], _, [], hW', trodAll_mk1 (shut_bool Try.underlying4 _), (trodAll_cons_mk (shut_int Try.underlying5 w0) (trodAll_cons_mk (Below.trod laidOut (by kernel_rfl) (of_decide_eq_true (by kernel_rfl)) k1 bel lt1) (trodAll_cons_mk (Below.trod laidOut (by kernel_rfl) (of_decide_eq_true (by kernel_rfl)) k2 bel lt2) (trodAll_cons_mk (shut_int Try.underlying5 w3) (trodAll_cons_mk (shut_int Try.underlying5 w4) trodAll_mk0))))), rfl, bel.frame _, fun h => by cases h⟩
theorem over : Rows.planFewestRow.holds Try.pinned (OpenSpec.ofChange Rows.planFewestSpec) :=
  OpenClaim.holds_of_wide 13 Try.f13 rfl rfl rfl rfl rfl rfl rfl ⟨rfl, rfl, rfl, rfl, rfl⟩ rfl rfl rfl rfl rfl (by kernel_rfl) Try.func13 (by kernel_rfl)
    (of_decide_eq_true (by kernel_rfl)) (by unfold Func.isWrapper; first | (rw [if_pos (by decide +kernel)]; kernel_rfl) | (rw [if_neg (by decide +kernel)]; exact ⟨rfl, rfl⟩))
    (fun os started H enc _ => lifted os started H enc)
theorem proved : Rows.PlanFewestSaid := over
end Go.Proofs.Ytigpnafpdmdmhaa.planFewest
namespace Go.Proofs.Ytigpnafpdmdmhaa
/-- The row, under a short name, for the claim. -/
theorem planFewest_holds : Rows.PlanFewestSaid := planFewest.proved
end Go.Proofs.Ytigpnafpdmdmhaa
#print axioms Go.Proofs.Ytigpnafpdmdmhaa.planFewest_holds
