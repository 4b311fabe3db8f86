/- The statement PlanDraws: whatever the input (its guards are the law's own), the call returns true, and each argument reads as it did. -/
import Derived.Test.YtigpnafpdmdmhaaPlanDrawsA
import Derived.Test.YtigpnafpdmdmhaaB0
import Derived.Test.YtigpnafpdmdmhaaB1
import Derived.Test.YtigpnafpdmdmhaaB2
import Derived.Test.YtigpnafpdmdmhaaRows
import Derived.WalkKit
import Derived.ProofKit
import Derived.OpenShut
import Derived.ShutString
import Derived.ChangeOld
import Derived.Below
import Derived.SizedLaws
set_option linter.unusedVariables false
set_option linter.unusedSimpArgs false
namespace Go.Proofs.Ytigpnafpdmdmhaa.Ma
open Hand (Stg Cnt saysV tri lastDec fits)

theorem tri_ch : ∀ n k, tri n k = (ch n k : Int)
  | _, 0 => by rw [Hand.tri_zero, ch_zero]; rfl
  | 0, _ + 1 => rfl
  | n + 1, k + 1 => by rw [tri, ch, tri_ch n k, tri_ch n (k + 1)]; omega

/-- How many draws there are of the stages, out of L pieces. -/
def rest : List Stg → Nat → Nat
  | [], _ => 1
  | s :: l, L => ch L s.take.toNat * rest l (L - s.take.toNat)

/-- The pieces of stages. -/
def tot : List Stg → Nat
  | [] => 0
  | s :: l => s.take.toNat + tot l

/-- The sum over all draws from a stage on of what an acceptance (al) or a rejection (rj) by so many pieces bears. -/
def cg (al rj : Nat → Nat → Nat) : List Stg → Nat → Nat → Nat → Nat → Nat
  | [], _, _, _, _ => 0
  | s :: l, L, B, f, t => sw B (L - B) s.take.toNat fun n =>
    if ((f + n : Nat) : Int) ≤ s.accept then al (t + s.take.toNat) (rest l (L - s.take.toNat))
    else if s.reject ≤ ((f + n : Nat) : Int) then rj (t + s.take.toNat) (rest l (L - s.take.toNat))
    else cg al rj l (L - s.take.toNat) (B - n) (f + n) (t + s.take.toNat)

def cA := cg (fun _ r => r) (fun _ _ => 0)
def cP := cg (fun t r => t * r) (fun t r => t * r)
def cD := cg (fun _ r => r) (fun _ r => r)

theorem cg_le {al rj al' rj' : Nat → Nat → Nat} (h1 : ∀ t r, al t r ≤ al' t r) (h2 : ∀ t r, rj t r ≤ rj' t r) : ∀ (l : List Stg) (L B f t : Nat), cg al rj l L B f t ≤ cg al' rj' l L B f t
  | [], _, _, _, _ => Nat.le_refl _
  | s :: l, L, B, f, t => by
    unfold cg
    refine sw_le fun n _ _ _ => ?_
    split
    · exact h1 _ _
    · split
      · exact h2 _ _
      · exact cg_le h1 h2 l _ _ _ _

theorem cg_mul (c : Nat) (al rj : Nat → Nat → Nat) : ∀ (l : List Stg) (L B f t : Nat), cg (fun t r => c * al t r) (fun t r => c * rj t r) l L B f t = c * cg al rj l L B f t
  | [], _, _, _, _ => rfl
  | s :: l, L, B, f, t => by
    unfold cg
    rw [← sw_mul]
    refine sw_congr fun n _ _ _ => ?_
    split
    · rfl
    · split
      · rfl
      · exact cg_mul c al rj l _ _ _ _

theorem lastDec_tail {s s' : Stg} {l : List Stg} (h : lastDec (s :: s' :: l)) : lastDec (s' :: l) := h

theorem cD_rest : ∀ (l : List Stg) (L B f t : Nat), l ≠ [] → lastDec l → B ≤ L → cD l L B f t = rest l L
  | [], _, _, _, _, h, _, _ => absurd rfl h
  | s :: l, L, B, f, t, _, hd, hB => by
    have e : cD (s :: l) L B f t = sw B (L - B) s.take.toNat fun _ => rest l (L - s.take.toNat) := by
      show cg _ _ (s :: l) L B f t = _
      unfold cg
      refine sw_congr fun n h1 h2 h3 => ?_
      split
      · rfl
      · split
        · rfl
        · rename_i h4 h5
          cases l with
          | nil => exact absurd (show saysV s ((f + n : Nat) : Int) = 3 by unfold saysV; rw [if_neg h4, if_neg h5]) (Hand.lastDec_open hd)
          | cons s' l => exact cD_rest (s' :: l) _ _ _ _ (by simp) hd (by omega)
    rw [e, sw_const, show B + (L - B) = L by omega]
    rfl

theorem cA_le (l : List Stg) (L B f t : Nat) : cA l L B f t ≤ cD l L B f t := cg_le (fun _ _ => Nat.le_refl _) (fun _ _ => Nat.zero_le _) l L B f t

theorem cP_le : ∀ (l : List Stg) (L B f t T : Nat), t + tot l ≤ T → cP l L B f t ≤ T * cD l L B f t
  | [], _, _, _, _, _, _ => Nat.zero_le _
  | s :: l, L, B, f, t, T, h => by
    have h' : t + s.take.toNat + tot l ≤ T := by unfold tot at h; omega
    show cg _ _ (s :: l) L B f t ≤ T * cg _ _ (s :: l) L B f t
    unfold cg
    rw [← sw_mul]
    refine sw_le fun n _ _ _ => ?_
    split
    · exact Nat.mul_le_mul_right _ (by omega)
    · split
      · exact Nat.mul_le_mul_right _ (by omega)
      · exact cP_le l _ _ _ _ T h'

theorem cP_ge : ∀ (l : List Stg) (L B f t T : Nat), (∀ s l', l = s :: l' → T ≤ t + s.take.toNat) → T * cD l L B f t ≤ cP l L B f t
  | [], _, _, _, _, _, _ => Nat.le_refl _
  | s :: l, L, B, f, t, T, h => by
    have h' := h s l rfl
    show T * cg _ _ (s :: l) L B f t ≤ cg _ _ (s :: l) L B f t
    unfold cg
    rw [← sw_mul]
    refine sw_le fun n _ _ _ => ?_
    split
    · exact Nat.mul_le_mul_right _ (by omega)
    · split
      · exact Nat.mul_le_mul_right _ (by omega)
      · exact cP_ge l _ _ _ _ T (fun s' l' _ => by omega)

/-! ### Bounds -/
def rowN : Nat → List Nat
  | 0 => [1]
  | n + 1 => 1 :: (List.zipWith (· + ·) (rowN n) ((rowN n).tail ++ [0]))
theorem rowN_length : ∀ n, (rowN n).length = n + 1
  | 0 => rfl
  | n + 1 => by simp [rowN, rowN_length n]
theorem rowN_ch : ∀ n k, k ≤ n → (rowN n)[k]? = some (ch n k)
  | 0, 0, _ => rfl
  | 0, _ + 1, h => absurd h (by omega)
  | n + 1, 0, _ => by simp [rowN, ch_zero]
  | n + 1, k + 1, h => by
    have hl := rowN_length n
    rw [rowN, List.getElem?_cons_succ, List.getElem?_zipWith, rowN_ch n k (by omega)]
    by_cases h1 : k + 1 ≤ n
    · rw [List.getElem?_append_left (by simp [hl]; omega), List.getElem?_tail, rowN_ch n (k + 1) h1]
      rfl
    · rw [List.getElem?_append_right (by simp [hl]; omega)]
      have : k - (rowN n).tail.length = 0 := by simp [hl]; omega
      rw [this]
      have h2 := ch_above n (k + 1) (by omega)
      simp [ch, h2]

/-- All of a row of the triangle, times some function of what is left, is at most M. -/
def rowB (n : Nat) (g : Nat → Nat) (M : Nat) : Bool := ((rowN n).zipIdx).all fun x => decide (x.1 * g (n - x.2) ≤ M)
theorem rowB_ch {n M : Nat} {g : Nat → Nat} (h : rowB n g M = true) (k : Nat) : ch n k * g (n - k) ≤ M := by
  by_cases hk : k ≤ n
  · have h1 := rowN_ch n k hk
    have h2 := List.all_eq_true.1 h (ch n k, k) (List.mem_iff_getElem?.2 ⟨k, by simp [h1]⟩)
    exact of_decide_eq_true h2
  · rw [ch_above n k (by omega)]; simp

def b1 : List Nat := [1, 1, 2, 3, 6, 10, 20, 35, 70, 126, 252, 462, 924, 1716, 3432, 6435, 12870, 24310, 48620, 92378, 184756, 352716, 705432, 1352078, 2704156, 5200300, 10400600, 20058300, 40116600, 77558760, 155117520]
def b2 : List Nat := [1, 1, 2, 6, 12, 30, 90, 210, 560, 1680, 4200, 11550, 34650, 90090, 252252, 756756, 2018016, 5717712, 17153136, 46558512, 133024320, 399072960, 1097450640, 3155170590, 9465511770, 26293088250, 75957810500, 227873431500, 638045608200, 1850332263780, 5550996791340]
def b3 : List Nat := [1, 1, 2, 6, 24, 60, 180, 630, 2520, 7560, 25200, 92400, 369600, 1201200, 4204200, 15765750, 63063000, 214414200, 771891120, 2933186256, 11732745024, 41064607584, 150570227808, 577185873264, 2308743493056, 8245512475200, 30626189193600, 118129586889600, 472518347558400, 1712879009899200, 6423296287122000]
theorem b1_ok : ∀ n, n < 31 → rowB n (fun _ => 1) (b1.getD n 0) = true := by decide +kernel
theorem b2_ok : ∀ n, n < 31 → rowB n (fun m => b1.getD m 0) (b2.getD n 0) = true := by decide +kernel
theorem b3_ok : ∀ n, n < 31 → rowB n (fun m => b2.getD m 0) (b3.getD n 0) = true := by decide +kernel
theorem b3_le : ∀ n, n < 31 → b3.getD n 0 ≤ 6430000000000000 := by decide +kernel

theorem rest1 (l : List Stg) (L : Nat) (hL : L < 31) (hl : l.length ≤ 1) : rest l L ≤ b1.getD L 0 := by
  match l, hl with
  | [], _ =>
    have := rowB_ch (b1_ok L hL) 0
    rw [ch_zero] at this
    exact this
  | [s], _ => exact rowB_ch (b1_ok L hL) s.take.toNat
theorem rest2 (l : List Stg) (L : Nat) (hL : L < 31) (hl : l.length ≤ 2) : rest l L ≤ b2.getD L 0 := by
  match l, hl with
  | [], _ =>
    have h1 := rowB_ch (b2_ok L hL) 0
    have h2 := rest1 [] L hL (by simp)
    rw [ch_zero, Nat.one_mul, Nat.sub_zero] at h1
    exact Nat.le_trans h2 h1
  | s :: l, h =>
    have h1 := rowB_ch (b2_ok L hL) s.take.toNat
    have h2 := rest1 l (L - s.take.toNat) (by omega) (by simpa using h)
    exact Nat.le_trans (Nat.mul_le_mul_left _ h2) h1
theorem rest3 (l : List Stg) (L : Nat) (hL : L < 31) (hl : l.length ≤ 3) : rest l L ≤ b3.getD L 0 := by
  match l, hl with
  | [], _ =>
    have h1 := rowB_ch (b3_ok L hL) 0
    have h2 := rest2 [] L hL (by simp)
    rw [ch_zero, Nat.one_mul, Nat.sub_zero] at h1
    exact Nat.le_trans h2 h1
  | s :: l, h =>
    have h1 := rowB_ch (b3_ok L hL) s.take.toNat
    have h2 := rest2 l (L - s.take.toNat) (by omega) (by simpa using h)
    exact Nat.le_trans (Nat.mul_le_mul_left _ h2) h1
theorem rest_le (l : List Stg) (L : Nat) (hL : L ≤ 30) (hl : l.length ≤ 3) : rest l L ≤ 6430000000000000 :=
  Nat.le_trans (rest3 l L (by omega) hl) (b3_le L (by omega))

theorem rest_pos : ∀ (l : List Stg) (L t : Nat), fits L t l → ∀ m, m = L - t → 0 < rest l m
  | [], _, _, _, _, _ => Nat.one_pos
  | s :: l, L, t, h, m, hm => by
    obtain ⟨h1, h2, h3⟩ := h
    exact Nat.mul_pos (ch_pos _ _ (by omega)) (rest_pos l L _ h3 _ (by omega))

theorem fits_tot : ∀ (l : List Stg) (L t : Nat), t ≤ L → fits L t l → t + tot l ≤ L
  | [], _, _, ht, _ => ht
  | s :: l, L, t, _, h => by
    obtain ⟨h1, h2, h3⟩ := h
    have := fits_tot l L _ h2 h3
    unfold tot
    omega
end Go.Proofs.Ytigpnafpdmdmhaa.Ma

namespace Go.Proofs.Ytigpnafpdmdmhaa.Ma
open Hand (Stg Cnt saysV tri lastDec fits drList drVal drLo cntW decided restW Valid)
open Go.RowKit

theorem w_mod (x : Int) : ∃ q : Int, wrap64 x = x + q * 18446744073709551616 := by
  unfold wrap64; exact ⟨-((x + 9223372036854775808) / 18446744073709551616), by omega⟩
theorem w_eq {x y : Int} (q : Int) (h : x = y + q * 18446744073709551616) : wrap64 x = wrap64 y := by
  subst h; unfold wrap64; omega
theorem w_add (x y : Int) : wrap64 (wrap64 x + wrap64 y) = wrap64 (x + y) := by
  obtain ⟨a, ha⟩ := w_mod x
  obtain ⟨b, hb⟩ := w_mod y
  exact w_eq (a + b) (by rw [ha, hb, Int.add_mul]; omega)
theorem w_mul (x y : Int) : wrap64 (wrap64 x * wrap64 y) = wrap64 (x * y) := by
  obtain ⟨a, ha⟩ := w_mod x
  obtain ⟨b, hb⟩ := w_mod y
  refine w_eq (a * wrap64 y + x * b) ?_
  rw [ha, Int.add_mul]
  conv => lhs; lhs; rw [hb, Int.mul_add]
  rw [Int.add_mul, ← Int.mul_assoc x b, Int.mul_right_comm a]
  omega
theorem w_mulr (x y : Int) : wrap64 (x * wrap64 y) = wrap64 (x * y) := by
  rw [Int.mul_comm, Hand.mul_mod, Int.mul_comm]
theorem w_id {x : Int} (h1 : -9223372036854775808 ≤ x) (h2 : x ≤ 9223372036854775807) : wrap64 x = x := by unfold wrap64; omega

theorem w_nat {x : Int} (n : Nat) (h : x = n) (hn : n ≤ 100000) : wrap64 x = n := by
  subst h
  exact w_id (by omega) (by omega)
theorem restW_rest (lot : Nat) : ∀ (l : List Stg) (t : Nat), restW lot t l = wrap64 (rest l (lot - t) : Int)
  | [], _ => by unfold restW rest wrap64; omega
  | s :: l, t => by
    rw [restW, restW_rest lot l, rest, tri_ch, w_mulr, Nat.sub_sub]
    simp

/-- Counts in the machine's words. -/
def wc (a p d : Nat) : Cnt := ⟨wrap64 (a : Int), wrap64 (p : Int), wrap64 (d : Int)⟩

theorem wc_zero : wc 0 0 0 = ⟨0, 0, 0⟩ := by
  have w0 : wrap64 ((0 : Nat) : Int) = 0 := by unfold wrap64; omega
  unfold wc
  rw [w0]
theorem add_wc (a p d m a' p' d' : Nat) : (wc a p d).add (wrap64 (m : Int)) (wc a' p' d') = wc (a + m * a') (p + m * p') (d + m * d') := by
  have h : ∀ x y : Nat, wrap64 (wrap64 (x : Int) + wrap64 (wrap64 (m : Int) * wrap64 (y : Int))) = wrap64 ((x + m * y : Nat) : Int) := fun x y => by
    rw [w_mul, w_add]; simp
  unfold Cnt.add wc
  simp only [h]

theorem foldl_wc (p x y z : Nat → Nat) : ∀ (m s a b c : Nat),
    (List.range' s m).foldl (fun o n => o.add (wrap64 (p n : Int)) (wc (x n) (y n) (z n))) (wc a b c) =
      wc (a + sm m (fun i => p (s + i) * x (s + i))) (b + sm m (fun i => p (s + i) * y (s + i))) (c + sm m (fun i => p (s + i) * z (s + i)))
  | 0, _, _, _, _ => rfl
  | m + 1, s, a, b, c => by
    rw [List.range'_succ, List.foldl_cons, add_wc, foldl_wc p x y z m (s + 1)]
    have h : ∀ q : Nat → Nat, ∀ v : Nat, v + p s * q s + sm m (fun i => p (s + 1 + i) * q (s + 1 + i)) = v + sm (m + 1) (fun i => p (s + i) * q (s + i)) := fun q v => by
      rw [sm_head, Nat.add_zero, Nat.add_assoc]
      congr 2
      exact sm_congr fun i _ => by rw [Nat.add_assoc, Nat.add_comm 1]
    rw [h, h, h]

theorem sm_split (f : Nat → Nat) (a : Nat) : ∀ m, sm (a + m) f = sm a f + sm m (fun i => f (a + i))
  | 0 => rfl
  | m + 1 => by rw [← Nat.add_assoc, sm, sm_split f a m, sm, Nat.add_assoc]
theorem sm_null {f : Nat → Nat} {k : Nat} (h : ∀ i, i < k → f i = 0) : sm k f = 0 := by
  induction k with
  | zero => rfl
  | succ k ih => rw [sm, ih (fun i hi => h i (by omega)), h k (by omega)]

theorem sw_dr (B g k : Nat) (H : Nat → Nat) : sm (min k B + 1 - (k - g)) (fun i => ch B (k - g + i) * ch g (k - (k - g + i)) * H (k - g + i)) = sw B g k H := by
  unfold sw
  have lo : ∀ n, n < k - g → ch B n * ch g (k - n) * H n = 0 := fun n hn => by rw [ch_above g (k - n) (by omega)]; simp
  have hi : ∀ n, B < n → ch B n * ch g (k - n) * H n = 0 := fun n hn => by rw [ch_above B n hn]; simp
  by_cases h : k - g ≤ min k B
  · obtain ⟨m, hm⟩ : ∃ m, k + 1 = (k - g) + ((min k B + 1 - (k - g)) + m) := ⟨k + 1 - (min k B + 1), by omega⟩
    conv => rhs; rw [hm, sm_split, sm_split]
    rw [sm_null (k := k - g) (fun i hi' => lo i hi'), sm_null (k := m) (fun i hi' => hi _ (by omega))]
    omega
  · rw [show min k B + 1 - (k - g) = 0 by omega]
    refine Eq.symm (sm_null fun i hi' => ?_)
    by_cases h1 : i < k - g
    · exact lo i h1
    · exact hi i (by omega)

theorem fold_sw (B g k : Nat) (x y z : Nat → Nat) : (List.range' (k - g) (min k B + 1 - (k - g))).foldl (fun o n => o.add (wrap64 ((ch B n * ch g (k - n) : Nat) : Int)) (wc (x n) (y n) (z n))) ⟨0, 0, 0⟩ = wc (sw B g k x) (sw B g k y) (sw B g k z) := by
  rw [← wc_zero, foldl_wc (fun n => ch B n * ch g (k - n)), ← sw_dr B g k x, ← sw_dr B g k y, ← sw_dr B g k z, Nat.zero_add, Nat.zero_add, Nat.zero_add]
theorem decided_wc (lot : Nat) (s : Stg) (l : List Stg) (tk f : Nat) (a p d : Nat) :
    decided lot s l tk (f : Int) (wc a p d) = wc
      (if (f : Int) ≤ s.accept then rest l (lot - tk) else if s.reject ≤ (f : Int) then 0 else a)
      (if (f : Int) ≤ s.accept then tk * rest l (lot - tk) else if s.reject ≤ (f : Int) then tk * rest l (lot - tk) else p)
      (if (f : Int) ≤ s.accept then rest l (lot - tk) else if s.reject ≤ (f : Int) then rest l (lot - tk) else d) := by
  have e : wrap64 ((tk : Int) * restW lot tk l) = wrap64 ((tk * rest l (lot - tk) : Nat) : Int) := by
    rw [restW_rest, w_mulr]; simp
  unfold decided saysV
  rw [e, restW_rest]
  have w0 : wrap64 ((0 : Nat) : Int) = 0 := by unfold wrap64; omega
  have n1 : ¬ ((2 : Int) = 1) := by decide
  have n2 : ¬ ((3 : Int) = 1) := by decide
  have n3 : ¬ ((3 : Int) = 2) := by decide
  by_cases h1 : (f : Int) ≤ s.accept
  · simp only [if_pos h1, wc]; rfl
  · by_cases h2 : s.reject ≤ (f : Int)
    · simp only [if_neg h1, if_pos h2, if_neg n1, wc, w0]; rfl
    · simp only [if_neg h1, if_neg h2, if_neg n2, if_neg n3]

theorem cntW_wc (lot bad : Nat) : ∀ (l : List Stg) (t b : Nat), cntW lot bad l t b = wc (cA l (lot - t) (bad - b) b t) (cP l (lot - t) (bad - b) b t) (cD l (lot - t) (bad - b) b t)
  | [], _, _ => wc_zero.symm
  | s :: l, t, b => by
    unfold cntW drList
    rw [List.foldl_map]
    have e : ∀ (o : Cnt) (n : Nat), o.add (drVal s.take.toNat (lot - t) (bad - b) n).2 (decided lot s l (t + s.take.toNat) ((b : Int) + (drVal s.take.toNat (lot - t) (bad - b) n).1) (cntW lot bad l (t + s.take.toNat) (b + (drVal s.take.toNat (lot - t) (bad - b) n).1.toNat)))
        = o.add (wrap64 ((ch (bad - b) n * ch (lot - t - (bad - b)) (s.take.toNat - n) : Nat) : Int)) (wc
          (if ((b + n : Nat) : Int) ≤ s.accept then rest l (lot - t - s.take.toNat) else if s.reject ≤ ((b + n : Nat) : Int) then 0 else cA l (lot - t - s.take.toNat) (bad - b - n) (b + n) (t + s.take.toNat))
          (if ((b + n : Nat) : Int) ≤ s.accept then (t + s.take.toNat) * rest l (lot - t - s.take.toNat) else if s.reject ≤ ((b + n : Nat) : Int) then (t + s.take.toNat) * rest l (lot - t - s.take.toNat) else cP l (lot - t - s.take.toNat) (bad - b - n) (b + n) (t + s.take.toNat))
          (if ((b + n : Nat) : Int) ≤ s.accept then rest l (lot - t - s.take.toNat) else if s.reject ≤ ((b + n : Nat) : Int) then rest l (lot - t - s.take.toNat) else cD l (lot - t - s.take.toNat) (bad - b - n) (b + n) (t + s.take.toNat))) := fun o n => by
      have h1 : (drVal s.take.toNat (lot - t) (bad - b) n).1 = (n : Int) := rfl
      have h2 : (drVal s.take.toNat (lot - t) (bad - b) n).2 = wrap64 ((ch (bad - b) n * ch (lot - t - (bad - b)) (s.take.toNat - n) : Nat) : Int) := by
        unfold drVal
        simp only [tri_ch]
        simp
      rw [h1, h2, Int.toNat_natCast, cntW_wc lot bad l, show (b : Int) + (n : Int) = ((b + n : Nat) : Int) by simp, decided_wc]
      simp only [Nat.sub_sub]
    rw [show (fun (x : Cnt) (y : Nat) => x.add (drVal s.take.toNat (lot - t) (bad - b) y).2 (decided lot s l (t + s.take.toNat) ((b : Int) + (drVal s.take.toNat (lot - t) (bad - b) y).1) (cntW lot bad l (t + s.take.toNat) (b + (drVal s.take.toNat (lot - t) (bad - b) y).1.toNat)))) = _ from funext fun o => funext fun n => e o n]
    exact fold_sw (bad - b) (lot - t - (bad - b)) s.take.toNat
      (fun n => if ((b + n : Nat) : Int) ≤ s.accept then rest l (lot - t - s.take.toNat) else if s.reject ≤ ((b + n : Nat) : Int) then 0 else cA l (lot - t - s.take.toNat) (bad - b - n) (b + n) (t + s.take.toNat))
      (fun n => if ((b + n : Nat) : Int) ≤ s.accept then (t + s.take.toNat) * rest l (lot - t - s.take.toNat) else if s.reject ≤ ((b + n : Nat) : Int) then (t + s.take.toNat) * rest l (lot - t - s.take.toNat) else cP l (lot - t - s.take.toNat) (bad - b - n) (b + n) (t + s.take.toNat))
      (fun n => if ((b + n : Nat) : Int) ≤ s.accept then rest l (lot - t - s.take.toNat) else if s.reject ≤ ((b + n : Nat) : Int) then rest l (lot - t - s.take.toNat) else cD l (lot - t - s.take.toNat) (bad - b - n) (b + n) (t + s.take.toNat))
termination_by l => l.length

/-- A valid plan's counts, for so many bad pieces: no number is too great for the machine. -/
theorem cnt_ok {lot : Nat} {l : List Stg} (h : Valid lot l) (bad : Nat) (hb : bad ≤ lot) :
    cntW lot bad l 0 0 = ⟨(cA l lot bad 0 0 : Int), (cP l lot bad 0 0 : Int), (rest l lot : Int)⟩ ∧ cA l lot bad 0 0 ≤ rest l lot ∧ cP l lot bad 0 0 ≤ tot l * rest l lot ∧ tot l ≤ lot ∧ 0 < rest l lot ∧ rest l lot ≤ 6430000000000000 := by
  have h1 : lot ≤ 30 := by have := h.hi; omega
  have hf : fits lot 0 l := by have := h.fit; rwa [Int.toNat_natCast] at this
  have h2 := rest_le l lot h1 h.len
  have h3 := cD_rest l lot bad 0 0 h.ne h.last hb
  have h4 := cA_le l lot bad 0 0
  have h5 := cP_le l lot bad 0 0 (tot l) (by omega)
  have h6 : tot l ≤ lot := by have := fits_tot l lot 0 (by omega) hf; omega
  have h7 := rest_pos l lot 0 hf lot (by omega)
  rw [h3] at h4 h5
  have h8 : tot l * rest l lot ≤ 30 * 6430000000000000 := Nat.mul_le_mul (by omega) h2
  refine ⟨?_, h4, h5, h6, h7, h2⟩
  rw [cntW_wc, Nat.sub_zero, Nat.sub_zero, h3]
  unfold wc
  rw [w_id (by omega) (by omega), w_id (by omega) (by omega), w_id (by omega) (by omega)]
end Go.Proofs.Ytigpnafpdmdmhaa.Ma

namespace Go.Proofs.Ytigpnafpdmdmhaa.Pure
open Go.RowKit Go.Proofs.Ytigpnafpdmdmhaa.P Go.Proofs.YtigpnafpdmdmhaaW.PrintWords
open Hand (Stg saysV fits lastDec Valid Cnt cntW shareV)
open Ma


theorem wakes_f : tensilelaw09_wakes.f = some true := rfl

theorem ready_f (a : Int) (l : List S57) (ha : Fits a) (hl : ∀ s ∈ l, Fits s.f0 ∧ Fits s.f1 ∧ Fits s.f2) (K : Nat) (hK : 30 ≤ K) :
    tensilelaw09_ready.f K a l = some (decide (l.length ≤ 5) && (Hand.checkPlan a (l.map cSt) == 0)) := by
  unfold tensilelaw09_ready.f tensilelaw09_Thin.f
  rw [Option.bind_some]
  by_cases h5 : l.length ≤ 5
  · have h5' : (l.length : Int) ≤ 5 := by omega
    rw [decide_eq_true h5, decide_eq_true h5', if_pos rfl, fault_f a l ha hl h5 K hK, Option.bind_some, Bool.true_and]
  · have h5' : ¬ (l.length : Int) ≤ 5 := by omega
    rw [decide_eq_false h5, decide_eq_false h5', if_neg (by decide), Bool.false_and]

theorem good_of (a : Int) (l : List S57) (hl : ∀ s ∈ l, Fits s.f0 ∧ Fits s.f1 ∧ Fits s.f2) (h : Hand.checkPlan a (l.map cSt) = 0) : good a 0 (-1) 0 (l.map cSt) := by
  classical
  unfold Hand.checkPlan at h
  split at h; · cases h
  split at h
  case isFalse => cases h
  rename_i h1
  obtain ⟨a1, a2, a3, a4⟩ := h1
  have := chk_good a a2 (l.map cSt) 0 ⟨0, -1, 0⟩ (by omega) (by omega) (by decide) (by decide) (fun s hs => by
    refine ⟨by simpa using List.all_eq_true.1 a4 s hs, ?_⟩
    obtain ⟨x, hx, rfl⟩ := List.mem_map.1 hs
    exact (fits_in (hl x hx).2.1).2) (fun e => absurd (by simp [e]) a3) (by decide)
  rw [h] at this
  by_cases hg : good a 0 (-1) 0 (l.map cSt)
  · exact hg
  · rw [if_neg hg] at this; cases this

theorem good_reject {lot : Int} : ∀ {l : List Stg} {t pa pr : Int}, good lot t pa pr l → ∀ s ∈ l, pr ≤ s.reject ∧ s.accept < s.reject
  | _ :: _, _, _, _, h, s, hs => by
    rcases List.mem_cons.1 hs with rfl | hs
    · exact ⟨h.2.1.2.2.2, h.2.1.2.1⟩
    · have h1 := good_reject h.2.2.2 s hs
      exact ⟨Int.le_trans h.2.1.2.2.2 h1.1, h1.2⟩
theorem good_take30 {lot : Int} : ∀ {l : List Stg} {t pa pr : Int}, 0 ≤ t → lot ≤ 30 → good lot t pa pr l → ∀ s ∈ l, 1 ≤ s.take ∧ s.take ≤ 30
  | _ :: _, _, _, _, h0, hl, h, s, hs => by
    have h1 := h.1
    rcases List.mem_cons.1 hs with rfl | hs
    · omega
    · exact good_take30 (by omega) hl h.2.2.2 s hs
theorem take30 {a : Int} {l : List S57} (ha : a ≤ 30) (h : good a 0 (-1) 0 (l.map cSt)) : ∀ s ∈ l, 1 ≤ s.f0 ∧ s.f0 ≤ 30 :=
  fun s hs => good_take30 (by omega) ha h (cSt s) (List.mem_map.2 ⟨s, hs, rfl⟩)

/-- What a share of a valid plan says. -/
theorem share_ok (sel : Cnt → Int) (a : Int) (ls : List Stg) (h0 : Hand.checkPlan a ls = 0) (bad : Int) (hb0 : 0 ≤ bad) (hb : bad ≤ a) (n : Nat) (hn : sel (cntW a.toNat bad.toNat ls 0 0) = n) (hn2 : n ≤ 30 * 6430000000000000) :
    shareV sel a ls bad = some (((n / Nat.gcd n (rest ls a.toNat) : Nat) : Int), ((rest ls a.toNat / Nat.gcd n (rest ls a.toNat) : Nat) : Int), 0) := by
  have hv := Hand.checkPlan_ok h0
  obtain ⟨lot, rfl⟩ : ∃ m : Nat, a = m := ⟨a.toNat, by omega⟩
  obtain ⟨b, rfl⟩ : ∃ m : Nat, bad = m := ⟨bad.toNat, by omega⟩
  rw [Int.toNat_natCast] at hn ⊢
  rw [Int.toNat_natCast] at hn
  obtain ⟨c1, c2, c3, c4, c5, c6⟩ := cnt_ok hv b (by omega)
  have ed : (cntW lot b ls 0 0).draws = (rest ls lot : Int) := by rw [c1]
  unfold shareV
  rw [if_pos h0, if_pos ⟨hb0, hb⟩, Int.toNat_natCast, Int.toNat_natCast, hn, ed]
  rw [if_pos ⟨by omega, by omega, by omega, by omega⟩, Int.toNat_natCast, Int.toNat_natCast]

theorem chance_ok (a : Int) (ls : List Stg) (h0 : Hand.checkPlan a ls = 0) (bad : Int) (hb0 : 0 ≤ bad) (hb : bad ≤ a) :
    shareV Cnt.accepts a ls bad = some (((cA ls a.toNat bad.toNat 0 0 / Nat.gcd (cA ls a.toNat bad.toNat 0 0) (rest ls a.toNat) : Nat) : Int), ((rest ls a.toNat / Nat.gcd (cA ls a.toNat bad.toNat 0 0) (rest ls a.toNat) : Nat) : Int), 0) := by
  have hv := Hand.checkPlan_ok h0
  obtain ⟨lot, rfl⟩ : ∃ m : Nat, a = m := ⟨a.toNat, by omega⟩
  obtain ⟨c1, c2, c3, c4, c5, c6⟩ := cnt_ok hv bad.toNat (by omega)
  refine share_ok Cnt.accepts _ ls h0 bad hb0 hb _ ?_ ?_
  · rw [Int.toNat_natCast, c1]
  · rw [Int.toNat_natCast]
    omega

theorem mean_ok (a : Int) (ls : List Stg) (h0 : Hand.checkPlan a ls = 0) (bad : Int) (hb0 : 0 ≤ bad) (hb : bad ≤ a) :
    shareV Cnt.pieces a ls bad = some (((cP ls a.toNat bad.toNat 0 0 / Nat.gcd (cP ls a.toNat bad.toNat 0 0) (rest ls a.toNat) : Nat) : Int), ((rest ls a.toNat / Nat.gcd (cP ls a.toNat bad.toNat 0 0) (rest ls a.toNat) : Nat) : Int), 0) := by
  have hv := Hand.checkPlan_ok h0
  obtain ⟨lot, rfl⟩ : ∃ m : Nat, a = m := ⟨a.toNat, by omega⟩
  obtain ⟨c1, c2, c3, c4, c5, c6⟩ := cnt_ok hv bad.toNat (by omega)
  have h30 := hv.hi
  have h8 : tot ls * rest ls lot ≤ 30 * 6430000000000000 := Nat.mul_le_mul (by omega) c6
  refine share_ok Cnt.pieces _ ls h0 bad hb0 hb _ ?_ ?_
  · rw [Int.toNat_natCast, c1]
  · rw [Int.toNat_natCast]
    exact Nat.le_trans c3 h8

theorem share_bad (sel : Cnt → Int) (a : Int) (ls : List Stg) (h0 : Hand.checkPlan a ls = 0) (bad : Int) (hb : ¬ (0 ≤ bad ∧ bad ≤ a)) : shareV sel a ls bad = some (0, 0, 2) := by
  unfold shareV
  rw [if_pos h0, if_neg hb]
theorem share_err (sel : Cnt → Int) (a : Int) (ls : List Stg) (h0 : ¬ Hand.checkPlan a ls = 0) (bad : Int) : shareV sel a ls bad = some (0, 0, Hand.checkPlan a ls) := by
  unfold shareV
  rw [if_neg h0]


end Go.Proofs.Ytigpnafpdmdmhaa.Pure

namespace Go.Proofs.Ytigpnafpdmdmhaa.Ma
open Hand (Stg Cnt saysV tri lastDec fits Valid)

theorem cD_le : ∀ (l : List Stg) (L B f t : Nat), B ≤ L → cD l L B f t ≤ rest l L
  | [], _, _, _, _, _ => Nat.zero_le _
  | s :: l, L, B, f, t, hB => by
    have e : cD (s :: l) L B f t ≤ sw B (L - B) s.take.toNat fun _ => rest l (L - s.take.toNat) := by
      show cg _ _ (s :: l) L B f t ≤ _
      unfold cg
      refine sw_le fun n h1 h2 h3 => ?_
      split
      · exact Nat.le_refl _
      · split
        · exact Nat.le_refl _
        · exact cD_le l _ _ _ _ (by omega)
    rw [sw_const, show B + (L - B) = L by omega] at e
    exact e
theorem cA_rest (l : List Stg) (L B f t : Nat) (h : B ≤ L) : cA l L B f t ≤ rest l L := Nat.le_trans (cA_le l L B f t) (cD_le l L B f t h)

/-- What a stage's number of bad ones leaves of the acceptances. -/
def gA (s : Stg) (l : List Stg) (L B f t : Nat) : Nat :=
  if (f : Int) ≤ s.accept then rest l L else if s.reject ≤ (f : Int) then 0 else cA l L B f t
theorem cA_cons (s : Stg) (l : List Stg) (L B f t : Nat) : cA (s :: l) L B f t = sw B (L - B) s.take.toNat fun n => gA s l (L - s.take.toNat) (B - n) (f + n) (t + s.take.toNat) := rfl

theorem gA_f {s : Stg} {l : List Stg} {L B f t : Nat} (hB : B ≤ L) (h : cA l L B (f + 1) t ≤ cA l L B f t) : gA s l L B (f + 1) t ≤ gA s l L B f t := by
  unfold gA
  have h1 : ((f + 1 : Nat) : Int) = (f : Int) + 1 := by simp
  have h2 := cA_rest l L B (f + 1) t hB
  rw [h1]
  split
  · rw [if_pos (by omega)]; exact Nat.le_refl _
  · split
    · exact Nat.zero_le _
    · split
      · exact h2
      · rw [if_neg (by omega)]; exact h
theorem gA_b {s : Stg} {l : List Stg} {L B f t : Nat} (h : cA l L (B + 1) f t ≤ cA l L B f t) : gA s l L (B + 1) f t ≤ gA s l L B f t := by
  unfold gA
  split
  · exact Nat.le_refl _
  · split
    · exact Nat.le_refl _
    · exact h

theorem cA_mono : ∀ (l : List Stg) (L B f t : Nat), (B ≤ L → cA l L B (f + 1) t ≤ cA l L B f t) ∧ (B + 1 ≤ L → cA l L (B + 1) f t ≤ cA l L B f t)
  | [], _, _, _, _ => ⟨fun _ => Nat.le_refl _, fun _ => Nat.le_refl _⟩
  | s :: l, L, B, f, t => by
    constructor
    · intro hB
      rw [cA_cons, cA_cons]
      refine sw_le fun n h1 h2 h3 => ?_
      rw [Nat.add_right_comm f 1 n]
      exact gA_f (by omega) ((cA_mono l _ _ _ _).1 (by omega))
    · intro hB
      rw [cA_cons, cA_cons]
      generalize hk : s.take.toNat = k
      cases k with
      | zero =>
        rw [sw_zero, sw_zero]
        exact gA_b ((cA_mono l _ _ _ _).2 (by omega))
      | succ k =>
        obtain ⟨g, hg⟩ : ∃ g, L - B = g + 1 := ⟨L - B - 1, by omega⟩
        rw [show L - (B + 1) = g by omega, hg, sw_bad, sw_good]
        refine Nat.add_le_add (sw_le fun n h1 h2 h3 => ?_) (sw_le fun n h1 h2 h3 => ?_)
        · rw [show B + 1 - n = (B - n) + 1 by omega]
          exact gA_b ((cA_mono l _ _ _ _).2 (by omega))
        · rw [show B + 1 - (n + 1) = B - n by omega, ← Nat.add_assoc]
          exact gA_f (by omega) ((cA_mono l _ _ _ _).1 (by omega))

/-- With no bad piece. -/
theorem cA_none : ∀ (l : List Stg) (L t : Nat), l ≠ [] → lastDec l → (∀ s ∈ l, 0 < s.reject) → cA l L 0 0 t = rest l L
  | [], _, _, h, _, _ => absurd rfl h
  | s :: l, L, t, _, hd, hr => by
    have h0 : 0 < s.reject := hr s (by simp)
    have e : cA (s :: l) L 0 0 t = sw 0 (L - 0) s.take.toNat fun _ => rest l (L - s.take.toNat) := by
      rw [cA_cons]
      refine sw_congr fun n _ hn _ => ?_
      obtain rfl : n = 0 := by omega
      unfold gA
      split
      · rfl
      · rename_i h1
        rw [if_neg (by omega)]
        cases l with
        | nil =>
          have : s.reject ≤ s.accept + 1 := hd
          exact absurd h1 (by simp; omega)
        | cons s' l => exact cA_none (s' :: l) _ _ (by simp) hd (fun x hx => hr x (by simp [hx]))
    rw [e, sw_const, show 0 + (L - 0) = L by omega]
    rfl
theorem cA_rejected (s : Stg) (l : List Stg) (L t : Nat) (h1 : s.accept < 0) (h2 : s.reject ≤ 0) : cA (s :: l) L 0 0 t = 0 := by
  have e : cA (s :: l) L 0 0 t = sw 0 (L - 0) s.take.toNat fun _ => 0 := by
    rw [cA_cons]
    refine sw_congr fun n _ hn _ => ?_
    obtain rfl : n = 0 := by omega
    unfold gA
    rw [if_neg (by simp; omega), if_pos (by simpa using h2)]
  rw [e, sw_const, Nat.mul_zero]
/-- Each Accept is less than the pieces taken by then. -/
def strict : List Stg → Nat → Prop
  | [], _ => True
  | s :: l, t => s.accept < ((t + s.take.toNat : Nat) : Int) ∧ strict l (t + s.take.toNat)
/-- With bad ones alone. -/
theorem cA_all : ∀ (l : List Stg) (L t : Nat), fits (L + t) t l → strict l t → cA l L L t t = 0
  | [], _, _, _, _ => rfl
  | s :: l, L, t, hf, hs => by
    obtain ⟨f1, f2, f3⟩ := hf
    obtain ⟨h1, h2⟩ := hs
    have e : cA (s :: l) L L t t = sw L (L - L) s.take.toNat fun _ => 0 := by
      rw [cA_cons]
      refine sw_congr fun n h3 _ h4 => ?_
      obtain rfl : n = s.take.toNat := by omega
      unfold gA
      rw [if_neg (by omega)]
      split
      · rfl
      · exact cA_all l _ _ (by rw [show L - s.take.toNat + (t + s.take.toNat) = L + t by omega]; exact f3) h2
    rw [e, sw_const, Nat.mul_zero]

/-- The first stage always decides. -/
theorem cP_first (s : Stg) (l : List Stg) (L B t : Nat) (hB : B ≤ L) (h : s.reject = s.accept + 1) : cP (s :: l) L B 0 t = (t + s.take.toNat) * rest (s :: l) L := by
  have e : cP (s :: l) L B 0 t = sw B (L - B) s.take.toNat fun _ => (t + s.take.toNat) * rest l (L - s.take.toNat) := by
    show cg _ _ (s :: l) L B 0 t = _
    unfold cg
    refine sw_congr fun n _ _ _ => ?_
    split
    · rfl
    · rw [if_pos (by omega)]
  rw [e, sw_const, show B + (L - B) = L by omega, rest, ← Nat.mul_assoc, ← Nat.mul_assoc, Nat.mul_comm (ch L _)]
end Go.Proofs.Ytigpnafpdmdmhaa.Ma

namespace Go.Proofs.Ytigpnafpdmdmhaa.Ma
open Hand (Stg Cnt saysV tri lastDec fits Valid)

theorem ch_self : ∀ n, ch n n = 1
  | 0 => rfl
  | n + 1 => by rw [ch, ch_self n, ch_above n (n + 1) (by omega)]

theorem sw_add (B g k : Nat) (H H' : Nat → Nat) : sw B g k (fun n => H n + H' n) = sw B g k H + sw B g k H' := by
  unfold sw
  rw [← sm_add]
  exact sm_congr fun n _ => by rw [Nat.mul_add]

theorem sw_none (k : Nat) (H : Nat → Nat) : sw 0 0 (k + 1) H = 0 := by
  rw [sw_congr (H' := fun _ => 0) (fun n _ h1 h2 => by omega), sw_const, Nat.mul_zero]

/-- Two samples, one behind the other. -/
def two (B g f u : Nat) (K : Nat → Nat) : Nat := sw B g f fun m => sw (B - m) (g - (f - m)) u fun j => K (m + j)

theorem two_bad (B g f u : Nat) (K : Nat → Nat) : two (B + 1) g (f + 1) (u + 1) K = two B g (f + 1) (u + 1) K + two B g (f + 1) u (fun n => K (n + 1)) + two B g f (u + 1) (fun n => K (n + 1)) := by
  unfold two
  rw [sw_bad, ← sw_add]
  congr 1
  · refine sw_congr fun m h1 h2 h3 => ?_
    rw [show B + 1 - m = (B - m) + 1 by omega, sw_bad]
    rfl
  · refine sw_congr fun m h1 h2 h3 => ?_
    rw [show B + 1 - (m + 1) = B - m by omega, show f + 1 - (m + 1) = f - m by omega]
    refine sw_congr fun j _ _ _ => ?_
    rw [show m + 1 + j = m + j + 1 by omega]
theorem two_good (B g f u : Nat) (K : Nat → Nat) : two B (g + 1) (f + 1) (u + 1) K = two B g (f + 1) (u + 1) K + two B g (f + 1) u K + two B g f (u + 1) K := by
  unfold two
  rw [sw_good, ← sw_add]
  congr 1
  · refine sw_congr fun m h1 h2 h3 => ?_
    rw [show g + 1 - (f + 1 - m) = (g - (f + 1 - m)) + 1 by omega, sw_good]
  · refine sw_congr fun m h1 h2 h3 => ?_
    rw [show g + 1 - (f + 1 - m) = g - (f - m) by omega]

theorem two_one : ∀ (B g f u : Nat) (K : Nat → Nat), two B g f u K = ch (f + u) f * sw B g (f + u) K
  | B, g, 0, u, K => by
    unfold two
    rw [sw_zero, ch_zero, Nat.zero_add, Nat.one_mul]
    exact sw_congr fun j _ _ _ => by rw [Nat.zero_add]
  | B, g, f + 1, 0, K => by
    unfold two
    rw [Nat.add_zero, ch_self, Nat.one_mul]
    exact sw_congr fun j _ _ _ => by rw [sw_zero, Nat.add_zero]
  | 0, 0, f + 1, u + 1, K => by
    unfold two
    rw [sw_none, show f + 1 + (u + 1) = (f + u + 1) + 1 by omega, sw_none, Nat.mul_zero]
  | 0, g + 1, f + 1, u + 1, K => by
    rw [two_good, two_one 0 g (f + 1) (u + 1), two_one 0 g (f + 1) u, two_one 0 g f (u + 1), show f + 1 + (u + 1) = (f + u + 1) + 1 by omega, sw_good, show f + 1 + u = f + u + 1 by omega, show f + (u + 1) = f + u + 1 by omega, ch, Nat.mul_add, Nat.add_mul, Nat.add_mul]
    omega
  | B + 1, g, f + 1, u + 1, K => by
    rw [two_bad, two_one B g (f + 1) (u + 1), two_one B g (f + 1) u, two_one B g f (u + 1), show f + 1 + (u + 1) = (f + u + 1) + 1 by omega, sw_bad, show f + 1 + u = f + u + 1 by omega, show f + (u + 1) = f + u + 1 by omega, ch, Nat.mul_add, Nat.add_mul, Nat.add_mul]
    omega
termination_by B g f u => B + g + f + u

/-- A plan of one stage, split. -/
theorem split_A (n t f B : Nat) (a r r1 : Int) (ht : t ≤ n) (hf : f ≤ t) (hB : B ≤ n) (hr : ∀ m : Nat, m ≤ f → (r1 ≤ (m : Int) → a < m)) (hrr : r = a + 1) :
    cA [⟨(f : Int), -1, r1⟩, ⟨((t - f : Nat) : Int), a, r⟩] n B 0 0 = ch t f * cA [⟨(t : Int), a, r⟩] n B 0 0 := by
  subst hrr
  have e1 : cA [⟨(t : Int), a, a + 1⟩] n B 0 0 = sw B (n - B) t fun j => if (j : Int) ≤ a then 1 else 0 := by
    rw [cA_cons, Int.toNat_natCast]
    refine sw_congr fun j _ _ _ => ?_
    unfold gA
    rw [Nat.zero_add]
    by_cases h : (j : Int) ≤ a
    · rw [if_pos h, if_pos h]; rfl
    · rw [if_neg h, if_neg h, if_pos (show a + 1 ≤ (j : Int) by omega)]
  have e2 : cA [⟨(f : Int), -1, r1⟩, ⟨((t - f : Nat) : Int), a, a + 1⟩] n B 0 0 = two B (n - B) f (t - f) fun j => if (j : Int) ≤ a then 1 else 0 := by
    rw [cA_cons, Int.toNat_natCast]
    unfold two
    refine sw_congr fun m h1 h2 h3 => ?_
    have e3 : sw (B - m) (n - B - (f - m)) (t - f) (fun j => if ((m + j : Nat) : Int) ≤ a then 1 else 0) = cA [⟨((t - f : Nat) : Int), a, a + 1⟩] (n - f) (B - m) (0 + m) (0 + f) := by
      rw [cA_cons, Int.toNat_natCast, show n - f - (B - m) = n - B - (f - m) by omega]
      refine sw_congr fun j _ _ _ => ?_
      unfold gA
      rw [Nat.zero_add]
      by_cases h : ((m + j : Nat) : Int) ≤ a
      · rw [if_pos h, if_pos h]; rfl
      · rw [if_neg h, if_neg h, if_pos (show a + 1 ≤ ((m + j : Nat) : Int) by omega)]
    rw [e3]
    unfold gA
    rw [if_neg (by simp; omega)]
    split
    · rename_i h
      rw [← e3]
      have := hr m h1 (by simpa using h)
      rw [sw_congr (H' := fun _ => 0) (fun j _ _ _ => if_neg (by omega)), sw_const, Nat.mul_zero]
    · rfl
  rw [e1, e2, two_one, show f + (t - f) = t by omega]

theorem split_D (n t f : Nat) (hf : f ≤ t) : ch n f * ch (n - f) (t - f) = ch t f * ch n t := by
  have h := two_one 0 n f (t - f) (fun _ => 1)
  unfold two at h
  rw [show f + (t - f) = t by omega, sw_const, Nat.zero_add, Nat.mul_one] at h
  rw [← h, sw_congr (H' := fun _ => ch (n - f) (t - f)) (fun m h1 h2 h3 => ?_), sw_const, Nat.zero_add]
  obtain rfl : m = 0 := by omega
  rw [sw_const, Nat.mul_one, show 0 - 0 + (n - (f - 0)) = n - f by omega]
end Go.Proofs.Ytigpnafpdmdmhaa.Ma

namespace Go.Proofs.Ytigpnafpdmdmhaa.Ma

theorem sm_zero' (m : Nat) : sm m (fun _ => 0) = 0 := sm_null fun _ _ => rfl
theorem sw_sm (B g k : Nat) (f : Nat → Nat → Nat) : ∀ m, sw B g k (fun n => sm m (f n)) = sm m (fun i => sw B g k (fun n => f n i))
  | 0 => by
    rw [show (fun n => sm 0 (f n)) = fun _ => 0 from rfl, sw_const]
    rfl
  | m + 1 => by
    rw [show (fun n => sm (m + 1) (f n)) = fun n => sm m (f n) + f n m from rfl, sw_add, sw_sm B g k f m]
    rfl

/-- The sum over the bad ones of each of several samples, one behind the other. -/
def nw : Nat → Nat → List Nat → (List Nat → Nat) → Nat
  | _, _, [], H => H []
  | B, g, r :: rs, H => sw B g r fun n => nw (B - n) (g - (r - n)) rs fun ns => H (n :: ns)

/-- One piece goes to the i-th sample. -/
def bump (b i : Nat) (ns : List Nat) : List Nat := ns.modify i (· + b)
def tm (B g b : Nat) (rs : List Nat) (H : List Nat → Nat) (i : Nat) : Nat :=
  match rs[i]? with
  | some (k + 1) => nw B g (rs.set i k) fun ns => H (bump b i ns)
  | _ => 0

theorem tm_zero (B g b k : Nat) (rs : List Nat) (H : List Nat → Nat) : tm B g b ((k + 1) :: rs) H 0 = sw B g k fun n => nw (B - n) (g - (k - n)) rs fun ns => H ((n + b) :: ns) := rfl
theorem tm_zero' (B g b : Nat) (rs : List Nat) (H : List Nat → Nat) : tm B g b (0 :: rs) H 0 = 0 := rfl
theorem tm_succ (B g b r : Nat) (rs : List Nat) (H : List Nat → Nat) (i : Nat) : tm B g b (r :: rs) H (i + 1) = sw B g r fun n => tm (B - n) (g - (r - n)) b rs (fun ns => H (n :: ns)) i := by
  unfold tm
  rw [List.getElem?_cons_succ]
  cases h : rs[i]? with
  | none => simp only [sw_const, Nat.mul_zero]
  | some x =>
    cases x with
    | zero => simp only [sw_const, Nat.mul_zero]
    | succ k => rfl

theorem nw_bad : ∀ (rs : List Nat) (B g : Nat) (H : List Nat → Nat), nw (B + 1) g rs H = nw B g rs H + sm rs.length (tm B g 1 rs H)
  | [], _, _, _ => rfl
  | 0 :: rs, B, g, H => by
    rw [nw, nw, sw_zero, sw_zero, List.length_cons, sm_head, tm_zero', Nat.zero_add, Nat.sub_zero, Nat.sub_zero, nw_bad rs]
    congr 1
    refine sm_congr fun i _ => ?_
    rw [tm_succ, sw_zero, Nat.sub_zero]
    rfl
  | (k + 1) :: rs, B, g, H => by
    rw [nw, nw, sw_bad, List.length_cons, sm_head, tm_zero]
    have e1 : sw B g (k + 1) (fun n => nw (B + 1 - n) (g - (k + 1 - n)) rs fun ns => H (n :: ns)) = sw B g (k + 1) (fun n => nw (B - n) (g - (k + 1 - n)) rs fun ns => H (n :: ns)) + sm rs.length (fun i => tm B g 1 ((k + 1) :: rs) H (i + 1)) := by
      have e2 : sm rs.length (fun i => tm B g 1 ((k + 1) :: rs) H (i + 1)) = sw B g (k + 1) fun n => sm rs.length (tm (B - n) (g - (k + 1 - n)) 1 rs fun ns => H (n :: ns)) := by
        rw [sw_sm]
        exact sm_congr fun i _ => tm_succ _ _ _ _ _ _ _
      rw [e2, ← sw_add]
      refine sw_congr fun n h1 h2 h3 => ?_
      rw [show B + 1 - n = (B - n) + 1 by omega, nw_bad rs]
    rw [e1]
    have e3 : sw B g k (fun n => nw (B + 1 - (n + 1)) (g - (k + 1 - (n + 1))) rs fun ns => H ((n + 1) :: ns)) = sw B g k (fun n => nw (B - n) (g - (k - n)) rs fun ns => H ((n + 1) :: ns)) :=
      sw_congr fun n _ _ _ => by rw [show B + 1 - (n + 1) = B - n by omega, show k + 1 - (n + 1) = k - n by omega]
    rw [e3]
    omega

theorem nw_good : ∀ (rs : List Nat) (B g : Nat) (H : List Nat → Nat), nw B (g + 1) rs H = nw B g rs H + sm rs.length (tm B g 0 rs H)
  | [], _, _, _ => rfl
  | 0 :: rs, B, g, H => by
    rw [nw, nw, sw_zero, sw_zero, List.length_cons, sm_head, tm_zero', Nat.zero_add, Nat.sub_zero, Nat.sub_zero, Nat.sub_zero, nw_good rs]
    congr 1
    refine sm_congr fun i _ => ?_
    rw [tm_succ, sw_zero, Nat.sub_zero, Nat.sub_zero]
  | (k + 1) :: rs, B, g, H => by
    rw [nw, nw, sw_good, List.length_cons, sm_head, tm_zero]
    have e1 : sw B g (k + 1) (fun n => nw (B - n) (g + 1 - (k + 1 - n)) rs fun ns => H (n :: ns)) = sw B g (k + 1) (fun n => nw (B - n) (g - (k + 1 - n)) rs fun ns => H (n :: ns)) + sm rs.length (fun i => tm B g 0 ((k + 1) :: rs) H (i + 1)) := by
      have e2 : sm rs.length (fun i => tm B g 0 ((k + 1) :: rs) H (i + 1)) = sw B g (k + 1) fun n => sm rs.length (tm (B - n) (g - (k + 1 - n)) 0 rs fun ns => H (n :: ns)) := by
        rw [sw_sm]
        exact sm_congr fun i _ => tm_succ _ _ _ _ _ _ _
      rw [e2, ← sw_add]
      refine sw_congr fun n h1 h2 h3 => ?_
      rw [show g + 1 - (k + 1 - n) = (g - (k + 1 - n)) + 1 by omega, nw_good rs]
    rw [e1]
    have e3 : sw B g k (fun n => nw (B - n) (g + 1 - (k + 1 - n)) rs fun ns => H (n :: ns)) = sw B g k (fun n => nw (B - n) (g - (k - n)) rs fun ns => H ((n + 0) :: ns)) :=
      sw_congr fun n _ _ _ => by rw [show g + 1 - (k + 1 - n) = g - (k - n) by omega]; rfl
    rw [e3]
    omega

theorem nw_none : ∀ (rs : List Nat) (H : List Nat → Nat), nw 0 0 rs H = if ∀ r ∈ rs, r = 0 then H (rs.map fun _ => 0) else 0
  | [], H => by simp [nw]
  | 0 :: rs, H => by
    rw [nw, sw_zero, nw_none rs]
    simp
  | (k + 1) :: rs, H => by
    rw [nw, sw_none]
    simp
end Go.Proofs.Ytigpnafpdmdmhaa.Ma

namespace Go.Proofs.Ytigpnafpdmdmhaa.Ma
open Hand (Stg saysV lastDec fits bads playGo)

/-! ### Where results stand -/
/-- Where results stand from a stage on: (true, how many stages follow, the pieces till that stage's end) if it is open; (false, the verdict, the pieces taken) if it is decided. -/
def st (rs : List Bool) : List Stg → Nat → Nat → Bool × Int × Nat
  | [], T, _ => (false, 0, T)
  | s :: l, T, B =>
    if rs.length < T + s.take.toNat then (true, (l.length : Int), T + s.take.toNat)
    else if saysV s ((B + bads ((rs.drop T).take s.take.toNat) : Nat) : Int) = 3 then st rs l (T + s.take.toNat) (B + bads ((rs.drop T).take s.take.toNat))
    else (false, saysV s ((B + bads ((rs.drop T).take s.take.toNat) : Nat) : Int), T + s.take.toNat)

theorem lastDec_ne {s : Stg} {l : List Stg} {b : Int} (hd : lastDec (s :: l)) (h : saysV s b = 3) : l ≠ [] := by
  rintro rfl
  exact Hand.lastDec_open hd h
theorem lastDec_tl {s : Stg} {l : List Stg} (h : lastDec (s :: l)) (hne : l ≠ []) : lastDec l := by
  cases l with
  | nil => exact absurd rfl hne
  | cons s' l => exact h
theorem saysV_two (s : Stg) (b : Int) (h : ¬ saysV s b = 3) : saysV s b = 1 ∨ saysV s b = 2 := by
  unfold saysV at h ⊢
  split
  · exact .inl rfl
  · rename_i h1
    rw [if_neg h1] at h
    split
    · exact .inr rfl
    · rename_i h2
      rw [if_neg h2] at h
      exact absurd rfl h

theorem playGo_st (rs : List Bool) (lot : Nat) : ∀ (l : List Stg) (T B : Nat) (v : Int), l ≠ [] → lastDec l → fits lot T l →
    playGo rs l T B v = if (st rs l T B).1 = true then (3, ((st rs l T B).2.2 : Int) - rs.length, 0) else if (st rs l T B).2.2 < rs.length then (0, 0, 2) else ((st rs l T B).2.1, 0, 0)
  | [], _, _, _, h, _, _ => absurd rfl h
  | s :: l, T, B, v, _, hd, hf => by
    obtain ⟨f1, f2, f3⟩ := hf
    have et : (T : Int) + s.take - rs.length = ((T + s.take.toNat : Nat) : Int) - rs.length := by omega
    rw [playGo, st]
    by_cases h1 : rs.length < T + s.take.toNat
    · rw [if_pos h1, if_pos h1, et]
      rfl
    · rw [if_neg h1, if_neg h1]
      by_cases h2 : saysV s ((B + bads ((rs.drop T).take s.take.toNat) : Nat) : Int) = 3
      · rw [if_pos h2, if_pos h2]
        exact playGo_st rs lot l _ _ _ (lastDec_ne hd h2) (lastDec_tl hd (lastDec_ne hd h2)) f3
      · rw [if_neg h2, if_neg h2]
        rfl

/-- The stretch of a list depends on no more than its beginning. -/
theorem seg_take (rs rs' : List Bool) (T t T' : Nat) (h : T + t ≤ T') (e : rs'.take T' = rs.take T') : (rs'.drop T).take t = (rs.drop T).take t := by
  have key : ∀ l : List Bool, (l.drop T).take t = ((l.take T').drop T).take t := fun l => by
    rw [List.drop_take, List.take_take, Nat.min_eq_left (by omega)]
  rw [key rs', key rs, e]

theorem st_dec (lot : Nat) : ∀ (l : List Stg) (rs : List Bool) (T B : Nat) (v : Int) (T' : Nat), l ≠ [] → lastDec l → fits lot T l → st rs l T B = (false, v, T') →
    (v = 1 ∨ v = 2) ∧ T' ≤ rs.length ∧ T < T' ∧ ∀ rs' : List Bool, T' ≤ rs'.length → rs'.take T' = rs.take T' → st rs' l T B = (false, v, T')
  | [], _, _, _, _, _, h, _, _, _ => absurd rfl h
  | s :: l, rs, T, B, v, T', _, hd, hf, he => by
    obtain ⟨f1, f2, f3⟩ := hf
    rw [st] at he
    by_cases h1 : rs.length < T + s.take.toNat
    · rw [if_pos h1] at he
      simp at he
    rw [if_neg h1] at he
    by_cases h2 : saysV s ((B + bads ((rs.drop T).take s.take.toNat) : Nat) : Int) = 3
    · rw [if_pos h2] at he
      obtain ⟨c1, c2, c3, c4⟩ := st_dec lot l rs _ _ v T' (lastDec_ne hd h2) (lastDec_tl hd (lastDec_ne hd h2)) f3 he
      refine ⟨c1, c2, by omega, fun rs' h3 h4 => ?_⟩
      have e := seg_take rs rs' T s.take.toNat T' (by omega) h4
      rw [st, if_neg (by omega), e, if_pos h2]
      exact c4 rs' h3 h4
    · rw [if_neg h2] at he
      injection he with _ he
      injection he with hv ht
      subst hv ht
      refine ⟨saysV_two _ _ h2, by omega, by omega, fun rs' h3 h4 => ?_⟩
      have e := seg_take rs rs' T s.take.toNat _ (Nat.le_refl _) h4
      rw [st, if_neg (by omega), e, if_neg h2]

theorem st_open (lot : Nat) : ∀ (l : List Stg) (rs : List Bool) (T B : Nat) (k : Int) (T' : Nat), l ≠ [] → lastDec l → fits lot T l → T ≤ rs.length → st rs l T B = (true, k, T') →
    rs.length < T' ∧ T' ≤ lot ∧ 0 ≤ k ∧ k < l.length ∧ ∀ ys : List Bool, rs.length + ys.length = T' → (∃ v, st (rs ++ ys) l T B = (false, v, T')) ∨ ∃ k' T'', st (rs ++ ys) l T B = (true, k', T'') ∧ k' < k
  | [], _, _, _, _, _, h, _, _, _, _ => absurd rfl h
  | s :: l, rs, T, B, k, T', _, hd, hf, hT, he => by
    obtain ⟨f1, f2, f3⟩ := hf
    rw [st] at he
    by_cases h1 : rs.length < T + s.take.toNat
    · rw [if_pos h1] at he
      injection he with _ he
      injection he with hk ht
      subst hk ht
      refine ⟨h1, f2, by omega, by simp; omega, fun ys hy => ?_⟩
      rw [st, if_neg (by rw [List.length_append]; omega)]
      by_cases h2 : saysV s ((B + bads (((rs ++ ys).drop T).take s.take.toNat) : Nat) : Int) = 3
      · rw [if_pos h2]
        have hne := lastDec_ne hd h2
        obtain ⟨s', l', rfl⟩ := List.exists_cons_of_ne_nil hne
        obtain ⟨g1, g2, g3⟩ := f3
        refine .inr ⟨(l'.length : Int), T + s.take.toNat + s'.take.toNat, ?_, by simp; omega⟩
        rw [st, if_pos (by rw [List.length_append]; omega)]
      · rw [if_neg h2]
        exact .inl ⟨_, rfl⟩
    rw [if_neg h1] at he
    by_cases h2 : saysV s ((B + bads ((rs.drop T).take s.take.toNat) : Nat) : Int) = 3
    · rw [if_pos h2] at he
      obtain ⟨c1, c2, c3, c4, c5⟩ := st_open lot l rs _ _ k T' (lastDec_ne hd h2) (lastDec_tl hd (lastDec_ne hd h2)) f3 (by omega) he
      refine ⟨c1, c2, c3, by simp; omega, fun ys hy => ?_⟩
      have e := seg_take rs (rs ++ ys) T s.take.toNat rs.length (by omega) (by rw [List.take_left, List.take_length])
      rw [st, if_neg (by rw [List.length_append]; omega), e, if_pos h2]
      exact c5 ys hy
    · rw [if_neg h2] at he
      simp at he

/-! ### Each stage turned round -/
def turn1 (rs cur : List Bool) (T t : Nat) : List Bool := cur.take T ++ ((rs.drop T).take t).reverse ++ cur.drop (T + t)
def turns (rs : List Bool) : List Stg → Nat → List Bool → List Bool
  | [], _, cur => cur
  | s :: l, T, cur => if T + s.take.toNat ≤ rs.length then turns rs l (T + s.take.toNat) (turn1 rs cur T s.take.toNat) else cur
def upto (rs : List Bool) : List Stg → Nat → Nat
  | [], T => T
  | s :: l, T => if T + s.take.toNat ≤ rs.length then upto rs l (T + s.take.toNat) else T

theorem turn1_length (rs cur : List Bool) (T t : Nat) (h : T + t ≤ rs.length) (hc : cur.length = rs.length) : (turn1 rs cur T t).length = rs.length := by
  unfold turn1
  simp
  omega

theorem turns_st (rs : List Bool) : ∀ (l : List Stg) (T B : Nat) (cur : List Bool), cur.length = rs.length → cur.drop T = rs.drop T → T ≤ rs.length →
    (turns rs l T cur).length = rs.length ∧ (turns rs l T cur).take T = cur.take T ∧ st (turns rs l T cur) l T B = st rs l T B
  | [], _, _, _, hc, _, _ => ⟨hc, rfl, rfl⟩
  | s :: l, T, B, cur, hc, hd, hT => by
    unfold turns
    by_cases h : T + s.take.toNat ≤ rs.length
    · rw [if_pos h]
      obtain ⟨t, ht⟩ : ∃ t, t = s.take.toNat := ⟨_, rfl⟩
      rw [← ht] at h ⊢
      have hl := turn1_length rs cur T t h hc
      have hlen : (cur.take T).length = T := by rw [List.length_take]; omega
      have hlen2 : (((rs.drop T).take t).reverse).length = t := by rw [List.length_reverse, List.length_take, List.length_drop]; omega
      have hd' : (turn1 rs cur T t).drop (T + t) = rs.drop (T + t) := by
        unfold turn1
        rw [List.drop_append_of_le_length (by rw [List.length_append, hlen, hlen2]; exact Nat.le_refl _), List.drop_of_length_le (by rw [List.length_append, hlen, hlen2]; exact Nat.le_refl _), List.nil_append, ← List.drop_drop, hd, List.drop_drop]
      obtain ⟨c1, c2, c3⟩ := turns_st rs l (T + t) (B + bads ((rs.drop T).take t)) (turn1 rs cur T t) hl hd' h
      have e2 : (turn1 rs cur T t).take (T + t) = cur.take T ++ ((rs.drop T).take t).reverse := by
        unfold turn1
        rw [List.take_append_of_le_length (by rw [List.length_append, hlen, hlen2]; exact Nat.le_refl _), List.take_of_length_le (by rw [List.length_append, hlen, hlen2]; exact Nat.le_refl _)]
      have eT : (turn1 rs cur T t).take T = cur.take T := by
        unfold turn1
        rw [List.append_assoc, List.take_append_of_le_length (by rw [hlen]; exact Nat.le_refl _), List.take_of_length_le (by rw [hlen]; exact Nat.le_refl _)]
      have e1 : (turns rs l (T + t) (turn1 rs cur T t)).take T = cur.take T := by
        have := congrArg (List.take T) c2
        rw [List.take_take, List.take_take, Nat.min_eq_left (by omega)] at this
        rw [this, eT]
      have e3 : ((turns rs l (T + t) (turn1 rs cur T t)).drop T).take t = ((rs.drop T).take t).reverse := by
        have : ((turns rs l (T + t) (turn1 rs cur T t)).drop T).take t = ((turns rs l (T + t) (turn1 rs cur T t)).take (T + t)).drop T := by
          rw [List.drop_take, Nat.add_sub_cancel_left]
        rw [this, c2, e2, List.drop_append_of_le_length (by rw [hlen]; exact Nat.le_refl _), List.drop_of_length_le (by rw [hlen]; exact Nat.le_refl _), List.nil_append]
      have e4 : bads (((turns rs l (T + t) (turn1 rs cur T t)).drop T).take t) = bads ((rs.drop T).take t) := by
        rw [e3]
        unfold bads
        exact List.countP_reverse
      refine ⟨c1, e1, ?_⟩
      rw [st, st, ← ht, c1, e4, c3]
    · rw [if_neg h]
      refine ⟨hc, rfl, ?_⟩
      rw [st, st, hc, if_pos (by omega), if_pos (by omega)]

theorem upto_st (lot : Nat) (rs : List Bool) : ∀ (l : List Stg) (T B : Nat) (v : Int), l ≠ [] → lastDec l → fits lot T l → st rs l T B = (false, v, rs.length) → upto rs l T = rs.length
  | [], _, _, _, h, _, _, _ => absurd rfl h
  | s :: l, T, B, v, _, hd, hf, he => by
    obtain ⟨f1, f2, f3⟩ := hf
    rw [st] at he
    unfold upto
    by_cases h1 : rs.length < T + s.take.toNat
    · rw [if_pos h1] at he
      simp at he
    rw [if_neg h1] at he
    rw [if_pos (by omega)]
    by_cases h2 : saysV s ((B + bads ((rs.drop T).take s.take.toNat) : Nat) : Int) = 3
    · rw [if_pos h2] at he
      exact upto_st lot rs l _ _ v (lastDec_ne hd h2) (lastDec_tl hd (lastDec_ne hd h2)) f3 he
    · rw [if_neg h2] at he
      injection he with _ he
      injection he with _ ht
      rw [ht]
      cases l with
      | nil => rfl
      | cons s' l =>
        obtain ⟨g1, _, _⟩ := f3
        unfold upto
        rw [if_neg (by omega)]
end Go.Proofs.Ytigpnafpdmdmhaa.Ma

namespace Go.Proofs.Ytigpnafpdmdmhaa.Ma
open Hand (Stg saysV lastDec fits bads)

/-! ### All draws of a lot, piece by piece -/
/-- How many pieces a stage has. -/
def cI (w : List Int) (j : Int) : Nat := w.countP (fun i => i == j)
/-- The pieces of a stage, whether they are bad. -/
def sg : List Bool → List Int → Int → List Bool
  | c :: bs, i :: w, j => if i = j then c :: sg bs w j else sg bs w j
  | _, _, _ => []

theorem sg_cons (c : Bool) (bs : List Bool) (i : Int) (w : List Int) (j : Int) : sg (c :: bs) (i :: w) j = if i = j then c :: sg bs w j else sg bs w j := rfl
theorem cI_cons (i : Int) (w : List Int) (j : Int) : cI (i :: w) j = cI w j + if i = j then 1 else 0 := by
  unfold cI
  rw [List.countP_cons]
  by_cases h : i = j <;> simp [h]
theorem cI_snoc (w : List Int) (i j : Int) : cI (w ++ [i]) j = cI w j + if i = j then 1 else 0 := by
  unfold cI
  rw [List.countP_append]
  by_cases h : i = j <;> simp [h]

theorem sg_length : ∀ (bs : List Bool) (w : List Int) (j : Int), bs.length = w.length → (sg bs w j).length = cI w j
  | [], [], _, _ => rfl
  | [], _ :: _, _, h => by simp at h
  | _ :: _, [], _, h => by simp at h
  | c :: bs, i :: w, j, h => by
    have ih := sg_length bs w j (by simpa using h)
    rw [sg_cons, cI_cons]
    by_cases e : i = j
    · rw [if_pos e, if_pos e, List.length_cons, ih]
    · rw [if_neg e, if_neg e, ih]; rfl

theorem sg_append : ∀ (bs bs' : List Bool) (w w' : List Int) (j : Int), bs.length = w.length → sg (bs ++ bs') (w ++ w') j = sg bs w j ++ sg bs' w' j
  | [], _, [], _, _, _ => rfl
  | [], _, _ :: _, _, _, h => by simp at h
  | _ :: _, _, [], _, _, h => by simp at h
  | c :: bs, bs', i :: w, w', j, h => by
    have ih := sg_append bs bs' w w' j (by simpa using h)
    rw [List.cons_append, List.cons_append, sg, sg, ih]
    by_cases e : i = j
    · rw [if_pos e, if_pos e, List.cons_append]
    · rw [if_neg e, if_neg e]

theorem sg_one (c : Bool) (i j : Int) : sg [c] [i] j = if i = j then [c] else [] := by
  rw [sg]
  cases h : sg [] [] j with
  | nil => rfl
  | cons x l => simp [sg] at h

/-- The draws that begin so, with so many pieces still to be dealt. -/
def dr (tk : List Nat) : Nat → List Int → List (List Int)
  | 0, b => if ∀ i, i < tk.length → cI b (i : Int) = tk.getD i 0 then [b] else []
  | m + 1, b => dr tk m (b ++ [-1]) ++ ((List.range tk.length).map fun (i : Nat) => if cI b (i : Int) < tk.getD i 0 then dr tk m (b ++ [(i : Int)]) else []).flatten

def sl (f : List Int → Nat) (L : List (List Int)) : Nat := (L.map f).sum
theorem sl_append (f : List Int → Nat) (L M : List (List Int)) : sl f (L ++ M) = sl f L + sl f M := by
  unfold sl
  rw [List.map_append, List.sum_append]
theorem sl_flat (f : List Int → Nat) (G : Nat → List (List Int)) : ∀ s, sl f (((List.range s).map G).flatten) = sm s (fun i => sl f (G i))
  | 0 => rfl
  | s + 1 => by
    rw [List.range_succ, List.map_append, List.flatten_append, sl_append, sl_flat f G s, sm]
    simp

theorem dr_length (tk : List Nat) (h : tk.length ≤ 3) : ∀ (m : Nat) (b : List Int), (dr tk m b).length ≤ 4 ^ m
  | 0, b => by
    unfold dr
    split <;> simp
  | m + 1, b => by
    have key : ∀ s, s ≤ 3 → ((((List.range s).map fun (i : Nat) => if cI b (i : Int) < tk.getD i 0 then dr tk m (b ++ [(i : Int)]) else [])).flatten).length ≤ s * 4 ^ m := fun s => by
      induction s with
      | zero => intro _; simp
      | succ s ih =>
        intro hs
        rw [List.range_succ, List.map_append, List.flatten_append, List.length_append, Nat.add_mul]
        refine Nat.add_le_add (ih (by omega)) ?_
        simp only [List.map_cons, List.map_nil, List.flatten_cons, List.flatten_nil, List.append_nil, Nat.one_mul]
        split
        · exact dr_length tk h m _
        · simp
    have h1 := dr_length tk h m (b ++ [-1])
    have h2 := key tk.length h
    have h3 : tk.length * 4 ^ m ≤ 3 * 4 ^ m := Nat.mul_le_mul_right _ h
    rw [dr, List.length_append, Nat.pow_succ]
    omega

/-- All draws have as many pieces as the lot; each stage has its own. -/
theorem dr_mem (tk : List Nat) : ∀ (m : Nat) (b w : List Int), w ∈ dr tk m b → w.length = b.length + m ∧ ∀ i, i < tk.length → cI w (i : Int) = tk.getD i 0
  | 0, b, w, h => by
    unfold dr at h
    split at h
    · rename_i hk
      obtain rfl : w = b := by simpa using h
      exact ⟨rfl, hk⟩
    · simp at h
  | m + 1, b, w, h => by
    rw [dr, List.mem_append] at h
    rcases h with h | h
    · obtain ⟨h1, h2⟩ := dr_mem tk m _ w h
      exact ⟨by rw [h1, List.length_append]; simp; omega, h2⟩
    · rw [List.mem_flatten] at h
      obtain ⟨L, hL, hw⟩ := h
      obtain ⟨i, _, rfl⟩ := List.mem_map.1 hL
      split at hw
      · obtain ⟨h1, h2⟩ := dr_mem tk m _ w hw
        exact ⟨by rw [h1, List.length_append]; simp; omega, h2⟩
      · simp at hw

/-- How many are bad in each stage. -/
def bcs (bs : List Bool) (w : List Int) (s : Nat) : List Nat := (List.range s).map fun (j : Nat) => bads (sg bs w (j : Int))
def addl (x y : List Nat) : List Nat := List.zipWith (· + ·) x y
def b2n (c : Bool) : Nat := if c = true then 1 else 0

theorem bcs_length (bs : List Bool) (w : List Int) (s : Nat) : (bcs bs w s).length = s := by simp [bcs]
theorem bump_length (c i : Nat) (x : List Nat) : (bump c i x).length = x.length := by simp [bump]

theorem bads_snoc (l : List Bool) (c : Bool) : bads (l ++ [c]) = bads l + b2n c := by
  unfold bads b2n
  rw [List.countP_append]
  cases c <;> simp
theorem bads_cons (l : List Bool) (c : Bool) : bads (c :: l) = bads l + b2n c := by
  unfold bads b2n
  rw [List.countP_cons]

theorem bcs_none (bs : List Bool) (w : List Int) (c : Bool) (s : Nat) (h : bs.length = w.length) : bcs (bs ++ [c]) (w ++ [-1]) s = bcs bs w s := by
  unfold bcs
  refine List.map_congr_left fun j _ => ?_
  rw [sg_append bs [c] w [-1] _ h, sg_one, if_neg (by omega), List.append_nil]

theorem bcs_snoc (bs : List Bool) (w : List Int) (c : Bool) (s i : Nat) (h : bs.length = w.length) (hi : i < s) : bcs (bs ++ [c]) (w ++ [(i : Int)]) s = bump (b2n c) i (bcs bs w s) := by
  apply List.ext_getElem
  · rw [bump_length, bcs_length, bcs_length]
  · intro j h1 h2
    rw [bcs_length] at h1
    simp only [bump, bcs, List.getElem_modify, List.getElem_map, List.getElem_range]
    rw [sg_append bs [c] w [(i : Int)] _ h, sg_one]
    by_cases e : i = j
    · rw [if_pos (by omega), if_pos e, bads_snoc]
    · rw [if_neg (by omega), if_neg e, List.append_nil]

theorem addl_bump (c i : Nat) (x y : List Nat) : addl (bump c i x) y = addl x (bump c i y) := by
  apply List.ext_getElem
  · simp [addl, bump_length]
  · intro j h1 h2
    simp only [addl, bump, List.getElem_zipWith, List.getElem_modify]
    split <;> omega

theorem addl_zero (x : List Nat) (y : List Nat) (h : y.length = x.length) : addl x (y.map fun _ => 0) = x := by
  apply List.ext_getElem
  · simp [addl, h]
  · intro j h1 h2
    simp [addl]

/-- What each stage still wants. -/
def need (tk : List Nat) (b : List Int) : List Nat := (List.range tk.length).map fun (j : Nat) => tk.getD j 0 - cI b (j : Int)
theorem need_length (tk : List Nat) (b : List Int) : (need tk b).length = tk.length := by simp [need]
theorem need_get (tk : List Nat) (b : List Int) (i : Nat) (h : i < tk.length) : (need tk b)[i]? = some (tk.getD i 0 - cI b (i : Int)) := by
  unfold need
  rw [List.getElem?_map, List.getElem?_range h]
  rfl
theorem need_none (tk : List Nat) (b : List Int) : need tk (b ++ [-1]) = need tk b := by
  unfold need
  refine List.map_congr_left fun j _ => ?_
  rw [cI_snoc, if_neg (by omega), Nat.add_zero]
theorem need_snoc (tk : List Nat) (b : List Int) (i : Nat) (k : Nat) (h : i < tk.length) (hk : tk.getD i 0 - cI b (i : Int) = k + 1) : need tk (b ++ [(i : Int)]) = (need tk b).set i k := by
  apply List.ext_getElem
  · rw [List.length_set, need_length, need_length]
  · intro j h1 h2
    simp only [need, List.getElem_set, List.getElem_map, List.getElem_range]
    rw [cI_snoc]
    by_cases e : i = j
    · subst e
      rw [if_pos rfl, if_pos rfl]
      omega
    · rw [if_neg e, if_neg (by omega), Nat.add_zero]

theorem dr_sum (tk : List Nat) (H : List Nat → Nat) : ∀ (bs : List Bool) (bs0 : List Bool) (b : List Int), bs0.length = b.length → (∀ i, i < tk.length → cI b (i : Int) ≤ tk.getD i 0) →
    sl (fun w => H (bcs (bs0 ++ bs) w tk.length)) (dr tk bs.length b) = nw (bads bs) (bs.length - bads bs) (need tk b) (fun ns => H (addl (bcs bs0 b tk.length) ns))
  | [], bs0, b, h0, hb => by
    rw [List.length_nil, List.append_nil, show bads ([] : List Bool) = 0 from rfl, nw_none, dr]
    have e : (∀ i, i < tk.length → cI b (i : Int) = tk.getD i 0) ↔ ∀ r ∈ need tk b, r = 0 := by
      constructor
      · intro h r hr
        unfold need at hr
        obtain ⟨j, hj, rfl⟩ := List.mem_map.1 hr
        have := h j (List.mem_range.1 hj)
        omega
      · intro h i hi
        have h1 := hb i hi
        have h2 := h _ (List.mem_map.2 ⟨i, List.mem_range.2 hi, rfl⟩)
        omega
    by_cases hk : ∀ i, i < tk.length → cI b (i : Int) = tk.getD i 0
    · rw [if_pos hk, if_pos (e.1 hk), addl_zero _ _ (by rw [need_length, bcs_length])]
      simp [sl]
    · rw [if_neg hk, if_neg (fun h => hk (e.2 h))]
      rfl
  | c :: bs, bs0, b, h0, hb => by
    have e0 : bs0 ++ c :: bs = (bs0 ++ [c]) ++ bs := by simp
    have hl : (bs0 ++ [c]).length = (b ++ [(-1 : Int)]).length := by simp [h0]
    rw [List.length_cons, dr, sl_append, sl_flat, e0]
    have ih1 := dr_sum tk H bs (bs0 ++ [c]) (b ++ [-1]) hl (fun i hi => by rw [cI_snoc, if_neg (by omega), Nat.add_zero]; exact hb i hi)
    rw [need_none, bcs_none bs0 b c _ h0] at ih1
    have hbl : bads bs ≤ bs.length := List.countP_le_length
    have ih2 : ∀ i, i < tk.length → sl (fun w => H (bcs (bs0 ++ [c] ++ bs) w tk.length)) (if cI b (i : Int) < tk.getD i 0 then dr tk bs.length (b ++ [(i : Int)]) else []) = tm (bads bs) (bs.length - bads bs) (b2n c) (need tk b) (fun ns => H (addl (bcs bs0 b tk.length) ns)) i := fun i hi => by
      unfold tm
      rw [need_get tk b i hi]
      by_cases hlt : cI b (i : Int) < tk.getD i 0
      · rw [if_pos hlt]
        obtain ⟨k, hk⟩ : ∃ k, tk.getD i 0 - cI b (i : Int) = k + 1 := ⟨tk.getD i 0 - cI b (i : Int) - 1, by omega⟩
        have := dr_sum tk H bs (bs0 ++ [c]) (b ++ [(i : Int)]) (by simp [h0]) (fun j hj => by
          rw [cI_snoc]
          by_cases e : (i : Int) = (j : Int)
          · rw [if_pos e]
            obtain rfl : i = j := by omega
            exact hlt
          · rw [if_neg e, Nat.add_zero]; exact hb j hj)
        rw [this, need_snoc tk b i k hi hk, bcs_snoc bs0 b c _ i h0 hi, hk]
        simp only [addl_bump]
      · rw [if_neg hlt]
        have := hb i hi
        rw [show tk.getD i 0 - cI b (i : Int) = 0 by omega]
        rfl
    rw [ih1, sm_congr ih2]
    cases c with
    | true =>
      have e1 : bads (true :: bs) = bads bs + 1 := bads_cons bs true
      rw [e1, show bs.length + 1 - (bads bs + 1) = bs.length - bads bs by omega, nw_bad, need_length]
      rfl
    | false =>
      have e1 : bads (false :: bs) = bads bs := bads_cons bs false
      rw [e1, show bs.length + 1 - bads bs = (bs.length - bads bs) + 1 by omega, nw_good, need_length]
      rfl

/-! ### What a draw says -/
/-- The verdict of stages by their numbers of bad ones: is it an acceptance? -/
def hA : List Stg → Nat → List Nat → Nat
  | s :: l, f, n :: ns => if ((f + n : Nat) : Int) ≤ s.accept then 1 else if s.reject ≤ ((f + n : Nat) : Int) then 0 else hA l (f + n) ns
  | _, _, _ => 0
/-- How many pieces are taken. -/
def hP : List Stg → Nat → Nat → List Nat → Nat
  | s :: l, f, t, n :: ns => if ((f + n : Nat) : Int) ≤ s.accept then t + s.take.toNat else if s.reject ≤ ((f + n : Nat) : Int) then t + s.take.toNat else hP l (f + n) (t + s.take.toNat) ns
  | _, _, _, _ => 0

def tks (l : List Stg) : List Nat := l.map fun s => s.take.toNat

theorem nw_const (c : Nat) : ∀ (l : List Stg) (L B : Nat), B ≤ L → nw B (L - B) (tks l) (fun _ => c) = rest l L * c
  | [], _, _, _ => by simp [tks, nw, rest]
  | s :: l, L, B, hB => by
    have e : nw B (L - B) (tks (s :: l)) (fun _ => c) = sw B (L - B) s.take.toNat fun _ => rest l (L - s.take.toNat) * c := by
      show sw B (L - B) s.take.toNat _ = _
      refine sw_congr fun n h1 h2 h3 => ?_
      have := nw_const c l (L - s.take.toNat) (B - n) (by omega)
      rw [show L - s.take.toNat - (B - n) = L - B - (s.take.toNat - n) by omega] at this
      exact this
    rw [e, sw_const, show B + (L - B) = L by omega, rest, Nat.mul_assoc]

theorem nw_cA : ∀ (l : List Stg) (L B f t : Nat), B ≤ L → nw B (L - B) (tks l) (hA l f) = cA l L B f t
  | [], _, _, _, _, _ => rfl
  | s :: l, L, B, f, t, hB => by
    show sw B (L - B) s.take.toNat _ = cg _ _ (s :: l) L B f t
    unfold cg
    refine sw_congr fun n h1 h2 h3 => ?_
    have e : L - s.take.toNat - (B - n) = L - B - (s.take.toNat - n) := by omega
    have hB' : B - n ≤ L - s.take.toNat := by omega
    by_cases c1 : ((f + n : Nat) : Int) ≤ s.accept
    · have := nw_const 1 l (L - s.take.toNat) (B - n) hB'
      rw [e, Nat.mul_one] at this
      simp only [hA, if_pos c1]
      exact this
    · by_cases c2 : s.reject ≤ ((f + n : Nat) : Int)
      · have := nw_const 0 l (L - s.take.toNat) (B - n) hB'
        rw [e, Nat.mul_zero] at this
        simp only [hA, if_neg c1, if_pos c2]
        exact this
      · have := nw_cA l (L - s.take.toNat) (B - n) (f + n) (t + s.take.toNat) hB'
        rw [e] at this
        simp only [hA, if_neg c1, if_neg c2]
        exact this

theorem nw_cP : ∀ (l : List Stg) (L B f t : Nat), B ≤ L → nw B (L - B) (tks l) (hP l f t) = cP l L B f t
  | [], _, _, _, _, _ => rfl
  | s :: l, L, B, f, t, hB => by
    show sw B (L - B) s.take.toNat _ = cg _ _ (s :: l) L B f t
    unfold cg
    refine sw_congr fun n h1 h2 h3 => ?_
    have e : L - s.take.toNat - (B - n) = L - B - (s.take.toNat - n) := by omega
    have hB' : B - n ≤ L - s.take.toNat := by omega
    have hc := nw_const (t + s.take.toNat) l (L - s.take.toNat) (B - n) hB'
    rw [e, Nat.mul_comm] at hc
    by_cases c1 : ((f + n : Nat) : Int) ≤ s.accept
    · simp only [hP, if_pos c1]
      exact hc
    · by_cases c2 : s.reject ≤ ((f + n : Nat) : Int)
      · simp only [hP, if_neg c1, if_pos c2]
        exact hc
      · have := nw_cP l (L - s.take.toNat) (B - n) (f + n) (t + s.take.toNat) hB'
        rw [e] at this
        simp only [hP, if_neg c1, if_neg c2]
        exact this
end Go.Proofs.Ytigpnafpdmdmhaa.Ma

namespace Go.Proofs.Ytigpnafpdmdmhaa.Pure
open Go.RowKit Go.Proofs.Ytigpnafpdmdmhaa.P Go.Proofs.YtigpnafpdmdmhaaW.PrintWords
open Hand (Stg saysV fits lastDec Valid bads playGo playV)
open Ma

theorem rd_mid (u : List Int) (x : Int) (v : List Int) : rd (u ++ x :: v) (u.length : Int) = x := by
  unfold rd
  rw [Int.toNat_natCast, List.getD_eq_getElem?_getD, List.getElem?_append_right (Nat.le_refl _), Nat.sub_self]
  rfl

theorem tks_get (pre : List S57) (s : S57) (suf : List S57) : (tks ((pre ++ s :: suf).map cSt)).getD pre.length 0 = s.f0.toNat := by
  unfold tks
  rw [List.getD_eq_getElem?_getD, List.getElem?_map, List.getElem?_map, List.getElem?_append_right (Nat.le_refl _), Nat.sub_self]
  rfl

/-- The pieces of a stage are counted (at the end of a draw). -/
theorem dl1 (a : Int) (l : List S57) (i : Int) : ∀ (v u : List Int) (c K : Nat), u.length + v.length ≤ 100 → c + v.length ≤ 100 →
    tensilelaw09_draws.l1 (K + v.length + 1) (u ++ v) i (c : Int) (u.length : Int) a l =
      if 0 ≤ i then (if i < (l.length : Int) then (if ((c + cI v i : Nat) : Int) = ((rd_T57 l i).f0) then tensilelaw09_draws.l0 K (u ++ v) (wrap64 (i + 1)) a l else some ([] : List (List Int))) else none) else none
  | [], u, c, K, _, _ => by
    have p : ¬ ((u.length : Int) < ((u ++ []).length : Int)) := by simp
    rw [List.length_nil, Nat.add_zero, tensilelaw09_draws.l1, if_neg p]
    rfl
  | x :: v, u, c, K, h1, h2 => by
    have p1 : (u.length : Int) < ((u ++ x :: v).length : Int) := by simp; omega
    have p2 : (0 : Int) ≤ (u.length : Int) := by omega
    have p3 : u.length + 1 ≤ 100000 := by simp at h1; omega
    have p4 : c + 1 ≤ 100000 := by simp at h2; omega
    have p5 : u.length + 1 + v.length ≤ 100 := by simp at h1; omega
    have p6 : c + v.length ≤ 100 ∧ c + 1 + v.length ≤ 100 := by simp at h2; omega
    have e1 : u ++ x :: v = (u ++ [x]) ++ v := by simp
    have e2 : ((u ++ [x]).length : Int) = ((u.length + 1 : Nat) : Int) := by simp
    rw [List.length_cons, ← Nat.add_assoc K, tensilelaw09_draws.l1, if_pos p1, if_pos p2, rd_mid, w_nat (x := (u.length : Int) + 1) (u.length + 1) (by rw [Int.natCast_add]; rfl) p3]
    by_cases hx : x = i
    · have ih := dl1 a l i v (u ++ [x]) (c + 1) K (by simpa using p5) p6.2
      rw [← e1, e2] at ih
      rw [if_pos hx, w_nat (x := (c : Int) + 1) (c + 1) (by rw [Int.natCast_add]; rfl) p4, ih, cI_cons, if_pos hx, Nat.add_right_comm c 1, ← Nat.add_assoc]
    · have ih := dl1 a l i v (u ++ [x]) c K (by simpa using p5) p6.1
      rw [← e1, e2] at ih
      rw [if_neg hx, ih, cI_cons, if_neg hx, Nat.add_zero (cI v i)]

/-- A draw that is whole: is it one? -/
theorem dl0 (a : Int) (b : List Int) (hb : b.length ≤ 50) : ∀ (suf pre : List S57) (K : Nat), (b.length + 3) * (suf.length + 1) ≤ K → (pre ++ suf).length ≤ 3 → (∀ s ∈ suf, 1 ≤ s.f0 ∧ s.f0 ≤ 30) →
    tensilelaw09_draws.l0 K b (pre.length : Int) a (pre ++ suf) = some (if ∀ i, i < suf.length → cI b ((pre.length + i : Nat) : Int) = (tks (suf.map cSt)).getD i 0 then [b] else [])
  | [], pre, K, hK, hl, _ => by
    obtain ⟨K, rfl⟩ : ∃ m, K = m + 1 := ⟨K - 1, by simp at hK; omega⟩
    have p : ¬ ((pre.length : Int) < ((pre ++ []).length : Int)) := by simp
    rw [tensilelaw09_draws.l0, if_neg p, Option.bind_some, if_pos (by simp; omega), if_pos (fun i hi => by simp at hi)]
    rfl
  | s :: suf, pre, K, hK, hl, ht => by
    have hK' : (b.length + 3) * (suf.length + 1) + (b.length + 3) ≤ K := by
      have : (b.length + 3) * (suf.length + 1 + 1) ≤ K := by simpa using hK
      rwa [Nat.mul_succ] at this
    obtain ⟨K', rfl⟩ : ∃ m, K = (m + b.length + 1) + 1 := ⟨K - b.length - 2, by omega⟩
    have p1 : (pre.length : Int) < ((pre ++ s :: suf).length : Int) := by simp; omega
    have p2 : (0 : Int) ≤ (pre.length : Int) := by omega
    have p3 : pre.length + 1 ≤ 100000 := by simp at hl; omega
    have hs := ht s (by simp)
    have h1 := dl1 a (pre ++ s :: suf) (pre.length : Int) b [] 0 K' (by simp; omega) (by omega)
    have ez : ((0 : Nat) : Int) = 0 := rfl
    rw [List.nil_append, List.length_nil, ez] at h1
    rw [tensilelaw09_draws.l0, if_pos p1, h1, if_pos p2, if_pos p1, rd_pre, Nat.zero_add, w_nat (x := (pre.length : Int) + 1) (pre.length + 1) (by rw [Int.natCast_add]; rfl) p3]
    have e1 : pre ++ s :: suf = (pre ++ [s]) ++ suf := by simp
    have e2 : ((pre ++ [s]).length : Int) = ((pre.length + 1 : Nat) : Int) := by simp
    have ih := dl0 a b hb suf (pre ++ [s]) K' (by omega) (by simpa using hl) (fun x hx => ht x (by simp [hx]))
    rw [← e1, e2] at ih
    have g0 : (tks ((s :: suf).map cSt)).getD 0 0 = s.f0.toNat := rfl
    have gs : ∀ i, (tks ((s :: suf).map cSt)).getD (i + 1) 0 = (tks (suf.map cSt)).getD i 0 := fun _ => rfl
    have hs' : ((cI b (pre.length : Int) : Nat) : Int) = s.f0 ↔ cI b (pre.length : Int) = s.f0.toNat := by omega
    by_cases hc : cI b (pre.length : Int) = s.f0.toNat
    · rw [if_pos (hs'.2 hc), ih]
      congr 1
      refine if_iff ⟨fun h i hi => ?_, fun h i hi => ?_⟩
      · cases i with
        | zero => rw [g0]; exact hc
        | succ i =>
          rw [gs]
          have := h i (by simp at hi; omega)
          rw [List.length_append, List.length_singleton] at this
          rw [← this]
          congr 2
          omega
      · have := h (i + 1) (by simp; omega)
        rw [gs] at this
        rw [← this, List.length_append, List.length_singleton]
        congr 2
        omega
    · rw [if_neg (fun h => hc (hs'.1 h)), if_neg (fun h => hc ?_)]
      have := h 0 (by simp)
      rw [g0] at this
      exact this

/-- The pieces of a stage are counted (before one more is dealt). -/
theorem dl3 (a : Int) (l : List S57) (i : Int) (acc : List (List Int)) : ∀ (v u : List Int) (c K : Nat), u.length + v.length ≤ 100 → c + v.length ≤ 100 →
    tensilelaw09_draws.l3 (K + v.length + 1) (u ++ v) acc i (c : Int) (u.length : Int) a l = tensilelaw09_draws.l3 (K + 1) (u ++ v) acc i ((c + cI v i : Nat) : Int) ((u ++ v).length : Int) a l
  | [], u, c, K, _, _ => by rw [List.append_nil]; rfl
  | x :: v, u, c, K, h1, h2 => by
    have p1 : (u.length : Int) < ((u ++ x :: v).length : Int) := by simp; omega
    have p2 : (0 : Int) ≤ (u.length : Int) := by omega
    have p3 : u.length + 1 ≤ 100000 := by simp at h1; omega
    have p4 : c + 1 ≤ 100000 := by simp at h2; omega
    have p5 : u.length + 1 + v.length ≤ 100 := by simp at h1; omega
    have p6 : c + v.length ≤ 100 ∧ c + 1 + v.length ≤ 100 := by simp at h2; omega
    have e1 : u ++ x :: v = (u ++ [x]) ++ v := by simp
    have e2 : ((u ++ [x]).length : Int) = ((u.length + 1 : Nat) : Int) := by simp
    rw [List.length_cons, ← Nat.add_assoc K, tensilelaw09_draws.l3, if_pos p1, if_pos p2, rd_mid, w_nat (x := (u.length : Int) + 1) (u.length + 1) (by rw [Int.natCast_add]; rfl) p3]
    by_cases hx : x = i
    · have ih := dl3 a l i acc v (u ++ [x]) (c + 1) K (by simpa using p5) p6.2
      rw [← e1, e2] at ih
      rw [if_pos hx, w_nat (x := (c : Int) + 1) (c + 1) (by rw [Int.natCast_add]; rfl) p4, ih, cI_cons, if_pos hx, Nat.add_right_comm c 1, ← Nat.add_assoc]
    · have ih := dl3 a l i acc v (u ++ [x]) c K (by simpa using p5) p6.1
      rw [← e1, e2] at ih
      rw [if_neg hx, ih, cI_cons, if_neg hx, Nat.add_zero (cI v i)]

theorem dl3_end (a : Int) (l : List S57) (i : Int) (acc : List (List Int)) (b : List Int) (hb : b.length ≤ 50) (K : Nat) :
    tensilelaw09_draws.l3 (K + b.length + 1) b acc i 0 0 a l = tensilelaw09_draws.l3 (K + 1) b acc i ((cI b i : Nat) : Int) (b.length : Int) a l := by
  have h := dl3 a l i acc b [] 0 K (by simp; omega) (by omega)
  have ez : ((0 : Nat) : Int) = 0 := rfl
  rw [List.nil_append, List.length_nil, ez, Nat.zero_add] at h
  exact h

theorem four_le (m : Nat) (h : m ≤ 7) : 4 ^ m ≤ 16384 := Nat.le_trans (Nat.pow_le_pow_right (by omega) h) (by decide)

/-- All draws that begin so. -/
theorem draws_f (lot : Nat) (hlot : lot ≤ 7) (l : List S57) (h3 : l.length ≤ 3) (ht : ∀ s ∈ l, 1 ≤ s.f0 ∧ s.f0 ≤ 30) : ∀ (m K : Nat) (b : List Int), b.length + m = lot → 70 * (m + 1) ≤ K →
    tensilelaw09_draws.f K (lot : Int) l b = some (dr (tks (l.map cSt)) m b)
  | 0, K, b, hb, hK => by
    obtain ⟨K, rfl⟩ : ∃ m, K = m + 1 := ⟨K - 1, by omega⟩
    have p : (b.length : Int) = (lot : Int) := by omega
    have hbl : b.length ≤ 7 := by omega
    have hm : (b.length + 3) * (l.length + 1) ≤ 10 * 4 := Nat.mul_le_mul (by omega) (by omega)
    have h := dl0 (lot : Int) b (by omega) l [] K (by omega) (by simpa using h3) ht
    have ez : (([] : List S57).length : Int) = 0 := rfl
    rw [List.nil_append, ez] at h
    rw [tensilelaw09_draws.f, if_pos p, h, dr]
    congr 1
    have el : (tks (l.map cSt)).length = l.length := by simp [tks]
    refine if_iff ?_
    rw [el]
    simp only [List.length_nil, Nat.zero_add]
  | m + 1, K, b, hb, hK => by
    obtain ⟨K, rfl⟩ : ∃ m, K = m + 1 := ⟨K - 1, by omega⟩
    have p : ¬ ((b.length : Int) = (lot : Int)) := by omega
    have hbl : b.length ≤ 7 := by omega
    have h4 := four_le m (by omega)
    have el : (tks (l.map cSt)).length = l.length := by simp [tks]
    -- the loop over the stages
    have loop : ∀ (suf pre : List S57) (K : Nat) (acc : List (List Int)), l = pre ++ suf → 15 * suf.length + 70 * (m + 1) + 10 ≤ K → acc.length ≤ (pre.length + 1) * 4 ^ m →
        tensilelaw09_draws.l2 K b acc (pre.length : Int) (lot : Int) l = some (acc ++ ((List.range' pre.length suf.length).map fun (i : Nat) => if cI b (i : Int) < (tks (l.map cSt)).getD i 0 then dr (tks (l.map cSt)) m (b ++ [(i : Int)]) else []).flatten) := by
      intro suf
      induction suf with
      | nil =>
        intro pre K acc hl hK _
        obtain ⟨K, rfl⟩ : ∃ m, K = m + 1 := ⟨K - 1, by omega⟩
        have q : ¬ ((pre.length : Int) < (l.length : Int)) := by rw [hl]; simp
        rw [tensilelaw09_draws.l2, if_neg q]
        simp
      | cons s suf ih =>
        intro pre K acc hl hK hacc
        have hK' : 15 * suf.length + 15 + 70 * (m + 1) + 10 ≤ K := by simp at hK; omega
        obtain ⟨K', rfl⟩ : ∃ k, K = (k + b.length + 1) + 1 := ⟨K - b.length - 2, by omega⟩
        have hll : l.length = pre.length + (suf.length + 1) := by rw [hl]; simp
        have q1 : (pre.length : Int) < (l.length : Int) := by omega
        have q2 : (0 : Int) ≤ (pre.length : Int) := by omega
        have q3 : ¬ ((b.length : Int) < (b.length : Int)) := Int.lt_irrefl _
        have q4 : ¬ ((pre.length : Int) < 0) := by omega
        have q5 : pre.length + 1 ≤ 100000 := by omega
        have q6 : pre.length ≤ 2 := by omega
        have q7 : (pre.length + 1) * 4 ^ m ≤ 3 * 16384 := Nat.mul_le_mul (by omega) h4
        have hs := ht s (by rw [hl]; simp)
        have er : rd_T57 l (pre.length : Int) = s := by rw [hl]; exact rd_pre pre s suf
        have eg : (tks (l.map cSt)).getD pre.length 0 = s.f0.toNat := by rw [hl]; exact tks_get pre s suf
        have hn : l = (pre ++ [s]) ++ suf := by rw [hl]; simp
        have e2 : ((pre ++ [s]).length : Int) = ((pre.length + 1 : Nat) : Int) := by simp
        have e3 : (pre ++ [s]).length = pre.length + 1 := by simp
        have k1 : 70 * (m + 1) ≤ K' := by omega
        have k2 : 15 * suf.length + 70 * (m + 1) + 10 ≤ K' := by omega
        rw [tensilelaw09_draws.l2, if_pos q1, dl3_end (lot : Int) l (pre.length : Int) acc b (by omega) K', tensilelaw09_draws.l3, if_neg q3, if_neg q4, if_pos q2, if_pos q1, er]
        rw [List.length_cons, List.range'_succ, List.map_cons, List.flatten_cons, eg]
        have hs' : ((cI b (pre.length : Int) : Nat) : Int) < s.f0 ↔ cI b (pre.length : Int) < s.f0.toNat := by omega
        by_cases hc : cI b (pre.length : Int) < s.f0.toNat
        · have hd := draws_f lot hlot l h3 ht m K' (b ++ [(pre.length : Int)]) (by rw [List.length_append, List.length_singleton]; omega) k1
          have hdl := dr_length (tks (l.map cSt)) (by rw [el]; exact h3) m (b ++ [(pre.length : Int)])
          have b1 : (([] : List Int).length) + b.length < 17592186044416 := by simp; omega
          have b2 : (b.length) + ([(pre.length : Int)] : List Int).length < 17592186044416 := by simp; omega
          have b3 : acc.length + (dr (tks (l.map cSt)) m (b ++ [(pre.length : Int)])).length < 5864062014805 := by omega
          have b4 : (acc ++ dr (tks (l.map cSt)) m (b ++ [(pre.length : Int)])).length ≤ ((pre ++ [s]).length + 1) * 4 ^ m := by
            rw [List.length_append, e3, Nat.add_mul (pre.length + 1) 1]; omega
          have := ih (pre ++ [s]) K' (acc ++ dr (tks (l.map cSt)) m (b ++ [(pre.length : Int)])) hn k2 b4
          rw [e2, e3] at this
          rw [if_pos (hs'.2 hc), if_pos hc, Option.bind_some, if_pos b1, Option.bind_some, List.nil_append, Option.bind_some, if_pos b2, hd, Option.bind_some, if_pos b3, w_nat (x := (pre.length : Int) + 1) (pre.length + 1) (by rw [Int.natCast_add]; rfl) q5, this, List.append_assoc]
        · have b4 : acc.length ≤ ((pre ++ [s]).length + 1) * 4 ^ m := by
            rw [e3, Nat.add_mul (pre.length + 1) 1]; omega
          have := ih (pre ++ [s]) K' acc hn k2 b4
          rw [e2, e3] at this
          rw [if_neg (fun h => hc (hs'.1 h)), if_neg hc, List.nil_append, w_nat (x := (pre.length : Int) + 1) (pre.length + 1) (by rw [Int.natCast_add]; rfl) q5, this]
    rw [tensilelaw09_draws.f, if_neg p]
    obtain ⟨K', hK2⟩ : ∃ k, K = (k + b.length + 1) + 1 := ⟨K - b.length - 2, by omega⟩
    have q1 : (-1 : Int) < (l.length : Int) := by omega
    have q3 : ¬ ((b.length : Int) < (b.length : Int)) := Int.lt_irrefl _
    have k1 : 70 * (m + 1) ≤ K' := by omega
    have k2 : 15 * l.length + 70 * (m + 1) + 10 ≤ K' := by omega
    have hd := draws_f lot hlot l h3 ht m K' (b ++ [-1]) (by rw [List.length_append, List.length_singleton]; omega) k1
    have hdl := dr_length (tks (l.map cSt)) (by rw [el]; exact h3) m (b ++ [-1])
    have b1 : (([] : List Int).length) + b.length < 17592186044416 := by simp; omega
    have b2 : (b.length) + ([-1] : List Int).length < 17592186044416 := by simp; omega
    have b3 : ([] : List (List Int)).length + (dr (tks (l.map cSt)) m (b ++ [-1])).length < 5864062014805 := by simp; omega
    have b4 : ([] ++ dr (tks (l.map cSt)) m (b ++ [-1])).length ≤ (([] : List S57).length + 1) * 4 ^ m := by simpa using hdl
    have h := loop l [] K' ([] ++ dr (tks (l.map cSt)) m (b ++ [-1])) rfl k2 b4
    have ez : (([] : List S57).length : Int) = 0 := rfl
    have e0 : wrap64 (-1 + 1) = 0 := w_id (by omega) (by omega)
    rw [ez] at h
    rw [hK2, tensilelaw09_draws.l2, if_pos q1, dl3_end (lot : Int) l (-1) [] b (by omega) K', tensilelaw09_draws.l3, if_neg q3, if_pos (by decide), Option.bind_some, if_pos b1, Option.bind_some, List.nil_append, Option.bind_some, if_pos b2, hd, Option.bind_some, if_pos b3, e0, h, dr, el, List.length_nil, List.range_eq_range', List.nil_append]
end Go.Proofs.Ytigpnafpdmdmhaa.Pure

namespace Go.Proofs.Ytigpnafpdmdmhaa.Pure
open Go.RowKit Go.Proofs.Ytigpnafpdmdmhaa.P Go.Proofs.YtigpnafpdmdmhaaW.PrintWords
open Hand (Stg saysV fits lastDec Valid bads playGo playV)
open Ma

theorem play_step {α : Type} (K : Nat) (a : Int) (l : List S57) (hK : 7 ≤ K) (h5 : l.length ≤ 5) (rs : List Bool) (hrs : rs.length ≤ 1000) (F : Int × Int × Int → Option α) :
    ((tensilelaw09_Plan.f K a l).bind fun bt => (some (([] : List Bool) : List Bool)).bind fun y => if y.length + rs.length < 140737488355328 then (plan_Play.f bt.1 bt.2 (y ++ rs)).bind F else none) = F (playV a (l.map cSt) rs) := by
  rw [plan_f a l h5 K hK, Option.bind_some, Option.bind_some, if_pos (by simp; omega)]
  unfold plan_Play.f
  rw [toStg_c61, Option.bind_some, List.nil_append]

/-- What is asked of a plan here. -/
structure Rdy (a : Int) (l : List S57) (lot : Nat) : Prop where
  ok : Hand.checkPlan a (l.map cSt) = 0
  eq : a = lot
  le : lot ≤ 30
  ne : l.map cSt ≠ []
  last : lastDec (l.map cSt)
  fit : fits lot 0 (l.map cSt)
  len : l.length ≤ 3

theorem rdy_of {a : Int} {l : List S57} (h : Hand.checkPlan a (l.map cSt) = 0) : ∃ lot, Rdy a l lot := by
  have hv := Hand.checkPlan_ok h
  exact ⟨a.toNat, h, by have := hv.lo; omega, by have := hv.hi; omega, hv.ne, hv.last, hv.fit, by simpa using hv.len⟩

theorem playV_st {a : Int} {l : List S57} {lot : Nat} (h : Rdy a l lot) (rs : List Bool) :
    playV a (l.map cSt) rs = if (st rs (l.map cSt) 0 0).1 = true then (3, ((st rs (l.map cSt) 0 0).2.2 : Int) - rs.length, 0) else if (st rs (l.map cSt) 0 0).2.2 < rs.length then (0, 0, 2) else ((st rs (l.map cSt) 0 0).2.1, 0, 0) := by
  unfold playV
  rw [if_pos h.ok]
  exact playGo_st rs lot _ 0 0 0 h.ne h.last h.fit


theorem bads_len (l : List Bool) : bads l ≤ l.length := List.countP_le_length
theorem tot_append (l m : List Stg) : tot (l ++ m) = tot l + tot m := by
  induction l with
  | nil => simp [tot]
  | cons x l ih => rw [List.cons_append, tot, tot, ih, Nat.add_assoc]
theorem lastDec_app : ∀ (l : List Stg) {s : Stg}, lastDec (l ++ [s]) → lastDec [s]
  | [], _, h => h
  | [_], _, h => h
  | _ :: x :: l, _, h => lastDec_app (x :: l) h
theorem saysV_three {s : Stg} {b : Int} (h : saysV s b = 3) : ¬ b ≤ s.accept ∧ ¬ s.reject ≤ b := by
  unfold saysV at h
  split at h
  · exact absurd h (by decide)
  · rename_i h1
    split at h
    · exact absurd h (by decide)
    · rename_i h2
      exact ⟨h1, h2⟩
theorem fits_one {lot : Nat} : ∀ {l : List Stg} {t : Nat}, fits lot t l → ∀ s ∈ l, 1 ≤ s.take
  | _ :: _, _, h, s, hs => by
    rcases List.mem_cons.1 hs with rfl | hs
    · exact h.1
    · exact fits_one h.2.2 s hs
theorem good1 {a : Int} {l : List S57} {lot : Nat} (h : Rdy a l lot) (s : S57) (hs : s ∈ l) : 1 ≤ s.f0 := fits_one h.fit (cSt s) (List.mem_map.2 ⟨s, hs, rfl⟩)
end Go.Proofs.Ytigpnafpdmdmhaa.Pure

namespace Go.Proofs.Ytigpnafpdmdmhaa.Pure
open Go.RowKit Go.Proofs.Ytigpnafpdmdmhaa.P Go.Proofs.YtigpnafpdmdmhaaW.PrintWords
open Ma
theorem u8_nat {x : Int} (h : (Lit.int .u8 x).wf = true) : ∃ n : Nat, x = n ∧ n ≤ 255 := by
  unfold Lit.wf at h
  rw [Bool.and_eq_true, decide_eq_true_eq, decide_eq_true_eq] at h
  have h1 : (0 : Int) ≤ x := h.1
  have h2 : x ≤ 255 := h.2
  exact ⟨x.toNat, by omega, by omega⟩

end Go.Proofs.Ytigpnafpdmdmhaa.Pure

namespace Go.Proofs.Ytigpnafpdmdmhaa.Pure
open Go.RowKit Go.Proofs.Ytigpnafpdmdmhaa.P Go.Proofs.YtigpnafpdmdmhaaW.PrintWords
open Hand (Stg saysV fits lastDec Valid bads playGo playV Cnt cntW shareV)
open Ma

/-- Is a piece bad? -/
def bt (x : Int) (k : Nat) : Bool := decide (Int.tmod (shr .u8 x (IntKind.u64.wrap (k : Int))) 2 = 1)
def bits (x : Int) (lot : Nat) : List Bool := (List.range lot).map (bt x)
theorem bits_length (x : Int) (lot : Nat) : (bits x lot).length = lot := by simp [bits]
theorem bits_drop (x : Int) (lot k : Nat) (h : k < lot) : (bits x lot).drop k = bt x k :: (bits x lot).drop (k + 1) := by
  rw [List.drop_eq_getElem_cons (by rw [bits_length]; exact h)]
  congr 1
  simp [bits]
theorem wrap_nn : ∀ k : Nat, k < 8 → 0 ≤ IntKind.u64.wrap (k : Int) := by decide
theorem bt_true {x : Int} {k : Nat} (h : bt x k = true) : Int.tmod (shr .u8 x (IntKind.u64.wrap (k : Int))) 2 = 1 := of_decide_eq_true h
theorem bt_false {x : Int} {k : Nat} (h : bt x k = false) : ¬ Int.tmod (shr .u8 x (IntKind.u64.wrap (k : Int))) 2 = 1 := of_decide_eq_false h

/-- The bad pieces are counted. -/
theorem pd_l0 (x : Int) (lot : Nat) (hlot : lot ≤ 7) (l : List S57) (B0 : Nat) (hn : ∀ K, B0 ≤ K → ∀ all, tensilelaw09_draws.f K (lot : Int) l [] = some all → tensilelaw09_PlanDraws.l1 K x (bads (bits x lot) : Int) all 0 0 0 (lot : Int) l = some true) (hd : ∀ K, B0 ≤ K → ∃ all, tensilelaw09_draws.f K (lot : Int) l [] = some all) :
    ∀ (d k c K : Nat), k + d = lot → c + bads ((bits x lot).drop k) = bads (bits x lot) → B0 + d + 1 ≤ K → tensilelaw09_PlanDraws.l0 K x (c : Int) (k : Int) (lot : Int) l = some true
  | 0, k, c, K, hk, hc, hK => by
    obtain ⟨K, rfl⟩ : ∃ m, K = m + 1 := ⟨K - 1, by omega⟩
    have p1 : ¬ ((k : Int) < (lot : Int)) := by omega
    rw [List.drop_of_length_le (by rw [bits_length]; omega)] at hc
    have hc' : c = bads (bits x lot) := by rw [← hc]; rfl
    obtain ⟨all, ha⟩ := hd K (by omega)
    rw [tensilelaw09_PlanDraws.l0, if_neg p1, ha, Option.bind_some, hc']
    exact hn K (by omega) all ha
  | d + 1, k, c, K, hk, hc, hK => by
    obtain ⟨K, rfl⟩ : ∃ m, K = m + 1 := ⟨K - 1, by omega⟩
    have p1 : (k : Int) < (lot : Int) := by omega
    have p2 : k + 1 ≤ 100000 := by omega
    have p3 : k + 1 + d = lot := by omega
    have p4 : B0 + d + 1 ≤ K := by omega
    have hb : bads (bits x lot) ≤ 7 := by
      have := bads_len (bits x lot)
      rw [bits_length] at this
      omega
    rw [bits_drop x lot k (by omega), bads_cons] at hc
    have p5 : c + 1 ≤ 100000 := by omega
    rw [tensilelaw09_PlanDraws.l0, if_pos p1, if_pos (wrap_nn k (by omega)), w_nat (x := (k : Int) + 1) (k + 1) (by rw [Int.natCast_add]; rfl) p2]
    cases hbt : bt x k with
    | true =>
      rw [hbt] at hc
      have hc2 : c + 1 + bads ((bits x lot).drop (k + 1)) = bads (bits x lot) := by
        have : b2n true = 1 := rfl
        omega
      rw [if_pos (bt_true hbt), w_nat (x := (c : Int) + 1) (c + 1) (by rw [Int.natCast_add]; rfl) p5]
      exact pd_l0 x lot hlot l B0 hn hd d (k + 1) (c + 1) K p3 hc2 p4
    | false =>
      rw [hbt] at hc
      have hc2 : c + bads ((bits x lot).drop (k + 1)) = bads (bits x lot) := by
        have : b2n false = 0 := rfl
        omega
      rw [if_neg (bt_false hbt)]
      exact pd_l0 x lot hlot l B0 hn hd d (k + 1) c K p3 hc2 p4

theorem rd_drop (w : List Int) (k : Nat) (h : k < w.length) : w.drop k = rd w (k : Int) :: w.drop (k + 1) := by
  rw [List.drop_eq_getElem_cons h]
  congr 1
  unfold rd
  rw [Int.toNat_natCast, List.getD_eq_getElem?_getD, List.getElem?_eq_getElem h]
  rfl

/-- The pieces of one stage of a draw are laid behind the results; then they are played. -/
theorem pd_l3 (x : Int) (lot : Nat) (hlot : lot ≤ 7) (l : List S57) (h5 : l.length ≤ 5) (bd : Int) (all : List (List Int)) (A P : Int) (i : Nat) (hi : i < all.length) (w : List Int) (hw : rd_L7 all (i : Int) = w) (hwl : w.length = lot) (s : Int) :
    ∀ (d k K : Nat) (R : List Bool), k + d = lot → R.length + d ≤ 500 → 7 ≤ K →
    tensilelaw09_PlanDraws.l3 (K + d + 1) x bd all A P (i : Int) R s (k : Int) (lot : Int) l =
      if (playV (lot : Int) (l.map cSt) (R ++ sg ((bits x lot).drop k) (w.drop k) s)).2.2 = 0 then tensilelaw09_PlanDraws.l2 K x bd all A P (i : Int) (R ++ sg ((bits x lot).drop k) (w.drop k) s) (playV (lot : Int) (l.map cSt) (R ++ sg ((bits x lot).drop k) (w.drop k) s)).1 (wrap64 (s + 1)) (lot : Int) l else none
  | 0, k, K, R, hk, hR, hK => by
    have p1 : ¬ ((k : Int) < (lot : Int)) := by omega
    have e : sg ((bits x lot).drop k) (w.drop k) s = [] := by
      rw [List.drop_of_length_le (by rw [bits_length]; omega), List.drop_of_length_le (by omega)]
      rfl
    rw [Nat.add_zero, tensilelaw09_PlanDraws.l3, if_neg p1, e, List.append_nil]
    exact play_step K (lot : Int) l hK h5 R (by omega) _
  | d + 1, k, K, R, hk, hR, hK => by
    have p1 : (k : Int) < (lot : Int) := by omega
    have p2 : (0 : Int) ≤ (i : Int) := by omega
    have p3 : (i : Int) < (all.length : Int) := by omega
    have p4 : (0 : Int) ≤ (k : Int) := by omega
    have p5 : (k : Int) < (w.length : Int) := by omega
    have p6 : k + 1 ≤ 100000 := by omega
    have p7 : R.length < 140737488355328 := by omega
    have p8 : k + 1 + d = lot := by omega
    have p9 : R.length + d ≤ 500 ∧ R.length + 1 + d ≤ 500 := by omega
    rw [← Nat.add_assoc K d 1, tensilelaw09_PlanDraws.l3, if_pos p1, if_pos p2, if_pos p3, if_pos p4, hw, if_pos p5, w_nat (x := (k : Int) + 1) (k + 1) (by rw [Int.natCast_add]; rfl) p6]
    rw [bits_drop x lot k (by omega), rd_drop w k (by omega), sg_cons]
    by_cases hs : rd w (k : Int) = s
    · have hb : (Int.tmod (shr .u8 x (IntKind.u64.wrap (k : Int))) 2 == 1) = bt x k := rfl
      have ih := pd_l3 x lot hlot l h5 bd all A P i hi w hw hwl s d (k + 1) K (R ++ [bt x k]) p8 (by rw [List.length_append]; exact p9.2) hK
      rw [List.append_assoc, List.singleton_append] at ih
      rw [if_pos hs, if_pos hs, if_pos (wrap_nn k (by omega)), if_pos p7, hb]
      exact ih
    · have ih := pd_l3 x lot hlot l h5 bd all A P i hi w hw hwl s d (k + 1) K R p8 p9.1 hK
      rw [if_neg hs, if_neg hs]
      exact ih

/-- What is known of a draw between two stages. -/
structure Dw (l pre suf : List S57) (R : List Bool) (f : Nat) : Prop where
  eq : l = pre ++ suf
  len : R.length = tot (pre.map cSt)
  go : ∀ X : List Bool, st (R ++ X) (l.map cSt) 0 0 = st (R ++ X) (suf.map cSt) R.length f

/-- The numbers of bad ones of the stages that follow. -/
def ns_ (bs : List Bool) (w : List Int) (i : Nat) : Nat → List Nat
  | 0 => []
  | d + 1 => bads (sg bs w (i : Int)) :: ns_ bs w (i + 1) d

/-- The stages of one draw. -/
theorem pd_l2 (x : Int) (lot : Nat) (hlot : lot ≤ 7) {l : List S57} (hr : Rdy (lot : Int) l lot) (bd : Int) (all : List (List Int)) (A P : Nat) (gA : A ≤ 100000) (gP : P ≤ 1000000) (i : Nat) (hi : i < all.length) (hall : all.length ≤ 20000) (w : List Int) (hw : rd_L7 all (i : Int) = w) (hwl : w.length = lot) (B0 : Nat)
    (hc : ∀ j, j < l.length → cI w (j : Int) = (tks (l.map cSt)).getD j 0) : ∀ (suf pre : List S57) (R : List Bool) (f K : Nat), Dw l pre suf R f → suf ≠ [] → B0 + 15 * suf.length + 20 ≤ K → R.length ≤ 7 →
    (∀ K', B0 ≤ K' → tensilelaw09_PlanDraws.l1 K' x bd all ((A + hA (suf.map cSt) f (ns_ (bits x lot) w pre.length suf.length) : Nat) : Int) ((P + hP (suf.map cSt) f R.length (ns_ (bits x lot) w pre.length suf.length) : Nat) : Int) ((i + 1 : Nat) : Int) (lot : Int) l = some true) →
    tensilelaw09_PlanDraws.l2 K x bd all (A : Int) (P : Int) (i : Int) R 3 (pre.length : Int) (lot : Int) l = some true := by
  intro suf
  induction suf with
  | nil => intro _ _ _ _ _ h; exact absurd rfl h
  | cons s suf ih =>
    intro pre R f K hd _ hK hRl next
    have hlen := hr.len
    have hll : l.length = pre.length + (suf.length + 1) := by rw [hd.eq]; simp
    have hK' : B0 + 15 * suf.length + 15 + 20 ≤ K := by simp at hK; omega
    obtain ⟨K', rfl⟩ : ∃ k, K = (k + lot + 1) + 2 := ⟨K - lot - 3, by omega⟩
    have p1 : (pre.length : Int) < (l.length : Int) := by omega
    have p2 : pre.length + 1 ≤ 100000 := by omega
    have p3 : 7 ≤ K' := by omega
    have h3 := pd_l3 x lot hlot l (by omega) bd all (A : Int) (P : Int) i hi w hw hwl (pre.length : Int) lot 0 K' R (by omega) (by omega) p3
    have ez : ((0 : Nat) : Int) = 0 := rfl
    rw [ez, List.drop_zero, List.drop_zero] at h3
    rw [tensilelaw09_PlanDraws.l2, if_pos p1, tensilelaw09_PlanDraws.j4, if_pos (by decide), h3]
    clear h3
    -- the stage's pieces
    obtain ⟨seg, hseg⟩ : ∃ seg, seg = sg (bits x lot) w (pre.length : Int) := ⟨_, rfl⟩
    rw [← hseg]
    have hsl : seg.length = s.f0.toNat := by
      rw [hseg, sg_length _ _ _ (by rw [bits_length, hwl]), hc pre.length (by omega)]
      rw [hd.eq]
      exact tks_get pre s suf
    have hns : ns_ (bits x lot) w pre.length (s :: suf).length = bads seg :: ns_ (bits x lot) w (pre.length + 1) suf.length := by rw [hseg]; rfl
    rw [hns, List.map_cons] at next
    have htk : (cSt s).take.toNat = s.f0.toNat := rfl
    -- one stage of st
    have hst : ∀ X : List Bool, st (R ++ seg ++ X) (l.map cSt) 0 0 = if saysV (cSt s) ((f + bads seg : Nat) : Int) = 3 then st (R ++ seg ++ X) (suf.map cSt) (R ++ seg).length (f + bads seg) else (false, saysV (cSt s) ((f + bads seg : Nat) : Int), (R ++ seg).length) := fun X => by
      have e1 : ((R ++ (seg ++ X)).drop R.length).take (cSt s).take.toNat = seg := by
        rw [List.drop_left, htk, ← hsl, List.take_left]
      have := hd.go (seg ++ X)
      rw [List.append_assoc, this, List.map_cons, st, if_neg (by rw [List.length_append, List.length_append, htk]; omega), e1, htk, List.length_append, hsl]
    have hst0 := hst []
    rw [List.append_nil] at hst0
    have hfit : R.length + seg.length ≤ lot := by
      have h1 := fits_tot _ lot 0 (Nat.zero_le _) hr.fit
      rw [hd.eq, List.map_append, List.map_cons, tot_append, tot, htk, Nat.zero_add] at h1
      rw [hd.len, hsl]
      omega
    by_cases h3 : saysV (cSt s) ((f + bads seg : Nat) : Int) = 3
    · -- it goes on
      have hne : suf ≠ [] := by
        rintro rfl
        have hl := hr.last
        rw [hd.eq, List.map_append] at hl
        exact Hand.lastDec_open (lastDec_app _ hl) h3
      have hp : playV (lot : Int) (l.map cSt) (R ++ seg) = (3, ((st (R ++ seg) (l.map cSt) 0 0).2.2 : Int) - (R ++ seg).length, 0) := by
        obtain ⟨s', suf', rfl⟩ := List.exists_cons_of_ne_nil hne
        have hs' := good1 hr s' (by rw [hd.eq]; simp)
        have hlt : (R ++ seg).length < (R ++ seg).length + (cSt s').take.toNat := by
          have : (cSt s').take.toNat = s'.f0.toNat := rfl
          omega
        have he : st (R ++ seg) ((s' :: suf').map cSt) (R ++ seg).length (f + bads seg) = (true, ((suf'.map cSt).length : Int), (R ++ seg).length + (cSt s').take.toNat) := by
          rw [List.map_cons, st, if_pos hlt]
        rw [playV_st hr, hst0, if_pos h3, he, if_pos rfl]
      rw [hp, if_pos rfl]
      dsimp only
      have hn : l = (pre ++ [s]) ++ suf := by rw [hd.eq]; simp
      have e2 : ((pre ++ [s]).length : Int) = ((pre.length + 1 : Nat) : Int) := by simp
      have e3 : (pre ++ [s]).length = pre.length + 1 := by simp
      rw [w_nat (x := (pre.length : Int) + 1) (pre.length + 1) (by rw [Int.natCast_add]; rfl) p2, ← e2]
      refine ih (pre ++ [s]) (R ++ seg) (f + bads seg) K' ⟨hn, ?_, fun X => ?_⟩ hne (by omega) (by rw [List.length_append]; omega) ?_
      · rw [List.length_append, hd.len, hsl, List.map_append, tot_append]; rfl
      · rw [hst X, if_pos h3]
      · intro K2 hK2
        have := next K2 hK2
        have hx := saysV_three h3
        have ha : hA (cSt s :: suf.map cSt) f (bads seg :: ns_ (bits x lot) w (pre.length + 1) suf.length) = hA (suf.map cSt) (f + bads seg) (ns_ (bits x lot) w (pre.length + 1) suf.length) := by
          rw [Ma.hA, if_neg hx.1, if_neg hx.2]
        have hb : hP (cSt s :: suf.map cSt) f R.length (bads seg :: ns_ (bits x lot) w (pre.length + 1) suf.length) = hP (suf.map cSt) (f + bads seg) (R ++ seg).length (ns_ (bits x lot) w (pre.length + 1) suf.length) := by
          rw [Ma.hP, if_neg hx.1, if_neg hx.2, List.length_append, hsl, htk]
        rw [ha, hb] at this
        rw [e3]
        exact this
    · -- it is decided
      have hp : playV (lot : Int) (l.map cSt) (R ++ seg) = (saysV (cSt s) ((f + bads seg : Nat) : Int), 0, 0) := by
        rw [playV_st hr, hst0, if_neg h3, if_neg Bool.false_ne_true, if_neg (Nat.lt_irrefl _)]
      obtain ⟨v, hv⟩ : ∃ v, v = saysV (cSt s) ((f + bads seg : Nat) : Int) := ⟨_, rfl⟩
      have hv2 := saysV_two _ _ h3
      have hRs : (R ++ seg).length = R.length + s.f0.toNat := by rw [List.length_append, hsl]
      have hb : hP (cSt s :: suf.map cSt) f R.length (bads seg :: ns_ (bits x lot) w (pre.length + 1) suf.length) = (R ++ seg).length := by
        rw [Ma.hP, hRs]
        split
        · rfl
        · split
          · rfl
          · rename_i h4 h5
            exact absurd (by unfold saysV; rw [if_neg h4, if_neg h5]) h3
      have ha : hA (cSt s :: suf.map cSt) f (bads seg :: ns_ (bits x lot) w (pre.length + 1) suf.length) = if v = 1 then 1 else 0 := by
        rw [Ma.hA, hv]
        unfold saysV at h3 ⊢
        split
        · rfl
        · rename_i h4
          rw [if_neg h4] at h3
          split
          · rfl
          · rename_i h5
            rw [if_neg h5] at h3
            exact absurd rfl h3
      rw [ha, hb] at next
      rw [← hv] at hp hv2
      rw [hp, if_pos rfl]
      dsimp only
      obtain ⟨K2, rfl⟩ : ∃ k, K' = k + 2 := ⟨K' - 2, by omega⟩
      have kk : B0 ≤ K2 := by omega
      have q1 : A + 1 ≤ 200000 ∧ P + (R ++ seg).length ≤ 2000000 ∧ i + 1 ≤ 100000 := by rw [hRs]; omega
      have q2 : (v == 3) = false := by rcases hv2 with rfl | rfl <;> rfl
      have fin : ∀ e : Bool, e = false → tensilelaw09_PlanDraws.j4 (K2 + 1) x bd all (A : Int) (P : Int) (i : Int) (R ++ seg) v (wrap64 ((pre.length : Int) + 1)) e (lot : Int) l = some true := fun e he => by
        subst he
        have n2 := next K2 kk
        rw [tensilelaw09_PlanDraws.j4, if_neg (by decide), w_id (x := (P : Int) + ((R ++ seg).length : Int)) (by omega) (by omega), w_nat (x := (i : Int) + 1) (i + 1) (by rw [Int.natCast_add]; rfl) q1.2.2]
        rcases hv2 with rfl | rfl
        · rw [if_pos rfl] at n2
          rw [if_pos rfl, w_id (x := (A : Int) + 1) (by omega) (by omega)]
          rw [Int.natCast_add, Int.natCast_add P] at n2
          exact n2
        · rw [if_neg (by decide), Nat.add_zero] at n2
          rw [if_neg (by decide), if_pos rfl]
          rw [Int.natCast_add P] at n2
          exact n2
      rw [tensilelaw09_PlanDraws.l2]
      split
      · exact fin _ q2
      · exact fin _ rfl
end Go.Proofs.Ytigpnafpdmdmhaa.Pure

namespace Go.Proofs.Ytigpnafpdmdmhaa.Pure
open Go.RowKit Go.Proofs.Ytigpnafpdmdmhaa.P Go.Proofs.YtigpnafpdmdmhaaW.PrintWords
open Hand (Stg saysV fits lastDec Valid bads playGo playV Cnt cntW shareV)
open Ma

theorem ns_range (bs : List Bool) (w : List Int) : ∀ (d i : Nat), ns_ bs w i d = (List.range' i d).map fun (j : Nat) => bads (sg bs w (j : Int))
  | 0, _ => rfl
  | d + 1, i => by rw [ns_, ns_range bs w d, List.range'_succ, List.map_cons]
theorem ns_bcs (bs : List Bool) (w : List Int) (s : Nat) : ns_ bs w 0 s = bcs bs w s := by
  rw [ns_range, bcs, List.range_eq_range']

theorem nw_len {H H' : List Nat → Nat} : ∀ (rs : List Nat) (B g : Nat), (∀ ns, ns.length = rs.length → H ns = H' ns) → nw B g rs H = nw B g rs H'
  | [], _, _, h => h [] rfl
  | r :: rs, B, g, h => by
    rw [nw, nw]
    exact sw_congr fun n _ _ _ => nw_len rs _ _ fun ns hn => h (n :: ns) (by simp [hn])

theorem addl_nil (s : Nat) (ns : List Nat) (h : ns.length = s) : addl (bcs [] [] s) ns = ns := by
  apply List.ext_getElem
  · simp [addl, bcs_length, h]
  · intro j h1 h2
    have e : bads (sg [] [] (j : Int)) = 0 := by
      have : sg [] [] (j : Int) = [] := rfl
      rw [this]; rfl
    simp only [addl, bcs, List.getElem_zipWith, List.getElem_map, List.getElem_range, e, Nat.zero_add]

theorem need_nil (tk : List Nat) : need tk [] = tk := by
  apply List.ext_getElem
  · rw [need_length]
  · intro j h1 h2
    have e : cI [] (j : Int) = 0 := rfl
    simp only [need, List.getElem_map, List.getElem_range, e, Nat.sub_zero]
    rw [List.getD_eq_getElem?_getD, List.getElem?_eq_getElem h2]
    rfl

theorem all_sum (tk : List Nat) (H : List Nat → Nat) (bs : List Bool) : sl (fun w => H (bcs bs w tk.length)) (dr tk bs.length []) = nw (bads bs) (bs.length - bads bs) tk H := by
  have h := dr_sum tk H bs [] [] rfl (fun i _ => Nat.zero_le _)
  rw [List.nil_append, need_nil] at h
  rw [h]
  exact nw_len tk _ _ fun ns hn => by rw [addl_nil _ _ hn]

theorem rd_L7_mid (pre : List (List Int)) (w : List Int) (rest : List (List Int)) : rd_L7 (pre ++ w :: rest) (pre.length : Int) = w := by
  unfold rd_L7
  rw [Int.toNat_natCast, List.getD_eq_getElem?_getD, List.getElem?_append_right (Nat.le_refl _), Nat.sub_self]
  rfl

/-- The end. -/
theorem pd_end (x : Int) (lot : Nat) {l : List S57} (hr : Rdy (lot : Int) l lot) (b : Nat) (hb : b ≤ lot) (all : List (List Int)) (hall : all.length = rest (l.map cSt) lot) (K : Nat) (hK : 8 ≤ K) :
    tensilelaw09_PlanDraws.l1 K x (b : Int) all ((cA (l.map cSt) lot b 0 0 : Nat) : Int) ((cP (l.map cSt) lot b 0 0 : Nat) : Int) (all.length : Int) (lot : Int) l = some true := by
  obtain ⟨K, rfl⟩ : ∃ m, K = m + 1 := ⟨K - 1, by omega⟩
  have hlen := hr.len
  have hc := chance_ok (lot : Int) (l.map cSt) hr.ok (b : Int) (by omega) (by omega)
  have hm := mean_ok (lot : Int) (l.map cSt) hr.ok (b : Int) (by omega) (by omega)
  rw [Int.toNat_natCast, Int.toNat_natCast] at hc hm
  have hD := rest_pos (l.map cSt) lot 0 hr.fit lot (by omega)
  have cr : ∀ n : Nat, (n / Nat.gcd n (rest (l.map cSt) lot)) * rest (l.map cSt) lot = n * (rest (l.map cSt) lot / Nat.gcd n (rest (l.map cSt) lot)) := fun n => by
    have e1 := Nat.div_mul_cancel (Nat.gcd_dvd_left n (rest (l.map cSt) lot))
    have e2 := Nat.div_mul_cancel (Nat.gcd_dvd_right n (rest (l.map cSt) lot))
    generalize rest (l.map cSt) lot = D at *
    generalize n / Nat.gcd n D = a at e1
    generalize D / Nat.gcd n D = d at e2
    rw [← e2]
    conv => rhs; rw [← e1]
    simp only [Nat.mul_comm, Nat.mul_left_comm]
  have pos : ∀ n : Nat, ((rest (l.map cSt) lot / Nat.gcd n (rest (l.map cSt) lot) : Nat) : Int) > 0 := fun n => Int.ofNat_lt.2 (Nat.div_pos (Nat.gcd_le_right _ hD) (Nat.gcd_pos_of_pos_right _ hD))
  rw [tensilelaw09_PlanDraws.l1, if_neg (Int.lt_irrefl _), plan_f _ l (by omega) K (by omega), Option.bind_some]
  unfold plan_Chance.f plan_Mean.f
  dsimp only
  rw [toStg_c61, hc, Option.bind_some, Option.bind_some]
  dsimp only
  rw [toStg_c61, hm, Option.bind_some, if_pos rfl, if_pos rfl, if_pos (pos _), if_pos (pos _), hall]
  rw [← Int.natCast_mul, ← Int.natCast_mul, ← Int.natCast_mul, ← Int.natCast_mul, cr, cr, if_pos rfl, if_pos rfl, wakes_f]
  rfl

/-- All draws, one after the other. -/
theorem pd_l1 (x : Int) (lot : Nat) (hlot : lot ≤ 7) {l : List S57} (hr : Rdy (lot : Int) l lot) (all : List (List Int)) (hall : all.length ≤ 20000) (hmem : ∀ w ∈ all, w.length = lot ∧ ∀ j, j < l.length → cI w (j : Int) = (tks (l.map cSt)).getD j 0)
    (TA TP : Nat) (hTA : TA ≤ 100000) (hTP : TP ≤ 1000000) (bd : Int) (fin : ∀ K, 60 ≤ K → tensilelaw09_PlanDraws.l1 K x bd all (TA : Int) (TP : Int) (all.length : Int) (lot : Int) l = some true) :
    ∀ (rest pre : List (List Int)) (A P K : Nat), all = pre ++ rest → A + sl (fun w => hA (l.map cSt) 0 (bcs (bits x lot) w l.length)) rest = TA → P + sl (fun w => hP (l.map cSt) 0 0 (bcs (bits x lot) w l.length)) rest = TP → 200 * rest.length + 60 ≤ K →
    tensilelaw09_PlanDraws.l1 K x bd all (A : Int) (P : Int) (pre.length : Int) (lot : Int) l = some true
  | [], pre, A, P, K, ha, h1, h2, hK => by
    have e : pre.length = all.length := by rw [ha]; simp
    have z1 : A = TA := by rw [← h1]; rfl
    have z2 : P = TP := by rw [← h2]; rfl
    rw [e, z1, z2]
    exact fin K (by omega)
  | w :: rest, pre, A, P, K, ha, h1, h2, hK => by
    obtain ⟨K, rfl⟩ : ∃ m, K = m + 1 := ⟨K - 1, by omega⟩
    have hw := hmem w (by rw [ha]; simp)
    have hi : pre.length < all.length := by rw [ha]; simp
    have hlen := hr.len
    have hne : l ≠ [] := by rintro rfl; exact hr.ne rfl
    have c1 : sl (fun w => hA (l.map cSt) 0 (bcs (bits x lot) w l.length)) (w :: rest) = hA (l.map cSt) 0 (bcs (bits x lot) w l.length) + sl (fun w => hA (l.map cSt) 0 (bcs (bits x lot) w l.length)) rest := by simp [sl]
    have c2 : sl (fun w => hP (l.map cSt) 0 0 (bcs (bits x lot) w l.length)) (w :: rest) = hP (l.map cSt) 0 0 (bcs (bits x lot) w l.length) + sl (fun w => hP (l.map cSt) 0 0 (bcs (bits x lot) w l.length)) rest := by simp [sl]
    rw [c1] at h1
    rw [c2] at h2
    have hK' : 200 * rest.length + 60 + 199 ≤ K := by simp at hK; omega
    have er : rd_L7 all (pre.length : Int) = w := by rw [ha]; exact rd_L7_mid pre w rest
    rw [tensilelaw09_PlanDraws.l1, if_pos (Int.ofNat_lt.2 hi)]
    have ez : ((([] : List S57).length : Nat) : Int) = 0 := rfl
    have := pd_l2 x lot hlot hr bd all A P (by omega) (by omega) pre.length hi hall w er hw.1 (200 * rest.length + 60) hw.2 l [] [] 0 K ⟨rfl, rfl, fun X => rfl⟩ hne (by omega) (by simp) (fun K' hK2 => ?_)
    · rw [ez] at this
      exact this
    · rw [List.length_nil, ns_bcs, List.length_nil]
      have e2 : ((pre ++ [w]).length : Int) = ((pre.length + 1 : Nat) : Int) := by simp
      rw [← e2]
      exact pd_l1 x lot hlot hr all hall hmem TA TP hTA hTP bd fin rest (pre ++ [w]) _ _ K' (by rw [ha]; simp) (by omega) (by omega) hK2

theorem PlanDraws (a : Int) (l : List S57) (x : Int) (ha : Fits a) (hl : ∀ s ∈ l, Fits s.f0 ∧ Fits s.f1 ∧ Fits s.f2) (hx : (Lit.int .u8 x).wf = true) : ∃ k, tensilelaw09_PlanDraws.f k a l x = some true := by
  obtain ⟨K, hK⟩ : ∃ K : Nat, K = 4000100 := ⟨_, rfl⟩
  refine ⟨K, ?_⟩
  rw [tensilelaw09_PlanDraws.f, ready_f a l ha hl K (by omega), Option.bind_some]
  obtain ⟨K, rfl⟩ : ∃ m, K = m + 1 := ⟨K - 1, by omega⟩
  by_cases h : (decide (l.length ≤ 5) && (Hand.checkPlan a (l.map cSt) == 0)) = true
  case neg =>
    rw [if_neg h, tensilelaw09_PlanDraws.j0, if_pos rfl, wakes_f]
    rfl
  rw [if_pos h]
  rw [Bool.and_eq_true, beq_iff_eq] at h
  obtain ⟨lot, hr⟩ := rdy_of h.2
  obtain rfl := hr.eq
  by_cases h7 : (lot : Int) > 7
  · rw [decide_eq_true h7, tensilelaw09_PlanDraws.j0, if_pos rfl, wakes_f]
    rfl
  have hlot : lot ≤ 7 := by omega
  have hlen := hr.len
  have hg := good_of (lot : Int) l hl h.2
  have ht := take30 (by omega) hg
  rw [decide_eq_false h7, tensilelaw09_PlanDraws.j0, if_neg (by decide)]
  have hd : ∀ K, 1000 ≤ K → tensilelaw09_draws.f K (lot : Int) l [] = some (dr (tks (l.map cSt)) lot []) := fun K hK => draws_f lot hlot l hr.len ht lot K [] (by simp) (by omega)
  have hb : bads (bits x lot) ≤ lot := by
    have := bads_len (bits x lot)
    rw [bits_length] at this
    exact this
  have htl : (tks (l.map cSt)).length = l.length := by simp [tks]
  have hv := Hand.checkPlan_ok hr.ok
  have s1 := all_sum (tks (l.map cSt)) (fun _ => 1) (bits x lot)
  have s2 := all_sum (tks (l.map cSt)) (hA (l.map cSt) 0) (bits x lot)
  have s3 := all_sum (tks (l.map cSt)) (hP (l.map cSt) 0 0) (bits x lot)
  rw [bits_length] at s1 s2 s3
  rw [nw_const 1 (l.map cSt) lot _ hb, Nat.mul_one] at s1
  rw [htl, nw_cA (l.map cSt) lot _ 0 0 hb] at s2
  rw [htl, nw_cP (l.map cSt) lot _ 0 0 hb] at s3
  have s1' : (dr (tks (l.map cSt)) lot []).length = rest (l.map cSt) lot := by
    rw [← s1]
    unfold sl
    generalize dr (tks (l.map cSt)) lot [] = L
    induction L with
    | nil => rfl
    | cons y L ih => rw [List.length_cons, List.map_cons, List.sum_cons, ← ih]; omega
  have hle := dr_length (tks (l.map cSt)) (by rw [htl]; exact hr.len) lot []
  have h4 := four_le lot hlot
  obtain ⟨c1, c2, c3, c4, c5, c6⟩ := cnt_ok hv _ hb
  have c7 : tot (l.map cSt) * rest (l.map cSt) lot ≤ 7 * 16384 := Nat.mul_le_mul (by omega) (by omega)
  refine pd_l0 x lot hlot l 4000000 (fun K hK all hall => ?_) (fun K hK => ⟨_, hd K (by omega)⟩) lot 0 0 K (by omega) (by rw [List.drop_zero, Nat.zero_add]) (by omega)
  rw [hd K (by omega)] at hall
  obtain rfl := Option.some.inj hall
  have := pd_l1 x lot hlot hr (dr (tks (l.map cSt)) lot []) (by omega) (fun w hw => by
    obtain ⟨m1, m2⟩ := dr_mem _ _ _ w hw
    rw [htl] at m2
    exact ⟨by rw [m1]; simp, m2⟩) _ _ (by rw [s1'] at hle; omega) (Nat.le_trans c3 (Nat.le_trans c7 (by decide))) (bads (bits x lot) : Int) (fun K hK => pd_end x lot hr _ hb _ s1' K (by omega)) (dr (tks (l.map cSt)) lot []) [] 0 0 K rfl (by rw [Nat.zero_add]; exact s2) (by rw [Nat.zero_add]; exact s3) (by omega)
  exact this
end Go.Proofs.Ytigpnafpdmdmhaa.Pure



namespace Go.Proofs.Ytigpnafpdmdmhaa.planDraws
open Go.ChangeShapes Go.WideShapes Go.ChangeAt Go.RowKit Go.Proofs.YtigpnafpdmdmhaaW.PrintWords
theorem own : ownKnob Try.prog.godebug = none := by kernel_rfl
theorem laidOut : laidOutB Try.prog = true := by kernel_rfl
set_option maxRecDepth 100000 in
theorem lifted (os : Os) (started : os.Started) (H : Type) (enc : TypeId × Value → H) :
    ReturnsInHanded {} Try.checked os 6 .any (Rows.planDrawsSpec.pre6 enc Try.prog Try.f6 Rows.planDrawsRow.domain false) (Rows.planDrawsSpec.post enc Try.prog Try.f6 false true false false) := by
  refine returnsInHanded_of_change_sized (C := Try.checked) own started (by kernel_rfl) Try.func6
    (ChangeSpec.witness6 (enc := enc) (C := Try.checked) false ⟨#[], #[.agg #[.int .i64 0, .slice none 0 0], .int .u8 0], []⟩ 8 (by kernel_rfl) (by kernel_rfl) (by kernel_rfl) (by kernel_rfl)) ?_
  intro W base args ds gs before hval0 hW hcnd hsz0 _
  have hval : ∀ (j : Nat) t v, Try.f6.params[j]? = some t → args[j]? = some v → Value.okWide Try.prog W .any base t v := hval0
  have hW' := hW
  obtain ⟨p, q, hA0, hV, rfl, hfz, hnd⟩ := hW
  have hA : DataW.TrodAll enc Try.prog W 0 (fun _ => true) true Try.f6.params.toList args.toList ds p := hA0
  rw [Try.params6] at hA hval
  obtain ⟨v0, vs0, d0, ds0, p0, q0, hargs, rfl, rfl, h0, r0⟩ := trodAll_cons hA
  obtain ⟨v1, vs1, d1, ds1, p1, q1, rfl, rfl, rfl, h1, r1⟩ := trodAll_cons r0
  obtain ⟨rfl, rfl, rfl⟩ := trodAll_nil r1
  obtain rfl : args = #[v0, v1] := by cases args; simp_all
  obtain ⟨rfl, rfl⟩ := trodVars_none hV
  have k0 := h0
  have lt0 : ∀ x ∈ p0, x.block < W.heap.size := by obtain ⟨m, hm⟩ := k0; exact DataW.trod_lt m _ _ _ hm
  obtain ⟨cs0, rfl, _⟩ := okWide_struct Try.underlying24 (hval 0 24 v0 rfl rfl)
  obtain ⟨a0, A0, c0, l0, e0, w0, hc0, hC0, y0⟩ : ∃ (a : Int) (A : Option Addr) (cap : Nat) (l : List P.S57), cs0 = #[.int .i64 a, .slice A l.length cap] ∧ P.Fits a ∧ l.length ≤ cap ∧ Kd.C P.k57 W A l.length l ∧ ∀ s ∈ l, P.Fits s.f0 ∧ P.Fits s.f1 ∧ P.Fits s.f2 := by
    obtain ⟨fuel, hf⟩ := h0
    obtain ⟨a, A, cap, l, e, h1, h2, h3, h4⟩ := P.open24 hf
    exact ⟨a, A, cap, l, Array.toList_inj.1 e, h1, h2, h3, h4⟩
  subst e0
  obtain ⟨a1, rfl, rfl, rfl, w1⟩ := open_int Try.underlying5 (hval 1 5 v1 rfl rfl) h1
  clear hA0 hval0 hsz0
  obtain ⟨k, hP⟩ := Pure.PlanDraws a0 l0 a1 w0 y0 w1
  refine (P.tensilelaw09_PlanDraws.calls k a0 A0 c0 l0 a1 true W hC0 hc0 hP).mono fun e W' ⟨he, bel⟩ => ?_
  subst he
  exact ⟨_, rfl, _, _, _, [], _, [], hW', trodAll_mk1 (shut_bool Try.underlying4 _), (trodAll_cons_mk (Below.trod laidOut (by kernel_rfl) (of_decide_eq_true (by kernel_rfl)) k0 bel lt0) (trodAll_cons_mk (shut_int Try.underlying5 w1) trodAll_mk0)), rfl, bel.frame _, fun h => by cases h⟩
theorem over : Rows.planDrawsRow.holds Try.pinned (OpenSpec.ofChange Rows.planDrawsSpec) :=
  OpenClaim.holds_of_wide 6 Try.f6 rfl rfl rfl rfl rfl rfl rfl ⟨rfl, rfl, rfl, rfl, rfl⟩ rfl rfl rfl rfl rfl (by kernel_rfl) Try.func6 (by kernel_rfl)
    (of_decide_eq_true (by kernel_rfl)) (by unfold Func.isWrapper; first | (rw [if_pos (by decide +kernel)]; kernel_rfl) | (rw [if_neg (by decide +kernel)]; exact ⟨rfl, rfl⟩))
    (fun os started H enc _ => lifted os started H enc)
theorem proved : Rows.PlanDrawsSaid := over
end Go.Proofs.Ytigpnafpdmdmhaa.planDraws
namespace Go.Proofs.Ytigpnafpdmdmhaa
/-- The row, under a short name, for the claim. -/
theorem planDraws_holds : Rows.PlanDrawsSaid := planDraws.proved
end Go.Proofs.Ytigpnafpdmdmhaa
#print axioms Go.Proofs.Ytigpnafpdmdmhaa.planDraws_holds
