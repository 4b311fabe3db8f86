/- The statement CreepRates: whatever the input (its guards are the law's own), the call returns true, and each argument reads as it did. -/
import Derived.Test.YtdagijgoegkphaaC3
import Derived.Test.YtdagijgoegkphaaC2
import Derived.Test.YtdagijgoegkphaaC1
import Derived.Test.YtdagijgoegkphaaRows
import Derived.WalkKit
import Derived.ProofKit
import Derived.OpenShut
import Derived.ShutString
import Derived.ChangeOld
import Derived.Below
import Derived.SizedLaws
set_option linter.unusedVariables false
set_option linter.unusedSimpArgs false
namespace Go.Proofs.Ytdagijgoegkphaa.Pure
open Go.RowKit Go.Proofs.YtdagijgoegkphaaW.PrintWords Go.Proofs.YtdagijgoegkphaaW.PrintLast Go.Proofs.YtdagijgoegkphaaW.PrintMore Go.Proofs.Ytdagijgoegkphaa.P
open Hand (Rg Sg Rn Nm Rt)

theorem nm_at (l : List Int) (b : Nat) : ((toNm l).getD b ⟨0⟩).n = l.getD b 0 := by
  unfold toNm
  simp only [List.getD_eq_getElem?_getD, List.getElem?_map]
  cases l[b]? <;> rfl
theorem rg_at (m : List S54) (b : Nat) : (m.map cRg).getD b ⟨0, 0⟩ = cRg (rd_T54 m (b : Int)) := by
  unfold rd_T54
  simp only [List.getD_eq_getElem?_getD, List.getElem?_map, Int.toNat_natCast]
  cases m[b]? <;> rfl
theorem rd_nat (l : List Int) (b : Nat) : rd l (b : Int) = l.getD b 0 := rfl

theorem rd_get (l : List Int) (hl : l.length ≤ 3) (b : Int) (h0 : 0 ≤ b) (h1 : b < l.length) : rd l b = (Hand.rtOf (toNm l)).get b.toNat := by
  obtain ⟨n, rfl⟩ := Int.eq_ofNat_of_zero_le h0
  rw [rd_nat, Int.toNat_natCast]
  unfold Hand.rtOf
  rw [nm_at, nm_at, nm_at]
  match n, (show n < 3 by omega) with
  | 0, _ => rfl
  | 1, _ => rfl
  | 2, _ => rfl

theorem atV_cons (f : Sg → Int) (r : Rt) (s : Sg) (l : List Sg) : Hand.atV f r (s :: l) = r.get s.band.toNat * f s + Hand.atV f r l := rfl
theorem atV_bound (f : Sg → Int) (r : Rt) (hr : r.ok) (hf : ∀ s : Sg, s.ok → 0 ≤ f s ∧ f s ≤ 1000000) : ∀ (l : List Sg), (∀ s ∈ l, s.ok) → 0 ≤ Hand.atV f r l ∧ Hand.atV f r l ≤ 1000000000 * l.length
  | [], _ => by simp [Hand.atV, Hand.sumL]
  | s :: l, h => by
    have h1 := h s (by simp)
    have h2 := atV_bound f r hr hf l (fun x hx => h x (by simp [hx]))
    have h3 := hf s h1
    have h4 := hr s.band.toNat (by have := h1.2.1; have := h1.1; omega)
    have h5 := Hand.mul_bound h4.1 h4.2 h3.1 h3.2
    rw [atV_cons, List.length_cons]
    omega

theorem stretch_l0 (l : List Int) (hl : l.length ≤ 3) (hr : (Hand.rtOf (toNm l)).ok) : ∀ (suf pre : List S56) (k : Nat) (a b : Int), suf.length + 1 ≤ k → (pre ++ suf).length ≤ 12 → (∀ s ∈ suf, Hand.segB l.length (cSg s) = true) →
    0 ≤ a → a ≤ 1000000000 * pre.length → 0 ≤ b → b ≤ 1000000000 * pre.length →
    tensileref05_Stretch.l0 k (pre ++ suf) l (pre.length : Int) a b = some (a + Hand.stLo (Hand.rtOf (toNm l)) (suf.map cSg), b + Hand.stHi (Hand.rtOf (toNm l)) (suf.map cSg)) := by
  intro suf
  induction suf with
  | nil =>
    intro pre k a b hk _ _ _ _ _ _
    obtain ⟨k, rfl⟩ : ∃ m, k = m + 1 := ⟨k - 1, by omega⟩
    rw [tensileref05_Stretch.l0, if_neg (len_nlt pre)]
    simp [Hand.stLo, Hand.stHi, Hand.atV, Hand.sumL]
  | cons s suf ih =>
    intro pre k a b hk hlen hseg ha0 ha1 hb0 hb1
    obtain ⟨k, rfl⟩ : ∃ m, k = m + 1 := ⟨k - 1, by omega⟩
    have hl2 : pre.length + suf.length + 1 ≤ 12 := by simpa [Nat.add_assoc] using hlen
    have hs := hseg s (by simp)
    have hok : (cSg s).ok := Hand.segB_ok hl hs
    have hband : 0 ≤ s.f0 ∧ s.f0 < l.length := by
      unfold Hand.segB at hs
      simp only [Bool.and_eq_true, decide_eq_true_eq] at hs
      have := hs.1
      unfold cSg at this
      dsimp only at this
      omega
    have h4 := hr s.f0.toNat (by omega)
    obtain ⟨_, _, o1, o2, o3, o4⟩ := hok
    have o1' : 0 ≤ s.f1.f0 := o1
    have o2' : s.f1.f0 ≤ 1000000 := o2
    have o3' : 0 ≤ s.f1.f1 := o3
    have o4' : s.f1.f1 ≤ 1000000 := o4
    have m1 := Hand.mul_bound h4.1 h4.2 o1' o2'
    have m2 := Hand.mul_bound h4.1 h4.2 o3' o4'
    rw [tensileref05_Stretch.l0, if_pos (len_lt pre s suf), if_pos (by omega), rd56, if_pos hband.1, if_pos hband.2, rd_get l hl s.f0 hband.1 hband.2]
    obtain ⟨x, hx⟩ : ∃ x, x = (Hand.rtOf (toNm l)).get s.f0.toNat * s.f1.f0 := ⟨_, rfl⟩
    obtain ⟨y, hy⟩ : ∃ y, y = (Hand.rtOf (toNm l)).get s.f0.toNat * s.f1.f1 := ⟨_, rfl⟩
    rw [← hx, ← hy]
    rw [← hx] at m1
    rw [← hy] at m2
    rw [w_succ _ (by omega), w_id (n := x) (by omega) (by omega), w_id (n := y) (by omega) (by omega), w_id (n := a + x) (by omega) (by omega), w_id (n := b + y) (by omega) (by omega)]
    have := ih (pre ++ [s]) k (a + x) (b + y) (by simp at hk; omega) (by simpa using hlen) (fun z hz => hseg z (by simp [hz])) (by omega) (by simp; omega) (by omega) (by simp; omega)
    rw [snoc_len, List.append_assoc] at this
    rw [show pre ++ s :: suf = pre ++ ([s] ++ suf) from rfl, this]
    unfold Hand.stLo Hand.stHi
    rw [List.map_cons, atV_cons, atV_cons]
    show some (a + x + _, b + y + _) = some (a + ((Hand.rtOf (toNm l)).get s.f0.toNat * s.f1.f0 + _), b + ((Hand.rtOf (toNm l)).get s.f0.toNat * s.f1.f1 + _))
    rw [← hx, ← hy, Int.add_assoc, Int.add_assoc]
theorem stretch_f (l : List Int) (hl : l.length ≤ 3) (hr : (Hand.rtOf (toNm l)).ok) (p : List S56) (hp : p.length ≤ 12) (hseg : ∀ s ∈ p, Hand.segB l.length (cSg s) = true) (k : Nat) (hk : p.length + 1 ≤ k) :
    tensileref05_Stretch.f k p l = some (Hand.stLo (Hand.rtOf (toNm l)) (p.map cSg), Hand.stHi (Hand.rtOf (toNm l)) (p.map cSg)) := by
  have := stretch_l0 l hl hr p [] k 0 0 hk hp hseg (by omega) (by simp) (by omega) (by simp)
  rw [Int.zero_add, Int.zero_add] at this
  exact this

theorem allows_l0 (l : List Int) (hl : l.length ≤ 3) (hr : (Hand.rtOf (toNm l)).ok) : ∀ (suf pre : List S81) (k : Nat), suf.length + 15 ≤ k → (pre ++ suf).length ≤ 9 → (∀ x ∈ suf, x.f0.length ≤ 12 ∧ ∀ s ∈ x.f0, Hand.segB l.length (cSg s) = true) →
    tensileref05_Allows.l0 k (pre ++ suf) l (pre.length : Int) = some (Hand.allowedB (suf.map cRn) (Hand.rtOf (toNm l))) := by
  intro suf
  induction suf with
  | nil =>
    intro pre k hk _ _
    obtain ⟨k, rfl⟩ : ∃ m, k = m + 1 := ⟨k - 1, by omega⟩
    rw [tensileref05_Allows.l0, if_neg (len_nlt pre)]
    rfl
  | cons s suf ih =>
    intro pre k hk hlen hx
    obtain ⟨k, rfl⟩ : ∃ m, k = m + 1 := ⟨k - 1, by omega⟩
    have hl2 : pre.length + suf.length + 1 ≤ 9 := by simpa [Nat.add_assoc] using hlen
    obtain ⟨h1, h2⟩ := hx s (by simp)
    rw [tensileref05_Allows.l0, if_pos (len_lt pre s suf), if_pos (by omega), rd81, stretch_f l hl hr s.f0 h1 h2 k (by simp at hk; omega), Option.bind_some]
    have hal : Hand.allowedB ((s :: suf).map cRn) (Hand.rtOf (toNm l)) = (Hand.allowsB (Hand.rtOf (toNm l)) (s.f0.map cSg) s.f1.f0 s.f1.f1 && Hand.allowedB (suf.map cRn) (Hand.rtOf (toNm l))) := rfl
    rw [hal]
    unfold Hand.allowsB
    dsimp only
    by_cases c1 : Hand.stLo (Hand.rtOf (toNm l)) (s.f0.map cSg) > s.f1.f1
    · rw [if_pos c1, decide_eq_false (by omega)]; simp
    rw [if_neg c1, decide_eq_true (show Hand.stLo (Hand.rtOf (toNm l)) (s.f0.map cSg) ≤ s.f1.f1 by omega)]
    by_cases c2 : Hand.stHi (Hand.rtOf (toNm l)) (s.f0.map cSg) < s.f1.f0
    · rw [if_pos c2, decide_eq_false (by omega)]; simp
    rw [if_neg c2, decide_eq_true (show s.f1.f0 ≤ Hand.stHi (Hand.rtOf (toNm l)) (s.f0.map cSg) by omega), w_succ _ (by omega)]
    have := ih (pre ++ [s]) k (by simp at hk; omega) (by simpa using hlen) (fun x h => hx x (by simp [h]))
    rw [snoc_len, List.append_assoc] at this
    rw [show pre ++ s :: suf = pre ++ ([s] ++ suf) from rfl, this]
    rfl

/-- What is right where the error is none. -/
theorem runs_right {m : List S54} {r : List S81} (h : Hand.enterErr (m.map cRg) (r.map cRn) = 0) : ∀ x ∈ r, x.f0.length ≤ 8 ∧ ∀ s ∈ x.f0, Hand.segB m.length (cSg s) = true := by
  obtain ⟨_, _, _, _, h5, h6⟩ := Hand.enter_ok h
  intro x hx
  have h7 := List.all_eq_true.1 h5 (cRn x) (List.mem_map.2 ⟨x, hx, rfl⟩)
  have h8 := List.all_eq_true.1 h6 (cRn x) (List.mem_map.2 ⟨x, hx, rfl⟩)
  unfold Hand.fewB cRn at h7
  unfold Hand.runOk Hand.runB cRn at h8
  simp only [Bool.and_eq_true, decide_eq_true_eq, List.length_map] at h7 h8
  exact ⟨h7, fun s hs => List.all_eq_true.1 h8.2 (cSg s) (List.mem_map.2 ⟨s, hs, rfl⟩)⟩

theorem allows_f {m : List S54} {r : List S81} {l : List Int} (h : Hand.enterErr (m.map cRg) (r.map cRn) = 0) (hl : l.length = m.length) (hr : (Hand.rtOf (toNm l)).ok) (k : Nat) (hk : 30 ≤ k) :
    tensileref05_Allows.f k r l = some (Hand.allowedB (r.map cRn) (Hand.rtOf (toNm l))) := by
  have h1 := (Hand.enter_ok h).1
  have h4 := (Hand.enter_ok h).2.2.2.1
  rw [List.length_map] at h1 h4
  have h2 := runs_right h
  exact allows_l0 l (by omega) hr r [] k (by omega) (by simpa using (by omega : r.length ≤ 9)) (fun x hx => ⟨by have := (h2 x hx).1; omega, by rw [hl]; exact (h2 x hx).2⟩)
end Go.Proofs.Ytdagijgoegkphaa.Pure

namespace Go.Proofs.Ytdagijgoegkphaa.Pure
open Go.RowKit Go.Proofs.YtdagijgoegkphaaW.PrintWords Go.Proofs.YtdagijgoegkphaaW.PrintLast Go.Proofs.YtdagijgoegkphaaW.PrintMore Go.Proofs.Ytdagijgoegkphaa.P
open Hand (Rg Sg Rn Nm Rt)

/-! ### All rates -/
/-- The rates of the first bands. -/
def take (r : Rt) (n : Nat) : List Int := r.list n
theorem take_len (r : Rt) (n : Nat) (h : n ≤ 3) : (r.list n).length = n := by unfold Rt.list; simp; omega
theorem take_succ (r : Rt) (n : Nat) (x : Int) (h : n < 3) : r.list n ++ [x] = (r.set n x).list (n + 1) := by
  unfold Rt.list
  match n, h with
  | 0, _ => rfl
  | 1, _ => rfl
  | 2, _ => rfl
theorem take_rd (r : Rt) (n : Nat) (b : Nat) (h : b < n) (hn : n ≤ 3) : rd (r.list n) (b : Int) = r.get b := by
  rw [rd_nat]
  unfold Rt.list
  match n, b, hn, h with
  | 1, 0, _, _ => rfl
  | 2, 0, _, _ => rfl
  | 2, 1, _, _ => rfl
  | 3, 0, _, _ => rfl
  | 3, 1, _, _ => rfl
  | 3, 2, _, _ => rfl
theorem take_rt (r : Rt) (n : Nat) (hn : n ≤ 3) : ∀ k, k < n → (Hand.rtOf (toNm (r.list n))).get k = r.get k := by
  intro k hk
  have h1 := rd_get (r.list n) (by rw [take_len r n hn]; exact hn) (k : Int) (by omega) (by rw [take_len r n hn]; omega)
  rw [Int.toNat_natCast] at h1
  rw [← h1, take_rd r n k hk hn]

theorem flat_cons {α β : Type} (f : α → List β) (x : α) (l : List α) : (x :: l).flatMap f = f x ++ l.flatMap f := List.flatMap_cons

/-- Valid ranges. -/
def Val (m : List S54) : Prop := m.length ≤ 3 ∧ ∀ s ∈ m, 0 ≤ s.f0 ∧ s.f0 ≤ s.f1 ∧ s.f1 ≤ 1000 ∧ s.f1 - s.f0 ≤ 20

theorem flat_len {α β : Type} (f : α → List β) (c : Nat) : ∀ (l : List α), (∀ x ∈ l, (f x).length ≤ c) → (l.flatMap f).length ≤ l.length * c
  | [], _ => by simp
  | x :: l, h => by
    have h1 := h x (by simp)
    have h2 := flat_len f c l (fun y hy => h y (by simp [hy]))
    rw [List.flatMap_cons, List.length_append, List.length_cons, Nat.add_mul, Nat.one_mul]
    omega

/-- From some rates on: the numbers of rounds. -/
def need : Nat → Nat
  | 0 => 1
  | d + 1 => need d + 25

theorem hiAt_eq (m : List S54) (band : Nat) (h : band < m.length) : Hand.hiAt (m.map cRg) band = (rd_T54 m (band : Int)).f1 := by
  unfold Hand.hiAt rd_T54
  rw [List.getElem?_map, Int.toNat_natCast, List.getD_eq_getElem?_getD, List.getElem?_eq_getElem h]
  rfl
theorem lowAt_eq (m : List S54) (r : Rt) (band : Nat) (h : band < m.length) : Hand.lowAt (m.map cRg) r band = if 0 < band then mx (rd_T54 m (band : Int)).f0 (r.get (band - 1)) else (rd_T54 m (band : Int)).f0 := by
  unfold Hand.lowAt rd_T54
  rw [List.getElem?_map, Int.toNat_natCast, List.getD_eq_getElem?_getD, List.getElem?_eq_getElem h]
  rfl
theorem rd_mem (m : List S54) (band : Nat) (h : band < m.length) : rd_T54 m (band : Int) ∈ m := by
  unfold rd_T54
  rw [Int.toNat_natCast, List.getD_eq_getElem?_getD, List.getElem?_eq_getElem h]
  exact List.getElem_mem h

theorem lsFrom_len (m : List S54) (hv : Val m) : ∀ (d band : Nat) (r : Rt), band + d = m.length → (Hand.lsFrom (m.map cRg) d band r).length ≤ 21 ^ d
  | 0, _, _, _ => by simp [Hand.lsFrom]
  | d + 1, band, r, hb => by
    have hlt : band < m.length := by omega
    have hs := hv.2 _ (rd_mem m band hlt)
    unfold Hand.lsFrom
    rw [hiAt_eq m band hlt, lowAt_eq m r band hlt]
    refine Nat.le_trans (flat_len _ (21 ^ d) _ fun n _ => lsFrom_len m hv d (band + 1) _ (by omega)) ?_
    rw [Hand.upFrom_length, Nat.pow_succ, Nat.mul_comm]
    refine Nat.mul_le_mul_left _ ?_
    have : (rd_T54 m (band : Int)).f0 ≤ (if 0 < band then mx (rd_T54 m (band : Int)).f0 (r.get (band - 1)) else (rd_T54 m (band : Int)).f0) := by
      split
      · unfold mx; split <;> omega
      · exact Int.le_refl _
    omega

theorem get_set_lt (r : Rt) (n : Int) : ∀ (band j : Nat), band < 3 → j < band → (r.set band n).get j = r.get j
  | 0, _, _, h => absurd h (by omega)
  | 1, 0, _, _ => rfl
  | 2, 0, _, _ => rfl
  | 2, 1, _, _ => rfl
  | 1, _ + 1, _, h => absurd h (by omega)
  | 2, _ + 2, _, h => absurd h (by omega)
  | _ + 3, _, h, _ => absurd h (by omega)
theorem val_of {m : List S54} {rs : List Rn} (h : Hand.enterErr (m.map cRg) rs = 0) : Val m := by
  have h1 := (Hand.enter_ok h).1
  rw [List.length_map] at h1
  refine ⟨h1.2, fun s hs => ?_⟩
  have h2 : Hand.matErr (m.map cRg) = 0 := by
    unfold Hand.enterErr at h
    split at h
    · assumption
    · exact h
  unfold Hand.matErr at h2
  split at h2
  · rename_i h3
    have h4 := rateB_low (List.all_eq_true.1 h3.2 (cRg s) (List.mem_map.2 ⟨s, hs, rfl⟩))
    exact h4
  · cases h2
end Go.Proofs.Ytdagijgoegkphaa.Pure

namespace Go.Proofs.Ytdagijgoegkphaa.Pure
open Go.RowKit Go.Proofs.YtdagijgoegkphaaW.PrintWords Go.Proofs.YtdagijgoegkphaaW.PrintLast Go.Proofs.YtdagijgoegkphaaW.PrintMore Go.Proofs.Ytdagijgoegkphaa.P
open Hand (Rg Sg Rn Nm Rt)

theorem get_set_gt (r : Rt) (n : Int) : ∀ (band j : Nat), j < 3 → band < j → (r.set band n).get j = r.get j
  | 0, 1, _, _ => rfl
  | 0, 2, _, _ => rfl
  | 1, 2, _, _ => rfl
  | _, 0, _, h => absurd h (by omega)
  | _ + 1, 1, _, h => absurd h (by omega)
  | _ + 2, 2, _, h => absurd h (by omega)
  | _, _ + 3, h, _ => absurd h (by omega)
theorem lsFrom_rest (ms : List Rg) : ∀ (d band : Nat) (r q : Rt), q ∈ Hand.lsFrom ms d band r → ∀ j, j < 3 → band + d ≤ j → q.get j = r.get j
  | 0, _, r, q, h, j, _, _ => by rw [List.mem_singleton.1 h]
  | d + 1, band, r, q, h, j, h3, hj => by
    obtain ⟨n, _, hq⟩ := List.mem_flatMap.1 h
    rw [lsFrom_rest ms d (band + 1) (r.set band n) q hq j h3 (by omega), get_set_gt r n band j h3 (by omega)]
theorem rt_ext {p q : Rt} (h : ∀ j, j < 3 → p.get j = q.get j) : p = q := by
  obtain ⟨a, b, c⟩ := p
  obtain ⟨x, y, z⟩ := q
  have h0 : a = x := h 0 (by omega)
  have h1 : b = y := h 1 (by omega)
  have h2 : c = z := h 2 (by omega)
  rw [h0, h1, h2]
theorem rt_of_list (ms : List Rg) (hms : ms.length ≤ 3) (q : Rt) (h : q ∈ Hand.lists ms) : Hand.rtOf (toNm (q.list ms.length)) = q := by
  refine rt_ext fun j hj => ?_
  by_cases hjn : j < ms.length
  · exact take_rt q ms.length hms j hjn
  · have h0 : q.get j = 0 := by
      rw [lsFrom_rest ms ms.length 0 ⟨0, 0, 0⟩ q h j hj (by omega)]
      match j, hj with
      | 0, _ => rfl
      | 1, _ => rfl
      | 2, _ => rfl
    rw [h0]
    have hr : ∀ b : Nat, ms.length ≤ b → ((toNm (q.list ms.length)).getD b ⟨0⟩).n = 0 := fun b hb => by
      rw [nm_at, List.getD_eq_getElem?_getD, List.getElem?_eq_none (by rw [take_len q _ hms]; exact hb)]
      rfl
    match j, hj with
    | 0, _ => exact hr 0 (by omega)
    | 1, _ => exact hr 1 (by omega)
    | 2, _ => exact hr 2 (by omega)

theorem lists_rtok {m : List S54} (hv : Val m) (q : Rt) (h : q ∈ Hand.lists (m.map cRg)) : q.ok :=
  Hand.lists_ok (fun x hx => by
    obtain ⟨s, hs, rfl⟩ := List.mem_map.1 hx
    have := hv.2 s hs
    exact ⟨this.1, this.2.2.1⟩) q h

theorem lists_len {m : List S54} (hv : Val m) : (Hand.lists (m.map cRg)).length ≤ 9261 := by
  have := lsFrom_len m hv m.length 0 ⟨0, 0, 0⟩ (by omega)
  have h3 : (21 : Nat) ^ m.length ≤ 21 ^ 3 := Nat.pow_le_pow_right (by omega) hv.1
  unfold Hand.lists
  rw [List.length_map]
  omega
end Go.Proofs.Ytdagijgoegkphaa.Pure

namespace Go.Proofs.Ytdagijgoegkphaa.P
open Go.RowKit Go.Proofs.YtdagijgoegkphaaW.PrintWords Go.Proofs.YtdagijgoegkphaaW.PrintLast Go.Proofs.YtdagijgoegkphaaW.PrintMore
attribute [local go_sem] max2_int min2_int max_two min_two max_three min_three max_four min_four   -- for this text's walks alone

/-! ### tensileref05_Lists: function 50 -/
mutual
def tensileref05_Lists.j0 : Nat → List Int → List (List Int) → Int → List (S54) → Int → Int → Option ((List (List Int)))
 | 0, _, _, _, _, _, _ => none
 | k + 1, x1, x5, x7, x227000, x232000, x232001 => tensileref05_Lists.l0 k x1 x5 x7 x227000 x232000 x232001
def tensileref05_Lists.l0 : Nat → List Int → List (List Int) → Int → List (S54) → Int → Int → Option ((List (List Int)))
 | 0, _, _, _, _, _, _ => none
 | k + 1, x1, x5, x9, x227000, x232000, x232001 => if x9 ≤ x232001 then ((some (([] : List Int) : List Int)).bind fun y233 => (if y233.length + x1.length < 17592186044416 then ((some (y233 ++ x1 : List Int)).bind fun y236 => ((some (([x9] : List Int) : List Int)).bind fun y239 => (if y236.length + y239.length < 17592186044416 then ((tensileref05_Lists.f k x227000 (y236 ++ y239)).bind fun t245 => (if x5.length + t245.length < 5864062014805 then (tensileref05_Lists.l0 k x1 (x5 ++ t245) (wrap64 (x9 + 1)) x227000 x232000 x232001) else (none))) else (none)))) else (none))) else (some x5)
def tensileref05_Lists.f : Nat → List (S54) → List Int → Option ((List (List Int)))
 | 0, _, _ => none
 | k + 1, l0_0, l1 => if (l1.length : Int) = (l0_0.length : Int) then (some (([l1] : List (List Int)))) else (if 0 ≤ (l1.length : Int) then (if (l1.length : Int) < (l0_0.length : Int) then (if (l1.length : Int) > 0 then (if 0 ≤ (wrap64 ((l1.length : Int) - 1)) then (if (wrap64 ((l1.length : Int) - 1)) < (l1.length : Int) then (tensileref05_Lists.j0 k l1 ([] : List (List Int)) (mx ((rd_T54 l0_0 (l1.length : Int)).f0) (rd l1 (wrap64 ((l1.length : Int) - 1)))) l0_0 ((rd_T54 l0_0 (l1.length : Int)).f0) ((rd_T54 l0_0 (l1.length : Int)).f1)) else (none)) else (none)) else (tensileref05_Lists.j0 k l1 ([] : List (List Int)) ((rd_T54 l0_0 (l1.length : Int)).f0) l0_0 ((rd_T54 l0_0 (l1.length : Int)).f0) ((rd_T54 l0_0 (l1.length : Int)).f1))) else (none)) else (none))
end
def tensileref05_Lists.T12 : Bool × List (List Nat × List Nat) := (true, [([], []), ([], []), ([], []), ([], []), ([2, 3], [2, 3]), ([], []), ([5], [5]), ([4, 6, 4], [4, 6]), ([1, 7, 7], [1, 7]), ([0, 8, 8], [0, 8]), ([9, 9, 0, 1, 2, 3, 4, 5, 6, 7, 8, 9], [0, 9])])
def tensileref05_Lists.B12 : List Nat := [0, 0, 0, 0, 12, 0, 32, 124, 254, 511, 1023]
theorem tensileref05_Lists.tab12 : rtab .any (opsOf Try.f50 12) = tensileref05_Lists.T12 := by kernel_rfl
theorem tensileref05_Lists.bits12 : waitsOk tensileref05_Lists.T12.2 tensileref05_Lists.B12 = true := by kernel_rfl
set_option maxHeartbeats 8000000 in
set_option maxRecDepth 100000 in
theorem tensileref05_Lists.calls (k : Nat) : ∀ (A0_0 : Option Addr) (c0_0 : Nat) (l0_0 : List (S54)) (P1_ : Nat → Prop) (A1 : Option Addr) (c1 : Nat) (l1 : List Int) (r : List (List Int)) (w : World) (hr0_0 : Kd.C k54 w A0_0 l0_0.length l0_0) (hc0_0 : l0_0.length ≤ c0_0) (hs1 : Kd.V (Kd.int .i64) 3 w w.heap.size (fun k_ => P1_ k_) (.slice A1 l1.length c1) l1) (h : tensileref05_Lists.f k l0_0 l1 = some r),
  Calls Try.prog 50 #[.agg #[.slice A0_0 l0_0.length c0_0], .slice A1 l1.length c1] w fun e w' => ∃ v0_ : Value, e = .returned (v0_) ∧ Kd.N (Kd.slice 3 (Kd.int .i64)) 31 w' w.heap.size (fun k_ => (P1_ k_ ∨ w.heap.size ≤ k_)) v0_ r ∧ Below w.heap.size w w' := by
 induction k using Nat.strongRecOn with
 | _ k ih =>
 intro A0_0 c0_0 l0_0 P1_ A1 c1 l1 r w hr0_0 hc0_0 hs1 h
 cases k with
 | zero => exact absurd h (by simp [tensileref05_Lists.f])
 | succ k =>
 simp only [tensileref05_Lists.f] at h
 have hu24 := Try.underlying24
 have hu54 := Try.underlying54
 have HR0_0 := Aside0.mk hr0_0
 have HC0_0 := Aside0.mk hc0_0
 clear hr0_0 hc0_0
 have HO1 := Aside0.mk (show Kd.V (Kd.int .i64) 3 w w.heap.size (fun k_ => (P1_ k_ ∨ w.heap.size ≤ k_)) (.slice A1 l1.length c1) l1 from Kd.V_mono hs1 (fun k_ hk => .inl hk))
 have HB := Aside0.mk (Below.refl w.heap.size w)
 have H : (if (l1.length : Int) = (l0_0.length : Int) then (some (([l1] : List (List Int)))) else (if 0 ≤ (l1.length : Int) then (if (l1.length : Int) < (l0_0.length : Int) then (if (l1.length : Int) > 0 then (if 0 ≤ (wrap64 ((l1.length : Int) - 1)) then (if (wrap64 ((l1.length : Int) - 1)) < (l1.length : Int) then (tensileref05_Lists.j0 k l1 ([] : List (List Int)) (mx ((rd_T54 l0_0 (l1.length : Int)).f0) (rd l1 (wrap64 ((l1.length : Int) - 1)))) l0_0 ((rd_T54 l0_0 (l1.length : Int)).f0) ((rd_T54 l0_0 (l1.length : Int)).f1)) else (none)) else (none)) else (tensileref05_Lists.j0 k l1 ([] : List (List Int)) ((rd_T54 l0_0 (l1.length : Int)).f0) l0_0 ((rd_T54 l0_0 (l1.length : Int)).f0) ((rd_T54 l0_0 (l1.length : Int)).f1))) else (none)) else (none))) = some r := h
 clear h
 by_cases c3 : (l1.length : Int) = (l0_0.length : Int)
 ·
  rw [if_pos c3] at H
  have c3b0 : ((l1.length : Int) == (l0_0.length : Int)) = true := beq_iff_eq.mpr c3
  have c3b1 : ((l1.length : Int) != (l0_0.length : Int)) = false := bne_eq_false_iff_eq.mpr c3
  have c3b2 : (l1.length == l0_0.length) = true := by first | simpa using c3 | (simp at c3 ⊢; omega)
  clear c3
  obtain ⟨y227, hy227⟩ : ∃ y_ : List (List Int), y_ = (([l1] : List (List Int))) := ⟨_, rfl⟩
  replace H : (some y227) = some r := by first | (rw [hy227]; with_reducible exact H) | (have H2_ := (Option.bind_some _ _).symm.trans H; rw [hy227]; with_reducible exact H2_) | (have H2_ := (Option.bind_some _ _).symm.trans H; with_reducible exact H2_) | with_reducible exact H | (rw [hy227]; exact H) | exact H
  have Ny227 := Aside0.mk hy227
  clear hy227
  obtain rfl := Option.some.inj H
  go_enter Try.func50, Try.ntmps50
  go_wp2_with (first | ((with_reducible refine gate_dst (N := 2) rfl ?_); refine box_event ?hg (N := 2) ?hd (cs := #[.slice A0_0 l0_0.length c0_0]) (t := 24) ?hr ?_; (case hd => rfl); (case hg => rfl); (case hr => first | (go_simp; done) | (go_simp; rfl)); intro gb226 hg w4 hbox hb; have n0_ := Aside0.mk (Kd.V_below (Kd.V_elderB (by (with_reducible repeat (first | apply Kd.V_alloc | apply Kd.V_drewN | apply Kd.V_drew)); exact HO1.out) gb226 (Nat.le_of_eq hg.symm)) hb); have n1_ := Aside0.mk (below_step (by repeat (first | (with_reducible first | exact HB.out | apply below_alloc | apply pw_below_drewN | apply below_drew1) | exact HB.out)) hb); have n2_ := Aside0.mk (hbox); have n3_ := Aside0.mk ((by rw [hg]; exact (below_size (by repeat (first | (with_reducible first | exact HB.out | apply below_alloc | apply pw_below_drewN | apply below_drew1) | exact HB.out))) : w.heap.size ≤ gb226)); have n4_ := Aside0.mk ((by rw [hg]; exact (below_size (by repeat (first | (with_reducible first | exact HB.out | apply below_alloc | apply pw_below_drewN | apply below_drew1) | exact HB.out))) : w.heap.size ≤ gb226)); clear HO1; clear HB; have HO1 := n0_; have HB := n1_; have BK226 := n2_; have GW226 := n3_; have GE226 := n4_; clear n0_ n1_ n2_ n3_ n4_; clear hb hbox hg; have hcz5_0 : w4.cell? ⟨gb226, 0, none⟩ = some (.slice A0_0 l0_0.length c0_0) := (blk_cell BK226.out 0).trans rfl; have hfz5_0 := blk_frozen BK226.out 0) | ((with_reducible refine gate_dst (N := 17) rfl ?_); refine Kd.N_lit (Kd.slice 3 (Kd.int .i64)) _ 31 ?hg (N' := 17) ?hd (xs := ([l1] : List (List Int))) (inner := [.slice A1 l1.length c1]) (ok := (fun k_ => (P1_ k_ ∨ w.heap.size ≤ k_) ∧ k_ ≠ gb226)) (okp := (fun k_ => (P1_ k_ ∨ w.heap.size ≤ k_) ∧ k_ ≠ gb226)) ?hr ?hp (fun _ hk => hk) ((show ∀ k_, w4.heap.size ≤ k_ → (fun k_ => (P1_ k_ ∨ w.heap.size ≤ k_) ∧ k_ ≠ gb226) k_ from fun k_ hk => ⟨(.inr (Nat.le_trans (below_size (by repeat (first | (with_reducible first | exact HB.out | apply below_alloc | apply pw_below_drewN | apply below_drew1 | refine below_set ?_ GE226.out) | exact HB.out))) hk)), Kd.freshB (g := gb226) (o := .cells #[.slice A0_0 l0_0.length c0_0] 24 (0, 0)) (by (with_reducible repeat (first | refine blk_drewN ?_ _ | refine blk_drew ?_ | refine blk_alloc ?_ _)); exact BK226.out) k_ hk⟩) _ (Nat.le_refl _)) (Below.refl _ _) (Nat.le_refl _) (by simp) ?_; (case hd => rfl); (case hg => rfl); (case hr => first | (go_simp; done) | (go_simp; rfl)); (case hp => exact (Reps.one (show Kd.FK (Kd.slice 3 (Kd.int .i64)) _ _ l1 [.slice A1 l1.length c1] from (Kd.FK_slice_mk (Kd.V_reads' (Kd.V_mono (ok' := (fun k_ => (P1_ k_ ∨ w.heap.size ≤ k_) ∧ k_ ≠ gb226)) (HO1.out) (fun k_ hk => ⟨hk.1, hk.2⟩))).2.1 (Kd.V_F (Kd.V_mono (ok' := (fun k_ => (P1_ k_ ∨ w.heap.size ≤ k_) ∧ k_ ≠ gb226)) (HO1.out) (fun k_ hk => ⟨hk.1, hk.2⟩))))) (Reps.none _ _))); intro v228 w6 ho7 hb hg_ hnew_; clear hg_ hnew_; (first | rw [← Ny227.out] at ho7 | (simp only [Int.reduceToNat] at ho7; rw [← Ny227.out] at ho7)); have n0_ := Aside0.mk (Kd.V_elder' (by (with_reducible repeat (first | apply Kd.V_alloc | apply Kd.V_drewN | apply Kd.V_drew)); exact HO1.out) (Kd.N_base ho7) hb); have n1_ := Aside0.mk (Kd.N_lower ho7 (below_size (by repeat (first | (with_reducible first | exact HB.out | apply below_alloc | apply pw_below_drewN | apply below_drew1 | refine below_set ?_ GE226.out) | exact HB.out)))); have n2_ := Aside0.mk (blk_below (g := gb226) (o := .cells #[.slice A0_0 l0_0.length c0_0] 24 (0, 0)) (by (with_reducible repeat (first | refine blk_drewN ?_ _ | refine blk_drew ?_ | refine blk_alloc ?_ _)); exact BK226.out) hb); have n3_ := Aside0.mk (below_step (by repeat (first | (with_reducible first | exact HB.out | apply below_alloc | apply pw_below_drewN | apply below_drew1 | refine below_set ?_ GE226.out) | exact HB.out)) hb); clear HO1; clear BK226; clear HB; have HO1 := n0_; have HO229 := n1_; have BK226 := n2_; have HB := n3_; clear n0_ n1_ n2_ n3_; clear hb ho7))
  go_ret
  exact ⟨_, by first | rfl | (simp [errW_none, errW_some] <;> rfl) | (simp [*, errW_none, errW_some] <;> rfl), by (with_reducible repeat (first | apply Kd.N_alloc | apply Kd.N_drewN | apply Kd.N_drew)); exact Kd.N_mono HO229.out (fun _ hk => hk.1), by repeat (first | (with_reducible first | exact HB.out | apply below_alloc | apply pw_below_drewN | apply below_drew1 | refine below_set ?_ GE226.out) | exact HB.out)⟩
 ·
  rw [if_neg c3] at H
  have c3b0 : ((l1.length : Int) == (l0_0.length : Int)) = false := beq_eq_false_iff_ne.mpr c3
  have c3b1 : ((l1.length : Int) != (l0_0.length : Int)) = true := bne_iff_ne.mpr c3
  have c3b2 : (l1.length == l0_0.length) = false := by first | simpa using c3 | (simp at c3 ⊢; omega)
  by_cases c8 : 0 ≤ (l1.length : Int)
  ·
   rw [if_pos c8] at H
   have c8b0 : decide (0 ≤ (l1.length : Int)) = true := decide_eq_true c8
   have c8b1 : decide (0 ≤ l1.length) = true := decide_eq_true (by omega)
   clear c8
   by_cases c9 : (l1.length : Int) < (l0_0.length : Int)
   ·
    rw [if_pos c9] at H
    have c9b0 : decide ((l1.length : Int) < (l0_0.length : Int)) = true := decide_eq_true c9
    have c9b1 : decide (l1.length < l0_0.length) = true := decide_eq_true (Int.ofNat_lt.mp c9)
    clear c9
    have HC10 := Aside0.mk H
    clear H
    go_enter Try.func50, Try.ntmps50
    go_upto_if 29 with (first | ((with_reducible refine gate_dst (N := 2) rfl ?_); refine box_event ?hg (N := 2) ?hd (cs := #[.slice A0_0 l0_0.length c0_0]) (t := 24) ?hr ?_; (case hd => rfl); (case hg => rfl); (case hr => first | (go_simp; done) | (go_simp; rfl)); intro gb226 hg w11 hbox hb; have n0_ := Aside0.mk (Kd.V_below (Kd.V_elderB (by (with_reducible repeat (first | apply Kd.V_alloc | apply Kd.V_drewN | apply Kd.V_drew)); exact HO1.out) gb226 (Nat.le_of_eq hg.symm)) hb); have n1_ := Aside0.mk (below_step (by repeat (first | (with_reducible first | exact HB.out | apply below_alloc | apply pw_below_drewN | apply below_drew1) | exact HB.out)) hb); have n2_ := Aside0.mk (hbox); have n3_ := Aside0.mk ((by rw [hg]; exact (below_size (by repeat (first | (with_reducible first | exact HB.out | apply below_alloc | apply pw_below_drewN | apply below_drew1) | exact HB.out))) : w.heap.size ≤ gb226)); have n4_ := Aside0.mk ((by rw [hg]; exact (below_size (by repeat (first | (with_reducible first | exact HB.out | apply below_alloc | apply pw_below_drewN | apply below_drew1) | exact HB.out))) : w.heap.size ≤ gb226)); clear HO1; clear HB; have HO1 := n0_; have HB := n1_; have BK226 := n2_; have GW226 := n3_; have GE226 := n4_; clear n0_ n1_ n2_ n3_ n4_; clear hb hbox hg; have hcz12_0 : w11.cell? ⟨gb226, 0, none⟩ = some (.slice A0_0 l0_0.length c0_0) := (blk_cell BK226.out 0).trans rfl; have hfz12_0 := blk_frozen BK226.out 0; have p230 : 0 ≤ ((l1.length : Int) : Int) := of_decide_eq_true (by first | (with_reducible assumption) | assumption); have q230 : (l1.length : Int) < (l0_0.length : Int) := of_decide_eq_true (by first | (with_reducible assumption) | assumption); obtain ⟨ad230, e230, hx230_0, hx230_1⟩ := at_T54 HR0_0.out (l1.length : Int) p230 q230; cases e230; replace hx230_0 := (HB.out.cell (World.block_lt_of_cell? w _ hx230_0)).trans hx230_0; replace hx230_1 := (HB.out.cell (World.block_lt_of_cell? w _ hx230_1)).trans hx230_1; (try simp only [Go.IntWalk.toNatUp] at hx230_0); (try simp only [Go.IntWalk.toNatUp] at hx230_1); replace p230 := eq_true p230; replace q230 := eq_true q230) | ((with_reducible refine gate_dst (N := 6) rfl ?_); refine box_event ?hg (N := 6) ?hd (cs := #[.int .i64 0, .int .i64 0]) (t := 54) ?hr ?_; (case hd => rfl); (case hg => rfl); (case hr => first | (go_simp; done) | (go_simp; rfl)); intro gb231 hg w13 hbox hb; have n0_ := Aside0.mk (Kd.V_below (Kd.V_elderB (by (with_reducible repeat (first | apply Kd.V_alloc | apply Kd.V_drewN | apply Kd.V_drew)); exact HO1.out) gb231 (Nat.le_of_eq hg.symm)) hb); have n1_ := Aside0.mk (blk_below (g := gb226) (o := .cells #[.slice (some ad230) l0_0.length c0_0] 24 (0, 0)) (by (with_reducible repeat (first | refine blk_drewN ?_ _ | refine blk_drew ?_ | refine blk_alloc ?_ _)); exact BK226.out) hb); have n2_ := Aside0.mk (below_step (by repeat (first | (with_reducible first | exact HB.out | apply below_alloc | apply pw_below_drewN | apply below_drew1 | refine below_set ?_ GE226.out) | exact HB.out)) hb); have n3_ := Aside0.mk (hbox); have n4_ := Aside0.mk ((by rw [hg]; exact (below_size (by repeat (first | (with_reducible first | exact HB.out | apply below_alloc | apply pw_below_drewN | apply below_drew1 | refine below_set ?_ GE226.out) | exact HB.out))) : w.heap.size ≤ gb231)); have n5_ := Aside0.mk ((by rw [hg]; exact (below_size (by repeat (first | (with_reducible first | exact HB.out | apply below_alloc | apply pw_below_drewN | apply below_drew1 | refine below_set ?_ GE226.out) | exact HB.out))) : w.heap.size ≤ gb231)); have n6_ := Aside0.mk ((by rw [hg]; exact Nat.ne_of_lt (blk_lt (g := gb226) (o := .cells #[.slice (some ad230) l0_0.length c0_0] 24 (0, 0)) (by (with_reducible repeat (first | refine blk_drewN ?_ _ | refine blk_drew ?_ | refine blk_alloc ?_ _)); exact BK226.out)) : gb226 ≠ gb231)); have n7_ := Aside0.mk ((by rw [hg]; exact Nat.ne_of_gt (blk_lt (g := gb226) (o := .cells #[.slice (some ad230) l0_0.length c0_0] 24 (0, 0)) (by (with_reducible repeat (first | refine blk_drewN ?_ _ | refine blk_drew ?_ | refine blk_alloc ?_ _)); exact BK226.out)) : gb231 ≠ gb226)); clear HO1; clear BK226; clear HB; have HO1 := n0_; have BK226 := n1_; have HB := n2_; have BK231 := n3_; have GW231 := n4_; have GE231 := n5_; have NB226_231 := n6_; have NB231_226 := n7_; clear n0_ n1_ n2_ n3_ n4_ n5_ n6_ n7_; clear hb hbox hg; have hnb14 := NB231_226.out; have hnc14 := NB226_231.out; have hcz15_0 : w13.cell? ⟨gb231, 0, none⟩ = some (.int .i64 0) := (blk_cell BK231.out 0).trans rfl; have hcz15_1 : w13.cell? ⟨gb231, 1, none⟩ = some (.int .i64 0) := (blk_cell BK231.out 1).trans rfl; have hfz15_0 := blk_frozen BK231.out 0; have hfz15_1 := blk_frozen BK231.out 1))
    (try simp only [Act.put, List.setIfInBounds_toArray, List.set_cons_zero, List.set_cons_succ])
    go_cut [7] (fun v7 wc => ∃ (kq : Nat) (x7_9 : Int), v7 = .int .i64 x7_9 ∧ Aside0 (tensileref05_Lists.j0 kq l1 ([] : List (List Int)) x7_9 l0_0 ((rd_T54 l0_0 (l1.length : Int)).f0) ((rd_T54 l0_0 (l1.length : Int)).f1) = some r) ∧ Aside0 (kq ≤ k) ∧ Aside0 (Kd.V (Kd.int .i64) 3 wc w.heap.size (fun k_ => (P1_ k_ ∨ w.heap.size ≤ k_) ∧ some k_ ≠ ((.slice none 0 0) : Value).ownBlock ∧ k_ ≠ gb226 ∧ k_ ≠ gb231) (.slice A1 l1.length c1) l1) ∧ Aside0 (Kd.N (Kd.slice 3 (Kd.int .i64)) 31 wc w.heap.size (fun k_ => (P1_ k_ ∨ w.heap.size ≤ k_) ∧ k_ ≠ gb226 ∧ k_ ≠ gb231) (.slice none 0 0) ([] : List (List Int))) ∧ Aside0 (wc.heap[gb226]? = some (.cells #[(.slice (some ad230) l0_0.length c0_0)] 24 (0, 0))) ∧ Aside0 (wc.heap[gb231]? = some (.cells #[.int .i64 ((rd_T54 l0_0 (l1.length : Int)).f0), .int .i64 ((rd_T54 l0_0 (l1.length : Int)).f1)] 54 (0, 0))) ∧ Aside0 (Below w.heap.size w wc))
    case first =>
     have H := HC10.out
     clear HC10
     by_cases c16 : (l1.length : Int) > 0
     ·
      rw [if_pos c16] at H
      have c16b0 : decide (0 < (l1.length : Int)) = true := decide_eq_true c16
      have c16b1 : decide (0 < l1.length) = true := decide_eq_true (by omega)
      clear c16
      (first | rw [c16b0] | rw [c16b1] | (simp only [i64_w, i32_w]; rw [c16b0]) | skip)
      obtain ⟨ji17, hji17⟩ : ∃ j_ : Int, (wrap64 ((l1.length : Int) - 1)) = j_ := ⟨_, rfl⟩
      replace H : (if 0 ≤ (ji17) then (if (ji17) < (l1.length : Int) then (tensileref05_Lists.j0 k l1 ([] : List (List Int)) (mx ((rd_T54 l0_0 (l1.length : Int)).f0) (rd l1 (ji17))) l0_0 ((rd_T54 l0_0 (l1.length : Int)).f0) ((rd_T54 l0_0 (l1.length : Int)).f1)) else (none)) else (none)) = some r := by first | (rw [hji17] at H; exact H) | (simp only [hji17] at H ⊢; exact H)
      have hji17w : (IntKind.i64.wrap ((l1.length : Int) - 1)) = ji17 := (i64_w _).trans hji17
      by_cases c18 : 0 ≤ (ji17)
      ·
       rw [if_pos c18] at H
       have c18b0 : decide (0 ≤ (ji17)) = true := decide_eq_true c18
       clear c18
       by_cases c19 : (ji17) < (l1.length : Int)
       ·
        rw [if_pos c19] at H
        have c19b0 : decide ((ji17) < (l1.length : Int)) = true := decide_eq_true c19
        clear c19
        obtain ⟨ji20, hji20⟩ : ∃ j_ : Int, (mx ((rd_T54 l0_0 (l1.length : Int)).f0) (rd l1 (ji17))) = j_ := ⟨_, rfl⟩
        replace H : (tensileref05_Lists.j0 k l1 ([] : List (List Int)) ji20 l0_0 ((rd_T54 l0_0 (l1.length : Int)).f0) ((rd_T54 l0_0 (l1.length : Int)).f1)) = some r := by first | (rw [hji20] at H; exact H) | (simp only [hji20] at H ⊢; exact H)
        have hji20_ : (if ((rd_T54 l0_0 (l1.length : Int)).f0) < (rd l1 (ji17)) then (rd l1 (ji17)) else ((rd_T54 l0_0 (l1.length : Int)).f0)) = ji20 := hji20
        have H' := Aside0.mk H
        clear H
        have p232 : 0 ≤ ((ji17) : Int) := of_decide_eq_true (by first | (with_reducible assumption) | assumption)
        have q232 : (ji17) < (l1.length : Int) := of_decide_eq_true (by first | (with_reducible assumption) | assumption)
        obtain ⟨ad232, e232, hx232_0⟩ := Kd.at_int (Kd.V_reads' (Kd.V_far (p := ⟨gb231, 1, none⟩) (Kd.V_far (p := ⟨gb231, 0, none⟩) (Kd.V_mono HO1.out (fun k_ hk => (⟨hk, hk.2⟩ : _ ∧ k_ ≠ gb231))) (fun _ hk => hk.2) (.int .i64 ((rd_T54 l0_0 (l1.length : Int)).f0))) (fun _ hk => hk.2) (.int .i64 ((rd_T54 l0_0 (l1.length : Int)).f1)))).2.2 (ji17) p232 q232
        cases e232
        replace p232 := eq_true p232
        replace q232 := eq_true q232
        go_wp2
        go_meet
        case rel => exact ⟨_, (ji20), (by first | rfl | (simp; done) | (simp only [← hji20] <;> (first | rfl | simp)) | (simp [*]; done)), H', ⟨by first | omega | exact Nat.le_refl _⟩, ⟨by (with_reducible repeat (first | apply Kd.V_alloc | apply Kd.V_drewN | apply Kd.V_drew)); exact Kd.V_mono (Kd.V_far (p := ⟨gb231, 1, none⟩) (Kd.V_far (p := ⟨gb231, 0, none⟩) (Kd.V_mono HO1.out (fun k_ hk => (⟨hk, hk.2⟩ : _ ∧ k_ ≠ gb231))) (fun _ hk => hk.2) (.int .i64 ((rd_T54 l0_0 (l1.length : Int)).f0))) (fun _ hk => hk.2) (.int .i64 ((rd_T54 l0_0 (l1.length : Int)).f1))) (fun _ hk => ⟨hk.1.1.1, ⟨(by simp [Value.ownBlock]), ⟨hk.1.1.2, hk.1.2⟩⟩⟩)⟩, ⟨by first | exact Kd.S_nil _ _ _ _ _ | exact Kd.N_nil _ _ _ _ _ | exact Kd.V_nil _ _ _ _ _ | exact Kd.Q_nil _ _ _ _ _ | exact Kd.R_nil _ _ _ _ _⟩, ⟨by (with_reducible repeat (first | refine blk_drewN ?_ _ | refine blk_drew ?_ | refine blk_alloc ?_ _)); refine blk_far ?_ NB226_231.out _; (with_reducible repeat (first | refine blk_drewN ?_ _ | refine blk_drew ?_ | refine blk_alloc ?_ _)); refine blk_far ?_ NB226_231.out _; (with_reducible repeat (first | refine blk_drewN ?_ _ | refine blk_drew ?_ | refine blk_alloc ?_ _)); exact BK226.out⟩, ⟨by (with_reducible repeat (first | refine blk_drewN ?_ _ | refine blk_drew ?_ | refine blk_alloc ?_ _)); refine blk_put (cs := #[.int .i64 ((rd_T54 l0_0 (l1.length : Int)).f0), .int .i64 0]) ?_ 1 _ rfl; (with_reducible repeat (first | refine blk_drewN ?_ _ | refine blk_drew ?_ | refine blk_alloc ?_ _)); refine blk_put (cs := #[.int .i64 0, .int .i64 0]) ?_ 0 _ rfl; (with_reducible repeat (first | refine blk_drewN ?_ _ | refine blk_drew ?_ | refine blk_alloc ?_ _)); exact BK231.out⟩, ⟨by repeat (first | (with_reducible first | exact HB.out | apply below_alloc | apply pw_below_drewN | apply below_drew1 | refine below_set ?_ GE226.out | refine below_set ?_ GE231.out) | exact HB.out)⟩⟩
       ·
        rw [if_neg c19] at H
        exact absurd H (by simp)
      ·
       rw [if_neg c18] at H
       exact absurd H (by simp)
     ·
      rw [if_neg c16] at H
      have c16b0 : decide (0 < (l1.length : Int)) = false := decide_eq_false c16
      have c16b1 : decide (0 < l1.length) = false := decide_eq_false (by omega)
      clear c16
      (first | rw [c16b0] | rw [c16b1] | (simp only [i64_w, i32_w]; rw [c16b0]) | skip)
      have H' := Aside0.mk H
      clear H
      go_wp2
      go_meet
      case rel => exact ⟨_, ((rd_T54 l0_0 (l1.length : Int)).f0), (by first | rfl | (simp; done) | (simp [*]; done)), H', ⟨by first | omega | exact Nat.le_refl _⟩, ⟨by (with_reducible repeat (first | apply Kd.V_alloc | apply Kd.V_drewN | apply Kd.V_drew)); exact Kd.V_mono (Kd.V_far (p := ⟨gb231, 1, none⟩) (Kd.V_far (p := ⟨gb231, 0, none⟩) (Kd.V_mono HO1.out (fun k_ hk => (⟨hk, hk.2⟩ : _ ∧ k_ ≠ gb231))) (fun _ hk => hk.2) (.int .i64 ((rd_T54 l0_0 (l1.length : Int)).f0))) (fun _ hk => hk.2) (.int .i64 ((rd_T54 l0_0 (l1.length : Int)).f1))) (fun _ hk => ⟨hk.1.1.1, ⟨(by simp [Value.ownBlock]), ⟨hk.1.1.2, hk.1.2⟩⟩⟩)⟩, ⟨by first | exact Kd.S_nil _ _ _ _ _ | exact Kd.N_nil _ _ _ _ _ | exact Kd.V_nil _ _ _ _ _ | exact Kd.Q_nil _ _ _ _ _ | exact Kd.R_nil _ _ _ _ _⟩, ⟨by (with_reducible repeat (first | refine blk_drewN ?_ _ | refine blk_drew ?_ | refine blk_alloc ?_ _)); refine blk_far ?_ NB226_231.out _; (with_reducible repeat (first | refine blk_drewN ?_ _ | refine blk_drew ?_ | refine blk_alloc ?_ _)); refine blk_far ?_ NB226_231.out _; (with_reducible repeat (first | refine blk_drewN ?_ _ | refine blk_drew ?_ | refine blk_alloc ?_ _)); exact BK226.out⟩, ⟨by (with_reducible repeat (first | refine blk_drewN ?_ _ | refine blk_drew ?_ | refine blk_alloc ?_ _)); refine blk_put (cs := #[.int .i64 ((rd_T54 l0_0 (l1.length : Int)).f0), .int .i64 0]) ?_ 1 _ rfl; (with_reducible repeat (first | refine blk_drewN ?_ _ | refine blk_drew ?_ | refine blk_alloc ?_ _)); refine blk_put (cs := #[.int .i64 0, .int .i64 0]) ?_ 0 _ rfl; (with_reducible repeat (first | refine blk_drewN ?_ _ | refine blk_drew ?_ | refine blk_alloc ?_ _)); exact BK231.out⟩, ⟨by repeat (first | (with_reducible first | exact HB.out | apply below_alloc | apply pw_below_drewN | apply below_drew1 | refine below_set ?_ GE226.out | refine below_set ?_ GE231.out) | exact HB.out)⟩⟩
    case rest =>
     clear HC10
     try clear c1
     try clear p2
     try clear q2
     try clear hx2
     try clear c3
     try clear c3b0
     try clear c3b1
     try clear c3b2
     try clear c5
     try clear p6
     try clear c8
     try clear c8b0
     try clear c8b1
     try clear c9
     try clear c9b0
     try clear c9b1
     try clear c14
     try clear c16
     try clear c16b0
     try clear c16b1
     try clear c18
     try clear c18b0
     try clear c19
     try clear c19b0
     try clear hcz12_0
     try clear hcz15_0
     try clear hcz15_1
     try clear hcz5_0
     try clear hfz12_0
     try clear hfz15_0
     try clear hfz15_1
     try clear hfz5_0
     try clear hx230_0
     try clear hx230_1
     try clear hx232_0
     try clear p230
     try clear p232
     try clear q230
     try clear q232
     obtain ⟨kq, x7_9, rfl, HA, HJ9, HO_1, HO_5, BK226, BK231, HB⟩ := hcut
     cases kq with
     | zero => exact absurd HA.out (by simp [tensileref05_Lists.j0])
     | succ kj9 =>
      have H := HA.out
      clear HA
      simp only [tensileref05_Lists.j0] at H
      have H' := Aside0.mk H
      clear H
      go_wp2
      go_loopg [5, 9] kj9 (fun kq v5 v9 w' => ∃ (x5_2 : List (List Int)) (x9_2 : Int), v9 = .int .i64 x9_2 ∧ Aside0 (tensileref05_Lists.l0 kq l1 x5_2 x9_2 l0_0 ((rd_T54 l0_0 (l1.length : Int)).f0) ((rd_T54 l0_0 (l1.length : Int)).f1) = some r) ∧ Aside0 (kq ≤ kj9) ∧ Aside0 (Kd.V (Kd.int .i64) 3 w' w.heap.size (fun k_ => (P1_ k_ ∨ w.heap.size ≤ k_) ∧ some k_ ≠ (v5 : Value).ownBlock ∧ k_ ≠ gb226 ∧ k_ ≠ gb231) (.slice A1 l1.length c1) l1) ∧ Aside0 (Kd.N (Kd.slice 3 (Kd.int .i64)) 31 w' w.heap.size (fun k_ => (P1_ k_ ∨ w.heap.size ≤ k_) ∧ k_ ≠ gb226 ∧ k_ ≠ gb231) v5 x5_2) ∧ Aside0 (w'.heap[gb226]? = some (.cells #[(.slice (some ad230) l0_0.length c0_0)] 24 (0, 0))) ∧ Aside0 (w'.heap[gb231]? = some (.cells #[.int .i64 ((rd_T54 l0_0 (l1.length : Int)).f0), .int .i64 ((rd_T54 l0_0 (l1.length : Int)).f1)] 54 (0, 0))) ∧ Aside0 (Below w.heap.size w w'))
      case atStart => exact ⟨(([] : List (List Int))), (x7_9), (by first | rfl | (simp; done) | (simp [*]; done)), H', ⟨Nat.le_refl _⟩, ⟨by (with_reducible repeat (first | apply Kd.V_alloc | apply Kd.V_drewN | apply Kd.V_drew)); exact HO_1.out⟩, ⟨by (with_reducible repeat (first | apply Kd.N_alloc | apply Kd.N_drewN | apply Kd.N_drew)); exact HO_5.out⟩, ⟨by (with_reducible repeat (first | refine blk_drewN ?_ _ | refine blk_drew ?_ | refine blk_alloc ?_ _)); exact BK226.out⟩, ⟨by (with_reducible repeat (first | refine blk_drewN ?_ _ | refine blk_drew ?_ | refine blk_alloc ?_ _)); exact BK231.out⟩, ⟨by repeat (first | (with_reducible first | exact HB.out | apply below_alloc | apply pw_below_drewN | apply below_drew1 | refine below_set ?_ GE226.out | refine below_set ?_ GE231.out) | exact HB.out)⟩⟩
      case round =>
       clear H'
       try clear c1
       try clear p2
       try clear q2
       try clear hx2
       try clear c3
       try clear c3b0
       try clear c3b1
       try clear c3b2
       try clear c5
       try clear p6
       try clear c8
       try clear c8b0
       try clear c8b1
       try clear c9
       try clear c9b0
       try clear c9b1
       try clear c14
       try clear c16
       try clear c16b0
       try clear c16b1
       try clear c18
       try clear c18b0
       try clear c19
       try clear c19b0
       try clear hcz12_0
       try clear hcz15_0
       try clear hcz15_1
       try clear hcz5_0
       try clear hfz12_0
       try clear hfz15_0
       try clear hfz15_1
       try clear hfz5_0
       try clear hx230_0
       try clear hx230_1
       try clear hx232_0
       try clear p2
       try clear p230
       try clear p232
       try clear p6
       try clear q2
       try clear q230
       try clear q232
       obtain ⟨x5_2, x9_2, rfl, HA, HK2, HO_1, HO_5, BK226, BK231, HB⟩ := hrel
       cases gk with
       | zero => exact absurd HA.out (by simp [tensileref05_Lists.l0])
       | succ k2 =>
        have H := HA.out
        clear HA
        simp only [tensileref05_Lists.l0] at H
        by_cases c21 : x9_2 ≤ ((rd_T54 l0_0 (l1.length : Int)).f1)
        ·
         rw [if_pos c21] at H
         have c21b0 : decide (x9_2 ≤ ((rd_T54 l0_0 (l1.length : Int)).f1)) = true := decide_eq_true c21
         clear c21
         obtain ⟨y233, hy233⟩ : ∃ y_ : List Int, y_ = (([] : List Int)) := ⟨_, rfl⟩
         replace H : (if y233.length + l1.length < 17592186044416 then ((some (y233 ++ l1 : List Int)).bind fun y236 => ((some (([x9_2] : List Int) : List Int)).bind fun y239 => (if y236.length + y239.length < 17592186044416 then ((tensileref05_Lists.f k2 l0_0 (y236 ++ y239)).bind fun t245 => (if x5_2.length + t245.length < 5864062014805 then (tensileref05_Lists.l0 k2 l1 (x5_2 ++ t245) (wrap64 (x9_2 + 1)) l0_0 ((rd_T54 l0_0 (l1.length : Int)).f0) ((rd_T54 l0_0 (l1.length : Int)).f1)) else (none))) else (none)))) else (none)) = some r := by first | (rw [hy233]; with_reducible exact H) | (have H2_ := (Option.bind_some _ _).symm.trans H; rw [hy233]; with_reducible exact H2_) | (have H2_ := (Option.bind_some _ _).symm.trans H; with_reducible exact H2_) | with_reducible exact H | (rw [hy233]; exact H) | exact H
         have Ny233 := Aside0.mk hy233
         clear hy233
         by_cases c22 : y233.length + l1.length < 17592186044416
         ·
          rw [if_pos c22] at H
          have LMc22 := Aside0.mk c22
          clear c22
          obtain ⟨y236, hy236⟩ : ∃ y_ : List Int, y_ = (y233 ++ l1) := ⟨_, rfl⟩
          replace H : ((some (([x9_2] : List Int) : List Int)).bind fun y239 => (if y236.length + y239.length < 17592186044416 then ((tensileref05_Lists.f k2 l0_0 (y236 ++ y239)).bind fun t245 => (if x5_2.length + t245.length < 5864062014805 then (tensileref05_Lists.l0 k2 l1 (x5_2 ++ t245) (wrap64 (x9_2 + 1)) l0_0 ((rd_T54 l0_0 (l1.length : Int)).f0) ((rd_T54 l0_0 (l1.length : Int)).f1)) else (none))) else (none))) = some r := by first | (rw [hy236]; with_reducible exact H) | (have H2_ := (Option.bind_some _ _).symm.trans H; rw [hy236]; with_reducible exact H2_) | (have H2_ := (Option.bind_some _ _).symm.trans H; with_reducible exact H2_) | with_reducible exact H | (rw [hy236]; exact H) | exact H
          have Ny236 := Aside0.mk hy236
          clear hy236
          obtain ⟨y239, hy239⟩ : ∃ y_ : List Int, y_ = (([x9_2] : List Int)) := ⟨_, rfl⟩
          replace H : (if y236.length + y239.length < 17592186044416 then ((tensileref05_Lists.f k2 l0_0 (y236 ++ y239)).bind fun t245 => (if x5_2.length + t245.length < 5864062014805 then (tensileref05_Lists.l0 k2 l1 (x5_2 ++ t245) (wrap64 (x9_2 + 1)) l0_0 ((rd_T54 l0_0 (l1.length : Int)).f0) ((rd_T54 l0_0 (l1.length : Int)).f1)) else (none))) else (none)) = some r := by first | (rw [hy239]; with_reducible exact H) | (have H2_ := (Option.bind_some _ _).symm.trans H; rw [hy239]; with_reducible exact H2_) | (have H2_ := (Option.bind_some _ _).symm.trans H; with_reducible exact H2_) | with_reducible exact H | (rw [hy239]; exact H) | exact H
          have Ny239 := Aside0.mk hy239
          clear hy239
          by_cases c23 : y236.length + y239.length < 17592186044416
          ·
           rw [if_pos c23] at H
           have LMc23 := Aside0.mk c23
           clear c23
           obtain ⟨y242, hy242⟩ : ∃ y_ : List Int, y_ = (y236 ++ y239) := ⟨_, rfl⟩
           replace H : ((tensileref05_Lists.f k2 l0_0 y242).bind fun t245 => (if x5_2.length + t245.length < 5864062014805 then (tensileref05_Lists.l0 k2 l1 (x5_2 ++ t245) (wrap64 (x9_2 + 1)) l0_0 ((rd_T54 l0_0 (l1.length : Int)).f0) ((rd_T54 l0_0 (l1.length : Int)).f1)) else (none))) = some r := by first | (rw [hy242]; with_reducible exact H) | (have H2_ := (Option.bind_some _ _).symm.trans H; rw [hy242]; with_reducible exact H2_) | (have H2_ := (Option.bind_some _ _).symm.trans H; with_reducible exact H2_) | with_reducible exact H | (rw [hy242]; exact H) | exact H
           have Ny242 := Aside0.mk hy242
           clear hy242
           replace H := Option.bind_eq_some_iff.mp H
           obtain ⟨t245, A240, H⟩ := H
           replace H : (if x5_2.length + t245.length < 5864062014805 then (tensileref05_Lists.l0 k2 l1 (x5_2 ++ t245) (wrap64 (x9_2 + 1)) l0_0 ((rd_T54 l0_0 (l1.length : Int)).f0) ((rd_T54 l0_0 (l1.length : Int)).f1)) else (none)) = some r := H
           have A24 := Aside0.mk A240
           clear A240
           by_cases c25 : x5_2.length + t245.length < 5864062014805
           ·
            rw [if_pos c25] at H
            have LMc25 := Aside0.mk c25
            clear c25
            obtain ⟨y248, hy248⟩ : ∃ y_ : List (List Int), y_ = (x5_2 ++ t245) := ⟨_, rfl⟩
            replace H : (tensileref05_Lists.l0 k2 l1 y248 (wrap64 (x9_2 + 1)) l0_0 ((rd_T54 l0_0 (l1.length : Int)).f0) ((rd_T54 l0_0 (l1.length : Int)).f1)) = some r := by first | (rw [hy248]; with_reducible exact H) | (have H2_ := (Option.bind_some _ _).symm.trans H; rw [hy248]; with_reducible exact H2_) | (have H2_ := (Option.bind_some _ _).symm.trans H; with_reducible exact H2_) | with_reducible exact H | (rw [hy248]; exact H) | exact H
            have Ny248 := Aside0.mk hy248
            clear hy248
            have H' := Aside0.mk H
            clear H
            have hnb26 := NB231_226.out
            have hnc26 := NB226_231.out
            have hcz27_0 : wr.cell? ⟨gb231, 0, none⟩ = some (.int .i64 ((rd_T54 l0_0 (l1.length : Int)).f0)) := (blk_cell BK231.out 0).trans rfl
            have hcz27_1 : wr.cell? ⟨gb231, 1, none⟩ = some (.int .i64 ((rd_T54 l0_0 (l1.length : Int)).f1)) := (blk_cell BK231.out 1).trans rfl
            have hfz27_0 := blk_frozen BK231.out 0
            have hfz27_1 := blk_frozen BK231.out 1
            obtain ⟨Ao28, co28, eo28⟩ := Kd.N_slice HO_5.out
            subst eo28
            try go_wp2
            have n0_ := Aside0.mk (Kd.V_drew HO_1.out)
            have n1_ := Aside0.mk (Kd.N_drew HO_5.out)
            have n2_ := Aside0.mk (blk_drew BK226.out)
            have n3_ := Aside0.mk (blk_drew BK231.out)
            have n4_ := Aside0.mk (below_drew1 HB.out)
            clear HO_1
            clear HO_5
            clear BK226
            clear BK231
            clear HB
            have HO_1 := n0_
            have HO_5 := n1_
            have BK226 := n2_
            have BK231 := n3_
            have HB := n4_
            clear n0_ n1_ n2_ n3_ n4_
            refine start_ (n := 11) (S := fun w' => w'.cell? ⟨gb226, 0, none⟩ = some (.slice (some ad230) l0_0.length c0_0)) (ds := []) #[false, false, false, false, false, false, false, false, false, false, false] (by kernel_rfl) rfl rfl ((blk_cell BK226.out 0).trans rfl) (fun hHeld => ?_); refine with_tabW tensileref05_Lists.tab12 tensileref05_Lists.bits12 (fun HT_ HW_ => ?_)
            generalize wr.drew = w29 at HO_1 HO_5 BK226 BK231 HB hHeld ⊢
            refine pure_ (i := 0) (N := some 44) (v := ?_) (a' := ?_) #[true, false, false, false, false, false, false, false, false, false, false] rfl rfl (any_of HT_.out (by kernel_rfl)) (fun _ _ _ h => h) (Or.inl ⟨by rfl, ?_⟩) ?_ ?_
            rotate_left
            ·
             intro w'
             go_simp
             with_reducible rfl
            rotate_left
            ·
             simp only [Act.put, List.setIfInBounds_toArray, List.set_cons_zero, List.set_cons_succ, i64_w, i32_w]
             rfl
            refine pure_ (i := 3) (N := some 47) (v := ?_) (a' := ?_) #[true, false, false, true, false, false, false, false, false, false, false] rfl rfl (any_of HT_.out (by kernel_rfl)) (fun _ _ _ h => h) (Or.inl ⟨by rfl, ?_⟩) ?_ ?_
            rotate_left
            ·
             intro w'
             go_simp
             with_reducible rfl
            rotate_left
            ·
             simp only [Act.put, List.setIfInBounds_toArray, List.set_cons_zero, List.set_cons_succ, i64_w, i32_w]
             rfl
            refine pure_ (i := 5) (N := some 49) (v := ?_) (a' := ?_) #[true, false, false, true, false, true, false, false, false, false, false] rfl rfl (any_of HT_.out (by kernel_rfl)) (fun _ _ _ h => h) (Or.inl ⟨by rfl, ?_⟩) ?_ ?_
            rotate_left
            ·
             intro w'
             go_simp
             with_reducible rfl
            rotate_left
            ·
             simp only [Act.put, List.setIfInBounds_toArray, List.set_cons_zero, List.set_cons_succ, i64_w, i32_w]
             rfl
            refine take_ (i := 1) (N := some 45) (v := ?_) (a' := ?_) #[true, true, false, true, false, true, false, false, false, false, false] rfl rfl (take_ofW HT_.out HW_.out (by kernel_rfl)) (fun _ _ _ h => h) (Or.inl ⟨by rfl, ?_⟩) hHeld ?_ ?_
            rotate_left
            ·
             intro w' s0
             go_simp
             with_reducible rfl
            rotate_left
            ·
             simp only [Act.put, List.setIfInBounds_toArray, List.set_cons_zero, List.set_cons_succ, i64_w, i32_w]
             rfl
            refine join_ (σ := Value × Value × Value) 4 #[true, true, true, true, true, true, true, false, false, false, false] (fun s_ => [(46, s_.1), (48, s_.2.1), (50, s_.2.2)]) (fun s_ w' => (w'.cell? ⟨gb226, 0, none⟩ = some (.slice (some ad230) l0_0.length c0_0)) ∧ (Kd.R (Kd.int .i64) 3 w' w.heap.size (fun k_ => (w.heap.size ≤ k_) ∧ some k_ ≠ (s_.2.2 : Value).ownBlock) s_.2.1 y236) ∧ (Kd.R (Kd.int .i64) 3 w' w.heap.size (fun k_ => (w.heap.size ≤ k_) ∧ some k_ ≠ (s_.2.1 : Value).ownBlock) s_.2.2 y239) ∧ (Kd.V (Kd.int .i64) 3 w' w.heap.size (fun k_ => (P1_ k_ ∨ w.heap.size ≤ k_) ∧ some k_ ≠ (s_.2.1 : Value).ownBlock ∧ some k_ ≠ (s_.2.2 : Value).ownBlock ∧ some k_ ≠ (.slice Ao28 x5_2.length co28 : Value).ownBlock ∧ k_ ≠ gb226 ∧ k_ ≠ gb231) (.slice A1 l1.length c1) l1) ∧ (Kd.N (Kd.slice 3 (Kd.int .i64)) 31 w' w.heap.size (fun k_ => (P1_ k_ ∨ w.heap.size ≤ k_) ∧ some k_ ≠ (s_.2.1 : Value).ownBlock ∧ some k_ ≠ (s_.2.2 : Value).ownBlock ∧ k_ ≠ gb226 ∧ k_ ≠ gb231) (.slice Ao28 x5_2.length co28) x5_2) ∧ (w'.heap[gb226]? = some (.cells #[.slice (some ad230) l0_0.length c0_0] 24 (0, 0))) ∧ (w'.heap[gb231]? = some (.cells #[.int .i64 ((rd_T54 l0_0 (l1.length : Int)).f0), .int .i64 ((rd_T54 l0_0 (l1.length : Int)).f1)] 54 (0, 0))) ∧ (Below w.heap.size w w')) ?_ ?_
            rotate_left
            ·
             intro hCont
             refine two_ (i := 2) (j := 6) (Ni := some 46) (Nj := some 50) #[true, true, true, true, false, true, false, false, false, false, false] #[true, true, false, true, false, true, true, false, false, false, false] rfl rfl rfl rfl (two_of HT_.out (by kernel_rfl)) (by decide) (by decide) (fun K hK => ?_) (fun K hK => ?_)
             ·
              skip
              refine Kd.R_lit_step (Kd.int .i64) _ 3 ?hg (N := 46) ?hd (xs := ([] : List Int)) (inner := []) (ok := fun _ => True) (okp := fun _ => True) ?hr ?hp (fun _ hk => hk) trivial (Below.refl _ _) (Nat.le_refl _) (by simp) ?_; (case hd => rfl); (case hg => rfl); (case hr => first | (go_simp; done) | (go_simp; rfl)); (case hp => exact (Reps.none _ _))
              intro v234 w30 ho31 hb hg_ hnew_
              clear hg_ hnew_
              (first | rw [← Ny233.out] at ho31 | (simp only [Int.reduceToNat] at ho31; rw [← Ny233.out] at ho31))
              have n0_ := Aside0.mk (Kd.V_elder' (by (with_reducible repeat (first | apply Kd.V_alloc | apply Kd.V_drewN | apply Kd.V_drew)); exact HO_1.out) (Kd.R_base ho31) hb)
              have n1_ := Aside0.mk (Kd.N_elder' (by (with_reducible repeat (first | apply Kd.N_alloc | apply Kd.N_drewN | apply Kd.N_drew)); exact HO_5.out) (Kd.R_base ho31) hb)
              have n2_ := Aside0.mk (Kd.R_lower (Kd.R_newM (M := fun k_ => (w.heap.size ≤ k_)) ho31 (below_size (by repeat (first | (with_reducible first | exact HB.out | apply below_alloc | apply pw_below_drewN | apply below_drew1 | refine below_set ?_ GE226.out | refine below_set ?_ GE231.out) | exact HB.out))) (fun k_ h_ => h_)) (below_size (by repeat (first | (with_reducible first | exact HB.out | apply below_alloc | apply pw_below_drewN | apply below_drew1 | refine below_set ?_ GE226.out | refine below_set ?_ GE231.out) | exact HB.out))))
              have n3_ := Aside0.mk (blk_below (g := gb226) (o := .cells #[.slice (some ad230) l0_0.length c0_0] 24 (0, 0)) (by (with_reducible repeat (first | refine blk_drewN ?_ _ | refine blk_drew ?_ | refine blk_alloc ?_ _)); exact BK226.out) hb)
              have n4_ := Aside0.mk (blk_below (g := gb231) (o := .cells #[.int .i64 ((rd_T54 l0_0 (l1.length : Int)).f0), .int .i64 ((rd_T54 l0_0 (l1.length : Int)).f1)] 54 (0, 0)) (by (with_reducible repeat (first | refine blk_drewN ?_ _ | refine blk_drew ?_ | refine blk_alloc ?_ _)); exact BK231.out) hb)
              have n5_ := Aside0.mk (below_step (by repeat (first | (with_reducible first | exact HB.out | apply below_alloc | apply pw_below_drewN | apply below_drew1 | refine below_set ?_ GE226.out | refine below_set ?_ GE231.out) | exact HB.out)) hb)
              clear HO_1
              clear HO_5
              clear BK226
              clear BK231
              clear HB
              have HO_1 := n0_
              have HO_5 := n1_
              have HO235 := n2_
              have BK226 := n3_
              have BK231 := n4_
              have HB := n5_
              clear n0_ n1_ n2_ n3_ n4_ n5_
              clear hb ho31
              refine hK.out _ _ ((blk_cell BK226.out 0).trans rfl) (fun hHeld => ?_)
              clear hK K
              refine norm_ (a' := ?_) ?_ ?_
              rotate_left
              ·
               show Act.put _ (some 46) _ = _
               simp only [Act.put, List.setIfInBounds_toArray, List.set_cons_zero, List.set_cons_succ, i64_w, i32_w]
               rfl
              refine two_ (i := 4) (j := 6) (Ni := some 48) (Nj := some 50) #[true, true, true, true, true, true, false, false, false, false, false] #[true, true, true, true, false, true, true, false, false, false, false] rfl rfl rfl rfl (two_of HT_.out (by kernel_rfl)) (by decide) (by decide) (fun K hK => ?_) (fun K hK => ?_)
              ·
               skip
               refine Kd.R_append_rows_step (Kd.int .i64) (w0 := w) w.heap.size (by rfl) (.tmp 46) (.tmp 47) 31 3 (.int .i64 0) 8 rfl Try.underlying31 info3 rfl (by decide) (by omega) v234 y233 l1 _ _ _ (fun k_ => (w.heap.size ≤ k_)) (fun _ => False) rfl rfl ?aO ?aR (fun _ _ h => h) (fun _ h => h.elim) ?aF ?aB ?aS ?aL ?_
               (case aR => repeat (first | exact (Kd.V_reads' HO_1.out).2.2 | (with_reducible refine Kd.C_alloc ?_ _) | (with_reducible refine Kd.C_drewN ?_ _) | (with_reducible refine Kd.C_drew ?_)))
               (case aB => exact (by repeat (first | (with_reducible first | exact HB.out | apply below_alloc | apply pw_below_drewN | apply below_drew1 | refine below_set ?_ GE226.out | refine below_set ?_ GE231.out) | exact HB.out)))
               (case aF => exact (fun k_ hk => (Nat.le_trans (below_size (by repeat (first | (with_reducible first | exact HB.out | apply below_alloc | apply pw_below_drewN | apply below_drew1 | refine below_set ?_ GE226.out | refine below_set ?_ GE231.out) | exact HB.out))) hk)))
               (case aO => exact (by (with_reducible repeat (first | apply Kd.R_alloc | apply Kd.R_drewN | apply Kd.R_drew)); exact Kd.R_mono HO235.out (fun _ hk => hk.1)))
               (case aS => exact (below_size (by repeat (first | (with_reducible first | exact HB.out | apply below_alloc | apply pw_below_drewN | apply below_drew1 | refine below_set ?_ GE226.out | refine below_set ?_ GE231.out) | exact HB.out))))
               (case aL => have := LMc22.out; omega)
               intro v237 w32 ho hb hg hat
               rw [← Ny236.out] at ho
               have n0_ := Aside0.mk (Kd.V_afterv (ok := (fun k_ => (P1_ k_ ∨ w.heap.size ≤ k_) ∧ some k_ ≠ (.slice Ao28 x5_2.length co28 : Value).ownBlock ∧ k_ ≠ gb226 ∧ k_ ≠ gb231)) (by (with_reducible repeat (first | apply Kd.V_alloc | apply Kd.V_drewN | apply Kd.V_drew)); exact HO_1.out) hg hat)
               have n1_ := Aside0.mk (Kd.N_afterv (ok := (fun k_ => (P1_ k_ ∨ w.heap.size ≤ k_) ∧ k_ ≠ gb226 ∧ k_ ≠ gb231)) (by (with_reducible repeat (first | apply Kd.N_alloc | apply Kd.N_drewN | apply Kd.N_drew)); exact HO_5.out) hg hat)
               have n2_ := Aside0.mk (blk_grown (g := gb226) (o := .cells #[.slice (some ad230) l0_0.length c0_0] 24 (0, 0)) (by (with_reducible repeat (first | refine blk_drewN ?_ _ | refine blk_drew ?_ | refine blk_alloc ?_ _)); exact BK226.out) hg (Kd.R_ne HO235.out BK226.out (by decide)))
               have n3_ := Aside0.mk (blk_grown (g := gb231) (o := .cells #[.int .i64 ((rd_T54 l0_0 (l1.length : Int)).f0), .int .i64 ((rd_T54 l0_0 (l1.length : Int)).f1)] 54 (0, 0)) (by (with_reducible repeat (first | refine blk_drewN ?_ _ | refine blk_drew ?_ | refine blk_alloc ?_ _)); exact BK231.out) hg (Kd.R_ne HO235.out BK231.out (by decide)))
               have n4_ := Aside0.mk (hb)
               have n5_ := Aside0.mk (ho)
               clear HO_1
               clear HO_5
               clear BK226
               clear BK231
               clear HB
               clear HO235
               have HO_1 := n0_
               have HO_5 := n1_
               have BK226 := n2_
               have BK231 := n3_
               have HB := n4_
               have HO238 := n5_
               clear n0_ n1_ n2_ n3_ n4_ n5_
               clear ho hb hg hat
               refine hK.out _ _ ((blk_cell BK226.out 0).trans rfl) (fun hHeld => ?_)
               clear hK K
               refine norm_ (a' := ?_) ?_ ?_
               rotate_left
               ·
                show Act.put _ (some 48) _ = _
                simp only [Act.put, List.setIfInBounds_toArray, List.set_cons_zero, List.set_cons_succ, i64_w, i32_w]
                rfl
               refine one_ (i := 6) (N := some 50) #[true, true, true, true, true, true, true, false, false, false, false] rfl rfl (one_of HT_.out (by kernel_rfl)) (by decide) (fun K hK => ?_)
               refine Kd.R_lit_step (Kd.int .i64) _ 3 ?hg (N := 50) ?hd (xs := ([x9_2] : List Int)) (inner := [.int .i64 x9_2]) (ok := fun _ => True) (okp := fun _ => True) ?hr ?hp (fun _ hk => hk) trivial (Below.refl _ _) (Nat.le_refl _) (by simp) ?_; (case hd => rfl); (case hg => rfl); (case hr => first | (go_simp; done) | (go_simp; rfl)); (case hp => exact (Reps.one (show Kd.M (Kd.int .i64) _ _ _ x9_2 [.int .i64 x9_2] from rfl) (Reps.none _ _)))
               intro v240 w33 ho34 hb hg_ hnew_
               clear hg_ hnew_
               (first | rw [← Ny239.out] at ho34 | (simp only [Int.reduceToNat] at ho34; rw [← Ny239.out] at ho34))
               have n0_ := Aside0.mk (Kd.V_elder' (by (with_reducible repeat (first | apply Kd.V_alloc | apply Kd.V_drewN | apply Kd.V_drew)); exact HO_1.out) (Kd.R_base ho34) hb)
               have n1_ := Aside0.mk (Kd.N_elder' (by (with_reducible repeat (first | apply Kd.N_alloc | apply Kd.N_drewN | apply Kd.N_drew)); exact HO_5.out) (Kd.R_base ho34) hb)
               have n2_ := Aside0.mk (Kd.R_elder' (by (with_reducible repeat (first | apply Kd.R_alloc | apply Kd.R_drewN | apply Kd.R_drew)); exact HO238.out) (Kd.R_base ho34) hb)
               have n3_ := Aside0.mk (Kd.R_lower (Kd.R_new' (Kd.R_newM (M := fun k_ => (w.heap.size ≤ k_)) ho34 (below_size (by repeat (first | (with_reducible first | exact HB.out | apply below_alloc | apply pw_below_drewN | apply below_drew1 | refine below_set ?_ GE226.out | refine below_set ?_ GE231.out) | exact HB.out))) (fun k_ h_ => h_)) (Kd.R_lt (by (with_reducible repeat (first | apply Kd.R_alloc | apply Kd.R_drewN | apply Kd.R_drew)); exact HO238.out))) (below_size (by repeat (first | (with_reducible first | exact HB.out | apply below_alloc | apply pw_below_drewN | apply below_drew1 | refine below_set ?_ GE226.out | refine below_set ?_ GE231.out) | exact HB.out))))
               have n4_ := Aside0.mk (blk_below (g := gb226) (o := .cells #[.slice (some ad230) l0_0.length c0_0] 24 (0, 0)) (by (with_reducible repeat (first | refine blk_drewN ?_ _ | refine blk_drew ?_ | refine blk_alloc ?_ _)); exact BK226.out) hb)
               have n5_ := Aside0.mk (blk_below (g := gb231) (o := .cells #[.int .i64 ((rd_T54 l0_0 (l1.length : Int)).f0), .int .i64 ((rd_T54 l0_0 (l1.length : Int)).f1)] 54 (0, 0)) (by (with_reducible repeat (first | refine blk_drewN ?_ _ | refine blk_drew ?_ | refine blk_alloc ?_ _)); exact BK231.out) hb)
               have n6_ := Aside0.mk (below_step (by repeat (first | (with_reducible first | exact HB.out | apply below_alloc | apply pw_below_drewN | apply below_drew1 | refine below_set ?_ GE226.out | refine below_set ?_ GE231.out) | exact HB.out)) hb)
               clear HO_1
               clear HO_5
               clear HO238
               clear BK226
               clear BK231
               clear HB
               have HO_1 := n0_
               have HO_5 := n1_
               have HO238 := n2_
               have HO241 := n3_
               have BK226 := n4_
               have BK231 := n5_
               have HB := n6_
               clear n0_ n1_ n2_ n3_ n4_ n5_ n6_
               clear hb ho34
               refine hK.out _ _ ((blk_cell BK226.out 0).trans rfl) (fun hHeld => ?_)
               clear hK K
               refine norm_ (a' := ?_) ?_ ?_
               rotate_left
               ·
                show Act.put _ (some 50) _ = _
                simp only [Act.put, List.setIfInBounds_toArray, List.set_cons_zero, List.set_cons_succ, i64_w, i32_w]
                rfl
               exact norm_ (by simp only [putAll, Act.put, List.setIfInBounds_toArray, List.set_cons_zero, List.set_cons_succ]) (hCont (v234, v237, v240) _ ⟨hHeld, (by (with_reducible repeat (first | apply Kd.R_alloc | apply Kd.R_drewN | apply Kd.R_drew)); exact HO238.out), (by (with_reducible repeat (first | apply Kd.R_alloc | apply Kd.R_drewN | apply Kd.R_drew)); exact Kd.R_mono HO241.out (fun _ hk => ⟨hk.1.1, hk.2⟩)), (by (with_reducible repeat (first | apply Kd.V_alloc | apply Kd.V_drewN | apply Kd.V_drew)); exact Kd.V_mono HO_1.out (fun _ hk => ⟨hk.1.1.1, ⟨hk.1.2, ⟨hk.2, ⟨hk.1.1.2.1, ⟨hk.1.1.2.2.1, hk.1.1.2.2.2⟩⟩⟩⟩⟩)), (by (with_reducible repeat (first | apply Kd.N_alloc | apply Kd.N_drewN | apply Kd.N_drew)); exact Kd.N_mono HO_5.out (fun _ hk => ⟨hk.1.1.1, ⟨hk.1.2, ⟨hk.2, ⟨hk.1.1.2.1, hk.1.1.2.2⟩⟩⟩⟩)), (by (with_reducible repeat (first | refine blk_drewN ?_ _ | refine blk_drew ?_ | refine blk_alloc ?_ _)); exact BK226.out), (by (with_reducible repeat (first | refine blk_drewN ?_ _ | refine blk_drew ?_ | refine blk_alloc ?_ _)); exact BK231.out), (by repeat (first | (with_reducible first | exact HB.out | apply below_alloc | apply pw_below_drewN | apply below_drew1 | refine below_set ?_ GE226.out | refine below_set ?_ GE231.out) | exact HB.out))⟩)
              ·
               skip
               refine Kd.R_lit_step (Kd.int .i64) _ 3 ?hg (N := 50) ?hd (xs := ([x9_2] : List Int)) (inner := [.int .i64 x9_2]) (ok := fun _ => True) (okp := fun _ => True) ?hr ?hp (fun _ hk => hk) trivial (Below.refl _ _) (Nat.le_refl _) (by simp) ?_; (case hd => rfl); (case hg => rfl); (case hr => first | (go_simp; done) | (go_simp; rfl)); (case hp => exact (Reps.one (show Kd.M (Kd.int .i64) _ _ _ x9_2 [.int .i64 x9_2] from rfl) (Reps.none _ _)))
               intro v240 w32 ho33 hb hg_ hnew_
               clear hg_ hnew_
               (first | rw [← Ny239.out] at ho33 | (simp only [Int.reduceToNat] at ho33; rw [← Ny239.out] at ho33))
               have n0_ := Aside0.mk (Kd.V_elder' (by (with_reducible repeat (first | apply Kd.V_alloc | apply Kd.V_drewN | apply Kd.V_drew)); exact HO_1.out) (Kd.R_base ho33) hb)
               have n1_ := Aside0.mk (Kd.N_elder' (by (with_reducible repeat (first | apply Kd.N_alloc | apply Kd.N_drewN | apply Kd.N_drew)); exact HO_5.out) (Kd.R_base ho33) hb)
               have n2_ := Aside0.mk (Kd.R_elder' (by (with_reducible repeat (first | apply Kd.R_alloc | apply Kd.R_drewN | apply Kd.R_drew)); exact HO235.out) (Kd.R_base ho33) hb)
               have n3_ := Aside0.mk (Kd.R_lower (Kd.R_new' (Kd.R_newM (M := fun k_ => (w.heap.size ≤ k_)) ho33 (below_size (by repeat (first | (with_reducible first | exact HB.out | apply below_alloc | apply pw_below_drewN | apply below_drew1 | refine below_set ?_ GE226.out | refine below_set ?_ GE231.out) | exact HB.out))) (fun k_ h_ => h_)) (Kd.R_lt (by (with_reducible repeat (first | apply Kd.R_alloc | apply Kd.R_drewN | apply Kd.R_drew)); exact HO235.out))) (below_size (by repeat (first | (with_reducible first | exact HB.out | apply below_alloc | apply pw_below_drewN | apply below_drew1 | refine below_set ?_ GE226.out | refine below_set ?_ GE231.out) | exact HB.out))))
               have n4_ := Aside0.mk (blk_below (g := gb226) (o := .cells #[.slice (some ad230) l0_0.length c0_0] 24 (0, 0)) (by (with_reducible repeat (first | refine blk_drewN ?_ _ | refine blk_drew ?_ | refine blk_alloc ?_ _)); exact BK226.out) hb)
               have n5_ := Aside0.mk (blk_below (g := gb231) (o := .cells #[.int .i64 ((rd_T54 l0_0 (l1.length : Int)).f0), .int .i64 ((rd_T54 l0_0 (l1.length : Int)).f1)] 54 (0, 0)) (by (with_reducible repeat (first | refine blk_drewN ?_ _ | refine blk_drew ?_ | refine blk_alloc ?_ _)); exact BK231.out) hb)
               have n6_ := Aside0.mk (below_step (by repeat (first | (with_reducible first | exact HB.out | apply below_alloc | apply pw_below_drewN | apply below_drew1 | refine below_set ?_ GE226.out | refine below_set ?_ GE231.out) | exact HB.out)) hb)
               clear HO_1
               clear HO_5
               clear HO235
               clear BK226
               clear BK231
               clear HB
               have HO_1 := n0_
               have HO_5 := n1_
               have HO235 := n2_
               have HO241 := n3_
               have BK226 := n4_
               have BK231 := n5_
               have HB := n6_
               clear n0_ n1_ n2_ n3_ n4_ n5_ n6_
               clear hb ho33
               refine hK.out _ _ ((blk_cell BK226.out 0).trans rfl) (fun hHeld => ?_)
               clear hK K
               refine norm_ (a' := ?_) ?_ ?_
               rotate_left
               ·
                show Act.put _ (some 50) _ = _
                simp only [Act.put, List.setIfInBounds_toArray, List.set_cons_zero, List.set_cons_succ, i64_w, i32_w]
                rfl
               refine one_ (i := 4) (N := some 48) #[true, true, true, true, true, true, true, false, false, false, false] rfl rfl (one_of HT_.out (by kernel_rfl)) (by decide) (fun K hK => ?_)
               refine Kd.R_append_rows_step (Kd.int .i64) (w0 := w) w.heap.size (by rfl) (.tmp 46) (.tmp 47) 31 3 (.int .i64 0) 8 rfl Try.underlying31 info3 rfl (by decide) (by omega) v234 y233 l1 _ _ _ (fun k_ => (w.heap.size ≤ k_) ∧ some k_ ≠ (v240 : Value).ownBlock) (fun _ => False) rfl rfl ?aO ?aR (fun _ _ h => h) (fun _ h => h.elim) ?aF ?aB ?aS ?aL ?_
               (case aR => repeat (first | exact (Kd.V_reads' HO_1.out).2.2 | (with_reducible refine Kd.C_alloc ?_ _) | (with_reducible refine Kd.C_drewN ?_ _) | (with_reducible refine Kd.C_drew ?_)))
               (case aB => exact (by repeat (first | (with_reducible first | exact HB.out | apply below_alloc | apply pw_below_drewN | apply below_drew1 | refine below_set ?_ GE226.out | refine below_set ?_ GE231.out) | exact HB.out)))
               (case aF => exact (fun k_ hk => ⟨(Nat.le_trans (below_size (by repeat (first | (with_reducible first | exact HB.out | apply below_alloc | apply pw_below_drewN | apply below_drew1 | refine below_set ?_ GE226.out | refine below_set ?_ GE231.out) | exact HB.out))) hk), Kd.fresh' (Kd.R_lt (by (with_reducible repeat (first | apply Kd.R_alloc | apply Kd.R_drewN | apply Kd.R_drew)); exact HO241.out)) k_ hk⟩))
               (case aO => exact (by (with_reducible repeat (first | apply Kd.R_alloc | apply Kd.R_drewN | apply Kd.R_drew)); exact Kd.R_mono HO235.out (fun _ hk => ⟨hk.1.1, hk.2⟩)))
               (case aS => exact (below_size (by repeat (first | (with_reducible first | exact HB.out | apply below_alloc | apply pw_below_drewN | apply below_drew1 | refine below_set ?_ GE226.out | refine below_set ?_ GE231.out) | exact HB.out))))
               (case aL => have := LMc22.out; omega)
               intro v237 w34 ho hb hg hat
               rw [← Ny236.out] at ho
               have n0_ := Aside0.mk (Kd.V_afterv (ok := (fun k_ => (P1_ k_ ∨ w.heap.size ≤ k_) ∧ some k_ ≠ (.slice Ao28 x5_2.length co28 : Value).ownBlock ∧ some k_ ≠ (v240 : Value).ownBlock ∧ k_ ≠ gb226 ∧ k_ ≠ gb231)) (by (with_reducible repeat (first | apply Kd.V_alloc | apply Kd.V_drewN | apply Kd.V_drew)); exact Kd.V_mono HO_1.out (fun _ hk => ⟨⟨hk.1.1.1, ⟨hk.1.1.2.1, ⟨hk.2, ⟨hk.1.1.2.2.1, hk.1.1.2.2.2⟩⟩⟩⟩, hk.1.2⟩)) hg hat)
               have n1_ := Aside0.mk (Kd.N_afterv (ok := (fun k_ => (P1_ k_ ∨ w.heap.size ≤ k_) ∧ some k_ ≠ (v240 : Value).ownBlock ∧ k_ ≠ gb226 ∧ k_ ≠ gb231)) (by (with_reducible repeat (first | apply Kd.N_alloc | apply Kd.N_drewN | apply Kd.N_drew)); exact Kd.N_mono HO_5.out (fun _ hk => ⟨⟨hk.1.1.1, ⟨hk.2, ⟨hk.1.1.2.1, hk.1.1.2.2⟩⟩⟩, hk.1.2⟩)) hg hat)
               have n2_ := Aside0.mk (blk_grown (g := gb226) (o := .cells #[.slice (some ad230) l0_0.length c0_0] 24 (0, 0)) (by (with_reducible repeat (first | refine blk_drewN ?_ _ | refine blk_drew ?_ | refine blk_alloc ?_ _)); exact BK226.out) hg (Kd.R_ne HO235.out BK226.out (by decide)))
               have n3_ := Aside0.mk (blk_grown (g := gb231) (o := .cells #[.int .i64 ((rd_T54 l0_0 (l1.length : Int)).f0), .int .i64 ((rd_T54 l0_0 (l1.length : Int)).f1)] 54 (0, 0)) (by (with_reducible repeat (first | refine blk_drewN ?_ _ | refine blk_drew ?_ | refine blk_alloc ?_ _)); exact BK231.out) hg (Kd.R_ne HO235.out BK231.out (by decide)))
               have n4_ := Aside0.mk (Kd.R_after (ok := (fun k_ => (w.heap.size ≤ k_))) (by (with_reducible repeat (first | apply Kd.R_alloc | apply Kd.R_drewN | apply Kd.R_drew)); exact Kd.R_mono HO241.out (fun _ hk => ⟨hk.1.1, hk.2⟩)) hg hat)
               have n5_ := Aside0.mk (hb)
               have n6_ := Aside0.mk (ho)
               clear HO_1
               clear HO_5
               clear BK226
               clear BK231
               clear HO241
               clear HB
               clear HO235
               have HO_1 := n0_
               have HO_5 := n1_
               have BK226 := n2_
               have BK231 := n3_
               have HO241 := n4_
               have HB := n5_
               have HO238 := n6_
               clear n0_ n1_ n2_ n3_ n4_ n5_ n6_
               clear ho hb hg hat
               refine hK.out _ _ ((blk_cell BK226.out 0).trans rfl) (fun hHeld => ?_)
               clear hK K
               refine norm_ (a' := ?_) ?_ ?_
               rotate_left
               ·
                show Act.put _ (some 48) _ = _
                simp only [Act.put, List.setIfInBounds_toArray, List.set_cons_zero, List.set_cons_succ, i64_w, i32_w]
                rfl
               exact norm_ (by simp only [putAll, Act.put, List.setIfInBounds_toArray, List.set_cons_zero, List.set_cons_succ]) (hCont (v234, v237, v240) _ ⟨hHeld, (by (with_reducible repeat (first | apply Kd.R_alloc | apply Kd.R_drewN | apply Kd.R_drew)); exact HO238.out), (by (with_reducible repeat (first | apply Kd.R_alloc | apply Kd.R_drewN | apply Kd.R_drew)); exact HO241.out), (by (with_reducible repeat (first | apply Kd.V_alloc | apply Kd.V_drewN | apply Kd.V_drew)); exact Kd.V_mono HO_1.out (fun _ hk => ⟨hk.1.1, ⟨hk.2, ⟨hk.1.2.2.1, ⟨hk.1.2.1, ⟨hk.1.2.2.2.1, hk.1.2.2.2.2⟩⟩⟩⟩⟩)), (by (with_reducible repeat (first | apply Kd.N_alloc | apply Kd.N_drewN | apply Kd.N_drew)); exact Kd.N_mono HO_5.out (fun _ hk => ⟨hk.1.1, ⟨hk.2, ⟨hk.1.2.1, ⟨hk.1.2.2.1, hk.1.2.2.2⟩⟩⟩⟩)), (by (with_reducible repeat (first | refine blk_drewN ?_ _ | refine blk_drew ?_ | refine blk_alloc ?_ _)); exact BK226.out), (by (with_reducible repeat (first | refine blk_drewN ?_ _ | refine blk_drew ?_ | refine blk_alloc ?_ _)); exact BK231.out), (by repeat (first | (with_reducible first | exact HB.out | apply below_alloc | apply pw_below_drewN | apply below_drew1 | refine below_set ?_ GE226.out | refine below_set ?_ GE231.out) | exact HB.out))⟩)
             ·
              skip
              refine Kd.R_lit_step (Kd.int .i64) _ 3 ?hg (N := 50) ?hd (xs := ([x9_2] : List Int)) (inner := [.int .i64 x9_2]) (ok := fun _ => True) (okp := fun _ => True) ?hr ?hp (fun _ hk => hk) trivial (Below.refl _ _) (Nat.le_refl _) (by simp) ?_; (case hd => rfl); (case hg => rfl); (case hr => first | (go_simp; done) | (go_simp; rfl)); (case hp => exact (Reps.one (show Kd.M (Kd.int .i64) _ _ _ x9_2 [.int .i64 x9_2] from rfl) (Reps.none _ _)))
              intro v240 w30 ho31 hb hg_ hnew_
              clear hg_ hnew_
              (first | rw [← Ny239.out] at ho31 | (simp only [Int.reduceToNat] at ho31; rw [← Ny239.out] at ho31))
              have n0_ := Aside0.mk (Kd.V_elder' (by (with_reducible repeat (first | apply Kd.V_alloc | apply Kd.V_drewN | apply Kd.V_drew)); exact HO_1.out) (Kd.R_base ho31) hb)
              have n1_ := Aside0.mk (Kd.N_elder' (by (with_reducible repeat (first | apply Kd.N_alloc | apply Kd.N_drewN | apply Kd.N_drew)); exact HO_5.out) (Kd.R_base ho31) hb)
              have n2_ := Aside0.mk (Kd.R_lower (Kd.R_newM (M := fun k_ => (w.heap.size ≤ k_)) ho31 (below_size (by repeat (first | (with_reducible first | exact HB.out | apply below_alloc | apply pw_below_drewN | apply below_drew1 | refine below_set ?_ GE226.out | refine below_set ?_ GE231.out) | exact HB.out))) (fun k_ h_ => h_)) (below_size (by repeat (first | (with_reducible first | exact HB.out | apply below_alloc | apply pw_below_drewN | apply below_drew1 | refine below_set ?_ GE226.out | refine below_set ?_ GE231.out) | exact HB.out))))
              have n3_ := Aside0.mk (blk_below (g := gb226) (o := .cells #[.slice (some ad230) l0_0.length c0_0] 24 (0, 0)) (by (with_reducible repeat (first | refine blk_drewN ?_ _ | refine blk_drew ?_ | refine blk_alloc ?_ _)); exact BK226.out) hb)
              have n4_ := Aside0.mk (blk_below (g := gb231) (o := .cells #[.int .i64 ((rd_T54 l0_0 (l1.length : Int)).f0), .int .i64 ((rd_T54 l0_0 (l1.length : Int)).f1)] 54 (0, 0)) (by (with_reducible repeat (first | refine blk_drewN ?_ _ | refine blk_drew ?_ | refine blk_alloc ?_ _)); exact BK231.out) hb)
              have n5_ := Aside0.mk (below_step (by repeat (first | (with_reducible first | exact HB.out | apply below_alloc | apply pw_below_drewN | apply below_drew1 | refine below_set ?_ GE226.out | refine below_set ?_ GE231.out) | exact HB.out)) hb)
              clear HO_1
              clear HO_5
              clear BK226
              clear BK231
              clear HB
              have HO_1 := n0_
              have HO_5 := n1_
              have HO241 := n2_
              have BK226 := n3_
              have BK231 := n4_
              have HB := n5_
              clear n0_ n1_ n2_ n3_ n4_ n5_
              clear hb ho31
              refine hK.out _ _ ((blk_cell BK226.out 0).trans rfl) (fun hHeld => ?_)
              clear hK K
              refine norm_ (a' := ?_) ?_ ?_
              rotate_left
              ·
               show Act.put _ (some 50) _ = _
               simp only [Act.put, List.setIfInBounds_toArray, List.set_cons_zero, List.set_cons_succ, i64_w, i32_w]
               rfl
              refine one_ (i := 2) (N := some 46) #[true, true, true, true, false, true, true, false, false, false, false] rfl rfl (one_of HT_.out (by kernel_rfl)) (by decide) (fun K hK => ?_)
              refine Kd.R_lit_step (Kd.int .i64) _ 3 ?hg (N := 46) ?hd (xs := ([] : List Int)) (inner := []) (ok := fun _ => True) (okp := fun _ => True) ?hr ?hp (fun _ hk => hk) trivial (Below.refl _ _) (Nat.le_refl _) (by simp) ?_; (case hd => rfl); (case hg => rfl); (case hr => first | (go_simp; done) | (go_simp; rfl)); (case hp => exact (Reps.none _ _))
              intro v234 w32 ho33 hb hg_ hnew_
              clear hg_ hnew_
              (first | rw [← Ny233.out] at ho33 | (simp only [Int.reduceToNat] at ho33; rw [← Ny233.out] at ho33))
              have n0_ := Aside0.mk (Kd.V_elder' (by (with_reducible repeat (first | apply Kd.V_alloc | apply Kd.V_drewN | apply Kd.V_drew)); exact HO_1.out) (Kd.R_base ho33) hb)
              have n1_ := Aside0.mk (Kd.N_elder' (by (with_reducible repeat (first | apply Kd.N_alloc | apply Kd.N_drewN | apply Kd.N_drew)); exact HO_5.out) (Kd.R_base ho33) hb)
              have n2_ := Aside0.mk (Kd.R_elder' (by (with_reducible repeat (first | apply Kd.R_alloc | apply Kd.R_drewN | apply Kd.R_drew)); exact HO241.out) (Kd.R_base ho33) hb)
              have n3_ := Aside0.mk (Kd.R_lower (Kd.R_new' (Kd.R_newM (M := fun k_ => (w.heap.size ≤ k_)) ho33 (below_size (by repeat (first | (with_reducible first | exact HB.out | apply below_alloc | apply pw_below_drewN | apply below_drew1 | refine below_set ?_ GE226.out | refine below_set ?_ GE231.out) | exact HB.out))) (fun k_ h_ => h_)) (Kd.R_lt (by (with_reducible repeat (first | apply Kd.R_alloc | apply Kd.R_drewN | apply Kd.R_drew)); exact HO241.out))) (below_size (by repeat (first | (with_reducible first | exact HB.out | apply below_alloc | apply pw_below_drewN | apply below_drew1 | refine below_set ?_ GE226.out | refine below_set ?_ GE231.out) | exact HB.out))))
              have n4_ := Aside0.mk (blk_below (g := gb226) (o := .cells #[.slice (some ad230) l0_0.length c0_0] 24 (0, 0)) (by (with_reducible repeat (first | refine blk_drewN ?_ _ | refine blk_drew ?_ | refine blk_alloc ?_ _)); exact BK226.out) hb)
              have n5_ := Aside0.mk (blk_below (g := gb231) (o := .cells #[.int .i64 ((rd_T54 l0_0 (l1.length : Int)).f0), .int .i64 ((rd_T54 l0_0 (l1.length : Int)).f1)] 54 (0, 0)) (by (with_reducible repeat (first | refine blk_drewN ?_ _ | refine blk_drew ?_ | refine blk_alloc ?_ _)); exact BK231.out) hb)
              have n6_ := Aside0.mk (below_step (by repeat (first | (with_reducible first | exact HB.out | apply below_alloc | apply pw_below_drewN | apply below_drew1 | refine below_set ?_ GE226.out | refine below_set ?_ GE231.out) | exact HB.out)) hb)
              clear HO_1
              clear HO_5
              clear HO241
              clear BK226
              clear BK231
              clear HB
              have HO_1 := n0_
              have HO_5 := n1_
              have HO241 := n2_
              have HO235 := n3_
              have BK226 := n4_
              have BK231 := n5_
              have HB := n6_
              clear n0_ n1_ n2_ n3_ n4_ n5_ n6_
              clear hb ho33
              refine hK.out _ _ ((blk_cell BK226.out 0).trans rfl) (fun hHeld => ?_)
              clear hK K
              refine norm_ (a' := ?_) ?_ ?_
              rotate_left
              ·
               show Act.put _ (some 46) _ = _
               simp only [Act.put, List.setIfInBounds_toArray, List.set_cons_zero, List.set_cons_succ, i64_w, i32_w]
               rfl
              refine one_ (i := 4) (N := some 48) #[true, true, true, true, true, true, true, false, false, false, false] rfl rfl (one_of HT_.out (by kernel_rfl)) (by decide) (fun K hK => ?_)
              refine Kd.R_append_rows_step (Kd.int .i64) (w0 := w) w.heap.size (by rfl) (.tmp 46) (.tmp 47) 31 3 (.int .i64 0) 8 rfl Try.underlying31 info3 rfl (by decide) (by omega) v234 y233 l1 _ _ _ (fun k_ => (w.heap.size ≤ k_) ∧ some k_ ≠ (v240 : Value).ownBlock) (fun _ => False) rfl rfl ?aO ?aR (fun _ _ h => h) (fun _ h => h.elim) ?aF ?aB ?aS ?aL ?_
              (case aR => repeat (first | exact (Kd.V_reads' HO_1.out).2.2 | (with_reducible refine Kd.C_alloc ?_ _) | (with_reducible refine Kd.C_drewN ?_ _) | (with_reducible refine Kd.C_drew ?_)))
              (case aB => exact (by repeat (first | (with_reducible first | exact HB.out | apply below_alloc | apply pw_below_drewN | apply below_drew1 | refine below_set ?_ GE226.out | refine below_set ?_ GE231.out) | exact HB.out)))
              (case aF => exact (fun k_ hk => ⟨(Nat.le_trans (below_size (by repeat (first | (with_reducible first | exact HB.out | apply below_alloc | apply pw_below_drewN | apply below_drew1 | refine below_set ?_ GE226.out | refine below_set ?_ GE231.out) | exact HB.out))) hk), Kd.fresh' (Kd.R_lt (by (with_reducible repeat (first | apply Kd.R_alloc | apply Kd.R_drewN | apply Kd.R_drew)); exact HO241.out)) k_ hk⟩))
              (case aO => exact (by (with_reducible repeat (first | apply Kd.R_alloc | apply Kd.R_drewN | apply Kd.R_drew)); exact Kd.R_mono HO235.out (fun _ hk => ⟨hk.1.1, hk.2⟩)))
              (case aS => exact (below_size (by repeat (first | (with_reducible first | exact HB.out | apply below_alloc | apply pw_below_drewN | apply below_drew1 | refine below_set ?_ GE226.out | refine below_set ?_ GE231.out) | exact HB.out))))
              (case aL => have := LMc22.out; omega)
              intro v237 w34 ho hb hg hat
              rw [← Ny236.out] at ho
              have n0_ := Aside0.mk (Kd.V_afterv (ok := (fun k_ => (P1_ k_ ∨ w.heap.size ≤ k_) ∧ some k_ ≠ (.slice Ao28 x5_2.length co28 : Value).ownBlock ∧ some k_ ≠ (v240 : Value).ownBlock ∧ k_ ≠ gb226 ∧ k_ ≠ gb231)) (by (with_reducible repeat (first | apply Kd.V_alloc | apply Kd.V_drewN | apply Kd.V_drew)); exact Kd.V_mono HO_1.out (fun _ hk => ⟨⟨hk.1.1.1, ⟨hk.1.1.2.1, ⟨hk.1.2, ⟨hk.1.1.2.2.1, hk.1.1.2.2.2⟩⟩⟩⟩, hk.2⟩)) hg hat)
              have n1_ := Aside0.mk (Kd.N_afterv (ok := (fun k_ => (P1_ k_ ∨ w.heap.size ≤ k_) ∧ some k_ ≠ (v240 : Value).ownBlock ∧ k_ ≠ gb226 ∧ k_ ≠ gb231)) (by (with_reducible repeat (first | apply Kd.N_alloc | apply Kd.N_drewN | apply Kd.N_drew)); exact Kd.N_mono HO_5.out (fun _ hk => ⟨⟨hk.1.1.1, ⟨hk.1.2, ⟨hk.1.1.2.1, hk.1.1.2.2⟩⟩⟩, hk.2⟩)) hg hat)
              have n2_ := Aside0.mk (blk_grown (g := gb226) (o := .cells #[.slice (some ad230) l0_0.length c0_0] 24 (0, 0)) (by (with_reducible repeat (first | refine blk_drewN ?_ _ | refine blk_drew ?_ | refine blk_alloc ?_ _)); exact BK226.out) hg (Kd.R_ne HO235.out BK226.out (by decide)))
              have n3_ := Aside0.mk (blk_grown (g := gb231) (o := .cells #[.int .i64 ((rd_T54 l0_0 (l1.length : Int)).f0), .int .i64 ((rd_T54 l0_0 (l1.length : Int)).f1)] 54 (0, 0)) (by (with_reducible repeat (first | refine blk_drewN ?_ _ | refine blk_drew ?_ | refine blk_alloc ?_ _)); exact BK231.out) hg (Kd.R_ne HO235.out BK231.out (by decide)))
              have n4_ := Aside0.mk (Kd.R_after (ok := (fun k_ => (w.heap.size ≤ k_))) (by (with_reducible repeat (first | apply Kd.R_alloc | apply Kd.R_drewN | apply Kd.R_drew)); exact Kd.R_mono HO241.out (fun _ hk => ⟨hk.1.1, hk.2⟩)) hg hat)
              have n5_ := Aside0.mk (hb)
              have n6_ := Aside0.mk (ho)
              clear HO_1
              clear HO_5
              clear BK226
              clear BK231
              clear HO241
              clear HB
              clear HO235
              have HO_1 := n0_
              have HO_5 := n1_
              have BK226 := n2_
              have BK231 := n3_
              have HO241 := n4_
              have HB := n5_
              have HO238 := n6_
              clear n0_ n1_ n2_ n3_ n4_ n5_ n6_
              clear ho hb hg hat
              refine hK.out _ _ ((blk_cell BK226.out 0).trans rfl) (fun hHeld => ?_)
              clear hK K
              refine norm_ (a' := ?_) ?_ ?_
              rotate_left
              ·
               show Act.put _ (some 48) _ = _
               simp only [Act.put, List.setIfInBounds_toArray, List.set_cons_zero, List.set_cons_succ, i64_w, i32_w]
               rfl
              exact norm_ (by simp only [putAll, Act.put, List.setIfInBounds_toArray, List.set_cons_zero, List.set_cons_succ]) (hCont (v234, v237, v240) _ ⟨hHeld, (by (with_reducible repeat (first | apply Kd.R_alloc | apply Kd.R_drewN | apply Kd.R_drew)); exact HO238.out), (by (with_reducible repeat (first | apply Kd.R_alloc | apply Kd.R_drewN | apply Kd.R_drew)); exact HO241.out), (by (with_reducible repeat (first | apply Kd.V_alloc | apply Kd.V_drewN | apply Kd.V_drew)); exact Kd.V_mono HO_1.out (fun _ hk => ⟨hk.1.1, ⟨hk.2, ⟨hk.1.2.2.1, ⟨hk.1.2.1, ⟨hk.1.2.2.2.1, hk.1.2.2.2.2⟩⟩⟩⟩⟩)), (by (with_reducible repeat (first | apply Kd.N_alloc | apply Kd.N_drewN | apply Kd.N_drew)); exact Kd.N_mono HO_5.out (fun _ hk => ⟨hk.1.1, ⟨hk.2, ⟨hk.1.2.1, ⟨hk.1.2.2.1, hk.1.2.2.2⟩⟩⟩⟩)), (by (with_reducible repeat (first | refine blk_drewN ?_ _ | refine blk_drew ?_ | refine blk_alloc ?_ _)); exact BK226.out), (by (with_reducible repeat (first | refine blk_drewN ?_ _ | refine blk_drew ?_ | refine blk_alloc ?_ _)); exact BK231.out), (by repeat (first | (with_reducible first | exact HB.out | apply below_alloc | apply pw_below_drewN | apply below_drew1 | refine below_set ?_ GE226.out | refine below_set ?_ GE231.out) | exact HB.out))⟩)
            rintro ⟨v234, v237, v240⟩ w35 ⟨hS_, h0_, h1_, h2_, h3_, h4_, h5_, h6_⟩
            have n0_ : Aside0 (Kd.R (Kd.int .i64) 3 w35 w.heap.size (fun k_ => (w.heap.size ≤ k_) ∧ some k_ ≠ (v240 : Value).ownBlock) v237 y236) := ⟨h0_⟩
            have n1_ : Aside0 (Kd.R (Kd.int .i64) 3 w35 w.heap.size (fun k_ => (w.heap.size ≤ k_) ∧ some k_ ≠ (v237 : Value).ownBlock) v240 y239) := ⟨h1_⟩
            have n2_ : Aside0 (Kd.V (Kd.int .i64) 3 w35 w.heap.size (fun k_ => (P1_ k_ ∨ w.heap.size ≤ k_) ∧ some k_ ≠ (v237 : Value).ownBlock ∧ some k_ ≠ (v240 : Value).ownBlock ∧ some k_ ≠ (.slice Ao28 x5_2.length co28 : Value).ownBlock ∧ k_ ≠ gb226 ∧ k_ ≠ gb231) (.slice A1 l1.length c1) l1) := ⟨h2_⟩
            have n3_ : Aside0 (Kd.N (Kd.slice 3 (Kd.int .i64)) 31 w35 w.heap.size (fun k_ => (P1_ k_ ∨ w.heap.size ≤ k_) ∧ some k_ ≠ (v237 : Value).ownBlock ∧ some k_ ≠ (v240 : Value).ownBlock ∧ k_ ≠ gb226 ∧ k_ ≠ gb231) (.slice Ao28 x5_2.length co28) x5_2) := ⟨h3_⟩
            have n4_ : Aside0 (w35.heap[gb226]? = some (.cells #[.slice (some ad230) l0_0.length c0_0] 24 (0, 0))) := ⟨h4_⟩
            have n5_ : Aside0 (w35.heap[gb231]? = some (.cells #[.int .i64 ((rd_T54 l0_0 (l1.length : Int)).f0), .int .i64 ((rd_T54 l0_0 (l1.length : Int)).f1)] 54 (0, 0))) := ⟨h5_⟩
            have n6_ : Aside0 (Below w.heap.size w w35) := ⟨h6_⟩
            clear HO_1
            clear HO_5
            clear BK226
            clear BK231
            clear HB
            clear h0_ h1_ h2_ h3_ h4_ h5_ h6_
            have HO238 := n0_
            have HO241 := n1_
            have HO_1 := n2_
            have HO_5 := n3_
            have BK226 := n4_
            have BK231 := n5_
            have HB := n6_
            clear n0_ n1_ n2_ n3_ n4_ n5_ n6_
            have hHeld : w35.cell? ⟨gb226, 0, none⟩ = some (.slice (some ad230) l0_0.length c0_0) := hS_
            obtain ⟨Ao37, co37, eo37⟩ := Kd.R_slice HO241.out
            (first | subst eo37 | (injection eo37 with f1_ f2_ f3_; have f4_ := f1_.symm; have f5_ := f3_.symm; clear f1_ f2_ f3_; subst f4_; subst f5_))
            refine norm_ (a' := ?_) ?_ ?_
            rotate_left
            ·
             simp only [putAll, Act.put, List.setIfInBounds_toArray, List.set_cons_zero, List.set_cons_succ]
             rfl
            refine one_ (i := 7) (N := some 51) #[true, true, true, true, true, true, true, true, false, false, false] rfl rfl (one_of HT_.out (by kernel_rfl)) (by decide) (fun K hK => ?_)
            refine Kd.R_append_rows_step (Kd.int .i64) (w0 := w) w.heap.size (by rfl) (.tmp 48) (.tmp 50) 31 3 (.int .i64 0) 8 rfl Try.underlying31 info3 rfl (by decide) (by omega) v237 y236 y239 _ _ _ (fun k_ => (w.heap.size ≤ k_) ∧ some k_ ≠ (.slice Ao37 y239.length co37 : Value).ownBlock) (fun _ => False) rfl rfl ?aO ?aR (fun _ _ h => h) (fun _ h => h.elim) ?aF ?aB ?aS ?aL ?_
            (case aR => repeat (first | exact (Kd.R_reads' HO241.out).2.2 | (with_reducible refine Kd.C_alloc ?_ _) | (with_reducible refine Kd.C_drewN ?_ _) | (with_reducible refine Kd.C_drew ?_)))
            (case aB => exact (by repeat (first | (with_reducible first | exact HB.out | apply below_alloc | apply pw_below_drewN | apply below_drew1 | refine below_set ?_ GE226.out | refine below_set ?_ GE231.out) | exact HB.out)))
            (case aF => exact (fun k_ hk => ⟨(Nat.le_trans (below_size (by repeat (first | (with_reducible first | exact HB.out | apply below_alloc | apply pw_below_drewN | apply below_drew1 | refine below_set ?_ GE226.out | refine below_set ?_ GE231.out) | exact HB.out))) hk), Kd.fresh' (Kd.R_lt (by (with_reducible repeat (first | apply Kd.R_alloc | apply Kd.R_drewN | apply Kd.R_drew)); exact HO241.out)) k_ hk⟩))
            (case aO => exact (by (with_reducible repeat (first | apply Kd.R_alloc | apply Kd.R_drewN | apply Kd.R_drew)); exact HO238.out))
            (case aS => exact (below_size (by repeat (first | (with_reducible first | exact HB.out | apply below_alloc | apply pw_below_drewN | apply below_drew1 | refine below_set ?_ GE226.out | refine below_set ?_ GE231.out) | exact HB.out))))
            (case aL => have := LMc23.out; omega)
            intro v243 w36 ho hb hg hat
            rw [← Ny242.out] at ho
            have n0_ := Aside0.mk (Kd.V_afterv (ok := (fun k_ => (P1_ k_ ∨ w.heap.size ≤ k_) ∧ some k_ ≠ (.slice Ao28 x5_2.length co28 : Value).ownBlock ∧ some k_ ≠ (.slice Ao37 y239.length co37 : Value).ownBlock ∧ k_ ≠ gb226 ∧ k_ ≠ gb231)) (by (with_reducible repeat (first | apply Kd.V_alloc | apply Kd.V_drewN | apply Kd.V_drew)); exact Kd.V_mono HO_1.out (fun _ hk => ⟨⟨hk.1, ⟨hk.2.2.2.1, ⟨hk.2.2.1, ⟨hk.2.2.2.2.1, hk.2.2.2.2.2⟩⟩⟩⟩, hk.2.1⟩)) hg hat)
            have n1_ := Aside0.mk (Kd.N_afterv (ok := (fun k_ => (P1_ k_ ∨ w.heap.size ≤ k_) ∧ some k_ ≠ (.slice Ao37 y239.length co37 : Value).ownBlock ∧ k_ ≠ gb226 ∧ k_ ≠ gb231)) (by (with_reducible repeat (first | apply Kd.N_alloc | apply Kd.N_drewN | apply Kd.N_drew)); exact Kd.N_mono HO_5.out (fun _ hk => ⟨⟨hk.1, ⟨hk.2.2.1, ⟨hk.2.2.2.1, hk.2.2.2.2⟩⟩⟩, hk.2.1⟩)) hg hat)
            have n2_ := Aside0.mk (blk_grown (g := gb226) (o := .cells #[.slice (some ad230) l0_0.length c0_0] 24 (0, 0)) (by (with_reducible repeat (first | refine blk_drewN ?_ _ | refine blk_drew ?_ | refine blk_alloc ?_ _)); exact BK226.out) hg (Kd.R_ne HO238.out BK226.out (by decide)))
            have n3_ := Aside0.mk (blk_grown (g := gb231) (o := .cells #[.int .i64 ((rd_T54 l0_0 (l1.length : Int)).f0), .int .i64 ((rd_T54 l0_0 (l1.length : Int)).f1)] 54 (0, 0)) (by (with_reducible repeat (first | refine blk_drewN ?_ _ | refine blk_drew ?_ | refine blk_alloc ?_ _)); exact BK231.out) hg (Kd.R_ne HO238.out BK231.out (by decide)))
            have n4_ := Aside0.mk (Kd.R_after (ok := (fun k_ => (w.heap.size ≤ k_))) (by (with_reducible repeat (first | apply Kd.R_alloc | apply Kd.R_drewN | apply Kd.R_drew)); exact HO241.out) hg hat)
            have n5_ := Aside0.mk (hb)
            have n6_ := Aside0.mk (ho)
            clear HO_1
            clear HO_5
            clear BK226
            clear BK231
            clear HO241
            clear HB
            clear HO238
            have HO_1 := n0_
            have HO_5 := n1_
            have BK226 := n2_
            have BK231 := n3_
            have HO241 := n4_
            have HB := n5_
            have HO244 := n6_
            clear n0_ n1_ n2_ n3_ n4_ n5_ n6_
            clear ho hb hg hat
            obtain ⟨Ao38, co38, eo38⟩ := Kd.R_slice HO244.out
            (first | subst eo38 | (injection eo38 with f1_ f2_ f3_; have f4_ := f1_.symm; have f5_ := f3_.symm; clear f1_ f2_ f3_; subst f4_; subst f5_))
            refine hK.out _ _ ((blk_cell BK226.out 0).trans rfl) (fun hHeld => ?_)
            clear hK K
            refine norm_ (a' := ?_) ?_ ?_
            rotate_left
            ·
             show Act.put _ (some 51) _ = _
             simp only [Act.put, List.setIfInBounds_toArray, List.set_cons_zero, List.set_cons_succ, i64_w, i32_w]
             rfl
            refine one_ (i := 8) (N := some 52) #[true, true, true, true, true, true, true, true, true, false, false] rfl rfl (one_of HT_.out (by kernel_rfl)) (by decide) (fun K hK => ?_)
            refine goes_ Try.func50 (by kernel_rfl) rfl #[.agg #[.slice (some ad230) l0_0.length c0_0], .slice Ao38 y242.length co38] (by rfl) rfl rfl (by (try simp only [List.map_toArray, List.map_cons, List.map_nil]); first | done | rfl | (simp only [List.length_drop, List.length_take]; rfl)) ?_
            with_reducible refine (ih k2 (by have := HJ9.out; have := HK2.out; omega) _ _ l0_0 (fun k_ => some k_ = (.slice Ao38 y242.length co38 : Value).ownBlock) _ _ y242 t245 _ ?side1 ?side2 ?side3 A24.out).mono ?_
            (case side1 => repeat (first | exact (Kd.C_below HR0_0.out HB.out) | (with_reducible refine Kd.C_alloc ?_ _) | (with_reducible refine Kd.C_drewN ?_ _) | (with_reducible refine Kd.C_drew ?_)))
            (case side2 => exact HC0_0.out)
            (case side3 => exact Kd.R_V (Kd.R_tight rfl (Kd.R_types (Kd.R_types (Kd.R_apart' (HO244.out) (Kd.N_typed HO_5.out) (by decide)) BK226.out (by decide)) BK231.out (by decide))))
            rintro e w39 ⟨v246, rfl, ho0, hb⟩
            refine ⟨_, rfl, ?_⟩
            have n0_ := Aside0.mk (Kd.V_elder' (by (with_reducible repeat (first | apply Kd.V_alloc | apply Kd.V_drewN | apply Kd.V_drew)); exact HO_1.out) (Kd.N_base ho0) hb)
            have n1_ := Aside0.mk (Kd.N_elder' (by (with_reducible repeat (first | apply Kd.N_alloc | apply Kd.N_drewN | apply Kd.N_drew)); exact HO_5.out) (Kd.N_base ho0) hb)
            have n2_ := Aside0.mk (Kd.R_below (by (with_reducible repeat (first | apply Kd.R_alloc | apply Kd.R_drewN | apply Kd.R_drew)); exact HO241.out) hb)
            have n3_ := Aside0.mk (Kd.R_below (by (with_reducible repeat (first | apply Kd.R_alloc | apply Kd.R_drewN | apply Kd.R_drew)); exact HO244.out) hb)
            have n4_ := Aside0.mk (Kd.N_lower (Kd.N_mono (ok' := fun k_ => (P1_ k_ ∨ w.heap.size ≤ k_) ∧ some k_ ≠ (.slice Ao28 x5_2.length co28 : Value).ownBlock ∧ some k_ ≠ (.slice Ao37 y239.length co37 : Value).ownBlock ∧ k_ ≠ gb226 ∧ k_ ≠ gb231) ho0 (fun k_ hk_ => ⟨Or.elim hk_ (fun hs_ => (.inr (((Kd.R_types (Kd.R_types (Kd.R_apart' (HO244.out) (Kd.N_typed HO_5.out) (by decide)) BK226.out (by decide)) BK231.out (by decide)).1 k_ hs_.symm).1.1.1.1))) (fun hn_ => (.inr (Nat.le_trans (below_size (by repeat (first | (with_reducible first | exact HB.out | apply below_alloc | apply pw_below_drewN | apply below_drew1 | refine below_set ?_ GE226.out | refine below_set ?_ GE231.out) | exact HB.out))) hn_))), Or.elim hk_ (fun hs_ => ((Kd.R_types (Kd.R_types (Kd.R_apart' (HO244.out) (Kd.N_typed HO_5.out) (by decide)) BK226.out (by decide)) BK231.out (by decide)).1 k_ hs_.symm).1.1.2) (fun hn_ => (Kd.fresh' (Kd.N_lt (by (with_reducible repeat (first | apply Kd.N_alloc | apply Kd.N_drewN | apply Kd.N_drew)); exact HO_5.out)) k_ hn_)), Or.elim hk_ (fun hs_ => ((Kd.R_types (Kd.R_types (Kd.R_apart' (HO244.out) (Kd.N_typed HO_5.out) (by decide)) BK226.out (by decide)) BK231.out (by decide)).1 k_ hs_.symm).1.1.1.2) (fun hn_ => (Kd.fresh' (Kd.R_lt (by (with_reducible repeat (first | apply Kd.R_alloc | apply Kd.R_drewN | apply Kd.R_drew)); exact HO241.out)) k_ hn_)), Or.elim hk_ (fun hs_ => ((Kd.R_types (Kd.R_types (Kd.R_apart' (HO244.out) (Kd.N_typed HO_5.out) (by decide)) BK226.out (by decide)) BK231.out (by decide)).1 k_ hs_.symm).1.2) (fun hn_ => (Kd.freshB (g := gb226) (o := .cells #[.slice (some ad230) l0_0.length c0_0] 24 (0, 0)) (by (with_reducible repeat (first | refine blk_drewN ?_ _ | refine blk_drew ?_ | refine blk_alloc ?_ _)); exact BK226.out) k_ hn_)), Or.elim hk_ (fun hs_ => ((Kd.R_types (Kd.R_types (Kd.R_apart' (HO244.out) (Kd.N_typed HO_5.out) (by decide)) BK226.out (by decide)) BK231.out (by decide)).1 k_ hs_.symm).2) (fun hn_ => (Kd.freshB (g := gb231) (o := .cells #[.int .i64 ((rd_T54 l0_0 (l1.length : Int)).f0), .int .i64 ((rd_T54 l0_0 (l1.length : Int)).f1)] 54 (0, 0)) (by (with_reducible repeat (first | refine blk_drewN ?_ _ | refine blk_drew ?_ | refine blk_alloc ?_ _)); exact BK231.out) k_ hn_))⟩)) (below_size (by repeat (first | (with_reducible first | exact HB.out | apply below_alloc | apply pw_below_drewN | apply below_drew1 | refine below_set ?_ GE226.out | refine below_set ?_ GE231.out) | exact HB.out))))
            have n5_ := Aside0.mk (blk_below (g := gb226) (o := .cells #[.slice (some ad230) l0_0.length c0_0] 24 (0, 0)) (by (with_reducible repeat (first | refine blk_drewN ?_ _ | refine blk_drew ?_ | refine blk_alloc ?_ _)); exact BK226.out) hb)
            have n6_ := Aside0.mk (blk_below (g := gb231) (o := .cells #[.int .i64 ((rd_T54 l0_0 (l1.length : Int)).f0), .int .i64 ((rd_T54 l0_0 (l1.length : Int)).f1)] 54 (0, 0)) (by (with_reducible repeat (first | refine blk_drewN ?_ _ | refine blk_drew ?_ | refine blk_alloc ?_ _)); exact BK231.out) hb)
            have n7_ := Aside0.mk (below_step (by repeat (first | (with_reducible first | exact HB.out | apply below_alloc | apply pw_below_drewN | apply below_drew1 | refine below_set ?_ GE226.out | refine below_set ?_ GE231.out) | exact HB.out)) hb)
            clear HO_1
            clear HO_5
            clear HO241
            clear HO244
            clear BK226
            clear BK231
            clear HB
            have HO_1 := n0_
            have HO_5 := n1_
            have HO241 := n2_
            have HO244 := n3_
            have HO247 := n4_
            have BK226 := n5_
            have BK231 := n6_
            have HB := n7_
            clear n0_ n1_ n2_ n3_ n4_ n5_ n6_ n7_
            (try clear hb)
            (try clear hb2)
            (try clear hk)
            (try clear hi)
            (try clear ho0)
            obtain ⟨Ao41, co41, eo41⟩ := Kd.N_slice HO247.out
            (first | subst eo41 | (injection eo41 with f1_ f2_ f3_; have f4_ := f1_.symm; have f5_ := f3_.symm; clear f1_ f2_ f3_; subst f4_; subst f5_))
            refine hK.out _ _ ((blk_cell BK226.out 0).trans rfl) (fun hHeld => ?_)
            clear hK K
            refine norm_ (a' := ?_) ?_ ?_
            rotate_left
            ·
             show Act.put _ (some 52) _ = _
             simp only [Act.put, List.setIfInBounds_toArray, List.set_cons_zero, List.set_cons_succ, i64_w, i32_w]
             rfl
            refine one_ (i := 9) (N := some 53) #[true, true, true, true, true, true, true, true, true, true, false] rfl rfl (one_of HT_.out (by kernel_rfl)) (by decide) (fun K hK => ?_)
            refine Kd.N_append_rows_step (Kd.slice 3 (Kd.int .i64)) (w0 := w) w.heap.size (by rfl) (.tmp 44) (.tmp 52) 72 31 (.slice none 0 0) 24 rfl Try.underlying72 info31 rfl (by decide) (by omega) (.slice Ao28 x5_2.length co28) x5_2 t245 _ _ _ (fun k_ => (P1_ k_ ∨ w.heap.size ≤ k_) ∧ some k_ ≠ (.slice Ao37 y239.length co37 : Value).ownBlock ∧ k_ ≠ gb226 ∧ k_ ≠ gb231) (fun k_ => ((fun k_ => (P1_ k_ ∨ w.heap.size ≤ k_) ∧ some k_ ≠ (.slice Ao37 y239.length co37 : Value).ownBlock ∧ k_ ≠ gb226 ∧ k_ ≠ gb231)) k_ ∧ some k_ ≠ (.slice Ao28 x5_2.length co28 : Value).ownBlock) rfl rfl ?aO ?aR (fun _ hk => hk) ?aF ?aB ?aS ?aL ?_
            (case aR => exact (by skip; exact Kd.N_F (Kd.N_mono (ok' := (fun k_ => ((fun k_ => (P1_ k_ ∨ w.heap.size ≤ k_) ∧ some k_ ≠ (.slice Ao37 y239.length co37 : Value).ownBlock ∧ k_ ≠ gb226 ∧ k_ ≠ gb231)) k_ ∧ some k_ ≠ (.slice Ao28 x5_2.length co28 : Value).ownBlock)) (HO247.out) (fun k_ hk => ⟨⟨hk.1, ⟨hk.2.2.1, ⟨hk.2.2.2.1, hk.2.2.2.2⟩⟩⟩, hk.2.1⟩))))
            (case aB => exact (by repeat (first | (with_reducible first | exact HB.out | apply below_alloc | apply pw_below_drewN | apply below_drew1 | refine below_set ?_ GE226.out | refine below_set ?_ GE231.out) | exact HB.out)))
            (case aF => exact (fun k_ hk => ⟨(.inr (Nat.le_trans (below_size (by repeat (first | (with_reducible first | exact HB.out | apply below_alloc | apply pw_below_drewN | apply below_drew1 | refine below_set ?_ GE226.out | refine below_set ?_ GE231.out) | exact HB.out))) hk)), Kd.fresh' (Kd.R_lt (by (with_reducible repeat (first | apply Kd.R_alloc | apply Kd.R_drewN | apply Kd.R_drew)); exact HO241.out)) k_ hk, Kd.freshB (g := gb226) (o := .cells #[.slice (some ad230) l0_0.length c0_0] 24 (0, 0)) (by (with_reducible repeat (first | refine blk_drewN ?_ _ | refine blk_drew ?_ | refine blk_alloc ?_ _)); exact BK226.out) k_ hk, Kd.freshB (g := gb231) (o := .cells #[.int .i64 ((rd_T54 l0_0 (l1.length : Int)).f0), .int .i64 ((rd_T54 l0_0 (l1.length : Int)).f1)] 54 (0, 0)) (by (with_reducible repeat (first | refine blk_drewN ?_ _ | refine blk_drew ?_ | refine blk_alloc ?_ _)); exact BK231.out) k_ hk⟩))
            (case aO => exact (by (with_reducible repeat (first | apply Kd.N_alloc | apply Kd.N_drewN | apply Kd.N_drew)); exact Kd.N_mono HO_5.out (fun _ hk => ⟨hk.1.1.1, ⟨hk.1.1.2.1, ⟨hk.1.1.2.2.1, hk.1.1.2.2.2⟩⟩⟩)))
            (case aS => exact (below_size (by repeat (first | (with_reducible first | exact HB.out | apply below_alloc | apply pw_below_drewN | apply below_drew1 | refine below_set ?_ GE226.out | refine below_set ?_ GE231.out) | exact HB.out))))
            (case aL => have := LMc25.out; omega)
            intro v249 w40 ho hb hg hat
            rw [← Ny248.out] at ho
            have n0_ := Aside0.mk (Kd.V_afterv (ok := (fun k_ => (P1_ k_ ∨ w.heap.size ≤ k_) ∧ some k_ ≠ (.slice Ao37 y239.length co37 : Value).ownBlock ∧ some k_ ≠ (.slice Ao38 y242.length co38 : Value).ownBlock ∧ some k_ ≠ (.slice Ao41 t245.length co41 : Value).ownBlock ∧ k_ ≠ gb226 ∧ k_ ≠ gb231)) (by (with_reducible repeat (first | apply Kd.V_alloc | apply Kd.V_drewN | apply Kd.V_drew)); exact Kd.V_mono HO_1.out (fun _ hk => ⟨⟨hk.1.1.1, ⟨hk.1.1.2.2.1, ⟨hk.1.2, ⟨hk.2, ⟨hk.1.1.2.2.2.1, hk.1.1.2.2.2.2⟩⟩⟩⟩⟩, hk.1.1.2.1⟩)) hg hat)
            have n1_ := Aside0.mk (blk_grown (g := gb226) (o := .cells #[.slice (some ad230) l0_0.length c0_0] 24 (0, 0)) (by (with_reducible repeat (first | refine blk_drewN ?_ _ | refine blk_drew ?_ | refine blk_alloc ?_ _)); exact BK226.out) hg (Kd.N_ne HO_5.out BK226.out (by decide)))
            have n2_ := Aside0.mk (blk_grown (g := gb231) (o := .cells #[.int .i64 ((rd_T54 l0_0 (l1.length : Int)).f0), .int .i64 ((rd_T54 l0_0 (l1.length : Int)).f1)] 54 (0, 0)) (by (with_reducible repeat (first | refine blk_drewN ?_ _ | refine blk_drew ?_ | refine blk_alloc ?_ _)); exact BK231.out) hg (Kd.N_ne HO_5.out BK231.out (by decide)))
            have n3_ := Aside0.mk (Kd.R_over' (by (with_reducible repeat (first | apply Kd.R_alloc | apply Kd.R_drewN | apply Kd.R_drew)); exact HO241.out) (Kd.N_typed (by (with_reducible repeat (first | apply Kd.N_alloc | apply Kd.N_drewN | apply Kd.N_drew)); exact HO_5.out)) (by decide) hg)
            have n4_ := Aside0.mk (Kd.R_over' (by (with_reducible repeat (first | apply Kd.R_alloc | apply Kd.R_drewN | apply Kd.R_drew)); exact HO244.out) (Kd.N_typed (by (with_reducible repeat (first | apply Kd.N_alloc | apply Kd.N_drewN | apply Kd.N_drew)); exact HO_5.out)) (by decide) hg)
            have n5_ := Aside0.mk (Kd.N_afterv (ok := (fun k_ => (P1_ k_ ∨ w.heap.size ≤ k_) ∧ some k_ ≠ (.slice Ao37 y239.length co37 : Value).ownBlock ∧ k_ ≠ gb226 ∧ k_ ≠ gb231)) (by (with_reducible repeat (first | apply Kd.N_alloc | apply Kd.N_drewN | apply Kd.N_drew)); exact Kd.N_mono HO247.out (fun _ hk => ⟨⟨hk.1, ⟨hk.2.2.1, ⟨hk.2.2.2.1, hk.2.2.2.2⟩⟩⟩, hk.2.1⟩)) hg hat)
            have n6_ := Aside0.mk (hb)
            have n7_ := Aside0.mk (ho)
            clear HO_1
            clear BK226
            clear BK231
            clear HO241
            clear HO244
            clear HO247
            clear HB
            clear HO_5
            have HO_1 := n0_
            have BK226 := n1_
            have BK231 := n2_
            have HO241 := n3_
            have HO244 := n4_
            have HO247 := n5_
            have HB := n6_
            have HO250 := n7_
            clear n0_ n1_ n2_ n3_ n4_ n5_ n6_ n7_
            clear ho hb hg hat
            refine hK.out _ _ ((blk_cell BK226.out 0).trans rfl) (fun hHeld => ?_)
            clear hK K
            refine norm_ (a' := ?_) ?_ ?_
            rotate_left
            ·
             show Act.put _ (some 53) _ = _
             simp only [Act.put, List.setIfInBounds_toArray, List.set_cons_zero, List.set_cons_succ, i64_w, i32_w]
             rfl
            refine pure_ (i := 10) (N := some 5) (v := ?_) (a' := ?_) #[true, true, true, true, true, true, true, true, true, true, true] rfl rfl (any_of HT_.out (by kernel_rfl)) (fun _ _ _ h => h) (Or.inl ⟨by rfl, ?_⟩) ?_ ?_
            rotate_left
            ·
             intro w'
             go_simp
             with_reducible rfl
            rotate_left
            ·
             simp only [Act.put, List.setIfInBounds_toArray, List.set_cons_zero, List.set_cons_succ, i64_w, i32_w]
             rfl
            refine done_ (done_of HT_.out (by kernel_rfl)) ?_
            try go_wp2
            go_roundg k2
            case measure => have := HJ9.out; have := HK2.out; omega
            case rel => exact ⟨(y248), (wrap64 (x9_2 + 1)), (by first | rfl | (simp; done) | (simp [*]; done)), H', ⟨by have := HJ9.out; have := HK2.out; omega⟩, ⟨by (with_reducible repeat (first | apply Kd.V_alloc | apply Kd.V_drewN | apply Kd.V_drew)); exact Kd.V_mono HO_1.out (fun _ hk => ⟨hk.1.1, ⟨hk.2, ⟨hk.1.2.2.2.2.1, hk.1.2.2.2.2.2⟩⟩⟩)⟩, ⟨by (with_reducible repeat (first | apply Kd.N_alloc | apply Kd.N_drewN | apply Kd.N_drew)); exact Kd.N_mono HO250.out (fun _ hk => ⟨hk.1, ⟨hk.2.2.1, hk.2.2.2⟩⟩)⟩, ⟨by (with_reducible repeat (first | refine blk_drewN ?_ _ | refine blk_drew ?_ | refine blk_alloc ?_ _)); exact BK226.out⟩, ⟨by (with_reducible repeat (first | refine blk_drewN ?_ _ | refine blk_drew ?_ | refine blk_alloc ?_ _)); exact BK231.out⟩, ⟨by repeat (first | (with_reducible first | exact HB.out | apply below_alloc | apply pw_below_drewN | apply below_drew1 | refine below_set ?_ GE226.out | refine below_set ?_ GE231.out) | exact HB.out)⟩⟩
           ·
            rw [if_neg c25] at H
            exact absurd H (by simp)
          ·
           rw [if_neg c23] at H
           exact absurd H (by simp)
         ·
          rw [if_neg c22] at H
          exact absurd H (by simp)
        ·
         rw [if_neg c21] at H
         have c21b0 : decide (x9_2 ≤ ((rd_T54 l0_0 (l1.length : Int)).f1)) = false := decide_eq_false c21
         clear c21
         obtain rfl := Option.some.inj H
         have hnb42 := NB231_226.out
         have hnc42 := NB226_231.out
         have hcz43_0 : wr.cell? ⟨gb231, 0, none⟩ = some (.int .i64 ((rd_T54 l0_0 (l1.length : Int)).f0)) := (blk_cell BK231.out 0).trans rfl
         have hcz43_1 : wr.cell? ⟨gb231, 1, none⟩ = some (.int .i64 ((rd_T54 l0_0 (l1.length : Int)).f1)) := (blk_cell BK231.out 1).trans rfl
         have hfz43_0 := blk_frozen BK231.out 0
         have hfz43_1 := blk_frozen BK231.out 1
         go_wp2
         go_ret
         exact ⟨_, by first | rfl | (simp [errW_none, errW_some] <;> rfl) | (simp [*, errW_none, errW_some] <;> rfl), by (with_reducible repeat (first | apply Kd.N_alloc | apply Kd.N_drewN | apply Kd.N_drew)); exact Kd.N_mono HO_5.out (fun _ hk => hk.1), by repeat (first | (with_reducible first | exact HB.out | apply below_alloc | apply pw_below_drewN | apply below_drew1 | refine below_set ?_ GE226.out | refine below_set ?_ GE231.out) | exact HB.out)⟩
   ·
    rw [if_neg c9] at H
    exact absurd H (by simp)
  ·
   rw [if_neg c8] at H
   exact absurd H (by simp)

end Go.Proofs.Ytdagijgoegkphaa.P

namespace Go.Proofs.Ytdagijgoegkphaa.P
open Go.RowKit Go.Proofs.YtdagijgoegkphaaW.PrintWords Go.Proofs.YtdagijgoegkphaaW.PrintLast Go.Proofs.YtdagijgoegkphaaW.PrintMore
attribute [local go_sem] max2_int min2_int max_two min_two max_three min_three max_four min_four   -- for this text's walks alone

/-! ### tensileref05_Allowed: function 39 -/
def tensileref05_Allowed.l0 : Nat → List (S81) → List (List Int) → List (List Int) → Int → Option ((List (List Int)))
 | 0, _, _, _, _ => none
 | k + 1, x1, x5, x6, x7 => if x7 < (x6.length : Int) then (if 0 ≤ x7 then ((tensileref05_Allows.f k x1 (rd_L8 x6 x7)).bind fun t256 => (if t256 = true then (if x5.length < 5864062014805 then (tensileref05_Allowed.l0 k x1 (x5 ++ [rd_L8 x6 x7]) x6 (wrap64 (x7 + 1))) else (none)) else (tensileref05_Allowed.l0 k x1 x5 x6 (wrap64 (x7 + 1))))) else (none)) else (some x5)
def tensileref05_Allowed.f (k : Nat) (l0_0 : List (S54)) (l1 : List (S81)) : Option ((List (List Int))) := (tensileref05_Lists.f k l0_0 ([] : List Int)).bind fun t252 => (tensileref05_Allowed.l0 k l1 ([] : List (List Int)) t252 0)
set_option maxHeartbeats 8000000 in
set_option maxRecDepth 100000 in
theorem tensileref05_Allowed.calls (k : Nat) (A0_0 : Option Addr) (c0_0 : Nat) (l0_0 : List (S54)) (A1 : Option Addr) (c1 : Nat) (l1 : List (S81)) (r : List (List Int)) (w : World) (hr0_0 : Kd.C k54 w A0_0 l0_0.length l0_0) (hc0_0 : l0_0.length ≤ c0_0) (hr1 : Kd.C k81 w A1 l1.length l1) (hc1 : l1.length ≤ c1) (h : tensileref05_Allowed.f k l0_0 l1 = some r) :
  Calls Try.prog 39 #[.agg #[.slice A0_0 l0_0.length c0_0], .slice A1 l1.length c1] w fun e w' => ∃ v0_ : Value, e = .returned (v0_) ∧ Kd.N (Kd.slice 3 (Kd.int .i64)) 31 w' w.heap.size (fun k_ => (w.heap.size ≤ k_)) v0_ r ∧ Below w.heap.size w w' := by
 have hu24 := Try.underlying24
 have HR0_0 := Aside0.mk hr0_0
 have HC0_0 := Aside0.mk hc0_0
 clear hr0_0 hc0_0
 have HR1 := Aside0.mk hr1
 have HC1 := Aside0.mk hc1
 clear hr1 hc1
 have HB := Aside0.mk (Below.refl w.heap.size w)
 have H : ((tensileref05_Lists.f k l0_0 ([] : List Int)).bind fun t252 => (tensileref05_Allowed.l0 k l1 ([] : List (List Int)) t252 0)) = some r := h
 clear h
 replace H := Option.bind_eq_some_iff.mp H
 obtain ⟨t252, A30, H⟩ := H
 replace H : (tensileref05_Allowed.l0 k l1 ([] : List (List Int)) t252 0) = some r := H
 have A3 := Aside0.mk A30
 clear A30
 have H' := Aside0.mk H
 clear H
 go_enter Try.func39, Try.ntmps39
 go_wp2_with (first | ((with_reducible refine gate_dst (N := 2) rfl ?_); refine box_event ?hg (N := 2) ?hd (cs := #[.slice A0_0 l0_0.length c0_0]) (t := 24) ?hr ?_; (case hd => rfl); (case hg => rfl); (case hr => first | (go_simp; done) | (go_simp; rfl)); intro gb251 hg w4 hbox hb; have n0_ := Aside0.mk (below_step (by repeat (first | (with_reducible first | exact HB.out | apply below_alloc | apply pw_below_drewN | apply below_drew1) | exact HB.out)) hb); have n1_ := Aside0.mk (hbox); have n2_ := Aside0.mk ((by rw [hg]; exact (below_size (by repeat (first | (with_reducible first | exact HB.out | apply below_alloc | apply pw_below_drewN | apply below_drew1) | exact HB.out))) : w.heap.size ≤ gb251)); have n3_ := Aside0.mk ((by rw [hg]; exact (below_size (by repeat (first | (with_reducible first | exact HB.out | apply below_alloc | apply pw_below_drewN | apply below_drew1) | exact HB.out))) : w.heap.size ≤ gb251)); clear HB; have HB := n0_; have BK251 := n1_; have GW251 := n2_; have GE251 := n3_; clear n0_ n1_ n2_ n3_; clear hb hbox hg; have hcz5_0 : w4.cell? ⟨gb251, 0, none⟩ = some (.slice A0_0 l0_0.length c0_0) := (blk_cell BK251.out 0).trans rfl; have hfz5_0 := blk_frozen BK251.out 0) | ((with_reducible refine gate_callee (f := 50) rfl ?_); refine goesL_ (some 9) rfl rfl Try.func50 (by kernel_rfl) rfl #[.agg #[.slice A0_0 l0_0.length c0_0], .slice none 0 0] rfl (by (try simp only [List.map_toArray, List.map_cons, List.map_nil]); first | done | rfl | (simp only [List.length_drop, List.length_take]; rfl)) ?_; (refine (tensileref05_Lists.calls k _ _ l0_0 (fun k_ => False) _ _ ([] : List Int) t252 _ ?side1 ?side2 ?side3 A3.out).mono ?_); (case side1 => repeat (first | exact (Kd.C_below HR0_0.out HB.out) | (with_reducible refine Kd.C_alloc ?_ _) | (with_reducible refine Kd.C_drewN ?_ _) | (with_reducible refine Kd.C_drew ?_))); (case side2 => exact HC0_0.out); (case side3 => exact Kd.V_nil _ _ _ _ _); rintro e w6 ⟨v253, rfl, ho0, hb⟩; refine ⟨_, rfl, ?_⟩; have n0_ := Aside0.mk (Kd.N_lower (Kd.N_mono (ok' := fun k_ => (w.heap.size ≤ k_) ∧ k_ ≠ gb251) ho0 (fun k_ hk_ => ⟨Or.elim hk_ (fun hs_ => (hs_).elim) (fun hn_ => (Nat.le_trans (below_size (by repeat (first | (with_reducible first | exact HB.out | apply below_alloc | apply pw_below_drewN | apply below_drew1 | refine below_set ?_ GE251.out) | exact HB.out))) hn_)), Or.elim hk_ (fun hs_ => (hs_).elim) (fun hn_ => (Kd.freshB (g := gb251) (o := .cells #[.slice A0_0 l0_0.length c0_0] 24 (0, 0)) (by (with_reducible repeat (first | refine blk_drewN ?_ _ | refine blk_drew ?_ | refine blk_alloc ?_ _)); exact BK251.out) k_ hn_))⟩)) (below_size (by repeat (first | (with_reducible first | exact HB.out | apply below_alloc | apply pw_below_drewN | apply below_drew1 | refine below_set ?_ GE251.out) | exact HB.out)))); have n1_ := Aside0.mk (blk_below (g := gb251) (o := .cells #[.slice A0_0 l0_0.length c0_0] 24 (0, 0)) (by (with_reducible repeat (first | refine blk_drewN ?_ _ | refine blk_drew ?_ | refine blk_alloc ?_ _)); exact BK251.out) hb); have n2_ := Aside0.mk (below_step (by repeat (first | (with_reducible first | exact HB.out | apply below_alloc | apply pw_below_drewN | apply below_drew1 | refine below_set ?_ GE251.out) | exact HB.out)) hb); clear BK251; clear HB; have HO254 := n0_; have BK251 := n1_; have HB := n2_; clear n0_ n1_ n2_; (try clear hb); (try clear hb2); (try clear hk); (try clear hi); (try clear ho0)))
 go_loopg [5, 7] k (fun kq v5 v7 w' => ∃ (x5_1 : List (List Int)) (x7_1 : Int), v7 = .int .i64 x7_1 ∧ Aside0 (tensileref05_Allowed.l0 kq l1 x5_1 t252 x7_1 = some r) ∧ Aside0 (kq ≤ k) ∧ Aside0 (Kd.N (Kd.slice 3 (Kd.int .i64)) 31 w' w.heap.size (fun k_ => (w.heap.size ≤ k_) ∧ some k_ ≠ (v253 : Value).ownBlock ∧ k_ ≠ gb251) v5 x5_1) ∧ Aside0 (Kd.N (Kd.slice 3 (Kd.int .i64)) 31 w' w.heap.size (fun k_ => (w.heap.size ≤ k_) ∧ some k_ ≠ (v5 : Value).ownBlock ∧ k_ ≠ gb251) v253 t252) ∧ Aside0 (w'.heap[gb251]? = some (.cells #[(.slice A0_0 l0_0.length c0_0)] 24 (0, 0))) ∧ Aside0 (Below w.heap.size w w'))
 case atStart => exact ⟨(([] : List (List Int))), (0), (by first | rfl | (simp; done) | (simp [*]; done)), H', ⟨Nat.le_refl _⟩, ⟨by first | exact Kd.S_nil _ _ _ _ _ | exact Kd.N_nil _ _ _ _ _ | exact Kd.V_nil _ _ _ _ _ | exact Kd.Q_nil _ _ _ _ _ | exact Kd.R_nil _ _ _ _ _⟩, ⟨by (with_reducible repeat (first | apply Kd.N_alloc | apply Kd.N_drewN | apply Kd.N_drew)); exact Kd.N_mono HO254.out (fun _ hk => ⟨hk.1, ⟨(by simp [Value.ownBlock]), hk.2⟩⟩)⟩, ⟨by (with_reducible repeat (first | refine blk_drewN ?_ _ | refine blk_drew ?_ | refine blk_alloc ?_ _)); exact BK251.out⟩, ⟨by repeat (first | (with_reducible first | exact HB.out | apply below_alloc | apply pw_below_drewN | apply below_drew1 | refine below_set ?_ GE251.out) | exact HB.out)⟩⟩
 case round =>
  clear H'
  try clear c1
  try clear p2
  try clear c3
  try clear c5
  try clear hcz5_0
  try clear hfz5_0
  obtain ⟨x5_1, x7_1, rfl, HA, HK1, HO_5, HO_6, BK251, HB⟩ := hrel
  cases gk with
  | zero => exact absurd HA.out (by simp [tensileref05_Allowed.l0])
  | succ k1 =>
   have H := HA.out
   clear HA
   simp only [tensileref05_Allowed.l0] at H
   by_cases c7 : x7_1 < (t252.length : Int)
   ·
    rw [if_pos c7] at H
    have c7b0 : decide (x7_1 < (t252.length : Int)) = true := decide_eq_true c7
    clear c7
    by_cases c8 : 0 ≤ x7_1
    ·
     rw [if_pos c8] at H
     have c8b0 : decide (0 ≤ x7_1) = true := decide_eq_true c8
     clear c8
     replace H := Option.bind_eq_some_iff.mp H
     obtain ⟨t256, A90, H⟩ := H
     replace H : (if t256 = true then (if x5_1.length < 5864062014805 then (tensileref05_Allowed.l0 k1 l1 (x5_1 ++ [rd_L8 t252 x7_1]) t252 (wrap64 (x7_1 + 1))) else (none)) else (tensileref05_Allowed.l0 k1 l1 x5_1 t252 (wrap64 (x7_1 + 1)))) = some r := H
     have A9 := Aside0.mk A90
     clear A90
     by_cases c10 : t256 = true
     ·
      subst c10
      have H1 : (if x5_1.length < 5864062014805 then (tensileref05_Allowed.l0 k1 l1 (x5_1 ++ [rd_L8 t252 x7_1]) t252 (wrap64 (x7_1 + 1))) else (none)) = some r := by rw [if_pos rfl] at H; exact H
      clear H
      have H := H1
      clear H1
      by_cases c11 : x5_1.length < 5864062014805
      ·
       rw [if_pos c11] at H
       have LMc11 := Aside0.mk c11
       clear c11
       obtain ⟨y258, hy258⟩ : ∃ y_ : List (List Int), y_ = (x5_1 ++ [rd_L8 t252 x7_1]) := ⟨_, rfl⟩
       replace H : (tensileref05_Allowed.l0 k1 l1 y258 t252 (wrap64 (x7_1 + 1))) = some r := by first | (rw [hy258]; with_reducible exact H) | (have H2_ := (Option.bind_some _ _).symm.trans H; rw [hy258]; with_reducible exact H2_) | (have H2_ := (Option.bind_some _ _).symm.trans H; with_reducible exact H2_) | with_reducible exact H | (rw [hy258]; exact H) | exact H
       have Ny258 := Aside0.mk hy258
       clear hy258
       have H' := Aside0.mk H
       clear H
       obtain ⟨Ao12, co12, eo12⟩ := Kd.N_slice HO_6.out
       subst eo12
       have p255 : 0 ≤ (x7_1 : Int) := of_decide_eq_true (by first | (with_reducible assumption) | assumption)
       have q255 : x7_1 < (t252.length : Int) := of_decide_eq_true (by first | (with_reducible assumption) | assumption)
       obtain ⟨ad255, A255_0, c255_0, e255, hx255_0, hl255_0, hi255_0⟩ := at_L8 (Kd.N_reads' HO_6.out).2.2 x7_1 p255 q255
       cases e255
       obtain ⟨ce255, hce255, hMe255, hcc255⟩ := Kd.N_get HO_6.out [] x7_1 p255 (by first | exact q255 | exact of_decide_eq_true (by first | (with_reducible assumption) | assumption) | (have e_ := (Kd.N_reads' HO_6.out).1; omega))
       obtain ⟨ua255_0, uc255_0, rfl, ul255_0, ge255_0⟩ := Kd.FK_slice_open hMe255
       have hv255_0 := hcc255 0 _ rfl
       rw [Nat.add_zero, show ((Kd.slice 3 (Kd.int .i64))).sz = 1 from rfl, Nat.mul_one] at hv255_0
       replace hv255_0 := Option.some.inj (hv255_0.symm.trans hx255_0)
       injection hv255_0 with hva_ hvn_ hvc_
       rw [hva_] at ge255_0
       rw [hvc_] at ul255_0
       have HL255_0 := Aside0.mk (show Kd.V (Kd.int .i64) 3 _ w.heap.size _ _ (rd_L8 t252 x7_1) from Kd.V_mk ul255_0 ge255_0)
       clear hva_ hvn_ hvc_ ge255_0 ul255_0
       clear hcc255 hce255
       have HR255_0 := Aside0.mk hi255_0
       have HC255_0 := Aside0.mk hl255_0
       clear hi255_0 hl255_0
       replace p255 := eq_true p255
       replace q255 := eq_true q255
       go_wp2_with (first | ((with_reducible refine gate_callee (f := 47) rfl ?_); refine goesL_ (some 21) rfl rfl Try.func47 (by kernel_rfl) rfl #[.slice A1 l1.length c1, .slice A255_0 (rd_L8 t252 x7_1).length c255_0] rfl (by (try simp only [List.map_toArray, List.map_cons, List.map_nil]); first | done | rfl | (simp only [List.length_drop, List.length_take]; rfl)) ?_; (with_reducible refine (tensileref05_Allows.calls k1 _ _ l1 _ _ (rd_L8 t252 x7_1) true _ ?side1 ?side2 ?side3 ?side4 A9.out).mono ?_); (case side1 => repeat (first | exact (Kd.C_below HR1.out HB.out) | (with_reducible refine Kd.C_alloc ?_ _) | (with_reducible refine Kd.C_drewN ?_ _) | (with_reducible refine Kd.C_drew ?_))); (case side2 => exact HC1.out); (case side3 => repeat (first | exact (by repeat (first | (with_reducible exact HR255_0.out) | (with_reducible refine Kd.C_alloc ?_ _) | (with_reducible refine Kd.C_drewN ?_ _) | (with_reducible refine Kd.C_drew ?_) | exact HR255_0.out)) | (with_reducible refine Kd.C_alloc ?_ _) | (with_reducible refine Kd.C_drewN ?_ _) | (with_reducible refine Kd.C_drew ?_))); (case side4 => exact HC255_0.out); rintro e w13 ⟨rfl, hb⟩; refine ⟨_, rfl, ?_⟩; have n0_ := Aside0.mk (Kd.N_below (by (with_reducible repeat (first | apply Kd.N_alloc | apply Kd.N_drewN | apply Kd.N_drew)); exact HO_5.out) hb); have n1_ := Aside0.mk (Kd.N_below (by (with_reducible repeat (first | apply Kd.N_alloc | apply Kd.N_drewN | apply Kd.N_drew)); exact HO_6.out) hb); have n2_ := Aside0.mk (Kd.V_below (by (with_reducible repeat (first | apply Kd.V_alloc | apply Kd.V_drewN | apply Kd.V_drew)); exact HL255_0.out) hb); have n3_ := Aside0.mk (blk_below (g := gb251) (o := .cells #[.slice A0_0 l0_0.length c0_0] 24 (0, 0)) (by (with_reducible repeat (first | refine blk_drewN ?_ _ | refine blk_drew ?_ | refine blk_alloc ?_ _)); exact BK251.out) hb); have n4_ := Aside0.mk (Kd.C_below (by repeat (first | (with_reducible exact HR255_0.out) | (with_reducible refine Kd.C_alloc ?_ _) | (with_reducible refine Kd.C_drewN ?_ _) | (with_reducible refine Kd.C_drew ?_) | exact HR255_0.out)) hb); have n5_ := Aside0.mk (below_step (by repeat (first | (with_reducible first | exact HB.out | apply below_alloc | apply pw_below_drewN | apply below_drew1 | refine below_set ?_ GE251.out) | exact HB.out)) hb); clear HO_5; clear HO_6; clear HL255_0; clear BK251; clear HR255_0; clear HB; have HO_5 := n0_; have HO_6 := n1_; have HL255_0 := n2_; have BK251 := n3_; have HR255_0 := n4_; have HB := n5_; clear n0_ n1_ n2_ n3_ n4_ n5_; (try clear hb); (try clear hb2); (try clear hk); (try clear hi); have p257 : 0 ≤ (x7_1 : Int) := of_decide_eq_true (by first | (with_reducible assumption) | assumption); have q257 : x7_1 < (t252.length : Int) := of_decide_eq_true (by first | (with_reducible assumption) | assumption); obtain ⟨ad257, A257_0, c257_0, e257, hx257_0, hl257_0, hi257_0⟩ := at_L8 (Kd.N_reads' HO_6.out).2.2 x7_1 p257 q257; obtain rfl : ad255 = ad257 := (by injection e257); obtain ⟨ce257, hce257, hMe257, hcc257⟩ := Kd.N_get HO_6.out [] x7_1 p257 (by first | exact q257 | exact of_decide_eq_true (by first | (with_reducible assumption) | assumption) | (have e_ := (Kd.N_reads' HO_6.out).1; omega)); obtain ⟨ua257_0, uc257_0, rfl, ul257_0, ge257_0⟩ := Kd.FK_slice_open hMe257; have hv257_0 := hcc257 0 _ rfl; rw [Nat.add_zero, show ((Kd.slice 3 (Kd.int .i64))).sz = 1 from rfl, Nat.mul_one] at hv257_0; replace hv257_0 := Option.some.inj (hv257_0.symm.trans hx257_0); injection hv257_0 with hva_ hvn_ hvc_; rw [hva_] at ge257_0; rw [hvc_] at ul257_0; have HL257_0 := Aside0.mk (show Kd.V (Kd.int .i64) 3 _ w.heap.size _ _ (rd_L8 t252 x7_1) from Kd.V_mk ul257_0 ge257_0); clear hva_ hvn_ hvc_ ge257_0 ul257_0; clear hcc257 hce257; have HR257_0 := Aside0.mk hi257_0; have HC257_0 := Aside0.mk hl257_0; clear hi257_0 hl257_0; replace p257 := eq_true p257; replace q257 := eq_true q257) | ((with_reducible refine gate_builtin (b := .append) (xs := #[.tmp 22, .tmp 27]) rfl ?_); at_builtin; refine Kd.N_append (Kd.slice 3 (Kd.int .i64)) (w0 := w) w.heap.size rfl (.tmp 22) (.tmp 27) 72 31 (.slice none 0 0) 24 rfl Try.underlying72 info31 rfl (by decide) (by omega) u5 x5_1 (rd_L8 t252 x7_1) [.slice A257_0 (rd_L8 t252 x7_1).length c257_0] (fun k_ => (w.heap.size ≤ k_) ∧ some k_ ≠ (.slice (some ad255) t252.length co12 : Value).ownBlock ∧ k_ ≠ gb251) (fun k_ => ((fun k_ => (w.heap.size ≤ k_) ∧ some k_ ≠ (.slice (some ad255) t252.length co12 : Value).ownBlock ∧ k_ ≠ gb251)) k_ ∧ some k_ ≠ (u5 : Value).ownBlock) rfl rfl ?aP (fun _ hk => hk) ?aF ?aO ?aB ?aS ?aL ?_; (case aP => exact (Kd.FK_slice_mk (Kd.V_reads' (Kd.V_mono (ok' := (fun k_ => ((fun k_ => (w.heap.size ≤ k_) ∧ some k_ ≠ (.slice (some ad255) t252.length co12 : Value).ownBlock ∧ k_ ≠ gb251)) k_ ∧ some k_ ≠ (u5 : Value).ownBlock)) (HL257_0.out) (fun k_ hk => ⟨⟨hk.1.1, ⟨hk.2, hk.1.2.2⟩⟩, hk.1.2.1⟩))).2.1 (Kd.V_F (Kd.V_mono (ok' := (fun k_ => ((fun k_ => (w.heap.size ≤ k_) ∧ some k_ ≠ (.slice (some ad255) t252.length co12 : Value).ownBlock ∧ k_ ≠ gb251)) k_ ∧ some k_ ≠ (u5 : Value).ownBlock)) (HL257_0.out) (fun k_ hk => ⟨⟨hk.1.1, ⟨hk.2, hk.1.2.2⟩⟩, hk.1.2.1⟩))))); (case aB => exact (by repeat (first | (with_reducible first | exact HB.out | apply below_alloc | apply pw_below_drewN | apply below_drew1 | refine below_set ?_ GE251.out) | exact HB.out))); (case aF => exact (fun k_ hk => ⟨(Nat.le_trans (below_size (by repeat (first | (with_reducible first | exact HB.out | apply below_alloc | apply pw_below_drewN | apply below_drew1 | refine below_set ?_ GE251.out) | exact HB.out))) hk), Kd.fresh' (Kd.N_lt (by (with_reducible repeat (first | apply Kd.N_alloc | apply Kd.N_drewN | apply Kd.N_drew)); exact HO_6.out)) k_ hk, Kd.freshB (g := gb251) (o := .cells #[.slice A0_0 l0_0.length c0_0] 24 (0, 0)) (by (with_reducible repeat (first | refine blk_drewN ?_ _ | refine blk_drew ?_ | refine blk_alloc ?_ _)); exact BK251.out) k_ hk⟩)); (case aO => exact (by (with_reducible repeat (first | apply Kd.N_alloc | apply Kd.N_drewN | apply Kd.N_drew)); exact HO_5.out)); (case aS => exact (below_size (by repeat (first | (with_reducible first | exact HB.out | apply below_alloc | apply pw_below_drewN | apply below_drew1 | refine below_set ?_ GE251.out) | exact HB.out)))); (case aL => have := LMc11.out; omega); intro v259 w14 ho hb hg hat; rw [← Ny258.out] at ho; have n0_ := Aside0.mk (Kd.N_afterv (ok := (fun k_ => (w.heap.size ≤ k_) ∧ k_ ≠ gb251)) (by (with_reducible repeat (first | apply Kd.N_alloc | apply Kd.N_drewN | apply Kd.N_drew)); exact Kd.N_mono HO_6.out (fun _ hk => ⟨⟨hk.1, hk.2.2⟩, hk.2.1⟩)) hg hat); have n1_ := Aside0.mk (blk_grown (g := gb251) (o := .cells #[.slice A0_0 l0_0.length c0_0] 24 (0, 0)) (by (with_reducible repeat (first | refine blk_drewN ?_ _ | refine blk_drew ?_ | refine blk_alloc ?_ _)); exact BK251.out) hg (Kd.N_ne HO_5.out BK251.out (by decide))); have n2_ := Aside0.mk (Kd.V_afterv (ok := (fun k_ => (w.heap.size ≤ k_) ∧ some k_ ≠ (.slice (some ad255) t252.length co12 : Value).ownBlock ∧ k_ ≠ gb251)) (by (with_reducible repeat (first | apply Kd.V_alloc | apply Kd.V_drewN | apply Kd.V_drew)); exact Kd.V_mono HL255_0.out (fun _ hk => ⟨⟨hk.1.1, ⟨hk.2, hk.1.2.2⟩⟩, hk.1.2.1⟩)) hg hat); have n3_ := Aside0.mk (Kd.V_afterv (ok := (fun k_ => (w.heap.size ≤ k_) ∧ some k_ ≠ (.slice (some ad255) t252.length co12 : Value).ownBlock ∧ k_ ≠ gb251)) (by (with_reducible repeat (first | apply Kd.V_alloc | apply Kd.V_drewN | apply Kd.V_drew)); exact Kd.V_mono HL257_0.out (fun _ hk => ⟨⟨hk.1.1, ⟨hk.2, hk.1.2.2⟩⟩, hk.1.2.1⟩)) hg hat); have n4_ := Aside0.mk (hb); have n5_ := Aside0.mk (ho); clear HO_6; clear BK251; clear HL255_0; clear HL257_0; clear HB; clear HO_5; have HO_6 := n0_; have BK251 := n1_; have HL255_0 := n2_; have HL257_0 := n3_; have HB := n4_; have HO260 := n5_; clear n0_ n1_ n2_ n3_ n4_ n5_; clear ho hb hg hat))
       go_roundg k1
       case measure => have := HK1.out; omega
       case rel => exact ⟨(y258), (wrap64 (x7_1 + 1)), (by first | rfl | (simp; done) | (simp [*]; done)), H', ⟨by have := HK1.out; omega⟩, ⟨by (with_reducible repeat (first | apply Kd.N_alloc | apply Kd.N_drewN | apply Kd.N_drew)); exact HO260.out⟩, ⟨by (with_reducible repeat (first | apply Kd.N_alloc | apply Kd.N_drewN | apply Kd.N_drew)); exact Kd.N_mono HO_6.out (fun _ hk => ⟨hk.1.1, ⟨hk.2, hk.1.2⟩⟩)⟩, ⟨by (with_reducible repeat (first | refine blk_drewN ?_ _ | refine blk_drew ?_ | refine blk_alloc ?_ _)); exact BK251.out⟩, ⟨by repeat (first | (with_reducible first | exact HB.out | apply below_alloc | apply pw_below_drewN | apply below_drew1 | refine below_set ?_ GE251.out) | exact HB.out)⟩⟩
      ·
       rw [if_neg c11] at H
       exact absurd H (by simp)
     ·
      replace c10 := Bool.eq_false_iff.mpr c10
      subst c10
      have H1 : (tensileref05_Allowed.l0 k1 l1 x5_1 t252 (wrap64 (x7_1 + 1))) = some r := by rw [if_neg (show ¬ (false = true) by decide)] at H; exact H
      clear H
      have H := H1
      clear H1
      have H' := Aside0.mk H
      clear H
      obtain ⟨Ao15, co15, eo15⟩ := Kd.N_slice HO_6.out
      subst eo15
      have p255 : 0 ≤ (x7_1 : Int) := of_decide_eq_true (by first | (with_reducible assumption) | assumption)
      have q255 : x7_1 < (t252.length : Int) := of_decide_eq_true (by first | (with_reducible assumption) | assumption)
      obtain ⟨ad255, A255_0, c255_0, e255, hx255_0, hl255_0, hi255_0⟩ := at_L8 (Kd.N_reads' HO_6.out).2.2 x7_1 p255 q255
      cases e255
      obtain ⟨ce255, hce255, hMe255, hcc255⟩ := Kd.N_get HO_6.out [] x7_1 p255 (by first | exact q255 | exact of_decide_eq_true (by first | (with_reducible assumption) | assumption) | (have e_ := (Kd.N_reads' HO_6.out).1; omega))
      obtain ⟨ua255_0, uc255_0, rfl, ul255_0, ge255_0⟩ := Kd.FK_slice_open hMe255
      have hv255_0 := hcc255 0 _ rfl
      rw [Nat.add_zero, show ((Kd.slice 3 (Kd.int .i64))).sz = 1 from rfl, Nat.mul_one] at hv255_0
      replace hv255_0 := Option.some.inj (hv255_0.symm.trans hx255_0)
      injection hv255_0 with hva_ hvn_ hvc_
      rw [hva_] at ge255_0
      rw [hvc_] at ul255_0
      have HL255_0 := Aside0.mk (show Kd.V (Kd.int .i64) 3 _ w.heap.size _ _ (rd_L8 t252 x7_1) from Kd.V_mk ul255_0 ge255_0)
      clear hva_ hvn_ hvc_ ge255_0 ul255_0
      clear hcc255 hce255
      have HR255_0 := Aside0.mk hi255_0
      have HC255_0 := Aside0.mk hl255_0
      clear hi255_0 hl255_0
      replace p255 := eq_true p255
      replace q255 := eq_true q255
      go_wp2_with (first | ((with_reducible refine gate_callee (f := 47) rfl ?_); refine goesL_ (some 21) rfl rfl Try.func47 (by kernel_rfl) rfl #[.slice A1 l1.length c1, .slice A255_0 (rd_L8 t252 x7_1).length c255_0] rfl (by (try simp only [List.map_toArray, List.map_cons, List.map_nil]); first | done | rfl | (simp only [List.length_drop, List.length_take]; rfl)) ?_; (with_reducible refine (tensileref05_Allows.calls k1 _ _ l1 _ _ (rd_L8 t252 x7_1) false _ ?side1 ?side2 ?side3 ?side4 A9.out).mono ?_); (case side1 => repeat (first | exact (Kd.C_below HR1.out HB.out) | (with_reducible refine Kd.C_alloc ?_ _) | (with_reducible refine Kd.C_drewN ?_ _) | (with_reducible refine Kd.C_drew ?_))); (case side2 => exact HC1.out); (case side3 => repeat (first | exact (by repeat (first | (with_reducible exact HR255_0.out) | (with_reducible refine Kd.C_alloc ?_ _) | (with_reducible refine Kd.C_drewN ?_ _) | (with_reducible refine Kd.C_drew ?_) | exact HR255_0.out)) | (with_reducible refine Kd.C_alloc ?_ _) | (with_reducible refine Kd.C_drewN ?_ _) | (with_reducible refine Kd.C_drew ?_))); (case side4 => exact HC255_0.out); rintro e w16 ⟨rfl, hb⟩; refine ⟨_, rfl, ?_⟩; have n0_ := Aside0.mk (Kd.N_below (by (with_reducible repeat (first | apply Kd.N_alloc | apply Kd.N_drewN | apply Kd.N_drew)); exact HO_5.out) hb); have n1_ := Aside0.mk (Kd.N_below (by (with_reducible repeat (first | apply Kd.N_alloc | apply Kd.N_drewN | apply Kd.N_drew)); exact HO_6.out) hb); have n2_ := Aside0.mk (Kd.V_below (by (with_reducible repeat (first | apply Kd.V_alloc | apply Kd.V_drewN | apply Kd.V_drew)); exact HL255_0.out) hb); have n3_ := Aside0.mk (blk_below (g := gb251) (o := .cells #[.slice A0_0 l0_0.length c0_0] 24 (0, 0)) (by (with_reducible repeat (first | refine blk_drewN ?_ _ | refine blk_drew ?_ | refine blk_alloc ?_ _)); exact BK251.out) hb); have n4_ := Aside0.mk (Kd.C_below (by repeat (first | (with_reducible exact HR255_0.out) | (with_reducible refine Kd.C_alloc ?_ _) | (with_reducible refine Kd.C_drewN ?_ _) | (with_reducible refine Kd.C_drew ?_) | exact HR255_0.out)) hb); have n5_ := Aside0.mk (below_step (by repeat (first | (with_reducible first | exact HB.out | apply below_alloc | apply pw_below_drewN | apply below_drew1 | refine below_set ?_ GE251.out) | exact HB.out)) hb); clear HO_5; clear HO_6; clear HL255_0; clear BK251; clear HR255_0; clear HB; have HO_5 := n0_; have HO_6 := n1_; have HL255_0 := n2_; have BK251 := n3_; have HR255_0 := n4_; have HB := n5_; clear n0_ n1_ n2_ n3_ n4_ n5_; (try clear hb); (try clear hb2); (try clear hk); (try clear hi)))
      go_roundg k1
      case measure => have := HK1.out; omega
      case rel => exact ⟨(x5_1), (wrap64 (x7_1 + 1)), (by first | rfl | (simp; done) | (simp [*]; done)), H', ⟨by have := HK1.out; omega⟩, ⟨by (with_reducible repeat (first | apply Kd.N_alloc | apply Kd.N_drewN | apply Kd.N_drew)); exact HO_5.out⟩, ⟨by (with_reducible repeat (first | apply Kd.N_alloc | apply Kd.N_drewN | apply Kd.N_drew)); exact HO_6.out⟩, ⟨by (with_reducible repeat (first | refine blk_drewN ?_ _ | refine blk_drew ?_ | refine blk_alloc ?_ _)); exact BK251.out⟩, ⟨by repeat (first | (with_reducible first | exact HB.out | apply below_alloc | apply pw_below_drewN | apply below_drew1 | refine below_set ?_ GE251.out) | exact HB.out)⟩⟩
    ·
     rw [if_neg c8] at H
     exact absurd H (by simp)
   ·
    rw [if_neg c7] at H
    have c7b0 : decide (x7_1 < (t252.length : Int)) = false := decide_eq_false c7
    clear c7
    obtain rfl := Option.some.inj H
    obtain ⟨Ao17, co17, eo17⟩ := Kd.N_slice HO_6.out
    subst eo17
    go_wp2
    go_ret
    exact ⟨_, by first | rfl | (simp [errW_none, errW_some] <;> rfl) | (simp [*, errW_none, errW_some] <;> rfl), by (with_reducible repeat (first | apply Kd.N_alloc | apply Kd.N_drewN | apply Kd.N_drew)); exact Kd.N_mono HO_5.out (fun _ hk => hk.1), by repeat (first | (with_reducible first | exact HB.out | apply below_alloc | apply pw_below_drewN | apply below_drew1 | refine below_set ?_ GE251.out) | exact HB.out)⟩

end Go.Proofs.Ytdagijgoegkphaa.P

namespace Go.Proofs.Ytdagijgoegkphaa.P
open Go.RowKit Go.Proofs.YtdagijgoegkphaaW.PrintWords Go.Proofs.YtdagijgoegkphaaW.PrintLast Go.Proofs.YtdagijgoegkphaaW.PrintMore
attribute [local go_sem] max2_int min2_int max_two min_two max_three min_three max_four min_four   -- for this text's walks alone

/-! ### tensilelaw05_asked: function 38 -/
def tensilelaw05_asked.f (k : Nat) (l0_0 : List (S54)) (l1 : List (S81)) : Option (Int) := (tensilelaw05_fault.f k l0_0 l1).bind fun t262 => (if t262 = 0 then ((tensileref05_Allowed.f k l0_0 l1).bind fun t263 => (if (t263.length : Int) = 0 then (some 9) else (some 0))) else (some t262))
set_option maxHeartbeats 8000000 in
set_option maxRecDepth 100000 in
theorem tensilelaw05_asked.calls (k : Nat) (A0_0 : Option Addr) (c0_0 : Nat) (l0_0 : List (S54)) (A1 : Option Addr) (c1 : Nat) (l1 : List (S81)) (r : Int) (w : World) (hr0_0 : Kd.C k54 w A0_0 l0_0.length l0_0) (hc0_0 : l0_0.length ≤ c0_0) (hr1 : Kd.C k81 w A1 l1.length l1) (hc1 : l1.length ≤ c1) (h : tensilelaw05_asked.f k l0_0 l1 = some r) :
  Calls Try.prog 38 #[.agg #[.slice A0_0 l0_0.length c0_0], .slice A1 l1.length c1] w fun e w' => e = .returned (.int .i64 r) ∧ Below w.heap.size w w' := by
 have hu24 := Try.underlying24
 have HR0_0 := Aside0.mk hr0_0
 have HC0_0 := Aside0.mk hc0_0
 clear hr0_0 hc0_0
 have HR1 := Aside0.mk hr1
 have HC1 := Aside0.mk hc1
 clear hr1 hc1
 have HB := Aside0.mk (Below.refl w.heap.size w)
 have H : ((tensilelaw05_fault.f k l0_0 l1).bind fun t262 => (if t262 = 0 then ((tensileref05_Allowed.f k l0_0 l1).bind fun t263 => (if (t263.length : Int) = 0 then (some 9) else (some 0))) else (some t262))) = some r := h
 clear h
 replace H := Option.bind_eq_some_iff.mp H
 obtain ⟨t262, A30, H⟩ := H
 replace H : (if t262 = 0 then ((tensileref05_Allowed.f k l0_0 l1).bind fun t263 => (if (t263.length : Int) = 0 then (some 9) else (some 0))) else (some t262)) = some r := H
 have A3 := Aside0.mk A30
 clear A30
 by_cases c4 : t262 = 0
 ·
  rw [if_pos c4] at H
  have c4b0 : (t262 == 0) = true := beq_iff_eq.mpr c4
  have c4b1 : (t262 != 0) = false := bne_eq_false_iff_eq.mpr c4
  clear c4
  replace H := Option.bind_eq_some_iff.mp H
  obtain ⟨t263, A50, H⟩ := H
  replace H : (if (t263.length : Int) = 0 then (some 9) else (some 0)) = some r := H
  have A5 := Aside0.mk A50
  clear A50
  by_cases c6 : (t263.length : Int) = 0
  ·
   rw [if_pos c6] at H
   have c6b0 : ((t263.length : Int) == 0) = true := beq_iff_eq.mpr c6
   have c6b1 : ((t263.length : Int) != 0) = false := bne_eq_false_iff_eq.mpr c6
   clear c6
   obtain rfl := Option.some.inj H
   go_enter Try.func38, Try.ntmps38
   go_wp2_with (first | ((with_reducible refine gate_dst (N := 2) rfl ?_); refine box_event ?hg (N := 2) ?hd (cs := #[.slice A0_0 l0_0.length c0_0]) (t := 24) ?hr ?_; (case hd => rfl); (case hg => rfl); (case hr => first | (go_simp; done) | (go_simp; rfl)); intro gb261 hg w7 hbox hb; have n0_ := Aside0.mk (below_step (by repeat (first | (with_reducible first | exact HB.out | apply below_alloc | apply pw_below_drewN | apply below_drew1) | exact HB.out)) hb); have n1_ := Aside0.mk (hbox); have n2_ := Aside0.mk ((by rw [hg]; exact (below_size (by repeat (first | (with_reducible first | exact HB.out | apply below_alloc | apply pw_below_drewN | apply below_drew1) | exact HB.out))) : w.heap.size ≤ gb261)); have n3_ := Aside0.mk ((by rw [hg]; exact (below_size (by repeat (first | (with_reducible first | exact HB.out | apply below_alloc | apply pw_below_drewN | apply below_drew1) | exact HB.out))) : w.heap.size ≤ gb261)); clear HB; have HB := n0_; have BK261 := n1_; have GW261 := n2_; have GE261 := n3_; clear n0_ n1_ n2_ n3_; clear hb hbox hg; have hcz8_0 : w7.cell? ⟨gb261, 0, none⟩ = some (.slice A0_0 l0_0.length c0_0) := (blk_cell BK261.out 0).trans rfl; have hfz8_0 := blk_frozen BK261.out 0) | ((with_reducible refine gate_callee (f := 49) rfl ?_); refine goesL_ (some 8) rfl rfl Try.func49 (by kernel_rfl) rfl #[.agg #[.slice A0_0 l0_0.length c0_0], .slice A1 l1.length c1] rfl (by (try simp only [List.map_toArray, List.map_cons, List.map_nil]); first | done | rfl | (simp only [List.length_drop, List.length_take]; rfl)) ?_; (with_reducible refine (tensilelaw05_fault.calls k _ _ l0_0 _ _ l1 t262 _ ?side1 ?side2 ?side3 ?side4 A3.out).mono ?_); (case side1 => repeat (first | exact (Kd.C_below HR0_0.out HB.out) | (with_reducible refine Kd.C_alloc ?_ _) | (with_reducible refine Kd.C_drewN ?_ _) | (with_reducible refine Kd.C_drew ?_))); (case side2 => exact HC0_0.out); (case side3 => repeat (first | exact (Kd.C_below HR1.out HB.out) | (with_reducible refine Kd.C_alloc ?_ _) | (with_reducible refine Kd.C_drewN ?_ _) | (with_reducible refine Kd.C_drew ?_))); (case side4 => exact HC1.out); rintro e w9 ⟨rfl, hb⟩; refine ⟨_, rfl, ?_⟩; have n0_ := Aside0.mk (blk_below (g := gb261) (o := .cells #[.slice A0_0 l0_0.length c0_0] 24 (0, 0)) (by (with_reducible repeat (first | refine blk_drewN ?_ _ | refine blk_drew ?_ | refine blk_alloc ?_ _)); exact BK261.out) hb); have n1_ := Aside0.mk (below_step (by repeat (first | (with_reducible first | exact HB.out | apply below_alloc | apply pw_below_drewN | apply below_drew1 | refine below_set ?_ GE261.out) | exact HB.out)) hb); clear BK261; clear HB; have BK261 := n0_; have HB := n1_; clear n0_ n1_; (try clear hb); (try clear hb2); (try clear hk); (try clear hi); have hcz10_0 : w9.cell? ⟨gb261, 0, none⟩ = some (.slice A0_0 l0_0.length c0_0) := (blk_cell BK261.out 0).trans rfl; have hfz10_0 := blk_frozen BK261.out 0) | ((with_reducible refine gate_callee (f := 39) rfl ?_); refine goesL_ (some 14) rfl rfl Try.func39 (by kernel_rfl) rfl #[.agg #[.slice A0_0 l0_0.length c0_0], .slice A1 l1.length c1] rfl (by (try simp only [List.map_toArray, List.map_cons, List.map_nil]); first | done | rfl | (simp only [List.length_drop, List.length_take]; rfl)) ?_; (with_reducible refine (tensileref05_Allowed.calls k _ _ l0_0 _ _ l1 t263 _ ?side1 ?side2 ?side3 ?side4 A5.out).mono ?_); (case side1 => repeat (first | exact (Kd.C_below HR0_0.out HB.out) | (with_reducible refine Kd.C_alloc ?_ _) | (with_reducible refine Kd.C_drewN ?_ _) | (with_reducible refine Kd.C_drew ?_))); (case side2 => exact HC0_0.out); (case side3 => repeat (first | exact (Kd.C_below HR1.out HB.out) | (with_reducible refine Kd.C_alloc ?_ _) | (with_reducible refine Kd.C_drewN ?_ _) | (with_reducible refine Kd.C_drew ?_))); (case side4 => exact HC1.out); rintro e w11 ⟨v264, rfl, ho0, hb⟩; refine ⟨_, rfl, ?_⟩; have n0_ := Aside0.mk (Kd.N_lower (Kd.N_mono (ok' := fun k_ => k_ ≠ gb261) ho0 (fun k_ hk_ => (Kd.freshB (g := gb261) (o := .cells #[.slice A0_0 l0_0.length c0_0] 24 (0, 0)) (by (with_reducible repeat (first | refine blk_drewN ?_ _ | refine blk_drew ?_ | refine blk_alloc ?_ _)); exact BK261.out) k_ hk_))) (below_size (by repeat (first | (with_reducible first | exact HB.out | apply below_alloc | apply pw_below_drewN | apply below_drew1 | refine below_set ?_ GE261.out) | exact HB.out)))); have n1_ := Aside0.mk (blk_below (g := gb261) (o := .cells #[.slice A0_0 l0_0.length c0_0] 24 (0, 0)) (by (with_reducible repeat (first | refine blk_drewN ?_ _ | refine blk_drew ?_ | refine blk_alloc ?_ _)); exact BK261.out) hb); have n2_ := Aside0.mk (below_step (by repeat (first | (with_reducible first | exact HB.out | apply below_alloc | apply pw_below_drewN | apply below_drew1 | refine below_set ?_ GE261.out) | exact HB.out)) hb); clear BK261; clear HB; have HO265 := n0_; have BK261 := n1_; have HB := n2_; clear n0_ n1_ n2_; (try clear hb); (try clear hb2); (try clear hk); (try clear hi); (try clear ho0); obtain ⟨Ao12, co12, eo12⟩ := Kd.N_slice HO265.out; subst eo12))
   go_ret
   exact ⟨by first | rfl | (simp [errW_none, errW_some] <;> rfl) | (simp [*, errW_none, errW_some] <;> rfl), by repeat (first | (with_reducible first | exact HB.out | apply below_alloc | apply pw_below_drewN | apply below_drew1 | refine below_set ?_ GE261.out) | exact HB.out)⟩
  ·
   rw [if_neg c6] at H
   have c6b0 : ((t263.length : Int) == 0) = false := beq_eq_false_iff_ne.mpr c6
   have c6b1 : ((t263.length : Int) != 0) = true := bne_iff_ne.mpr c6
   have c6b2 : ¬ (t263 = []) := fun h_ => c6 (by rw [h_]; rfl)
   obtain rfl := Option.some.inj H
   go_enter Try.func38, Try.ntmps38
   go_wp2_with (first | ((with_reducible refine gate_dst (N := 2) rfl ?_); refine box_event ?hg (N := 2) ?hd (cs := #[.slice A0_0 l0_0.length c0_0]) (t := 24) ?hr ?_; (case hd => rfl); (case hg => rfl); (case hr => first | (go_simp; done) | (go_simp; rfl)); intro gb261 hg w13 hbox hb; have n0_ := Aside0.mk (below_step (by repeat (first | (with_reducible first | exact HB.out | apply below_alloc | apply pw_below_drewN | apply below_drew1) | exact HB.out)) hb); have n1_ := Aside0.mk (hbox); have n2_ := Aside0.mk ((by rw [hg]; exact (below_size (by repeat (first | (with_reducible first | exact HB.out | apply below_alloc | apply pw_below_drewN | apply below_drew1) | exact HB.out))) : w.heap.size ≤ gb261)); have n3_ := Aside0.mk ((by rw [hg]; exact (below_size (by repeat (first | (with_reducible first | exact HB.out | apply below_alloc | apply pw_below_drewN | apply below_drew1) | exact HB.out))) : w.heap.size ≤ gb261)); clear HB; have HB := n0_; have BK261 := n1_; have GW261 := n2_; have GE261 := n3_; clear n0_ n1_ n2_ n3_; clear hb hbox hg; have hcz14_0 : w13.cell? ⟨gb261, 0, none⟩ = some (.slice A0_0 l0_0.length c0_0) := (blk_cell BK261.out 0).trans rfl; have hfz14_0 := blk_frozen BK261.out 0) | ((with_reducible refine gate_callee (f := 49) rfl ?_); refine goesL_ (some 8) rfl rfl Try.func49 (by kernel_rfl) rfl #[.agg #[.slice A0_0 l0_0.length c0_0], .slice A1 l1.length c1] rfl (by (try simp only [List.map_toArray, List.map_cons, List.map_nil]); first | done | rfl | (simp only [List.length_drop, List.length_take]; rfl)) ?_; (with_reducible refine (tensilelaw05_fault.calls k _ _ l0_0 _ _ l1 t262 _ ?side1 ?side2 ?side3 ?side4 A3.out).mono ?_); (case side1 => repeat (first | exact (Kd.C_below HR0_0.out HB.out) | (with_reducible refine Kd.C_alloc ?_ _) | (with_reducible refine Kd.C_drewN ?_ _) | (with_reducible refine Kd.C_drew ?_))); (case side2 => exact HC0_0.out); (case side3 => repeat (first | exact (Kd.C_below HR1.out HB.out) | (with_reducible refine Kd.C_alloc ?_ _) | (with_reducible refine Kd.C_drewN ?_ _) | (with_reducible refine Kd.C_drew ?_))); (case side4 => exact HC1.out); rintro e w15 ⟨rfl, hb⟩; refine ⟨_, rfl, ?_⟩; have n0_ := Aside0.mk (blk_below (g := gb261) (o := .cells #[.slice A0_0 l0_0.length c0_0] 24 (0, 0)) (by (with_reducible repeat (first | refine blk_drewN ?_ _ | refine blk_drew ?_ | refine blk_alloc ?_ _)); exact BK261.out) hb); have n1_ := Aside0.mk (below_step (by repeat (first | (with_reducible first | exact HB.out | apply below_alloc | apply pw_below_drewN | apply below_drew1 | refine below_set ?_ GE261.out) | exact HB.out)) hb); clear BK261; clear HB; have BK261 := n0_; have HB := n1_; clear n0_ n1_; (try clear hb); (try clear hb2); (try clear hk); (try clear hi); have hcz16_0 : w15.cell? ⟨gb261, 0, none⟩ = some (.slice A0_0 l0_0.length c0_0) := (blk_cell BK261.out 0).trans rfl; have hfz16_0 := blk_frozen BK261.out 0) | ((with_reducible refine gate_callee (f := 39) rfl ?_); refine goesL_ (some 14) rfl rfl Try.func39 (by kernel_rfl) rfl #[.agg #[.slice A0_0 l0_0.length c0_0], .slice A1 l1.length c1] rfl (by (try simp only [List.map_toArray, List.map_cons, List.map_nil]); first | done | rfl | (simp only [List.length_drop, List.length_take]; rfl)) ?_; (with_reducible refine (tensileref05_Allowed.calls k _ _ l0_0 _ _ l1 t263 _ ?side1 ?side2 ?side3 ?side4 A5.out).mono ?_); (case side1 => repeat (first | exact (Kd.C_below HR0_0.out HB.out) | (with_reducible refine Kd.C_alloc ?_ _) | (with_reducible refine Kd.C_drewN ?_ _) | (with_reducible refine Kd.C_drew ?_))); (case side2 => exact HC0_0.out); (case side3 => repeat (first | exact (Kd.C_below HR1.out HB.out) | (with_reducible refine Kd.C_alloc ?_ _) | (with_reducible refine Kd.C_drewN ?_ _) | (with_reducible refine Kd.C_drew ?_))); (case side4 => exact HC1.out); rintro e w17 ⟨v264, rfl, ho0, hb⟩; refine ⟨_, rfl, ?_⟩; have n0_ := Aside0.mk (Kd.N_lower (Kd.N_mono (ok' := fun k_ => k_ ≠ gb261) ho0 (fun k_ hk_ => (Kd.freshB (g := gb261) (o := .cells #[.slice A0_0 l0_0.length c0_0] 24 (0, 0)) (by (with_reducible repeat (first | refine blk_drewN ?_ _ | refine blk_drew ?_ | refine blk_alloc ?_ _)); exact BK261.out) k_ hk_))) (below_size (by repeat (first | (with_reducible first | exact HB.out | apply below_alloc | apply pw_below_drewN | apply below_drew1 | refine below_set ?_ GE261.out) | exact HB.out)))); have n1_ := Aside0.mk (blk_below (g := gb261) (o := .cells #[.slice A0_0 l0_0.length c0_0] 24 (0, 0)) (by (with_reducible repeat (first | refine blk_drewN ?_ _ | refine blk_drew ?_ | refine blk_alloc ?_ _)); exact BK261.out) hb); have n2_ := Aside0.mk (below_step (by repeat (first | (with_reducible first | exact HB.out | apply below_alloc | apply pw_below_drewN | apply below_drew1 | refine below_set ?_ GE261.out) | exact HB.out)) hb); clear BK261; clear HB; have HO265 := n0_; have BK261 := n1_; have HB := n2_; clear n0_ n1_ n2_; (try clear hb); (try clear hb2); (try clear hk); (try clear hi); (try clear ho0); obtain ⟨Ao18, co18, eo18⟩ := Kd.N_slice HO265.out; subst eo18))
   go_ret
   exact ⟨by first | rfl | (simp [errW_none, errW_some] <;> rfl) | (simp [*, errW_none, errW_some] <;> rfl), by repeat (first | (with_reducible first | exact HB.out | apply below_alloc | apply pw_below_drewN | apply below_drew1 | refine below_set ?_ GE261.out) | exact HB.out)⟩
 ·
  rw [if_neg c4] at H
  have c4b0 : (t262 == 0) = false := beq_eq_false_iff_ne.mpr c4
  have c4b1 : (t262 != 0) = true := bne_iff_ne.mpr c4
  obtain rfl := Option.some.inj H
  go_enter Try.func38, Try.ntmps38
  go_wp2_with (first | ((with_reducible refine gate_dst (N := 2) rfl ?_); refine box_event ?hg (N := 2) ?hd (cs := #[.slice A0_0 l0_0.length c0_0]) (t := 24) ?hr ?_; (case hd => rfl); (case hg => rfl); (case hr => first | (go_simp; done) | (go_simp; rfl)); intro gb261 hg w19 hbox hb; have n0_ := Aside0.mk (below_step (by repeat (first | (with_reducible first | exact HB.out | apply below_alloc | apply pw_below_drewN | apply below_drew1) | exact HB.out)) hb); have n1_ := Aside0.mk (hbox); have n2_ := Aside0.mk ((by rw [hg]; exact (below_size (by repeat (first | (with_reducible first | exact HB.out | apply below_alloc | apply pw_below_drewN | apply below_drew1) | exact HB.out))) : w.heap.size ≤ gb261)); have n3_ := Aside0.mk ((by rw [hg]; exact (below_size (by repeat (first | (with_reducible first | exact HB.out | apply below_alloc | apply pw_below_drewN | apply below_drew1) | exact HB.out))) : w.heap.size ≤ gb261)); clear HB; have HB := n0_; have BK261 := n1_; have GW261 := n2_; have GE261 := n3_; clear n0_ n1_ n2_ n3_; clear hb hbox hg; have hcz20_0 : w19.cell? ⟨gb261, 0, none⟩ = some (.slice A0_0 l0_0.length c0_0) := (blk_cell BK261.out 0).trans rfl; have hfz20_0 := blk_frozen BK261.out 0) | ((with_reducible refine gate_callee (f := 49) rfl ?_); refine goesL_ (some 8) rfl rfl Try.func49 (by kernel_rfl) rfl #[.agg #[.slice A0_0 l0_0.length c0_0], .slice A1 l1.length c1] rfl (by (try simp only [List.map_toArray, List.map_cons, List.map_nil]); first | done | rfl | (simp only [List.length_drop, List.length_take]; rfl)) ?_; (with_reducible refine (tensilelaw05_fault.calls k _ _ l0_0 _ _ l1 t262 _ ?side1 ?side2 ?side3 ?side4 A3.out).mono ?_); (case side1 => repeat (first | exact (Kd.C_below HR0_0.out HB.out) | (with_reducible refine Kd.C_alloc ?_ _) | (with_reducible refine Kd.C_drewN ?_ _) | (with_reducible refine Kd.C_drew ?_))); (case side2 => exact HC0_0.out); (case side3 => repeat (first | exact (Kd.C_below HR1.out HB.out) | (with_reducible refine Kd.C_alloc ?_ _) | (with_reducible refine Kd.C_drewN ?_ _) | (with_reducible refine Kd.C_drew ?_))); (case side4 => exact HC1.out); rintro e w21 ⟨rfl, hb⟩; refine ⟨_, rfl, ?_⟩; have n0_ := Aside0.mk (blk_below (g := gb261) (o := .cells #[.slice A0_0 l0_0.length c0_0] 24 (0, 0)) (by (with_reducible repeat (first | refine blk_drewN ?_ _ | refine blk_drew ?_ | refine blk_alloc ?_ _)); exact BK261.out) hb); have n1_ := Aside0.mk (below_step (by repeat (first | (with_reducible first | exact HB.out | apply below_alloc | apply pw_below_drewN | apply below_drew1 | refine below_set ?_ GE261.out) | exact HB.out)) hb); clear BK261; clear HB; have BK261 := n0_; have HB := n1_; clear n0_ n1_; (try clear hb); (try clear hb2); (try clear hk); (try clear hi)))
  go_ret
  exact ⟨by first | rfl | (simp [errW_none, errW_some] <;> rfl) | (simp [*, errW_none, errW_some] <;> rfl), by repeat (first | (with_reducible first | exact HB.out | apply below_alloc | apply pw_below_drewN | apply below_drew1 | refine below_set ?_ GE261.out) | exact HB.out)⟩

end Go.Proofs.Ytdagijgoegkphaa.P

namespace Go.Proofs.Ytdagijgoegkphaa.Pure
open Go.RowKit Go.Proofs.YtdagijgoegkphaaW.PrintWords Go.Proofs.YtdagijgoegkphaaW.PrintLast Go.Proofs.YtdagijgoegkphaaW.PrintMore Go.Proofs.Ytdagijgoegkphaa.P
open Hand (Rg Sg Rn Nm Rt)

theorem lists_l0 (m : List S54) (hv : Val m) (d band : Nat) (r : Rt) (hb : band + (d + 1) = m.length)
    (ih : ∀ (n : Int), 0 ≤ n → ∀ (k : Nat), need d ≤ k → tensileref05_Lists.f k m ((r.set band n).list (band + 1)) = some ((Hand.lsFrom (m.map cRg) d (band + 1) (r.set band n)).map fun q => q.list m.length)) (a b : Int) (hbb : b ≤ 1000) (ha : 0 ≤ a) :
    ∀ (j : Nat) (n : Int) (acc : List (List Int)) (k : Nat), (b + 1 - n).toNat = j → j ≤ 21 → 0 ≤ n → j + 1 + need d ≤ k → acc.length + j * 21 ^ d ≤ 1000000 →
      tensileref05_Lists.l0 k (r.list band) acc n m a b = some (acc ++ ((Hand.upFrom n j).flatMap fun x => Hand.lsFrom (m.map cRg) d (band + 1) (r.set band x)).map fun q => q.list m.length) := by
  have hv3 := hv.1
  intro j
  induction j with
  | zero =>
    intro n acc k hj _ _ hk _
    obtain ⟨k, rfl⟩ : ∃ q, k = q + 1 := ⟨k - 1, by omega⟩
    rw [tensileref05_Lists.l0, if_neg (by omega)]
    simp [Hand.upFrom]
  | succ j ihj =>
    intro n acc k hj hj21 hn hk hacc
    obtain ⟨k, rfl⟩ : ∃ q, k = q + 1 := ⟨k - 1, by omega⟩
    have hlen := lsFrom_len m hv d (band + 1) (r.set band n) (by omega)
    have htl := take_len r band (by omega)
    have hmul : (j + 1) * 21 ^ d = j * 21 ^ d + 21 ^ d := by rw [Nat.add_mul, Nat.one_mul]
    rw [tensileref05_Lists.l0, if_pos (by omega), Option.bind_some, if_pos (by rw [htl]; simp; omega), Option.bind_some, List.nil_append, Option.bind_some, if_pos (by rw [htl]; simp; omega), take_succ r band n (by omega), ih n hn k (by omega), Option.bind_some, if_pos (by rw [List.length_map]; omega), w_id (by omega) (by omega)]
    rw [ihj (n + 1) _ k (by omega) (by omega) (by omega) (by omega) (by rw [List.length_append, List.length_map]; omega)]
    rw [show Hand.upFrom n (j + 1) = n :: Hand.upFrom (n + 1) j from rfl, flat_cons, List.map_append, List.append_assoc]

theorem lists_from (m : List S54) (hv : Val m) : ∀ (d band : Nat) (r : Rt) (k : Nat), band + d = m.length → need d ≤ k → (∀ j, j < band → 0 ≤ r.get j) →
    tensileref05_Lists.f k m (r.list band) = some ((Hand.lsFrom (m.map cRg) d band r).map fun q => q.list m.length)
  | 0, band, r, k, hb, hk, _ => by
    obtain ⟨k, rfl⟩ : ∃ q, k = q + 1 := ⟨k - 1, by unfold need at hk; omega⟩
    have hv3 := hv.1
    rw [tensileref05_Lists.f, if_pos (by rw [take_len r band (by omega)]; omega)]
    have e : band = m.length := by omega
    rw [e]
    rfl
  | d + 1, band, r, k, hb, hk, hr => by
    have hv3 := hv.1
    have hk' : need d + 25 ≤ k := hk
    obtain ⟨k, rfl⟩ : ∃ q, k = q + 2 := ⟨k - 2, by omega⟩
    have hlt : band < m.length := by omega
    have hs := hv.2 _ (rd_mem m band hlt)
    have htl := take_len r band (by omega)
    have ih : ∀ (n : Int), 0 ≤ n → ∀ (k : Nat), need d ≤ k → tensileref05_Lists.f k m ((r.set band n).list (band + 1)) = some ((Hand.lsFrom (m.map cRg) d (band + 1) (r.set band n)).map fun q => q.list m.length) := fun n hn k h => by
      refine lists_from m hv d (band + 1) (r.set band n) k (by omega) h ?_
      intro j hj
      by_cases e : j = band
      · rw [e, get_set r band (by omega)]; exact hn
      · rw [get_set_lt r n band j (by omega) (by omega)]; exact hr j (by omega)
    have hfin : ∀ low, 0 ≤ low → (rd_T54 m (band : Int)).f0 ≤ low → tensileref05_Lists.j0 (k + 1) (r.list band) [] low m (rd_T54 m (band : Int)).f0 (rd_T54 m (band : Int)).f1 = some (((Hand.upFrom low ((rd_T54 m (band : Int)).f1 + 1 - low).toNat).flatMap fun x => Hand.lsFrom (m.map cRg) d (band + 1) (r.set band x)).map fun q => q.list m.length) := fun low h0 h1 => by
      have hp : 21 ^ d ≤ 21 ^ 2 := Nat.pow_le_pow_right (by omega) (by omega)
      have hj21 : ((rd_T54 m (band : Int)).f1 + 1 - low).toNat ≤ 21 := by omega
      have hmul : ((rd_T54 m (band : Int)).f1 + 1 - low).toNat * 21 ^ d ≤ 21 * 21 ^ 2 := Nat.mul_le_mul hj21 hp
      rw [tensileref05_Lists.j0, lists_l0 m hv d band r hb ih _ _ (by omega) hs.1 _ low [] k rfl hj21 h0 (by omega) (by simp; omega), List.nil_append]
    have hlf : Hand.lsFrom (m.map cRg) (d + 1) band r = (Hand.upFrom (Hand.lowAt (m.map cRg) r band) (Hand.hiAt (m.map cRg) band + 1 - Hand.lowAt (m.map cRg) r band).toNat).flatMap fun n => Hand.lsFrom (m.map cRg) d (band + 1) (r.set band n) := rfl
    rw [hlf, hiAt_eq m band hlt, lowAt_eq m r band hlt]
    rw [tensileref05_Lists.f, htl, if_neg (by omega), if_pos (by omega), if_pos (by omega)]
    by_cases h0 : 0 < band
    · have hrd : rd (r.list band) ((band : Int) - 1) = r.get (band - 1) := by
        rw [show ((band : Int) - 1) = ((band - 1 : Nat) : Int) by omega]
        exact take_rd r band (band - 1) (by omega) (by omega)
      have hmx : (rd_T54 m (band : Int)).f0 ≤ mx (rd_T54 m (band : Int)).f0 (r.get (band - 1)) := by unfold mx; split <;> omega
      rw [if_pos (by omega), w_id (by omega) (by omega), if_pos (by omega), if_pos (by omega), hrd, if_pos h0]
      exact hfin _ (by omega) hmx
    · rw [if_neg (by omega), if_neg h0]
      exact hfin _ (by omega) (Int.le_refl _)

theorem lists_f (m : List S54) (hv : Val m) (k : Nat) (hk : 80 ≤ k) : tensileref05_Lists.f k m [] = some ((Hand.lists (m.map cRg)).map fun q => q.list m.length) := by
  have hv3 := hv.1
  have hn : need m.length ≤ k := by
    have : ∀ d, need d = 25 * d + 1 := fun d => by
      induction d with
      | zero => rfl
      | succ d ih => unfold need; omega
    rw [this]; omega
  have := lists_from m hv m.length 0 ⟨0, 0, 0⟩ k (by omega) hn (fun j h => by omega)
  unfold Hand.lists
  rw [List.length_map]
  exact this
end Go.Proofs.Ytdagijgoegkphaa.Pure

namespace Go.Proofs.Ytdagijgoegkphaa.Pure
open Go.RowKit Go.Proofs.YtdagijgoegkphaaW.PrintWords Go.Proofs.YtdagijgoegkphaaW.PrintLast Go.Proofs.YtdagijgoegkphaaW.PrintMore Go.Proofs.Ytdagijgoegkphaa.P
open Hand (Rg Sg Rn Nm Rt)

theorem allowed_l0 {m : List S54} {r : List S81} (h : Hand.enterErr (m.map cRg) (r.map cRn) = 0) : ∀ (suf pre : List Rt) (acc : List (List Int)) (k : Nat), suf.length + 31 ≤ k → (pre ++ suf).length ≤ 1000000 → acc.length ≤ pre.length → (∀ q ∈ suf, q ∈ Hand.lists (m.map cRg)) →
    tensileref05_Allowed.l0 k r acc ((pre ++ suf).map fun q => q.list m.length) (pre.length : Int) = some (acc ++ (suf.filter (Hand.allowedB (r.map cRn))).map fun q => q.list m.length) := by
  have hv := val_of h
  have hv3 := hv.1
  intro suf
  induction suf with
  | nil =>
    intro pre acc k hk _ _ _
    obtain ⟨k, rfl⟩ : ∃ q, k = q + 1 := ⟨k - 1, by omega⟩
    rw [tensileref05_Allowed.l0, if_neg (by simp)]
    simp
  | cons q suf ih =>
    intro pre acc k hk hl hacc hq
    obtain ⟨k, rfl⟩ : ∃ q, k = q + 1 := ⟨k - 1, by omega⟩
    have hl2 : pre.length + suf.length + 1 ≤ 1000000 := by simpa [Nat.add_assoc] using hl
    have hqm := hq q (by simp)
    have hrt := rt_of_list (m.map cRg) (by rw [List.length_map]; exact hv3) q hqm
    rw [List.length_map] at hrt
    have hlen := take_len q m.length hv3
    have hrd : rd_L8 ((pre ++ q :: suf).map fun q => q.list m.length) (pre.length : Int) = q.list m.length := by
      rw [List.map_append, List.map_cons]
      have := rdL8 (pre.map fun q => q.list m.length) (q.list m.length) (suf.map fun q => q.list m.length)
      rw [List.length_map] at this
      exact this
    have hal := allows_f (l := q.list m.length) h hlen (by rw [hrt]; exact lists_rtok hv q hqm) k (by simp at hk; omega)
    rw [hrt] at hal
    rw [tensileref05_Allowed.l0, if_pos (by simp; omega), if_pos (by omega), hrd, hal, Option.bind_some, w_succ _ (by omega), List.filter_cons]
    have hrec := fun acc' ha => ih (pre ++ [q]) acc' k (by simp at hk; omega) (by simpa using hl) ha (fun x hx => hq x (by simp [hx]))
    simp only [snoc_len, List.append_assoc, List.singleton_append] at hrec
    cases hb : Hand.allowedB (r.map cRn) q with
    | true =>
      rw [if_pos rfl, if_pos (by omega), if_pos rfl, hrec _ (by simp; omega), List.map_cons, List.append_assoc]
      rfl
    | false =>
      rw [if_neg (by decide), if_neg (by decide), hrec _ (by simp; omega)]

theorem allowed_f {m : List S54} {r : List S81} (h : Hand.enterErr (m.map cRg) (r.map cRn) = 0) (k : Nat) (hk : 9300 ≤ k) :
    tensileref05_Allowed.f k m r = some ((Hand.good (m.map cRg) (r.map cRn)).map fun q => q.list m.length) := by
  have hv := val_of h
  have hlen := lists_len hv
  unfold tensileref05_Allowed.f
  rw [lists_f m hv k (by omega), Option.bind_some]
  have := allowed_l0 h (Hand.lists (m.map cRg)) [] [] k (by omega) (by simp; omega) (by simp) (fun q hq => hq)
  rw [List.nil_append, List.nil_append] at this
  exact this

theorem asked_f (m : List S54) (r : List S81) (p : List S56) (hs : Small m r p) (hf : ∀ s ∈ m, Fits54 s) (k : Nat) (hk : 9300 ≤ k) : tensilelaw05_asked.f k m r = some (Hand.possErr (m.map cRg) (r.map cRn)) := by
  unfold tensilelaw05_asked.f Hand.possErr
  rw [fault_f m r p hs hf k (by omega), Option.bind_some]
  by_cases h : Hand.enterErr (m.map cRg) (r.map cRn) = 0
  · rw [if_pos h, if_pos h, allowed_f h k hk, Option.bind_some, List.length_map]
    by_cases h2 : Hand.good (m.map cRg) (r.map cRn) = []
    · rw [if_pos h2, h2]; rfl
    · rw [if_neg h2, if_neg (by simpa using h2)]
  · rw [if_neg h, if_neg h]
end Go.Proofs.Ytdagijgoegkphaa.Pure

namespace Go.Proofs.Ytdagijgoegkphaa.Hand
open Go.RowKit Go.Shelf

theorem neq47 (a b : Int) (W : World) : (binOp .neq 47 (.agg #[.int .i64 a, .int .i64 b]) (.agg #[.int .i64 a, .int .i64 b])).run Try.prog W = .ok (.bool false) W := by
  have h : (Op.equal 47 (.agg #[.int .i64 a, .int .i64 b]) (.agg #[.int .i64 a, .int .i64 b])).run Try.prog W = .ok true W := by
    unfold Op.equal Op.maxDepth
    go_simp
  simp only [binOp]
  simp [h]
theorem mx2 (k k' : IntKind) (x y : Int) : Builtin.max2 (.int k x) (.int k' y) = pure (.int k (mx x y)) := by simp only [Builtin.max2, gt_iff_lt, mx]
theorem mn2 (k k' : IntKind) (x y : Int) : Builtin.min2 (.int k x) (.int k' y) = pure (.int k (mn x y)) := by simp only [Builtin.min2, mn]
theorem mxT (ats : Array TypeId) (ty : TypeId) (a b : Value) : Builtin.max_ ats ty #[a, b] = (Builtin.max2 a b >>= fun s => pure s) := by simp only [Builtin.max_, List.foldlM_cons, List.foldlM_nil]
theorem mnT (ats : Array TypeId) (ty : TypeId) (a b : Value) : Builtin.min_ ats ty #[a, b] = (Builtin.min2 a b >>= fun s => pure s) := by simp only [Builtin.min_, List.foldlM_cons, List.foldlM_nil]
attribute [local go_sem] neq47 mx2 mn2 mxT mnT

set_option maxHeartbeats 4000000 in
set_option maxRecDepth 10000 in
theorem first_region (rd : Option Nat) (x o L cL y p n cp b : Nat) (v : Int) (hL : 0 < L) (hb : b < n)
    (a0 : Act) (w0 : World) (Q : Exit → Act → World → Prop) (hsz : a0.tmps.size = 119)
    (f9 : a0.tmps.getD 9 undef = .slice (some ⟨x, o, none⟩) L cL) (f10 : a0.tmps.getD 10 undef = .int .i64 (b : Int))
    (hrow : w0.cell? ⟨x, o, none⟩ = some (.slice (some ⟨y, p, none⟩) n cp)) (hval : w0.cell? ⟨y, p + b, none⟩ = some (.int .i64 v))
    (hQ : ∀ (a : Act) (W : World) (g : Nat), a.defers = a0.defers → a.tmps.size = 119 → a.tmps.getD 11 undef = .pointer (some ⟨g, 0, none⟩) → (∀ s, s ≠ 11 → (s < 72 ∨ 84 < s) → a.tmps.getD s undef = a0.tmps.getD s undef) → Below w0.heap.size w0 W → w0.heap.size ≤ g → Blk W g #[.int .i64 v, .int .i64 v] 47 → Q .normal a W) :
    (Code.region 13 (opsOf Try.f5 13) true).wpIn { Fence.wide with round := rd } 0 Try.prog Q a0 w0 := by
  refine region_walk (rd := rd) 14 (fun i => if i < 13 then i + 72 else 11) (by kernel_rfl) (by kernel_rfl) (by rw [hsz]; kernel_rfl)
    (fun W => W.cell? ⟨x, o, none⟩ = some (.slice (some ⟨y, p, none⟩) n cp) ∧ W.cell? ⟨y, p + b, none⟩ = some (.int .i64 v) ∧ Below w0.heap.size w0 W)
    (fun i v' W => match i with
      | 0 => v' = .slice (some ⟨x, o, none⟩) L cL
      | 1 => v' = .pointer (some ⟨x, o, none⟩)
      | 2 => v' = .slice (some ⟨y, p, none⟩) n cp
      | 3 => v' = .int .i64 (b : Int)
      | 4 => v' = .pointer (some ⟨y, p + b, none⟩)
      | 5 => v' = .int .i64 v
      | 6 => v' = .slice (some ⟨x, o, none⟩) L cL
      | 7 => v' = .pointer (some ⟨x, o, none⟩)
      | 8 => v' = .slice (some ⟨y, p, none⟩) n cp
      | 9 => v' = .int .i64 (b : Int)
      | 10 => v' = .pointer (some ⟨y, p + b, none⟩)
      | 11 => v' = .int .i64 v
      | 12 => v' = .agg #[.int .i64 v, .int .i64 v]
      | _ => ∃ g, v' = .pointer (some ⟨g, 0, none⟩) ∧ w0.heap.size ≤ g ∧ Blk W g #[.int .i64 0, .int .i64 0] 47)
    (fun W W' hb h => ⟨held_cell h.1 hb, held_cell h.2.1 hb, h.2.2.trans (hb.mono h.2.2.size)⟩) ?hSp ⟨hrow, hval, (Below.refl _ _).drew⟩ ?hop ?hlast
  case hSp =>
    intro i v' W W' hi hb h
    match i, h with
    | 0, h | 1, h | 2, h | 3, h | 4, h | 5, h | 6, h | 7, h | 8, h | 9, h | 10, h | 11, h | 12, h => exact h
    | _ + 13, h =>
      obtain ⟨g, h1, h2, h3⟩ := h
      exact ⟨g, h1, h2, h3.below hb h3.lt⟩
  case hop =>
    intro i a W hiB hN' hfix hBW hdep
    have f9 : a.tmps.getD 9 undef = .slice (some ⟨x, o, none⟩) L cL := (hfix 9 (fun j hj => by split <;> omega)).trans f9
    have f10 : a.tmps.getD 10 undef = .int .i64 (b : Int) := (hfix 10 (fun j hj => by split <;> omega)).trans f10
    have e0 : ∀ x, a.eval (.tmp x) = a.tmps.getD x undef := fun _ => rfl
    obtain ⟨g0, g1, hB0⟩ := hBW
    have hLz : (0 : Int) < (L : Int) := by omega
    have hbz : (b : Int) < (n : Int) := by omega
    clear hQ
    match i, hN', hiB, hdep with
    | 0, _, _, hdep =>
      refine OpOk.val (v := .slice (some ⟨x, o, none⟩) L cL) (w' := W) ?_ ⟨Below.refl _ _, rfl⟩
      show (execOp a.eval { dst := some 72, op := Op.move (.tmp 9), type := _, pos := _, after := _, guard := none }).run Try.prog W = _
      simp only [execOp, List.map_toArray, List.map_cons, List.map_nil, e0, f9]
      go_simp
    | 1, _, _, hdep =>
      have d72 : a.tmps.getD 72 undef = .slice (some ⟨x, o, none⟩) L cL := hdep 0 rfl
      refine OpOk.val (v := .pointer (some ⟨x, o, none⟩)) (w' := W) ?_ ⟨Below.refl _ _, rfl⟩
      show (execOp a.eval { dst := some 73, op := Op.indexAddr 72 (.tmp 72) (.const (.int .i64 0)), type := _, pos := _, after := _, guard := none }).run Try.prog W = _
      simp only [execOp, List.map_toArray, List.map_cons, List.map_nil, e0, d72]
      go_simp
    | 2, _, _, hdep =>
      have d73 : a.tmps.getD 73 undef = .pointer (some ⟨x, o, none⟩) := hdep 1 rfl
      refine OpOk.val (v := .slice (some ⟨y, p, none⟩) n cp) (w' := W) ?_ ⟨Below.refl _ _, rfl⟩
      show (execOp a.eval { dst := some 74, op := Op.load 31 (.tmp 73), type := _, pos := _, after := _, guard := none }).run Try.prog W = _
      simp only [execOp, List.map_toArray, List.map_cons, List.map_nil, e0, d73]
      go_simp
    | 3, _, _, hdep =>
      refine OpOk.val (v := .int .i64 (b : Int)) (w' := W) ?_ ⟨Below.refl _ _, rfl⟩
      show (execOp a.eval { dst := some 75, op := Op.move (.tmp 10), type := _, pos := _, after := _, guard := none }).run Try.prog W = _
      simp only [execOp, List.map_toArray, List.map_cons, List.map_nil, e0, f10]
      go_simp
    | 4, _, _, hdep =>
      have d74 : a.tmps.getD 74 undef = .slice (some ⟨y, p, none⟩) n cp := hdep 2 rfl
      have d75 : a.tmps.getD 75 undef = .int .i64 (b : Int) := hdep 3 rfl
      refine OpOk.val (v := .pointer (some ⟨y, p + b, none⟩)) (w' := W) ?_ ⟨Below.refl _ _, rfl⟩
      show (execOp a.eval { dst := some 76, op := Op.indexAddr 31 (.tmp 74) (.tmp 75), type := _, pos := _, after := _, guard := none }).run Try.prog W = _
      simp only [execOp, List.map_toArray, List.map_cons, List.map_nil, e0, d74, d75]
      go_simp
    | 5, _, _, hdep =>
      have d76 : a.tmps.getD 76 undef = .pointer (some ⟨y, p + b, none⟩) := hdep 4 rfl
      refine OpOk.val (v := .int .i64 v) (w' := W) ?_ ⟨Below.refl _ _, rfl⟩
      show (execOp a.eval { dst := some 77, op := Op.load 3 (.tmp 76), type := _, pos := _, after := _, guard := none }).run Try.prog W = _
      simp only [execOp, List.map_toArray, List.map_cons, List.map_nil, e0, d76]
      go_simp
    | 6, _, _, hdep =>
      refine OpOk.val (v := .slice (some ⟨x, o, none⟩) L cL) (w' := W) ?_ ⟨Below.refl _ _, rfl⟩
      show (execOp a.eval { dst := some 78, op := Op.move (.tmp 9), type := _, pos := _, after := _, guard := none }).run Try.prog W = _
      simp only [execOp, List.map_toArray, List.map_cons, List.map_nil, e0, f9]
      go_simp
    | 7, _, _, hdep =>
      have d78 : a.tmps.getD 78 undef = .slice (some ⟨x, o, none⟩) L cL := hdep 6 rfl
      refine OpOk.val (v := .pointer (some ⟨x, o, none⟩)) (w' := W) ?_ ⟨Below.refl _ _, rfl⟩
      show (execOp a.eval { dst := some 79, op := Op.indexAddr 72 (.tmp 78) (.const (.int .i64 0)), type := _, pos := _, after := _, guard := none }).run Try.prog W = _
      simp only [execOp, List.map_toArray, List.map_cons, List.map_nil, e0, d78]
      go_simp
    | 8, _, _, hdep =>
      have d79 : a.tmps.getD 79 undef = .pointer (some ⟨x, o, none⟩) := hdep 7 rfl
      refine OpOk.val (v := .slice (some ⟨y, p, none⟩) n cp) (w' := W) ?_ ⟨Below.refl _ _, rfl⟩
      show (execOp a.eval { dst := some 80, op := Op.load 31 (.tmp 79), type := _, pos := _, after := _, guard := none }).run Try.prog W = _
      simp only [execOp, List.map_toArray, List.map_cons, List.map_nil, e0, d79]
      go_simp
    | 9, _, _, hdep =>
      refine OpOk.val (v := .int .i64 (b : Int)) (w' := W) ?_ ⟨Below.refl _ _, rfl⟩
      show (execOp a.eval { dst := some 81, op := Op.move (.tmp 10), type := _, pos := _, after := _, guard := none }).run Try.prog W = _
      simp only [execOp, List.map_toArray, List.map_cons, List.map_nil, e0, f10]
      go_simp
    | 10, _, _, hdep =>
      have d80 : a.tmps.getD 80 undef = .slice (some ⟨y, p, none⟩) n cp := hdep 8 rfl
      have d81 : a.tmps.getD 81 undef = .int .i64 (b : Int) := hdep 9 rfl
      refine OpOk.val (v := .pointer (some ⟨y, p + b, none⟩)) (w' := W) ?_ ⟨Below.refl _ _, rfl⟩
      show (execOp a.eval { dst := some 82, op := Op.indexAddr 31 (.tmp 80) (.tmp 81), type := _, pos := _, after := _, guard := none }).run Try.prog W = _
      simp only [execOp, List.map_toArray, List.map_cons, List.map_nil, e0, d80, d81]
      go_simp
    | 11, _, _, hdep =>
      have d82 : a.tmps.getD 82 undef = .pointer (some ⟨y, p + b, none⟩) := hdep 10 rfl
      refine OpOk.val (v := .int .i64 v) (w' := W) ?_ ⟨Below.refl _ _, rfl⟩
      show (execOp a.eval { dst := some 83, op := Op.load 3 (.tmp 82), type := _, pos := _, after := _, guard := none }).run Try.prog W = _
      simp only [execOp, List.map_toArray, List.map_cons, List.map_nil, e0, d82]
      go_simp
    | 12, _, _, hdep =>
      have d77 : a.tmps.getD 77 undef = .int .i64 v := hdep 5 rfl
      have d83 : a.tmps.getD 83 undef = .int .i64 v := hdep 11 rfl
      refine OpOk.val (v := .agg #[.int .i64 v, .int .i64 v]) (w' := W) ?_ ⟨Below.refl _ _, rfl⟩
      show (execOp a.eval { dst := some 84, op := Op.build 47 #[(0, (.tmp 77)), (1, (.tmp 83))], type := _, pos := _, after := _, guard := none }).run Try.prog W = _
      simp only [execOp, List.map_toArray, List.map_cons, List.map_nil, e0, d77, d83]
      go_simp
      all_goals (first | rfl | assumption | exact Go.IntWalk.i64_left _ | exact rfl)
    | 13, _, _, hdep =>
      refine OpOk.val (v := .pointer (some ⟨W.heap.size, 0, none⟩)) (w' := W.alloc (.cells #[.int .i64 0, .int .i64 0] 47)) ?_ ⟨(Below.refl _ _).alloc (Nat.le_refl _) _, W.heap.size, rfl, hB0.size, Blk.new _ _ _⟩
      show (execOp a.eval { dst := some 11, op := Op.alloc 47, type := _, pos := _, after := _, guard := none }).run Try.prog W = _
      simp only [execOp, List.map_toArray, List.map_cons, List.map_nil, e0]
      go_simp
    | kk + 14, h, _, _ => exact absurd h (by omega)
  case hlast =>
    intro a W e1 e2 hfix hBW hall
    have d84 : a.tmps.getD 84 undef = .agg #[.int .i64 v, .int .i64 v] := hall 12 (by omega)
    obtain ⟨g, h1, h2, h3⟩ : ∃ g, a.tmps.getD 11 undef = .pointer (some ⟨g, 0, none⟩) ∧ w0.heap.size ≤ g ∧ Blk W g #[.int .i64 0, .int .i64 0] 47 := hall 13 (by omega)
    have e0 : ∀ x, a.eval (.tmp x) = a.tmps.getD x undef := fun _ => rfl
    have g2 : W.cell? ⟨g, 0, none⟩ = some (.int .i64 0) := h3.cell 0
    have g3 : W.cell? ⟨g, 1, none⟩ = some (.int .i64 0) := h3.cell 1
    have z2 : W.frozen? ⟨g, 0, none⟩ = false := h3.frozen 0
    have z3 : W.frozen? ⟨g, 1, none⟩ = false := h3.frozen 1
    refine OpOk.skip (w' := ((W.setCell ⟨g, 0, none⟩ (.int .i64 v)).setCell ⟨g, 1, none⟩ (.int .i64 v))) ?_ ?_
    · show (execOp a.eval { dst := none, op := Op.store 47 (.tmp 11) (.tmp 84), type := _, pos := _, after := _, guard := none }).run Try.prog W = _
      simp only [execOp, e0, h1, d84]
      go_simp
    · refine hQ _ _ g e1 (e2.trans hsz) h1 (fun s h11 hs => hfix s (fun j hj => ?_)) ?_ h2 ((h3.set 0 _).set 1 _)
      · split <;> omega
      · exact (hBW.2.2.setCell (p := ⟨g, 0, none⟩) h2 _).setCell (p := ⟨g, 1, none⟩) h2 _

set_option maxHeartbeats 4000000 in
set_option maxRecDepth 10000 in
theorem wide_region (rd : Option Nat) (Bx x o L cL y p n cp b i : Nat) (lo hi v : Int) (hL : i < L) (hb : b < n)
    (a0 : Act) (w0 : World) (Q : Exit → Act → World → Prop) (hsz : a0.tmps.size = 119)
    (f9 : a0.tmps.getD 9 undef = .slice (some ⟨x, o, none⟩) L cL) (f10 : a0.tmps.getD 10 undef = .int .i64 (b : Int)) (f11 : a0.tmps.getD 11 undef = .pointer (some ⟨Bx, 0, none⟩)) (f12 : a0.tmps.getD 12 undef = .int .i64 (i : Int))
    (hrow : w0.cell? ⟨x, o + i, none⟩ = some (.slice (some ⟨y, p, none⟩) n cp)) (hval : w0.cell? ⟨y, p + b, none⟩ = some (.int .i64 v)) (hx : Blk w0 Bx #[.int .i64 lo, .int .i64 hi] 47)
    (hQ : ∀ (a : Act) (W : World), a.defers = a0.defers → a.tmps.size = 119 → (∀ s, (s < 91 ∨ 111 < s) → a.tmps.getD s undef = a0.tmps.getD s undef) → Chg (fun k => k = Bx) w0 W → Blk W Bx #[.int .i64 (mn lo v), .int .i64 (mx hi v)] 47 → Q .normal a W) :
    (Code.region 17 (opsOf Try.f5 17) true).wpIn { Fence.wide with round := rd } 0 Try.prog Q a0 w0 := by
  refine region_walk (rd := rd) 21 (fun i => i + 91) (by kernel_rfl) (by kernel_rfl) (by rw [hsz]; kernel_rfl)
    (fun W => W.cell? ⟨x, o + i, none⟩ = some (.slice (some ⟨y, p, none⟩) n cp) ∧ W.cell? ⟨y, p + b, none⟩ = some (.int .i64 v) ∧ Blk W Bx #[.int .i64 lo, .int .i64 hi] 47 ∧ Below w0.heap.size w0 W)
    (fun i' v' W => match i' with
      | 0 => v' = .pointer (some ⟨Bx, 0, none⟩)
      | 1 => v' = .int .i64 lo
      | 2 => v' = .slice (some ⟨x, o, none⟩) L cL
      | 3 => v' = .int .i64 (i : Int)
      | 4 => v' = .pointer (some ⟨x, o + i, none⟩)
      | 5 => v' = .slice (some ⟨y, p, none⟩) n cp
      | 6 => v' = .int .i64 (b : Int)
      | 7 => v' = .pointer (some ⟨y, p + b, none⟩)
      | 8 => v' = .int .i64 v
      | 9 => v' = .int .i64 (mn lo v)
      | 10 => v' = .pointer (some ⟨Bx, 1, none⟩)
      | 11 => v' = .int .i64 hi
      | 12 => v' = .slice (some ⟨x, o, none⟩) L cL
      | 13 => v' = .int .i64 (i : Int)
      | 14 => v' = .pointer (some ⟨x, o + i, none⟩)
      | 15 => v' = .slice (some ⟨y, p, none⟩) n cp
      | 16 => v' = .int .i64 (b : Int)
      | 17 => v' = .pointer (some ⟨y, p + b, none⟩)
      | 18 => v' = .int .i64 v
      | 19 => v' = .int .i64 (mx hi v)
      | _ => v' = .agg #[.int .i64 (mn lo v), .int .i64 (mx hi v)])
    (fun W W' hb h => ⟨held_cell h.1 hb, held_cell h.2.1 hb, h.2.2.1.below hb h.2.2.1.lt, h.2.2.2.trans (hb.mono h.2.2.2.size)⟩) ?hSp ⟨hrow, hval, hx.drew, (Below.refl _ _).drew⟩ ?hop ?hlast
  case hSp =>
    intro i v' W W' hi hb h
    match i, h with
    | 0, h | 1, h | 2, h | 3, h | 4, h | 5, h | 6, h | 7, h | 8, h | 9, h | 10, h | 11, h | 12, h | 13, h | 14, h | 15, h | 16, h | 17, h | 18, h | 19, h => exact h
    | _ + 20, h => exact h
  case hop =>
    intro i' a W hiB hN' hfix hBW hdep
    have f9 : a.tmps.getD 9 undef = .slice (some ⟨x, o, none⟩) L cL := (hfix 9 (fun j hj => by omega)).trans f9
    have f10 : a.tmps.getD 10 undef = .int .i64 (b : Int) := (hfix 10 (fun j hj => by omega)).trans f10
    have f11 : a.tmps.getD 11 undef = .pointer (some ⟨Bx, 0, none⟩) := (hfix 11 (fun j hj => by omega)).trans f11
    have f12 : a.tmps.getD 12 undef = .int .i64 (i : Int) := (hfix 12 (fun j hj => by omega)).trans f12
    have e0 : ∀ x, a.eval (.tmp x) = a.tmps.getD x undef := fun _ => rfl
    obtain ⟨g0, g1, hB1, hB0⟩ := hBW
    have g2 : W.cell? ⟨Bx, 0, none⟩ = some (.int .i64 lo) := hB1.cell 0
    have g3 : W.cell? ⟨Bx, 1, none⟩ = some (.int .i64 hi) := hB1.cell 1
    have hLz : (i : Int) < (L : Int) := by omega
    have hbz : (b : Int) < (n : Int) := by omega
    clear hQ
    match i', hN', hiB, hdep with
    | 0, _, _, hdep =>
      refine OpOk.val (v := .pointer (some ⟨Bx, 0, none⟩)) (w' := W) ?_ ⟨Below.refl _ _, rfl⟩
      show (execOp a.eval { dst := some 91, op := Op.fieldAddr 47 (.tmp 11) 0, type := _, pos := _, after := _, guard := none }).run Try.prog W = _
      simp only [execOp, List.map_toArray, List.map_cons, List.map_nil, e0, f11]
      go_simp
    | 1, _, _, hdep =>
      have d91 : a.tmps.getD 91 undef = .pointer (some ⟨Bx, 0, none⟩) := hdep 0 rfl
      refine OpOk.val (v := .int .i64 lo) (w' := W) ?_ ⟨Below.refl _ _, rfl⟩
      show (execOp a.eval { dst := some 92, op := Op.load 3 (.tmp 91), type := _, pos := _, after := _, guard := none }).run Try.prog W = _
      simp only [execOp, List.map_toArray, List.map_cons, List.map_nil, e0, d91]
      go_simp
    | 2, _, _, hdep =>
      refine OpOk.val (v := .slice (some ⟨x, o, none⟩) L cL) (w' := W) ?_ ⟨Below.refl _ _, rfl⟩
      show (execOp a.eval { dst := some 93, op := Op.move (.tmp 9), type := _, pos := _, after := _, guard := none }).run Try.prog W = _
      simp only [execOp, List.map_toArray, List.map_cons, List.map_nil, e0, f9]
      go_simp
    | 3, _, _, hdep =>
      refine OpOk.val (v := .int .i64 (i : Int)) (w' := W) ?_ ⟨Below.refl _ _, rfl⟩
      show (execOp a.eval { dst := some 94, op := Op.move (.tmp 12), type := _, pos := _, after := _, guard := none }).run Try.prog W = _
      simp only [execOp, List.map_toArray, List.map_cons, List.map_nil, e0, f12]
      go_simp
    | 4, _, _, hdep =>
      have d93 : a.tmps.getD 93 undef = .slice (some ⟨x, o, none⟩) L cL := hdep 2 rfl
      have d94 : a.tmps.getD 94 undef = .int .i64 (i : Int) := hdep 3 rfl
      refine OpOk.val (v := .pointer (some ⟨x, o + i, none⟩)) (w' := W) ?_ ⟨Below.refl _ _, rfl⟩
      show (execOp a.eval { dst := some 95, op := Op.indexAddr 72 (.tmp 93) (.tmp 94), type := _, pos := _, after := _, guard := none }).run Try.prog W = _
      simp only [execOp, List.map_toArray, List.map_cons, List.map_nil, e0, d93, d94]
      go_simp
    | 5, _, _, hdep =>
      have d95 : a.tmps.getD 95 undef = .pointer (some ⟨x, o + i, none⟩) := hdep 4 rfl
      refine OpOk.val (v := .slice (some ⟨y, p, none⟩) n cp) (w' := W) ?_ ⟨Below.refl _ _, rfl⟩
      show (execOp a.eval { dst := some 96, op := Op.load 31 (.tmp 95), type := _, pos := _, after := _, guard := none }).run Try.prog W = _
      simp only [execOp, List.map_toArray, List.map_cons, List.map_nil, e0, d95]
      go_simp
    | 6, _, _, hdep =>
      refine OpOk.val (v := .int .i64 (b : Int)) (w' := W) ?_ ⟨Below.refl _ _, rfl⟩
      show (execOp a.eval { dst := some 97, op := Op.move (.tmp 10), type := _, pos := _, after := _, guard := none }).run Try.prog W = _
      simp only [execOp, List.map_toArray, List.map_cons, List.map_nil, e0, f10]
      go_simp
    | 7, _, _, hdep =>
      have d96 : a.tmps.getD 96 undef = .slice (some ⟨y, p, none⟩) n cp := hdep 5 rfl
      have d97 : a.tmps.getD 97 undef = .int .i64 (b : Int) := hdep 6 rfl
      refine OpOk.val (v := .pointer (some ⟨y, p + b, none⟩)) (w' := W) ?_ ⟨Below.refl _ _, rfl⟩
      show (execOp a.eval { dst := some 98, op := Op.indexAddr 31 (.tmp 96) (.tmp 97), type := _, pos := _, after := _, guard := none }).run Try.prog W = _
      simp only [execOp, List.map_toArray, List.map_cons, List.map_nil, e0, d96, d97]
      go_simp
    | 8, _, _, hdep =>
      have d98 : a.tmps.getD 98 undef = .pointer (some ⟨y, p + b, none⟩) := hdep 7 rfl
      refine OpOk.val (v := .int .i64 v) (w' := W) ?_ ⟨Below.refl _ _, rfl⟩
      show (execOp a.eval { dst := some 99, op := Op.load 3 (.tmp 98), type := _, pos := _, after := _, guard := none }).run Try.prog W = _
      simp only [execOp, List.map_toArray, List.map_cons, List.map_nil, e0, d98]
      go_simp
    | 9, _, _, hdep =>
      have d92 : a.tmps.getD 92 undef = .int .i64 lo := hdep 1 rfl
      have d99 : a.tmps.getD 99 undef = .int .i64 v := hdep 8 rfl
      refine OpOk.val (v := .int .i64 (mn lo v)) (w' := W) ?_ ⟨Below.refl _ _, rfl⟩
      show (execOp a.eval { dst := some 100, op := Op.call { callee := .builtin .min, args := #[(.tmp 92), (.tmp 99)], argTypes := #[3, 3] }, type := _, pos := _, after := _, guard := none }).run Try.prog W = _
      simp only [execOp, List.map_toArray, List.map_cons, List.map_nil, e0, d92, d99]
      go_simp
    | 10, _, _, hdep =>
      refine OpOk.val (v := .pointer (some ⟨Bx, 1, none⟩)) (w' := W) ?_ ⟨Below.refl _ _, rfl⟩
      show (execOp a.eval { dst := some 101, op := Op.fieldAddr 47 (.tmp 11) 1, type := _, pos := _, after := _, guard := none }).run Try.prog W = _
      simp only [execOp, List.map_toArray, List.map_cons, List.map_nil, e0, f11]
      go_simp
    | 11, _, _, hdep =>
      have d101 : a.tmps.getD 101 undef = .pointer (some ⟨Bx, 1, none⟩) := hdep 10 rfl
      refine OpOk.val (v := .int .i64 hi) (w' := W) ?_ ⟨Below.refl _ _, rfl⟩
      show (execOp a.eval { dst := some 102, op := Op.load 3 (.tmp 101), type := _, pos := _, after := _, guard := none }).run Try.prog W = _
      simp only [execOp, List.map_toArray, List.map_cons, List.map_nil, e0, d101]
      go_simp
    | 12, _, _, hdep =>
      refine OpOk.val (v := .slice (some ⟨x, o, none⟩) L cL) (w' := W) ?_ ⟨Below.refl _ _, rfl⟩
      show (execOp a.eval { dst := some 103, op := Op.move (.tmp 9), type := _, pos := _, after := _, guard := none }).run Try.prog W = _
      simp only [execOp, List.map_toArray, List.map_cons, List.map_nil, e0, f9]
      go_simp
    | 13, _, _, hdep =>
      refine OpOk.val (v := .int .i64 (i : Int)) (w' := W) ?_ ⟨Below.refl _ _, rfl⟩
      show (execOp a.eval { dst := some 104, op := Op.move (.tmp 12), type := _, pos := _, after := _, guard := none }).run Try.prog W = _
      simp only [execOp, List.map_toArray, List.map_cons, List.map_nil, e0, f12]
      go_simp
    | 14, _, _, hdep =>
      have d103 : a.tmps.getD 103 undef = .slice (some ⟨x, o, none⟩) L cL := hdep 12 rfl
      have d104 : a.tmps.getD 104 undef = .int .i64 (i : Int) := hdep 13 rfl
      refine OpOk.val (v := .pointer (some ⟨x, o + i, none⟩)) (w' := W) ?_ ⟨Below.refl _ _, rfl⟩
      show (execOp a.eval { dst := some 105, op := Op.indexAddr 72 (.tmp 103) (.tmp 104), type := _, pos := _, after := _, guard := none }).run Try.prog W = _
      simp only [execOp, List.map_toArray, List.map_cons, List.map_nil, e0, d103, d104]
      go_simp
    | 15, _, _, hdep =>
      have d105 : a.tmps.getD 105 undef = .pointer (some ⟨x, o + i, none⟩) := hdep 14 rfl
      refine OpOk.val (v := .slice (some ⟨y, p, none⟩) n cp) (w' := W) ?_ ⟨Below.refl _ _, rfl⟩
      show (execOp a.eval { dst := some 106, op := Op.load 31 (.tmp 105), type := _, pos := _, after := _, guard := none }).run Try.prog W = _
      simp only [execOp, List.map_toArray, List.map_cons, List.map_nil, e0, d105]
      go_simp
    | 16, _, _, hdep =>
      refine OpOk.val (v := .int .i64 (b : Int)) (w' := W) ?_ ⟨Below.refl _ _, rfl⟩
      show (execOp a.eval { dst := some 107, op := Op.move (.tmp 10), type := _, pos := _, after := _, guard := none }).run Try.prog W = _
      simp only [execOp, List.map_toArray, List.map_cons, List.map_nil, e0, f10]
      go_simp
    | 17, _, _, hdep =>
      have d106 : a.tmps.getD 106 undef = .slice (some ⟨y, p, none⟩) n cp := hdep 15 rfl
      have d107 : a.tmps.getD 107 undef = .int .i64 (b : Int) := hdep 16 rfl
      refine OpOk.val (v := .pointer (some ⟨y, p + b, none⟩)) (w' := W) ?_ ⟨Below.refl _ _, rfl⟩
      show (execOp a.eval { dst := some 108, op := Op.indexAddr 31 (.tmp 106) (.tmp 107), type := _, pos := _, after := _, guard := none }).run Try.prog W = _
      simp only [execOp, List.map_toArray, List.map_cons, List.map_nil, e0, d106, d107]
      go_simp
    | 18, _, _, hdep =>
      have d108 : a.tmps.getD 108 undef = .pointer (some ⟨y, p + b, none⟩) := hdep 17 rfl
      refine OpOk.val (v := .int .i64 v) (w' := W) ?_ ⟨Below.refl _ _, rfl⟩
      show (execOp a.eval { dst := some 109, op := Op.load 3 (.tmp 108), type := _, pos := _, after := _, guard := none }).run Try.prog W = _
      simp only [execOp, List.map_toArray, List.map_cons, List.map_nil, e0, d108]
      go_simp
    | 19, _, _, hdep =>
      have d102 : a.tmps.getD 102 undef = .int .i64 hi := hdep 11 rfl
      have d109 : a.tmps.getD 109 undef = .int .i64 v := hdep 18 rfl
      refine OpOk.val (v := .int .i64 (mx hi v)) (w' := W) ?_ ⟨Below.refl _ _, rfl⟩
      show (execOp a.eval { dst := some 110, op := Op.call { callee := .builtin .max, args := #[(.tmp 102), (.tmp 109)], argTypes := #[3, 3] }, type := _, pos := _, after := _, guard := none }).run Try.prog W = _
      simp only [execOp, List.map_toArray, List.map_cons, List.map_nil, e0, d102, d109]
      go_simp
    | 20, _, _, hdep =>
      have d100 : a.tmps.getD 100 undef = .int .i64 (mn lo v) := hdep 9 rfl
      have d110 : a.tmps.getD 110 undef = .int .i64 (mx hi v) := hdep 19 rfl
      refine OpOk.val (v := .agg #[.int .i64 (mn lo v), .int .i64 (mx hi v)]) (w' := W) ?_ ⟨Below.refl _ _, rfl⟩
      show (execOp a.eval { dst := some 111, op := Op.build 47 #[(0, (.tmp 100)), (1, (.tmp 110))], type := _, pos := _, after := _, guard := none }).run Try.prog W = _
      simp only [execOp, List.map_toArray, List.map_cons, List.map_nil, e0, d100, d110]
      go_simp
      all_goals (first | rfl | assumption | exact Go.IntWalk.i64_left _ | exact rfl)
    | kk + 21, h, _, _ => exact absurd h (by omega)
  case hlast =>
    intro a W e1 e2 hfix hBW hall
    have f11 : a.tmps.getD 11 undef = .pointer (some ⟨Bx, 0, none⟩) := (hfix 11 (fun j hj => by omega)).trans f11
    have d111 : a.tmps.getD 111 undef = .agg #[.int .i64 (mn lo v), .int .i64 (mx hi v)] := hall 20 (by omega)
    have e0 : ∀ x, a.eval (.tmp x) = a.tmps.getD x undef := fun _ => rfl
    obtain ⟨_, _, h3, hB0⟩ := hBW
    have g2 : W.cell? ⟨Bx, 0, none⟩ = some (.int .i64 lo) := h3.cell 0
    have g3 : W.cell? ⟨Bx, 1, none⟩ = some (.int .i64 hi) := h3.cell 1
    have z2 : W.frozen? ⟨Bx, 0, none⟩ = false := h3.frozen 0
    have z3 : W.frozen? ⟨Bx, 1, none⟩ = false := h3.frozen 1
    generalize mn lo v = lo' at *
    generalize mx hi v = hi' at *
    refine OpOk.skip (w' := ((W.setCell ⟨Bx, 0, none⟩ (.int .i64 lo')).setCell ⟨Bx, 1, none⟩ (.int .i64 hi'))) ?_ ?_
    · show (execOp a.eval { dst := none, op := Op.store 47 (.tmp 11) (.tmp 111), type := _, pos := _, after := _, guard := none }).run Try.prog W = _
      simp only [execOp, e0, f11, d111]
      go_simp
    · exact hQ _ _ e1 (e2.trans hsz) (fun s hs => hfix s (fun j hj => by omega)) (((Chg.below hB0 (fun k => k = Bx)).setCell (.inl rfl) _).setCell (.inl rfl) _) ((h3.set 0 _).set 1 _)

set_option maxHeartbeats 4000000 in
set_option maxRecDepth 10000 in
theorem same_region (rd : Option Nat) (Bx z u m cm b : Nat) (lo hi : Int) (hb : b < m)
    (a0 : Act) (w0 : World) (Q : Exit → Act → World → Prop) (hsz : a0.tmps.size = 119)
    (f5 : a0.tmps.getD 5 undef = .slice (some ⟨z, u, none⟩) m cm) (f10 : a0.tmps.getD 10 undef = .int .i64 (b : Int)) (f11 : a0.tmps.getD 11 undef = .pointer (some ⟨Bx, 0, none⟩))
    (h0 : w0.cell? ⟨z, u + b * 2, none⟩ = some (.int .i64 lo)) (h1 : w0.cell? ⟨z, u + b * 2 + 1, none⟩ = some (.int .i64 hi)) (hx : Blk w0 Bx #[.int .i64 lo, .int .i64 hi] 47)
    (hQ : ∀ (a : Act) (W : World), a.defers = a0.defers → a.tmps.size = 119 → a.tmps.getD 117 undef = .bool false → (∀ s, (s < 112 ∨ 117 < s) → a.tmps.getD s undef = a0.tmps.getD s undef) → Below w0.heap.size w0 W → Q .normal a W) :
    (Code.region 18 (opsOf Try.f5 18) true).wpIn { Fence.wide with round := rd } 0 Try.prog Q a0 w0 := by
  refine region_walk (rd := rd) 5 (fun i => i + 112) (by kernel_rfl) (by kernel_rfl) (by rw [hsz]; kernel_rfl)
    (fun W => W.cell? ⟨z, u + b * 2, none⟩ = some (.int .i64 lo) ∧ W.cell? ⟨z, u + b * 2 + 1, none⟩ = some (.int .i64 hi) ∧ Blk W Bx #[.int .i64 lo, .int .i64 hi] 47 ∧ Below w0.heap.size w0 W)
    (fun i v' W => match i with
      | 0 => v' = .slice (some ⟨z, u, none⟩) m cm
      | 1 => v' = .int .i64 (b : Int)
      | 2 => v' = .pointer (some ⟨z, u + b * 2, none⟩)
      | 3 => v' = .agg #[.int .i64 lo, .int .i64 hi]
      | _ => v' = .agg #[.int .i64 lo, .int .i64 hi])
    (fun W W' hb h => ⟨held_cell h.1 hb, held_cell h.2.1 hb, h.2.2.1.below hb h.2.2.1.lt, h.2.2.2.trans (hb.mono h.2.2.2.size)⟩) ?hSp ⟨h0, h1, hx.drew, (Below.refl _ _).drew⟩ ?hop ?hlast
  case hSp =>
    intro i v' W W' hi hb h
    match i, h with
    | 0, h | 1, h | 2, h | 3, h => exact h
    | _ + 4, h => exact h
  case hop =>
    intro i a W hiB hN' hfix hBW hdep
    have f5 : a.tmps.getD 5 undef = .slice (some ⟨z, u, none⟩) m cm := (hfix 5 (fun j hj => by omega)).trans f5
    have f10 : a.tmps.getD 10 undef = .int .i64 (b : Int) := (hfix 10 (fun j hj => by omega)).trans f10
    have f11 : a.tmps.getD 11 undef = .pointer (some ⟨Bx, 0, none⟩) := (hfix 11 (fun j hj => by omega)).trans f11
    have e0 : ∀ x, a.eval (.tmp x) = a.tmps.getD x undef := fun _ => rfl
    obtain ⟨g0, g1, hB1, hB0⟩ := hBW
    have g2 : W.cell? ⟨Bx, 0, none⟩ = some (.int .i64 lo) := hB1.cell 0
    have g3 : W.cell? ⟨Bx, 1, none⟩ = some (.int .i64 hi) := hB1.cell 1
    have hbz : (b : Int) < (m : Int) := by omega
    clear hQ
    match i, hN', hiB, hdep with
    | 0, _, _, hdep =>
      refine OpOk.val (v := .slice (some ⟨z, u, none⟩) m cm) (w' := W) ?_ ⟨Below.refl _ _, rfl⟩
      show (execOp a.eval { dst := some 112, op := Op.move (.tmp 5), type := _, pos := _, after := _, guard := none }).run Try.prog W = _
      simp only [execOp, List.map_toArray, List.map_cons, List.map_nil, e0, f5]
      go_simp
    | 1, _, _, hdep =>
      refine OpOk.val (v := .int .i64 (b : Int)) (w' := W) ?_ ⟨Below.refl _ _, rfl⟩
      show (execOp a.eval { dst := some 113, op := Op.move (.tmp 10), type := _, pos := _, after := _, guard := none }).run Try.prog W = _
      simp only [execOp, List.map_toArray, List.map_cons, List.map_nil, e0, f10]
      go_simp
    | 2, _, _, hdep =>
      have d112 : a.tmps.getD 112 undef = .slice (some ⟨z, u, none⟩) m cm := hdep 0 rfl
      have d113 : a.tmps.getD 113 undef = .int .i64 (b : Int) := hdep 1 rfl
      refine OpOk.val (v := .pointer (some ⟨z, u + b * 2, none⟩)) (w' := W) ?_ ⟨Below.refl _ _, rfl⟩
      show (execOp a.eval { dst := some 114, op := Op.indexAddr 37 (.tmp 112) (.tmp 113), type := _, pos := _, after := _, guard := none }).run Try.prog W = _
      simp only [execOp, List.map_toArray, List.map_cons, List.map_nil, e0, d112, d113]
      go_simp
    | 3, _, _, hdep =>
      have d114 : a.tmps.getD 114 undef = .pointer (some ⟨z, u + b * 2, none⟩) := hdep 2 rfl
      refine OpOk.val (v := .agg #[.int .i64 lo, .int .i64 hi]) (w' := W) ?_ ⟨Below.refl _ _, rfl⟩
      show (execOp a.eval { dst := some 115, op := Op.load 47 (.tmp 114), type := _, pos := _, after := _, guard := none }).run Try.prog W = _
      simp only [execOp, List.map_toArray, List.map_cons, List.map_nil, e0, d114]
      go_simp
    | 4, _, _, hdep =>
      refine OpOk.val (v := .agg #[.int .i64 lo, .int .i64 hi]) (w' := W) ?_ ⟨Below.refl _ _, rfl⟩
      show (execOp a.eval { dst := some 116, op := Op.load 47 (.tmp 11), type := _, pos := _, after := _, guard := none }).run Try.prog W = _
      simp only [execOp, List.map_toArray, List.map_cons, List.map_nil, e0, f11]
      go_simp
    | kk + 5, h, _, _ => exact absurd h (by omega)
  case hlast =>
    intro a W e1 e2 hfix hBW hall
    have d115 : a.tmps.getD 115 undef = .agg #[.int .i64 lo, .int .i64 hi] := hall 3 (by omega)
    have d116 : a.tmps.getD 116 undef = .agg #[.int .i64 lo, .int .i64 hi] := hall 4 (by omega)
    have e0 : ∀ x, a.eval (.tmp x) = a.tmps.getD x undef := fun _ => rfl
    refine OpOk.val (v := .bool false) (w' := W) ?_ ?_
    · show (execOp a.eval { dst := some 117, op := Op.binOp BinOp.neq 47 (.tmp 115) (.tmp 116) 47, type := _, pos := _, after := _, guard := none }).run Try.prog W = _
      simp only [execOp, e0, d115, d116]
      go_simp
    · refine hQ _ _ e1 ?_ ?_ ?_ hBW.2.2.2
      · show (a.tmps.setIfInBounds 117 _).size = 119
        simp [e2, hsz]
      · show (a.tmps.setIfInBounds 117 _).getD 117 undef = _
        rw [getD_put _ _ _ _ (by rw [e2, hsz]; omega), if_pos rfl]
      · intro s hs
        show (a.tmps.setIfInBounds 117 _).getD s undef = _
        rw [getD_put _ _ _ _ (by rw [e2, hsz]; omega), if_neg (by omega)]
        exact hfix s (fun j hj => by omega)
end Go.Proofs.Ytdagijgoegkphaa.Hand

namespace Go.Proofs.Ytdagijgoegkphaa.Pure
open Go.RowKit Go.Proofs.YtdagijgoegkphaaW.PrintWords Go.Proofs.YtdagijgoegkphaaW.PrintLast Go.Proofs.Ytdagijgoegkphaa.P
open Hand (Rg Sg Rn Nm Rt Aw Blk Chg)

/-- A range that has the rate of a band as well. -/
def wide (b : Nat) (x : Rg) (q : Rt) : Rg := ⟨Hand.mn x.lo (q.get b), Hand.mx x.hi (q.get b)⟩
theorem accR_get (n b : Nat) (hb : b < n) : ∀ (suf pre : List Rt) (q0 : Rt), (Hand.accR n (q0 :: pre ++ suf)).getD b ⟨0, 0⟩ = suf.foldl (wide b) ((Hand.accR n (q0 :: pre)).getD b ⟨0, 0⟩)
  | [], pre, q0 => by rw [List.append_nil]; rfl
  | r :: suf, pre, q0 => by
    have h := accR_get n b hb suf (pre ++ [r]) q0
    rw [show q0 :: (pre ++ [r]) ++ suf = q0 :: pre ++ r :: suf by simp] at h
    rw [h, List.foldl_cons]
    congr 1
    rw [show q0 :: (pre ++ [r]) = (q0 :: pre) ++ [r] from rfl, Hand.accR_snoc, show ((q0 :: pre).length == 0) = false from rfl]
    have hl : b < (Hand.accR n (q0 :: pre)).length := by rw [Hand.accR_length]; exact hb
    rw [List.getD_eq_getElem?_getD, List.getD_eq_getElem?_getD, List.getElem?_eq_getElem (by unfold Hand.rgStep; simpa using hl), List.getElem?_eq_getElem hl]
    unfold Hand.rgStep
    rw [Option.getD_some, Option.getD_some, List.getElem_mapIdx]
    rfl
theorem accR_all (n b : Nat) (hb : b < n) (q0 : Rt) (l : List Rt) : (Hand.accR n (q0 :: l)).getD b ⟨0, 0⟩ = (q0 :: l).foldl (wide b) ⟨q0.get b, q0.get b⟩ := by
  have h := accR_get n b hb l [] q0
  rw [show [q0] ++ l = q0 :: l from rfl] at h
  rw [h, List.foldl_cons]
  congr 1
  have h1 := Hand.accR_snoc n [] q0
  rw [List.nil_append] at h1
  have h0 : Hand.accR n [] = List.replicate n ⟨0, 0⟩ := rfl
  rw [h1, h0, show (([] : List Rt).length == 0) = true from rfl]
  have hl : b < (List.replicate n (⟨0, 0⟩ : Rg)).length := by simpa using hb
  rw [List.getD_eq_getElem?_getD, List.getElem?_eq_getElem (by unfold Hand.rgStep; simpa using hb)]
  unfold Hand.rgStep
  rw [Option.getD_some, List.getElem_mapIdx]
  show (⟨q0.get b, q0.get b⟩ : Rg) = ⟨Hand.mn (q0.get b) (q0.get b), Hand.mx (q0.get b) (q0.get b)⟩
  unfold Hand.mn Hand.mx
  simp
theorem fold_take (b : Nat) (x : Rg) (l : List Rt) (i : Nat) (h : i < l.length) : (l.take (i + 1)).foldl (wide b) x = wide b ((l.take i).foldl (wide b) x) l[i] := by
  rw [List.take_succ_eq_append_getElem h, List.foldl_append]
  rfl

theorem rows_at {W : World} {A : Option Addr} {n : Nat} (hn : n ≤ 3) (l : List Rt) (h : Kd.C (Kd.slice 3 (Kd.int .i64)) W A l.length (l.map fun q => q.list n)) (h0 : 0 < l.length) :
    ∃ x o, A = some ⟨x, o, none⟩ ∧ ∀ (i : Nat) (hi : i < l.length) (b : Nat), b < n → ∃ y p cp, W.cell? ⟨x, o + i, none⟩ = some (.slice (some ⟨y, p, none⟩) n cp) ∧ W.cell? ⟨y, p + b, none⟩ = some (.int .i64 ((l[i]).get b)) := by
  obtain ⟨ad, _, _, hA, g0, _⟩ := at_L8 h (0 : Int) (by omega) (by omega)
  have hs : ad.spot = none := by have := plain_of_cell g0; simpa [Addr.add] using this
  obtain ⟨x, o, sp⟩ := ad
  simp only at hs
  subst hs
  refine ⟨x, o, hA, fun i hi b hb => ?_⟩
  obtain ⟨ad', A0, c0, hA', h1, _, h3⟩ := at_L8 h (i : Int) (by omega) (by omega)
  rw [hA] at hA'
  cases hA'
  have er : rd_L8 (l.map fun q => q.list n) (i : Int) = (l[i]).list n := by
    unfold rd_L8
    rw [Int.toNat_natCast, List.getD_eq_getElem?_getD, List.getElem?_map, List.getElem?_eq_getElem hi]
    rfl
  rw [er] at h1 h3
  have hl := take_len (l[i]) n hn
  obtain ⟨y, p, hA0, _, h4⟩ := nmAt_of_C h3 b (by rw [toNm_length, hl]; exact hb)
  subst hA0
  rw [P.add_plain, Int.toNat_natCast, hl] at h1
  have e2 : ((toNm ((l[i]).list n))[b]'(by rw [toNm_length, hl]; exact hb)).n = (l[i]).get b := by
    have := take_rd (l[i]) n b hb hn
    rw [← this, rd_nat, ← nm_at, List.getD_eq_getElem?_getD, List.getElem?_eq_getElem (by rw [toNm_length, hl]; exact hb)]
    rfl
  rw [e2] at h4
  exact ⟨y, p, c0, h1, h4⟩
theorem row_at {W : World} {A : Option Addr} (l : List Rg) (h : Kd.C k47 W A l.length (ofRg l)) (h0 : 0 < l.length) :
    ∃ z u, A = some ⟨z, u, none⟩ ∧ ∀ (b : Nat), b < l.length → W.cell? ⟨z, u + b * 2, none⟩ = some (.int .i64 (l.getD b ⟨0, 0⟩).lo) ∧ W.cell? ⟨z, u + b * 2 + 1, none⟩ = some (.int .i64 (l.getD b ⟨0, 0⟩).hi) := by
  obtain ⟨ad, hA, g0, _⟩ := at_T47 h (0 : Int) (by omega) (by omega)
  have hs : ad.spot = none := by have := plain_of_cell g0; simpa [Addr.add] using this
  obtain ⟨z, u, sp⟩ := ad
  simp only at hs
  subst hs
  refine ⟨z, u, hA, fun b hb => ?_⟩
  obtain ⟨ad', hA', h1, h2⟩ := at_T47 h (b : Int) (by omega) (by omega)
  rw [hA] at hA'
  cases hA'
  have er : rd_T47 (ofRg l) (b : Int) = ofRg1 (l.getD b ⟨0, 0⟩) := by
    unfold rd_T47 ofRg
    rw [Int.toNat_natCast, List.getD_eq_getElem?_getD, List.getD_eq_getElem?_getD, List.getElem?_map, List.getElem?_eq_getElem hb]
    rfl
  rw [er, P.add_plain, Int.toNat_natCast] at h1 h2
  exact ⟨h1, h2⟩

open Classical in
/-- The statement's own function: it is claimed of numbers that fit. -/
noncomputable def CreepRatesF (m : List S54) : Option Bool := if ∀ s ∈ m, Fits54 s then some true else none

set_option maxHeartbeats 8000000 in
set_option maxRecDepth 100000 in
theorem rates_calls (A0 : Option Addr) (c0 : Nat) (m : List S54) (A1 : Option Addr) (c1 : Nat) (r : List S81) (w : World) (hr0 : Kd.C k54 w A0 m.length m) (hc0 : m.length ≤ c0) (hr1 : Kd.C k81 w A1 r.length r) (hc1 : r.length ≤ c1) (hm : ∀ s ∈ m, Fits54 s) :
    Calls Try.prog 5 #[.agg #[.slice A0 m.length c0], .slice A1 r.length c1] w fun e w' => e = .returned (.bool true) ∧ Below w.heap.size w w' := by
  obtain ⟨w1, hw1⟩ : ∃ w1, w1 = w.alloc (.cells #[.slice A0 m.length c0] 24) := ⟨_, rfl⟩
  obtain ⟨B2, hB2⟩ : ∃ B2, B2 = w.heap.size := ⟨_, rfl⟩
  have hbel : Below w.heap.size w w1 := by rw [hw1]; exact (Below.refl w.heap.size w).alloc (Nat.le_refl _) _
  have h2 : Blk w1 B2 #[.slice A0 m.length c0] 24 := by rw [hw1, hB2]; exact Blk.new w _ _
  obtain ⟨bt, hbt, hbt2⟩ := thin_f m r [] 20000 (by omega)
  have HB := Aw.mk hbel
  have H2 := Aw.mk h2
  have HB2 := Aw.mk hB2
  have HR0 := Aw.mk (Kd.C_below hr0 hbel)
  have HR1 := Aw.mk (Kd.C_below hr1 hbel)
  have HC0 := Aw.mk hc0
  have HC1 := Aw.mk hc1
  have HM := Aw.mk hm
  have HBT := Aw.mk hbt
  have HBT2 := Aw.mk hbt2
  have HW := Aw.mk hw1
  clear hr0 hc0 hr1 hc1 hm hbel h2 hbt hbt2 hw1 hB2
  go_enter Try.func5, Try.ntmps5
  go_wp2_with fail
  rw [← HB2.out, ← HW.out]
  refine (tensilelaw05_Thin.calls 20000 A0 c0 m A1 c1 r none 0 [] bt _ HR0.out HC0.out HR1.out HC1.out (Kd.C_nil _ _) (Nat.le_refl _) HBT.out).mono ?_
  rintro e w2 ⟨rfl, hb⟩
  have HBB2 := Aw.mk (HB.out.trans (hb.mono HB.out.size))
  have h22 := H2.out.below hb H2.out.lt
  have HR02 := Aw.mk (Kd.C_below HR0.out hb)
  have HR12 := Aw.mk (Kd.C_below HR1.out hb)
  have d2 : w2.cell? ⟨B2, 0, none⟩ = some (.slice A0 m.length c0) := h22.cell 0
  have H22 := Aw.mk h22
  clear hb h22
  cases bt with
  | false =>
    clear HBT HBT2
    go_wp2_with fail
    refine (tensilelaw05_awake.calls true _ rfl).mono ?_
    rintro e w3 ⟨rfl, hb⟩
    have HBB3 := Aw.mk (HBB2.out.trans (hb.mono HBB2.out.size))
    clear hb
    go_wp2_with fail
    go_ret
    exact ⟨rfl, HBB3.out⟩
  | true =>
  obtain ⟨k1, k2, _, k3⟩ := HBT2.out rfl
  have hsm : Small m r [] := ⟨k1, k2, by simp, k3⟩
  have HMAT := Aw.mk (material_f m (by omega) 20000 (by omega))
  have HRUN := Aw.mk (runs_f r (by omega) k3 20000 (by omega))
  have HASK := Aw.mk (asked_f m r [] hsm HM.out 20000 (by omega))
  clear HBT HBT2 k1 k2 k3 hsm
  go_wp2_with fail
  refine (tensilelaw05_Material.calls 20000 A0 c0 m (m.map c47) _ HR02.out HC0.out HMAT.out).mono ?_
  rintro e w3 ⟨v3, rfl, hR, hb⟩
  obtain ⟨A3, c3, rfl, hc3, hC3⟩ := Kd.R_reads hR
  rw [List.length_map] at hc3 hC3 ⊢
  have HC3 := Aw.mk hC3
  have HK3 := Aw.mk hc3
  have HBB3 := Aw.mk (HBB2.out.trans (hb.mono HBB2.out.size))
  have h23 := H22.out.below hb H22.out.lt
  have d3 : w3.cell? ⟨B2, 0, none⟩ = some (.slice A0 m.length c0) := h23.cell 0
  have H23 := Aw.mk h23
  have HR03 := Aw.mk (Kd.C_below HR02.out hb)
  have HR13 := Aw.mk (Kd.C_below HR12.out hb)
  clear hb hR hc3 hC3 h23
  go_wp2_with fail
  refine (tensilelaw05_Runs.calls 20000 A1 c1 r (r.map c67) _ HR13.out HC1.out HRUN.out).mono ?_
  rintro e w4 ⟨v4, rfl, hR, hb⟩
  obtain ⟨A4, c4, rfl, hc4, hC4⟩ := Kd.R_reads (Kd.S_R hR)
  rw [List.length_map] at hc4 hC4 ⊢
  have HC4 := Aw.mk hC4
  have HK4 := Aw.mk hc4
  have HBB4 := Aw.mk (HBB3.out.trans (hb.mono HBB3.out.size))
  have h24 := H23.out.below hb H23.out.lt
  have d4 : w4.cell? ⟨B2, 0, none⟩ = some (.slice A0 m.length c0) := h24.cell 0
  have H24 := Aw.mk h24
  have HC34 := Aw.mk (Kd.C_below HC3.out hb)
  have HR04 := Aw.mk (Kd.C_below HR03.out hb)
  have HR14 := Aw.mk (Kd.C_below HR13.out hb)
  clear hb hR hc4 hC4 h24
  go_wp2_with fail
  have HRT := Aw.mk (creep_Rates.calls A3 c3 (m.map c47) A4 c4 (r.map c67) (ofRg (Hand.ratesV (m.map cRg) (r.map cRn)).1) (Hand.ratesV (m.map cRg) (r.map cRn)).2.1 (Hand.ratesV (m.map cRg) (r.map cRn)).2.2 w4 (by rw [List.length_map]; exact HC34.out) (by rw [List.length_map]; exact HK3.out) (by rw [List.length_map]; exact HC4.out) (by rw [List.length_map]; exact HK4.out) (by unfold creep_Rates.f; rw [toRg_c, toRn_c]))
  rw [List.length_map, List.length_map] at HRT
  refine HRT.out.mono ?_
  rintro e w5 ⟨v5, rfl, hR, hb⟩
  obtain ⟨A5, c5, rfl, hc5, hC5⟩ := Kd.R_reads hR
  have hl5 : (ofRg (Hand.ratesV (m.map cRg) (r.map cRn)).1).length = (Hand.ratesV (m.map cRg) (r.map cRn)).1.length := List.length_map ..
  rw [hl5] at hc5 hC5 ⊢
  have HC5 := Aw.mk hC5
  have HBB5 := Aw.mk (HBB4.out.trans (hb.mono HBB4.out.size))
  have h25 := H24.out.below hb H24.out.lt
  have d5 : w5.cell? ⟨B2, 0, none⟩ = some (.slice A0 m.length c0) := h25.cell 0
  have H25 := Aw.mk h25
  have HR05 := Aw.mk (Kd.C_below HR04.out hb)
  have HR15 := Aw.mk (Kd.C_below HR14.out hb)
  have HPV : Aw (Hand.ratesV (m.map cRg) (r.map cRn) = if Hand.possErr (m.map cRg) (r.map cRn) = 0 then (Hand.accR m.length (Hand.good (m.map cRg) (r.map cRn)), ((Hand.good (m.map cRg) (r.map cRn)).length : Int), 0) else ([], 0, Hand.possErr (m.map cRg) (r.map cRn))) := ⟨by unfold Hand.ratesV; rw [List.length_map]⟩
  clear hb hR hc5 hC5 h25 hl5 HRT
  generalize Hand.ratesV (m.map cRg) (r.map cRn) = rv at *
  go_wp2_with fail
  refine (tensilelaw05_asked.calls 20000 A0 c0 m A1 c1 r (Hand.possErr (m.map cRg) (r.map cRn)) _ HR05.out HC0.out HR15.out HC1.out HASK.out).mono ?_
  rintro e w6 ⟨rfl, hb⟩
  have HBB6 := Aw.mk (HBB5.out.trans (hb.mono HBB5.out.size))
  have h26 := H25.out.below hb H25.out.lt
  have d6 : w6.cell? ⟨B2, 0, none⟩ = some (.slice A0 m.length c0) := h26.cell 0
  have H26 := Aw.mk h26
  have HR06 := Aw.mk (Kd.C_below HR05.out hb)
  have HR16 := Aw.mk (Kd.C_below HR15.out hb)
  have HC56 := Aw.mk (Kd.C_below HC5.out hb)
  clear hb h26
  by_cases hp : Hand.possErr (m.map cRg) (r.map cRn) = 0
  case neg =>
    obtain rfl : rv = ([], 0, Hand.possErr (m.map cRg) (r.map cRn)) := by rw [HPV.out, if_neg hp]
    have hp' : (Hand.possErr (m.map cRg) (r.map cRn) != 0) = true := by simp [hp]
    clear HPV hp
    generalize Hand.possErr (m.map cRg) (r.map cRn) = er at *
    go_wp2_with fail
    refine (tensilelaw05_awake.calls true _ rfl).mono ?_
    rintro e w7 ⟨rfl, hb⟩
    have HBB7 := Aw.mk (HBB6.out.trans (hb.mono HBB6.out.size))
    clear hb
    go_wp2_with fail
    go_ret
    exact ⟨rfl, HBB7.out⟩
  have he := Hand.poss_enter hp
  have h3 := (val_of he).1
  have HVAL := Aw.mk (show 0 < m.length ∧ True from ⟨by have := (Hand.enter_ok he).1.1; rw [List.length_map] at this; omega, trivial⟩)
  have HALL := Aw.mk (allowed_f he 20000 (by omega))
  have hgn : Hand.good (m.map cRg) (r.map cRn) ≠ [] := by
    intro e
    unfold Hand.possErr at hp
    rw [if_pos he, if_pos e] at hp
    cases hp
  obtain rfl : rv = (Hand.accR m.length (Hand.good (m.map cRg) (r.map cRn)), ((Hand.good (m.map cRg) (r.map cRn)).length : Int), 0) := by rw [HPV.out, if_pos hp]
  have hgl : (Hand.good (m.map cRg) (r.map cRn)).length ≤ 9261 := Nat.le_trans (List.length_filter_le _ _) (lists_len (val_of he))
  rw [hp]
  clear HPV hp he
  generalize Hand.good (m.map cRg) (r.map cRn) = gd at *
  have HGN := Aw.mk hgn
  clear hgn
  go_wp2_with fail
  refine (tensileref05_Allowed.calls 20000 A0 c0 m A1 c1 r (gd.map fun q => q.list m.length) _ HR06.out HC0.out HR16.out HC1.out HALL.out).mono ?_
  rintro e w7 ⟨v7, rfl, hN, hb⟩
  obtain ⟨A7, c7, rfl, hc7, hC7⟩ := Kd.N_reads hN
  rw [List.length_map] at hc7 hC7 ⊢
  have HBB7 := Aw.mk (HBB6.out.trans (hb.mono HBB6.out.size))
  have h27 := H26.out.below hb H26.out.lt
  have d7 : w7.cell? ⟨B2, 0, none⟩ = some (.slice A0 m.length c0) := h27.cell 0
  have hg0 : 0 < gd.length := List.length_pos_iff.2 HGN.out
  obtain ⟨x, o, hA7, hrows⟩ := rows_at h3 gd hC7 hg0
  subst hA7
  have HROWS := Aw.mk hrows
  have hal : (Hand.accR m.length gd).length = m.length := Hand.accR_length _ _
  have HC57 := Aw.mk (Kd.C_below HC56.out hb)
  rw [hal]
  have hlm : ((gd.length : Int) != (gd.length : Int)) = false := by simp
  clear hb hN hc7 hC7 h27 hrows
  go_wp2_with fail
  have HD7 := Aw.mk d7
  have HC57' := HC57
  rw [hal] at HC57
  have h5n : 0 < m.length := by
    have := (HVAL.out).1
    exact this
  obtain ⟨z, u, hA5, hrow5⟩ := row_at (Hand.accR m.length gd) (by rw [hal]; exact HC57.out) (by rw [hal]; exact h5n)
  rw [hal] at hrow5
  have HROW5 := Aw.mk hrow5
  subst hA5
  clear d7 hrow5 hlm
  have HBB := Aw.mk (Below.refl w7.heap.size w7)
  go_loopg [10] m.length (fun gg s10 wr => ∃ b : Nat, b ≤ m.length ∧ m.length - b ≤ gg ∧ s10 = .int .i64 b ∧ Aw (Below w7.heap.size w7 wr))
  case atStart => exact ⟨0, Nat.zero_le _, by omega, rfl, HBB⟩
  case round =>
  obtain ⟨b, hb, hgg, rfl, HJ⟩ := hrel
  by_cases hlt : b < m.length
  case neg =>
    have hltz : decide ((b : Int) < (m.length : Int)) = false := decide_eq_false (by omega)
    go_wp2_with fail
    refine (tensilelaw05_awake.calls true _ rfl).mono ?_
    rintro e w8 ⟨rfl, hb⟩
    have HBB8 := Aw.mk ((HBB7.out.trans (HJ.out.mono HBB7.out.size)).trans (hb.mono (HBB7.out.trans (HJ.out.mono HBB7.out.size)).size))
    clear hb
    go_wp2_with fail
    go_ret
    exact ⟨rfl, HBB8.out⟩
  have hltz : (b : Int) < (m.length : Int) := by omega
  obtain ⟨y, p, cp, r0, v0⟩ := HROWS.out 0 hg0 b hlt
  go_wp2_with fail
  refine wpIn_wide.1 (Hand.first_region none x o gd.length c7 y p m.length cp b ((gd[0]).get b) hg0 hlt _ wr _ rfl rfl rfl (Hand.held_cell r0 HJ.out) (Hand.held_cell v0 HJ.out) ?_)
  intro a W g hd hsz h11 hfix hbW hgw hblk
  have p11 : Hand.slot a 11 = .pointer (some ⟨g, 0, none⟩) := h11
  have hp : ∀ s, (s ≠ 11 ∧ (s < 72 ∨ 84 < s)) → Hand.slot a s = _ := fun s hs => hfix s hs.1 hs.2
  have p0 := hp 0 (by decide)
  have p1 := hp 1 (by decide)
  have p2 := hp 2 (by decide)
  have p3 := hp 3 (by decide)
  have p4 := hp 4 (by decide)
  have p5 := hp 5 (by decide)
  have p6 := hp 6 (by decide)
  have p7 := hp 7 (by decide)
  have p8 := hp 8 (by decide)
  have p9 := hp 9 (by decide)
  have p10 := hp 10 (by decide)
  have p12 := hp 12 (by decide)
  have p13 := hp 13 (by decide)
  have p14 := hp 14 (by decide)
  have p15 := hp 15 (by decide)
  have p16 := hp 16 (by decide)
  have p17 := hp 17 (by decide)
  have p18 := hp 18 (by decide)
  have p19 := hp 19 (by decide)
  have p20 := hp 20 (by decide)
  have p21 := hp 21 (by decide)
  have p22 := hp 22 (by decide)
  have p23 := hp 23 (by decide)
  have p24 := hp 24 (by decide)
  have p25 := hp 25 (by decide)
  have p26 := hp 26 (by decide)
  have p27 := hp 27 (by decide)
  have p28 := hp 28 (by decide)
  have p29 := hp 29 (by decide)
  have p30 := hp 30 (by decide)
  have p31 := hp 31 (by decide)
  have p32 := hp 32 (by decide)
  have p33 := hp 33 (by decide)
  have p34 := hp 34 (by decide)
  have p35 := hp 35 (by decide)
  have p36 := hp 36 (by decide)
  have p37 := hp 37 (by decide)
  have p38 := hp 38 (by decide)
  have p39 := hp 39 (by decide)
  have p40 := hp 40 (by decide)
  have p41 := hp 41 (by decide)
  have p42 := hp 42 (by decide)
  have p43 := hp 43 (by decide)
  have p44 := hp 44 (by decide)
  have p45 := hp 45 (by decide)
  have p46 := hp 46 (by decide)
  have p47 := hp 47 (by decide)
  have p48 := hp 48 (by decide)
  have p49 := hp 49 (by decide)
  have p50 := hp 50 (by decide)
  have p51 := hp 51 (by decide)
  have p52 := hp 52 (by decide)
  have p53 := hp 53 (by decide)
  have p54 := hp 54 (by decide)
  have p55 := hp 55 (by decide)
  have p56 := hp 56 (by decide)
  have p57 := hp 57 (by decide)
  have p58 := hp 58 (by decide)
  have p59 := hp 59 (by decide)
  have p60 := hp 60 (by decide)
  have p61 := hp 61 (by decide)
  have p62 := hp 62 (by decide)
  have p63 := hp 63 (by decide)
  have p64 := hp 64 (by decide)
  have p65 := hp 65 (by decide)
  have p66 := hp 66 (by decide)
  have p67 := hp 67 (by decide)
  have p68 := hp 68 (by decide)
  have p69 := hp 69 (by decide)
  have p70 := hp 70 (by decide)
  have p71 := hp 71 (by decide)
  have p85 := hp 85 (by decide)
  have p86 := hp 86 (by decide)
  have p87 := hp 87 (by decide)
  have p88 := hp 88 (by decide)
  have p89 := hp 89 (by decide)
  have p90 := hp 90 (by decide)
  have p91 := hp 91 (by decide)
  have p92 := hp 92 (by decide)
  have p93 := hp 93 (by decide)
  have p94 := hp 94 (by decide)
  have p95 := hp 95 (by decide)
  have p96 := hp 96 (by decide)
  have p97 := hp 97 (by decide)
  have p98 := hp 98 (by decide)
  have p99 := hp 99 (by decide)
  have p100 := hp 100 (by decide)
  have p101 := hp 101 (by decide)
  have p102 := hp 102 (by decide)
  have p103 := hp 103 (by decide)
  have p104 := hp 104 (by decide)
  have p105 := hp 105 (by decide)
  have p106 := hp 106 (by decide)
  have p107 := hp 107 (by decide)
  have p108 := hp 108 (by decide)
  have p109 := hp 109 (by decide)
  have p110 := hp 110 (by decide)
  have p111 := hp 111 (by decide)
  have p112 := hp 112 (by decide)
  have p113 := hp 113 (by decide)
  have p114 := hp 114 (by decide)
  have p115 := hp 115 (by decide)
  have p116 := hp 116 (by decide)
  have p117 := hp 117 (by decide)
  have p118 := hp 118 (by decide)
  simp only [Array.getD_eq_getD_getElem?, List.getElem?_toArray, List.getElem?_cons_zero, List.getElem?_cons_succ, Option.getD_some] at p0 p1 p2 p3 p4 p5 p6 p7 p8 p9 p10 p12 p13 p14 p15 p16 p17 p18 p19 p20 p21 p22 p23 p24 p25 p26 p27 p28 p29 p30 p31 p32 p33 p34 p35 p36 p37 p38 p39 p40 p41 p42 p43 p44 p45 p46 p47 p48 p49 p50 p51 p52 p53 p54 p55 p56 p57 p58 p59 p60 p61 p62 p63 p64 p65 p66 p67 p68 p69 p70 p71 p85 p86 p87 p88 p89 p90 p91 p92 p93 p94 p95 p96 p97 p98 p99 p100 p101 p102 p103 p104 p105 p106 p107 p108 p109 p110 p111 p112 p113 p114 p115 p116 p117 p118
  rw [Hand.frame_lit' a 119 hsz, hd]
  simp only [List.range, List.range.loop, List.map_cons, List.map_nil, p0, p1, p2, p3, p4, p5, p6, p7, p8, p9, p10, p12, p13, p14, p15, p16, p17, p18, p19, p20, p21, p22, p23, p24, p25, p26, p27, p28, p29, p30, p31, p32, p33, p34, p35, p36, p37, p38, p39, p40, p41, p42, p43, p44, p45, p46, p47, p48, p49, p50, p51, p52, p53, p54, p55, p56, p57, p58, p59, p60, p61, p62, p63, p64, p65, p66, p67, p68, p69, p70, p71, p85, p86, p87, p88, p89, p90, p91, p92, p93, p94, p95, p96, p97, p98, p99, p100, p101, p102, p103, p104, p105, p106, p107, p108, p109, p110, p111, p112, p113, p114, p115, p116, p117, p118, p11]
  clear p0 p1 p2 p3 p4 p5 p6 p7 p8 p9 p10 p12 p13 p14 p15 p16 p17 p18 p19 p20 p21 p22 p23 p24 p25 p26 p27 p28 p29 p30 p31 p32 p33 p34 p35 p36 p37 p38 p39 p40 p41 p42 p43 p44 p45 p46 p47 p48 p49 p50 p51 p52 p53 p54 p55 p56 p57 p58 p59 p60 p61 p62 p63 p64 p65 p66 p67 p68 p69 p70 p71 p85 p86 p87 p88 p89 p90 p91 p92 p93 p94 p95 p96 p97 p98 p99 p100 p101 p102 p103 p104 p105 p106 p107 p108 p109 p110 p111 p112 p113 p114 p115 p116 p117 p118 hp
  clear hfix hd hsz p11 h11
  have hJ1 : Below w7.heap.size w7 W := HJ.out.trans (hbW.mono HJ.out.size)
  have hgb : w7.heap.size ≤ g := Nat.le_trans HJ.out.size hgw
  have HGB := Aw.mk hgb
  have HST := Aw.mk (show Below w7.heap.size w7 W ∧ Blk W g #[.int .i64 ((gd.take 0).foldl (wide b) ⟨(gd[0]).get b, (gd[0]).get b⟩).lo, .int .i64 ((gd.take 0).foldl (wide b) ⟨(gd[0]).get b, (gd[0]).get b⟩).hi] 47 from ⟨hJ1, hblk⟩)
  clear hbW hgw hblk hJ1 r0 v0 hgb
  generalize a = a1
  dsimp only [Exit.inBlock, Exit.then]
  go_wp2_with fail
  go_loopg [12] gd.length (fun gg s12 wv => ∃ i : Nat, i ≤ gd.length ∧ gd.length - i ≤ gg ∧ s12 = .int .i64 i ∧ Aw (Below w7.heap.size w7 wv ∧ Blk wv g #[.int .i64 ((gd.take i).foldl (wide b) ⟨(gd[0]).get b, (gd[0]).get b⟩).lo, .int .i64 ((gd.take i).foldl (wide b) ⟨(gd[0]).get b, (gd[0]).get b⟩).hi] 47))
  case atStart => exact ⟨0, Nat.zero_le _, by omega, rfl, HST⟩
  case round =>
  obtain ⟨i, hi, hgi, rfl, HJI⟩ := hrel
  by_cases hil : i < gd.length
  · have hilz : (i : Int) < (gd.length : Int) := by omega
    obtain ⟨y1, p1, cp1, r1, v1⟩ := HROWS.out i hil b hlt
    go_wp2_with fail
    refine wpIn_wide.1 (Hand.wide_region none g x o gd.length c7 y1 p1 m.length cp1 b i _ _ ((gd[i]).get b) hil hlt _ wr _ rfl rfl rfl rfl rfl (Hand.held_cell r1 HJI.out.1) (Hand.held_cell v1 HJI.out.1) HJI.out.2 ?_)
    intro a W2 hd hsz hfix hcW hblk
    have HJ2 : Aw (Below w7.heap.size w7 W2 ∧ Blk W2 g #[.int .i64 ((gd.take (i + 1)).foldl (wide b) ⟨(gd[0]).get b, (gd[0]).get b⟩).lo, .int .i64 ((gd.take (i + 1)).foldl (wide b) ⟨(gd[0]).get b, (gd[0]).get b⟩).hi] 47) :=
      ⟨((Chg.below HJI.out.1 (fun k => k = g)).trans (hcW.mono fun k _ e => .inl e)).toBelow (Nat.le_refl _) (fun k e => by rw [e]; exact HGB.out), by rw [fold_take b _ gd i hil]; exact hblk⟩
    have hp : ∀ s, (s < 91 ∨ 111 < s) → Hand.slot a s = _ := hfix
    have p0 := hp 0 (by decide)
    have p1 := hp 1 (by decide)
    have p2 := hp 2 (by decide)
    have p3 := hp 3 (by decide)
    have p4 := hp 4 (by decide)
    have p5 := hp 5 (by decide)
    have p6 := hp 6 (by decide)
    have p7 := hp 7 (by decide)
    have p8 := hp 8 (by decide)
    have p9 := hp 9 (by decide)
    have p10 := hp 10 (by decide)
    have p11 := hp 11 (by decide)
    have p12 := hp 12 (by decide)
    have p13 := hp 13 (by decide)
    have p14 := hp 14 (by decide)
    have p15 := hp 15 (by decide)
    have p16 := hp 16 (by decide)
    have p17 := hp 17 (by decide)
    have p18 := hp 18 (by decide)
    have p19 := hp 19 (by decide)
    have p20 := hp 20 (by decide)
    have p21 := hp 21 (by decide)
    have p22 := hp 22 (by decide)
    have p23 := hp 23 (by decide)
    have p24 := hp 24 (by decide)
    have p25 := hp 25 (by decide)
    have p26 := hp 26 (by decide)
    have p27 := hp 27 (by decide)
    have p28 := hp 28 (by decide)
    have p29 := hp 29 (by decide)
    have p30 := hp 30 (by decide)
    have p31 := hp 31 (by decide)
    have p32 := hp 32 (by decide)
    have p33 := hp 33 (by decide)
    have p34 := hp 34 (by decide)
    have p35 := hp 35 (by decide)
    have p36 := hp 36 (by decide)
    have p37 := hp 37 (by decide)
    have p38 := hp 38 (by decide)
    have p39 := hp 39 (by decide)
    have p40 := hp 40 (by decide)
    have p41 := hp 41 (by decide)
    have p42 := hp 42 (by decide)
    have p43 := hp 43 (by decide)
    have p44 := hp 44 (by decide)
    have p45 := hp 45 (by decide)
    have p46 := hp 46 (by decide)
    have p47 := hp 47 (by decide)
    have p48 := hp 48 (by decide)
    have p49 := hp 49 (by decide)
    have p50 := hp 50 (by decide)
    have p51 := hp 51 (by decide)
    have p52 := hp 52 (by decide)
    have p53 := hp 53 (by decide)
    have p54 := hp 54 (by decide)
    have p55 := hp 55 (by decide)
    have p56 := hp 56 (by decide)
    have p57 := hp 57 (by decide)
    have p58 := hp 58 (by decide)
    have p59 := hp 59 (by decide)
    have p60 := hp 60 (by decide)
    have p61 := hp 61 (by decide)
    have p62 := hp 62 (by decide)
    have p63 := hp 63 (by decide)
    have p64 := hp 64 (by decide)
    have p65 := hp 65 (by decide)
    have p66 := hp 66 (by decide)
    have p67 := hp 67 (by decide)
    have p68 := hp 68 (by decide)
    have p69 := hp 69 (by decide)
    have p70 := hp 70 (by decide)
    have p71 := hp 71 (by decide)
    have p72 := hp 72 (by decide)
    have p73 := hp 73 (by decide)
    have p74 := hp 74 (by decide)
    have p75 := hp 75 (by decide)
    have p76 := hp 76 (by decide)
    have p77 := hp 77 (by decide)
    have p78 := hp 78 (by decide)
    have p79 := hp 79 (by decide)
    have p80 := hp 80 (by decide)
    have p81 := hp 81 (by decide)
    have p82 := hp 82 (by decide)
    have p83 := hp 83 (by decide)
    have p84 := hp 84 (by decide)
    have p85 := hp 85 (by decide)
    have p86 := hp 86 (by decide)
    have p87 := hp 87 (by decide)
    have p88 := hp 88 (by decide)
    have p89 := hp 89 (by decide)
    have p90 := hp 90 (by decide)
    have p112 := hp 112 (by decide)
    have p113 := hp 113 (by decide)
    have p114 := hp 114 (by decide)
    have p115 := hp 115 (by decide)
    have p116 := hp 116 (by decide)
    have p117 := hp 117 (by decide)
    have p118 := hp 118 (by decide)
    simp only [Array.getD_eq_getD_getElem?, List.getElem?_toArray, List.getElem?_cons_zero, List.getElem?_cons_succ, Option.getD_some] at p0 p1 p2 p3 p4 p5 p6 p7 p8 p9 p10 p11 p12 p13 p14 p15 p16 p17 p18 p19 p20 p21 p22 p23 p24 p25 p26 p27 p28 p29 p30 p31 p32 p33 p34 p35 p36 p37 p38 p39 p40 p41 p42 p43 p44 p45 p46 p47 p48 p49 p50 p51 p52 p53 p54 p55 p56 p57 p58 p59 p60 p61 p62 p63 p64 p65 p66 p67 p68 p69 p70 p71 p72 p73 p74 p75 p76 p77 p78 p79 p80 p81 p82 p83 p84 p85 p86 p87 p88 p89 p90 p112 p113 p114 p115 p116 p117 p118
    rw [Hand.frame_lit' a 119 hsz, hd]
    simp only [List.range, List.range.loop, List.map_cons, List.map_nil, p0, p1, p2, p3, p4, p5, p6, p7, p8, p9, p10, p11, p12, p13, p14, p15, p16, p17, p18, p19, p20, p21, p22, p23, p24, p25, p26, p27, p28, p29, p30, p31, p32, p33, p34, p35, p36, p37, p38, p39, p40, p41, p42, p43, p44, p45, p46, p47, p48, p49, p50, p51, p52, p53, p54, p55, p56, p57, p58, p59, p60, p61, p62, p63, p64, p65, p66, p67, p68, p69, p70, p71, p72, p73, p74, p75, p76, p77, p78, p79, p80, p81, p82, p83, p84, p85, p86, p87, p88, p89, p90, p112, p113, p114, p115, p116, p117, p118]
    clear p0 p1 p2 p3 p4 p5 p6 p7 p8 p9 p10 p11 p12 p13 p14 p15 p16 p17 p18 p19 p20 p21 p22 p23 p24 p25 p26 p27 p28 p29 p30 p31 p32 p33 p34 p35 p36 p37 p38 p39 p40 p41 p42 p43 p44 p45 p46 p47 p48 p49 p50 p51 p52 p53 p54 p55 p56 p57 p58 p59 p60 p61 p62 p63 p64 p65 p66 p67 p68 p69 p70 p71 p72 p73 p74 p75 p76 p77 p78 p79 p80 p81 p82 p83 p84 p85 p86 p87 p88 p89 p90 p112 p113 p114 p115 p116 p117 p118 hp
    have wq : IntKind.i64.wrap ((i : Int) + 1) = (i : Int) + 1 := IntWalk.i64_in _ (by omega)
    clear hfix hd hsz hcW hblk r1 v1
    generalize a = a2
    dsimp only [Exit.inBlock, Exit.then]
    go_wp2_with fail
    go_roundg (gd.length - (i + 1))
    case measure => omega
    case rel => exact ⟨i + 1, by omega, by omega, by go_num, HJ2⟩
  have hilz : decide ((i : Int) < (gd.length : Int)) = false := decide_eq_false (by omega)
  obtain rfl : i = gd.length := by omega
  rw [List.take_length] at HJI
  have hfin : gd.foldl (wide b) ⟨(gd[0]).get b, (gd[0]).get b⟩ = (Hand.accR m.length gd).getD b ⟨0, 0⟩ := by
    cases gd with
    | nil => exact absurd rfl HGN.out
    | cons q0 l => exact (accR_all m.length b hlt q0 l).symm
  rw [hfin] at HJI
  obtain ⟨e0, e1⟩ := HROW5.out b hlt
  clear hfin
  go_wp2_with fail
  refine wpIn_wide.1 (Hand.same_region none g z u m.length c5 b _ _ hlt _ wr _ rfl rfl rfl rfl (Hand.held_cell e0 HJI.out.1) (Hand.held_cell e1 HJI.out.1) HJI.out.2 ?_)
  intro a2 W3 hd hsz h117 hfix hbW3
  have HJ3 := Aw.mk (HJI.out.1.trans (hbW3.mono HJI.out.1.size))
  have p117 : Hand.slot a2 117 = .bool false := h117
  have hp : ∀ s, (s < 112 ∨ 117 < s) → Hand.slot a2 s = _ := hfix
  have p0 := hp 0 (by decide)
  have p1 := hp 1 (by decide)
  have p2 := hp 2 (by decide)
  have p3 := hp 3 (by decide)
  have p4 := hp 4 (by decide)
  have p5 := hp 5 (by decide)
  have p6 := hp 6 (by decide)
  have p7 := hp 7 (by decide)
  have p8 := hp 8 (by decide)
  have p9 := hp 9 (by decide)
  have p10 := hp 10 (by decide)
  have p11 := hp 11 (by decide)
  have p12 := hp 12 (by decide)
  have p13 := hp 13 (by decide)
  have p14 := hp 14 (by decide)
  have p15 := hp 15 (by decide)
  have p16 := hp 16 (by decide)
  have p17 := hp 17 (by decide)
  have p18 := hp 18 (by decide)
  have p19 := hp 19 (by decide)
  have p20 := hp 20 (by decide)
  have p21 := hp 21 (by decide)
  have p22 := hp 22 (by decide)
  have p23 := hp 23 (by decide)
  have p24 := hp 24 (by decide)
  have p25 := hp 25 (by decide)
  have p26 := hp 26 (by decide)
  have p27 := hp 27 (by decide)
  have p28 := hp 28 (by decide)
  have p29 := hp 29 (by decide)
  have p30 := hp 30 (by decide)
  have p31 := hp 31 (by decide)
  have p32 := hp 32 (by decide)
  have p33 := hp 33 (by decide)
  have p34 := hp 34 (by decide)
  have p35 := hp 35 (by decide)
  have p36 := hp 36 (by decide)
  have p37 := hp 37 (by decide)
  have p38 := hp 38 (by decide)
  have p39 := hp 39 (by decide)
  have p40 := hp 40 (by decide)
  have p41 := hp 41 (by decide)
  have p42 := hp 42 (by decide)
  have p43 := hp 43 (by decide)
  have p44 := hp 44 (by decide)
  have p45 := hp 45 (by decide)
  have p46 := hp 46 (by decide)
  have p47 := hp 47 (by decide)
  have p48 := hp 48 (by decide)
  have p49 := hp 49 (by decide)
  have p50 := hp 50 (by decide)
  have p51 := hp 51 (by decide)
  have p52 := hp 52 (by decide)
  have p53 := hp 53 (by decide)
  have p54 := hp 54 (by decide)
  have p55 := hp 55 (by decide)
  have p56 := hp 56 (by decide)
  have p57 := hp 57 (by decide)
  have p58 := hp 58 (by decide)
  have p59 := hp 59 (by decide)
  have p60 := hp 60 (by decide)
  have p61 := hp 61 (by decide)
  have p62 := hp 62 (by decide)
  have p63 := hp 63 (by decide)
  have p64 := hp 64 (by decide)
  have p65 := hp 65 (by decide)
  have p66 := hp 66 (by decide)
  have p67 := hp 67 (by decide)
  have p68 := hp 68 (by decide)
  have p69 := hp 69 (by decide)
  have p70 := hp 70 (by decide)
  have p71 := hp 71 (by decide)
  have p72 := hp 72 (by decide)
  have p73 := hp 73 (by decide)
  have p74 := hp 74 (by decide)
  have p75 := hp 75 (by decide)
  have p76 := hp 76 (by decide)
  have p77 := hp 77 (by decide)
  have p78 := hp 78 (by decide)
  have p79 := hp 79 (by decide)
  have p80 := hp 80 (by decide)
  have p81 := hp 81 (by decide)
  have p82 := hp 82 (by decide)
  have p83 := hp 83 (by decide)
  have p84 := hp 84 (by decide)
  have p85 := hp 85 (by decide)
  have p86 := hp 86 (by decide)
  have p87 := hp 87 (by decide)
  have p88 := hp 88 (by decide)
  have p89 := hp 89 (by decide)
  have p90 := hp 90 (by decide)
  have p91 := hp 91 (by decide)
  have p92 := hp 92 (by decide)
  have p93 := hp 93 (by decide)
  have p94 := hp 94 (by decide)
  have p95 := hp 95 (by decide)
  have p96 := hp 96 (by decide)
  have p97 := hp 97 (by decide)
  have p98 := hp 98 (by decide)
  have p99 := hp 99 (by decide)
  have p100 := hp 100 (by decide)
  have p101 := hp 101 (by decide)
  have p102 := hp 102 (by decide)
  have p103 := hp 103 (by decide)
  have p104 := hp 104 (by decide)
  have p105 := hp 105 (by decide)
  have p106 := hp 106 (by decide)
  have p107 := hp 107 (by decide)
  have p108 := hp 108 (by decide)
  have p109 := hp 109 (by decide)
  have p110 := hp 110 (by decide)
  have p111 := hp 111 (by decide)
  have p118 := hp 118 (by decide)
  simp only [Array.getD_eq_getD_getElem?, List.getElem?_toArray, List.getElem?_cons_zero, List.getElem?_cons_succ, Option.getD_some] at p0 p1 p2 p3 p4 p5 p6 p7 p8 p9 p10 p11 p12 p13 p14 p15 p16 p17 p18 p19 p20 p21 p22 p23 p24 p25 p26 p27 p28 p29 p30 p31 p32 p33 p34 p35 p36 p37 p38 p39 p40 p41 p42 p43 p44 p45 p46 p47 p48 p49 p50 p51 p52 p53 p54 p55 p56 p57 p58 p59 p60 p61 p62 p63 p64 p65 p66 p67 p68 p69 p70 p71 p72 p73 p74 p75 p76 p77 p78 p79 p80 p81 p82 p83 p84 p85 p86 p87 p88 p89 p90 p91 p92 p93 p94 p95 p96 p97 p98 p99 p100 p101 p102 p103 p104 p105 p106 p107 p108 p109 p110 p111 p118
  rw [Hand.frame_lit' a2 119 hsz, hd]
  simp only [List.range, List.range.loop, List.map_cons, List.map_nil, p0, p1, p2, p3, p4, p5, p6, p7, p8, p9, p10, p11, p12, p13, p14, p15, p16, p17, p18, p19, p20, p21, p22, p23, p24, p25, p26, p27, p28, p29, p30, p31, p32, p33, p34, p35, p36, p37, p38, p39, p40, p41, p42, p43, p44, p45, p46, p47, p48, p49, p50, p51, p52, p53, p54, p55, p56, p57, p58, p59, p60, p61, p62, p63, p64, p65, p66, p67, p68, p69, p70, p71, p72, p73, p74, p75, p76, p77, p78, p79, p80, p81, p82, p83, p84, p85, p86, p87, p88, p89, p90, p91, p92, p93, p94, p95, p96, p97, p98, p99, p100, p101, p102, p103, p104, p105, p106, p107, p108, p109, p110, p111, p118, p117]
  clear p0 p1 p2 p3 p4 p5 p6 p7 p8 p9 p10 p11 p12 p13 p14 p15 p16 p17 p18 p19 p20 p21 p22 p23 p24 p25 p26 p27 p28 p29 p30 p31 p32 p33 p34 p35 p36 p37 p38 p39 p40 p41 p42 p43 p44 p45 p46 p47 p48 p49 p50 p51 p52 p53 p54 p55 p56 p57 p58 p59 p60 p61 p62 p63 p64 p65 p66 p67 p68 p69 p70 p71 p72 p73 p74 p75 p76 p77 p78 p79 p80 p81 p82 p83 p84 p85 p86 p87 p88 p89 p90 p91 p92 p93 p94 p95 p96 p97 p98 p99 p100 p101 p102 p103 p104 p105 p106 p107 p108 p109 p110 p111 p118 hp
  have wq : IntKind.i64.wrap ((b : Int) + 1) = (b : Int) + 1 := IntWalk.i64_in _ (by omega)
  clear hfix hd hsz hbW3 e0 e1 p117 h117
  generalize a2 = a3
  dsimp only [Exit.inBlock, Exit.then]
  go_wp2_with fail
  go_roundg (m.length - (b + 1))
  case measure => omega
  case rel => exact ⟨b + 1, by omega, by omega, by go_num, HJ3⟩
end Go.Proofs.Ytdagijgoegkphaa.Pure

namespace Go.Proofs.Ytdagijgoegkphaa.P
open Go.RowKit Go.Proofs.YtdagijgoegkphaaW.PrintWords
open Classical in
/-- It is claimed of numbers that fit. -/
noncomputable def tensilelaw05_CreepRates.f (m : List S54) (_ : List S81) : Option Bool := if ∀ s ∈ m, Fits54 s then some true else none
theorem tensilelaw05_CreepRates.calls (A0 : Option Addr) (c0 : Nat) (m : List S54) (A1 : Option Addr) (c1 : Nat) (r : List S81) (res : Bool) (w : World) (hr0 : Kd.C k54 w A0 m.length m) (hc0 : m.length ≤ c0) (hr1 : Kd.C k81 w A1 r.length r) (hc1 : r.length ≤ c1) (h : tensilelaw05_CreepRates.f m r = some res) :
    Calls Try.prog 5 #[.agg #[.slice A0 m.length c0], .slice A1 r.length c1] w fun e w' => e = .returned (.bool res) ∧ Below w.heap.size w w' := by
  unfold tensilelaw05_CreepRates.f at h
  split at h
  · rename_i hm
    obtain rfl := Option.some.inj h
    exact Pure.rates_calls A0 c0 m A1 c1 r w hr0 hc0 hr1 hc1 hm
  · cases h
end Go.Proofs.Ytdagijgoegkphaa.P
namespace Go.Proofs.Ytdagijgoegkphaa.Pure
open Go.Proofs.Ytdagijgoegkphaa.P
theorem CreepRates (m : List S54) (r : List S81) (hm : ∀ s ∈ m, Fits54 s) (_ : ∀ s ∈ r, Fits81 s) : tensilelaw05_CreepRates.f m r = some true := if_pos hm
end Go.Proofs.Ytdagijgoegkphaa.Pure

namespace Go.Proofs.Ytdagijgoegkphaa.creepRates
open Go.ChangeShapes Go.WideShapes Go.ChangeAt Go.RowKit Go.Proofs.YtdagijgoegkphaaW.PrintWords
theorem own : ownKnob Try.prog.godebug = none := by kernel_rfl
theorem laidOut : laidOutB Try.prog = true := by kernel_rfl
set_option maxRecDepth 100000 in
theorem lifted (os : Os) (started : os.Started) (H : Type) (enc : TypeId × Value → H) :
    ReturnsInHanded {} Try.checked os 5 .any (Rows.creepRatesSpec.pre6 enc Try.prog Try.f5 Rows.creepRatesRow.domain false) (Rows.creepRatesSpec.post enc Try.prog Try.f5 false true false false) := by
  refine returnsInHanded_of_change_sized (C := Try.checked) own started (by kernel_rfl) Try.func5
    (ChangeSpec.witness6 (enc := enc) (C := Try.checked) false ⟨#[], #[.agg #[.slice none 0 0], .slice none 0 0], []⟩ 8 (by kernel_rfl) (by kernel_rfl) (by kernel_rfl) (by kernel_rfl)) ?_
  intro W base args ds gs before hval0 hW hcnd hsz0 _
  have hval : ∀ (j : Nat) t v, Try.f5.params[j]? = some t → args[j]? = some v → Value.okWide Try.prog W .any base t v := hval0
  have hW' := hW
  obtain ⟨p, q, hA0, hV, rfl, hfz, hnd⟩ := hW
  have hA : DataW.TrodAll enc Try.prog W 0 (fun _ => true) true Try.f5.params.toList args.toList ds p := hA0
  rw [Try.params5] at hA hval
  obtain ⟨v0, vs0, d0, ds0, p0, q0, hargs, rfl, rfl, h0, r0⟩ := trodAll_cons hA
  obtain ⟨v1, vs1, d1, ds1, p1, q1, rfl, rfl, rfl, h1, r1⟩ := trodAll_cons r0
  obtain ⟨rfl, rfl, rfl⟩ := trodAll_nil r1
  obtain rfl : args = #[v0, v1] := by cases args; simp_all
  obtain ⟨rfl, rfl⟩ := trodVars_none hV
  have k0 := h0
  have lt0 : ∀ x ∈ p0, x.block < W.heap.size := by obtain ⟨m, hm⟩ := k0; exact DataW.trod_lt m _ _ _ hm
  obtain ⟨cs0, rfl, _⟩ := okWide_struct Try.underlying24 (hval 0 24 v0 rfl rfl)
  obtain ⟨A0, c0, l0, e0, hc0, hC0, y0⟩ : ∃ (A : Option Addr) (cap : Nat) (l : List P.S54), cs0 = #[.slice A l.length cap] ∧ l.length ≤ cap ∧ Kd.C P.k54 W A l.length l ∧ ∀ s ∈ l, P.Fits54 s := by
    obtain ⟨fuel, hf⟩ := h0
    obtain ⟨A, cap, l, e, h2, h3, h4⟩ := P.open24 hf
    exact ⟨A, cap, l, Array.toList_inj.1 e, h2, h3, h4⟩
  subst e0
  have k1 := h1
  have lt1 : ∀ x ∈ p1, x.block < W.heap.size := by obtain ⟨m, hm⟩ := k1; exact DataW.trod_lt m _ _ _ hm
  obtain ⟨A1, len1, c1, rfl⟩ := okWide_slice Try.underlying25 (hval 1 25 v1 rfl rfl)
  obtain ⟨l1, rfl, hc1, hC1, y1⟩ : ∃ l : List P.S81, len1 = l.length ∧ l.length ≤ c1 ∧ Kd.C P.k81 W A1 l.length l ∧ ∀ s ∈ l, P.Fits81 s := by
    obtain ⟨fuel, hf⟩ := h1
    obtain ⟨A, cap, l, e, h1, h2, h3⟩ := P.open25 hf
    simp [Value.cells] at e
    obtain ⟨rfl, rfl, rfl⟩ := e
    exact ⟨l, rfl, h1, h2, h3⟩
  clear hA0 hval0 hsz0
  have hP := Pure.CreepRates l0 l1 y0 y1
  refine (P.tensilelaw05_CreepRates.calls A0 c0 l0 A1 c1 l1 true W hC0 hc0 hC1 hc1 hP).mono fun e W' ⟨he, bel⟩ => ?_
  subst he
  exact ⟨_, rfl, _, _, _, [], _, [], hW', trodAll_mk1 (shut_bool Try.underlying4 _), (trodAll_cons_mk (Below.trod laidOut (by kernel_rfl) (of_decide_eq_true (by kernel_rfl)) k0 bel lt0) (trodAll_cons_mk (Below.trod laidOut (by kernel_rfl) (of_decide_eq_true (by kernel_rfl)) k1 bel lt1) trodAll_mk0)), rfl, bel.frame _, fun h => by cases h⟩
theorem over : Rows.creepRatesRow.holds Try.pinned (OpenSpec.ofChange Rows.creepRatesSpec) :=
  OpenClaim.holds_of_wide 5 Try.f5 rfl rfl rfl rfl rfl rfl rfl ⟨rfl, rfl, rfl, rfl, rfl⟩ rfl rfl rfl rfl rfl (by kernel_rfl) Try.func5 (by kernel_rfl)
    (of_decide_eq_true (by kernel_rfl)) (by unfold Func.isWrapper; first | (rw [if_pos (by decide +kernel)]; kernel_rfl) | (rw [if_neg (by decide +kernel)]; exact ⟨rfl, rfl⟩))
    (fun os started H enc _ => lifted os started H enc)
theorem proved : Rows.CreepRatesSaid := over
end Go.Proofs.Ytdagijgoegkphaa.creepRates
namespace Go.Proofs.Ytdagijgoegkphaa
/-- The row, under a short name, for the claim. -/
theorem creepRates_holds : Rows.CreepRatesSaid := creepRates.proved
end Go.Proofs.Ytdagijgoegkphaa
#print axioms Go.Proofs.Ytdagijgoegkphaa.creepRates_holds
