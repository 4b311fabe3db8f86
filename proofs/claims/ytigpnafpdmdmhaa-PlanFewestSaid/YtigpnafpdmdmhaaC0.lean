/- The program's own functions that the statements of this seat reach, and what each call of them comes to, for any arguments. -/
import Derived.Test.YtigpnafpdmdmhaaProg
import Derived.WalkKit
import Derived.KernelRfl
import Derived.Deep.LoopGhost
import Derived.Deep.QuietTactic
import Derived.BigQuiet
import Derived.Shelf.Abstract
import Derived.RangeFuncNested
import Derived.Deep.Draws
import Derived.RangeFuncBound
import Derived.RangeFuncCalls
import Derived.RangeFuncLeaves
import Derived.OrdersIn
import Derived.TacticsIn
import Derived.Deep.MidRow
import Derived.BigRegion
import Derived.Deep.RegionHeld3
import Derived.RangeFuncRecord
set_option linter.unusedVariables false
set_option linter.unusedSimpArgs false
namespace Go.Proofs.Ytigpnafpdmdmhaa.Hand
open Go.RowKit Go.Shelf

/-- A fact that the walk does not look into. -/
structure Aw (p : Prop) : Prop where
  out : p

/-- A stage of a plan. -/
structure Stg where
  take : Int
  accept : Int
  reject : Int
  deriving Inhabited, DecidableEq

def Stg.enc (s : Stg) : Value := .agg #[.int .i64 s.take, .int .i64 s.accept, .int .i64 s.reject]

/-- The stages lie at an address. -/
def StAt (w : World) (A : Option Addr) (l : List Stg) : Prop :=
  ∀ i, (h : i < l.length) → ∃ b off, A = some ⟨b, off, none⟩ ∧ b < w.heap.size ∧ w.cell? ⟨b, off + i * 3, none⟩ = some (.int .i64 (l[i]).take) ∧ w.cell? ⟨b, off + i * 3 + 1, none⟩ = some (.int .i64 (l[i]).accept) ∧ w.cell? ⟨b, off + i * 3 + 2, none⟩ = some (.int .i64 (l[i]).reject)

theorem StAt.below {w W : World} {A : Option Addr} {l : List Stg} (h : StAt w A l) (hb : Below w.heap.size w W) : StAt W A l := fun i hi => by
  obtain ⟨b, off, hA, hlt, h0, h1, h2⟩ := h i hi
  exact ⟨b, off, hA, Nat.lt_of_lt_of_le hlt hb.size, (hb.cell (p := ⟨b, _, none⟩) hlt).trans h0, (hb.cell (p := ⟨b, _, none⟩) hlt).trans h1, (hb.cell (p := ⟨b, _, none⟩) hlt).trans h2⟩

theorem takes_any (s : Stg) (w : World) : Calls Try.prog 41 #[s.enc] w fun e w' => e = .returned (.bool (decide (1 ≤ s.take))) ∧ Below w.heap.size w w' := by
  unfold Stg.enc
  go_enter Try.func41, Try.ntmps41
  go_wp2
  go_ret
  exact ⟨rfl, (Below.refl _ _).alloc (Nat.le_refl _) _⟩



/-- What is asked of a predicate: in each later world it answers p, and turns nothing that was there. -/
def PredB (g : Nat) (lb : Array Value) (p : Stg → Bool) (w : World) : Prop :=
  ∀ (W : World) (x : Stg), Below w.heap.size w W → Calls Try.prog g (#[x.enc] ++ lb) W fun e w' => e = .returned (.bool (p x)) ∧ Below W.heap.size W w'

theorem PredB.later {g : Nat} {lb : Array Value} {p : Stg → Bool} {w w' : World} (h : PredB g lb p w) (hb : Below w.heap.size w w') : PredB g lb p w' :=
  fun W x hW => h W x (hb.trans (hW.mono hb.size))

/-- The first index at which p holds, -1 if none. -/
def idxOf (p : Stg → Bool) : List Stg → Nat → Int
  | [], _ => -1
  | x :: l, k => if p x then k else idxOf p l (k + 1)

theorem idxOf_any (p : Stg → Bool) : ∀ (l : List Stg) (k : Nat), decide (0 ≤ idxOf p l k) = l.any p
  | [], _ => by simp [idxOf]
  | x :: l, k => by
    unfold idxOf
    cases h : p x
    · simp [h, idxOf_any p l (k + 1)]
    · simp [h]

set_option maxHeartbeats 2000000 in
theorem index_any (p : Stg → Bool) (g : Nat) (lb : Array Value) (eg : ∀ args w, (callFunc g args).run Try.prog w = .ok (.enter g args) w) (A : Option Addr) (c : Nat) (zs : List Stg) (w : World)
    (hp : PredB g lb p w) (hz : StAt w A zs) (hbig : zs.length ≤ 9223372036854775807) :
    Calls Try.prog 65 #[.slice A zs.length c, .func (.func g) #[] lb] w fun e w' => e = .returned (.int .i64 (idxOf p zs 0)) ∧ Below w.heap.size w w' := by
  have HP := Aw.mk hp
  have HZ := Aw.mk hz
  clear hp hz
  go_enter Try.func65, Try.ntmps65
  go_wp2
  go_loopg [5, 8] zs.length (fun gg _ s8 wr => ∃ kk : Nat, kk ≤ zs.length ∧ zs.length - kk ≤ gg ∧ s8 = .int .i64 kk ∧ Aw (Below w.heap.size w wr) ∧ Aw (idxOf p (zs.drop kk) kk = idxOf p zs 0))
  case atStart => exact ⟨0, Nat.zero_le _, by omega, rfl, ⟨Below.refl _ w⟩, ⟨rfl⟩⟩
  case round =>
    obtain ⟨kk, hkk, hg, rfl, BW, BA⟩ := hrel
    by_cases hlt : kk < zs.length
    · obtain ⟨b, off, rfl, hbl, h0, h1, h2⟩ := (HZ.out.below BW.out) kk hlt
      have hcall := HP.out wr zs[kk] BW.out
      have hd : Aw (zs.drop kk = zs[kk] :: zs.drop (kk + 1)) := ⟨List.drop_eq_getElem_cons hlt⟩
      generalize zs[kk] = y at h0 h1 h2 hcall hd
      obtain ⟨ya, yb, yc⟩ := y
      unfold Stg.enc at hcall
      dsimp only at h0 h1 h2 hcall
      have hltz : (kk : Int) < (zs.length : Int) := by omega
      cases hq : p ⟨ya, yb, yc⟩ with
      | true =>
        rw [hq] at hcall
        have HQ := Aw.mk hq
        clear hq
        go_wp2_with (go_at_fn g; refine hcall.mono ?_; rintro e w' ⟨rfl, hb'⟩)
        go_ret
        refine ⟨?_, BW.out.trans (hb'.mono BW.out.size)⟩
        rw [← BA.out, hd.out, idxOf, HQ.out]
        rfl
      | false =>
        rw [hq] at hcall
        have HQ := Aw.mk hq
        clear hq
        go_wp2_with (go_at_fn g; refine hcall.mono ?_; rintro e w' ⟨rfl, hb'⟩)
        go_roundg (zs.length - (kk + 1))
        case measure => omega
        case rel => exact ⟨kk + 1, by omega, by omega, by go_num, ⟨BW.out.trans (hb'.mono BW.out.size)⟩, ⟨by rw [← BA.out, hd.out, idxOf, HQ.out]; rfl⟩⟩
    · have : kk = zs.length := by omega
      subst this
      go_wp2
      go_ret
      refine ⟨?_, BW.out⟩
      rw [← BA.out, List.drop_length]
      rfl

theorem contains_any (p : Stg → Bool) (g : Nat) (lb : Array Value) (eg : ∀ args w, (callFunc g args).run Try.prog w = .ok (.enter g args) w) (A : Option Addr) (c : Nat) (zs : List Stg) (w : World)
    (hp : PredB g lb p w) (hz : StAt w A zs) (hbig : zs.length ≤ 9223372036854775807) :
    Calls Try.prog 57 #[.slice A zs.length c, .func (.func g) #[] lb] w fun e w' => e = .returned (.bool (zs.any p)) ∧ Below w.heap.size w w' := by
  have HE := Aw.mk (idxOf_any p zs 0)
  have hc := index_any p g lb eg A c zs w hp hz hbig
  clear hp hz
  go_enter Try.func57, Try.ntmps57
  go_wp2_with (go_at_call 65; refine hc.mono ?_; rintro e w' ⟨rfl, hb'⟩)
  go_ret
  exact ⟨by rw [← HE.out]; rfl, hb'⟩

theorem not58 (g : Nat) (lb : Array Value) (eg : ∀ args w, (callFunc g args).run Try.prog w = .ok (.enter g args) w) (p : Stg → Bool) (w : World) (B : Nat) (hB : B < w.heap.size)
    (hc : w.cell? ⟨B, 0, none⟩ = some (.func (.func g) #[] lb)) (hp : PredB g lb p w) : PredB 58 #[.pointer (some ⟨B, 0, none⟩)] (fun s => !p s) w := by
  intro W x hW
  have h1 : W.cell? ⟨B, 0, none⟩ = some (.func (.func g) #[] lb) := (hW.cell (p := ⟨B, 0, none⟩) hB).trans hc
  have h2 := (hp.later hW) (W.alloc (.cells #[.int .i64 x.take, .int .i64 x.accept, .int .i64 x.reject] 61)) x ((Below.refl _ W).alloc (Nat.le_refl _) _)
  have hBW : B < W.heap.size := Nat.lt_of_lt_of_le hB hW.size
  obtain ⟨xa, xb, xc⟩ := x
  unfold Stg.enc at *
  dsimp only at *
  clear hp hc hW
  go_enter Try.func58, Try.ntmps58
  go_wp2_with (go_at_fn g; refine h2.mono ?_; rintro e w' ⟨rfl, hb'⟩)
  go_ret
  exact ⟨rfl, ((Below.refl _ W).alloc (Nat.le_refl _) _).trans (hb'.mono (by simp))⟩


/-- 'all' over stages, at a predicate that captures nothing. -/
theorem all_any (p : Stg → Bool) (g : Nat) (lb : Array Value) (eg : ∀ args w, (callFunc g args).run Try.prog w = .ok (.enter g args) w) (A : Option Addr) (c : Nat) (zs : List Stg) (w : World)
    (hp : PredB g lb p w) (hz : StAt w A zs) (hbig : zs.length ≤ 9223372036854775807) :
    Calls Try.prog 40 #[.slice A zs.length c, .func (.func g) #[] lb] w fun e w' => e = .returned (.bool (zs.all p)) ∧ Below w.heap.size w w' := by
  have hb : Below w.heap.size w (w.alloc (.cells #[.func (.func g) #[] lb] 79)) := (Below.refl _ w).alloc (Nat.le_refl _) _
  have e58 : ∀ args w, (callFunc 58 args).run Try.prog w = .ok (.enter 58 args) w := enters_of Try.func58 (by kernel_rfl) rfl
  have hc := contains_any (fun s => !p s) 58 #[.pointer (some ⟨w.heap.size, 0, none⟩)] e58 A c zs (w.alloc (.cells #[.func (.func g) #[] lb] 79))
    (not58 g lb eg p _ w.heap.size (by simp) (by simp) (hp.later hb)) (hz.below hb) hbig
  have HE : Aw ((!zs.any fun s => !p s) = zs.all p) := ⟨by simp [List.all_eq_not_any_not]⟩
  have HB := Aw.mk hb
  clear hp hz hb
  go_enter Try.func40, Try.ntmps40
  go_wp2_with (go_at_call 57; refine hc.mono ?_; rintro e w' ⟨rfl, hb'⟩)
  go_ret
  exact ⟨by rw [← HE.out]; rfl, HB.out.trans (hb'.mono (by simp))⟩

theorem takesB (w : World) : PredB 41 #[] (fun s => decide (1 ≤ s.take)) w := fun W x _ => takes_any x W

end Go.Proofs.Ytigpnafpdmdmhaa.Hand

namespace Go.Proofs.Ytigpnafpdmdmhaa.Hand
open Go.RowKit Go.Shelf

/-- Block b holds these cells. -/
def Blk (w : World) (b : Nat) (cs : Array Value) (t : Nat) : Prop := w.heap[b]? = some (.cells cs t (0, 0))

theorem Blk.lt {w : World} {b : Nat} {cs : Array Value} {t : Nat} (h : Blk w b cs t) : b < w.heap.size := (Array.getElem?_eq_some_iff.1 h).1
theorem Blk.cell {w : World} {b : Nat} {cs : Array Value} {t : Nat} (h : Blk w b cs t) (i : Nat) : w.cell? ⟨b, i, none⟩ = cs[i]? := by simp [World.cell?, show w.heap[b]? = _ from h]
theorem Blk.frozen {w : World} {b : Nat} {cs : Array Value} {t : Nat} (h : Blk w b cs t) (i : Nat) : w.frozen? ⟨b, i, none⟩ = false := by simp [World.frozen?, show w.heap[b]? = _ from h]
theorem Blk.new (w : World) (cs : Array Value) (t : Nat) : Blk (w.alloc (.cells cs t)) w.heap.size cs t := by
  show (w.heap.push _)[w.heap.size]? = _
  simp
theorem Blk.alloc {w : World} {b : Nat} {cs : Array Value} {t : Nat} (h : Blk w b cs t) (o : Obj) : Blk (w.alloc o) b cs t := (Below.heap_alloc w o b h.lt).trans h
theorem Blk.drew {w : World} {b : Nat} {cs : Array Value} {t : Nat} (h : Blk w b cs t) : Blk w.drew b cs t := h
theorem Blk.drewN {w : World} {b : Nat} {cs : Array Value} {t : Nat} (h : Blk w b cs t) (n : Nat) : Blk (w.drewN n) b cs t := h
theorem Blk.other {w : World} {b : Nat} {cs : Array Value} {t : Nat} (h : Blk w b cs t) {a : Addr} (hne : b ≠ a.block) (v : Value) : Blk (w.setCell a v) b cs t := (Below.heap_setCell w a v b hne).trans h
theorem Blk.set {w : World} {b : Nat} {cs : Array Value} {t : Nat} (h : Blk w b cs t) (i : Nat) (v : Value) : Blk (w.setCell ⟨b, i, none⟩ v) b (cs.setIfInBounds i v) t := by
  obtain ⟨hlt, hk⟩ := Array.getElem?_eq_some_iff.1 h
  show (w.heap.modify b _)[b]? = _
  rw [Array.getElem?_eq_getElem (by rw [Array.size_modify]; exact hlt), Array.getElem_modify_self, hk]
  rfl
theorem Blk.below {w W : World} {b : Nat} {cs : Array Value} {t : Nat} {B : Nat} (h : Blk w b cs t) (hb : Below B w W) (hlt : b < B) : Blk W b cs t := (hb.block b hlt).trans h

/-- What CheckPlan's loop says. -/
def chk (lot : Int) : Int → Stg → List Stg → Int
  | _, last, [] => if last.reject = wrap64 (last.accept + 1) then 0 else 1
  | taken, last, s :: l =>
    if lot - taken < s.take then 1
    else if s.accept < last.accept then 1
    else if s.reject < last.reject then 1
    else if wrap64 (s.accept + 1) ≤ s.reject ∧ s.reject ≤ taken + s.take + 1 then chk lot (taken + s.take) s l
    else 1

def checkPlan (lot : Int) (l : List Stg) : Int :=
  if 3 < l.length then 3
  else if 1 ≤ lot ∧ lot ≤ 30 ∧ l.length ≠ 0 ∧ l.all (fun s => decide (1 ≤ s.take)) = true then chk lot 0 ⟨0, -1, 0⟩ l
  else 1

theorem within_any (a b c : Int) (w : World) : Calls Try.prog 39 #[.int .i64 a, .int .i64 b, .int .i64 c] w fun e w' => e = .returned (.bool (decide (b ≤ a ∧ a ≤ c))) ∧ w = w' := by
  by_cases h1 : b ≤ a
  · have h2 : decide (b ≤ a) = true := decide_eq_true h1
    have HE : Aw (decide (a ≤ c) = decide (b ≤ a ∧ a ≤ c)) := ⟨by simp [h1]⟩
    clear h1
    go_enter Try.func39, Try.ntmps39
    go_wp2
    go_ret
    exact ⟨by rw [← HE.out]; rfl, rfl⟩
  · have h2 : decide (b ≤ a) = false := decide_eq_false h1
    have HE : Aw (false = decide (b ≤ a ∧ a ≤ c)) := ⟨by simp [h1]⟩
    clear h1
    go_enter Try.func39, Try.ntmps39
    go_wp2
    go_ret
    exact ⟨by rw [← HE.out]; rfl, rfl⟩


set_option maxHeartbeats 4000000 in
theorem chk_walk (lot : Int) (A : Option Addr) (c : Nat) (l : List Stg) (w : World) (hz : StAt w A l) (hbig : l.length ≤ 9223372036854775807) :
    Calls Try.prog 16 #[.agg #[.int .i64 lot, .slice A l.length c]] w fun e w' => e = .returned (.int .i64 (checkPlan lot l)) ∧ Below w.heap.size w w' := by
  by_cases c3 : 3 < l.length
  · have h3 : decide (3 < l.length) = true := decide_eq_true c3
    have h3' : decide ((3 : Int) < (l.length : Int)) = true := decide_eq_true (by omega)
    have HE : Aw (checkPlan lot l = 3) := ⟨by unfold checkPlan; rw [if_pos c3]⟩
    clear hz c3
    go_enter Try.func16, Try.ntmps16
    go_wp2
    go_ret
    exact ⟨by rw [HE.out]; rfl, (Below.refl _ w).alloc (Nat.le_refl _) _⟩
  have h3 : decide (3 < l.length) = false := decide_eq_false c3
  have h3' : decide ((3 : Int) < (l.length : Int)) = false := decide_eq_false (by omega)
  by_cases c1 : 1 ≤ lot ∧ lot ≤ 30
  case neg =>
    have h1 : decide (1 ≤ lot ∧ lot ≤ 30) = false := decide_eq_false c1
    have HE : Aw (checkPlan lot l = 1) := ⟨by unfold checkPlan; rw [if_neg c3, if_neg (by omega)]⟩
    have hw := within_any lot 1 30 (w.alloc (.cells #[.int .i64 lot, .slice A l.length c] 31))
    rw [h1] at hw
    clear hz c3 c1 h1
    go_enter Try.func16, Try.ntmps16
    go_wp2_with (go_at_call 39; refine hw.mono ?_; rintro e w' ⟨rfl, rfl⟩)
    go_ret
    exact ⟨by rw [HE.out]; rfl, (Below.refl _ w).alloc (Nat.le_refl _) _⟩
  have h1 : decide (1 ≤ lot ∧ lot ≤ 30) = true := decide_eq_true c1
  by_cases c0 : l.length = 0
  case pos =>
    have HE : Aw (checkPlan lot l = 1) := ⟨by unfold checkPlan; rw [if_neg c3, if_neg (by omega)]⟩
    have hw := within_any lot 1 30 (w.alloc (.cells #[.int .i64 lot, .slice A l.length c] 31))
    rw [h1] at hw
    have h0 : ((l.length : Int) == 0) = true := by simpa using c0
    clear hz c3 c1 h1 c0
    go_enter Try.func16, Try.ntmps16
    go_wp2_with (go_at_call 39; refine hw.mono ?_; rintro e w' ⟨rfl, rfl⟩)
    go_ret
    exact ⟨by rw [HE.out]; rfl, (Below.refl _ w).alloc (Nat.le_refl _) _⟩
  have h0 : ((l.length : Int) == 0) = false := by simpa using c0
  have hw := within_any lot 1 30 (w.alloc (.cells #[.int .i64 lot, .slice A l.length c] 31))
  have e41 : ∀ args w, (callFunc 41 args).run Try.prog w = .ok (.enter 41 args) w := enters_of Try.func41 (by kernel_rfl) rfl
  have ha := all_any (fun s => decide (1 ≤ s.take)) 41 #[] e41 A c l (w.alloc (.cells #[.int .i64 lot, .slice A l.length c] 31)) (takesB _) (hz.below ((Below.refl _ w).alloc (Nat.le_refl _) _)) hbig
  rw [h1] at hw
  by_cases ct : l.all (fun s => decide (1 ≤ s.take)) = true
  case neg =>
    have HE : Aw (checkPlan lot l = 1) := ⟨by unfold checkPlan; rw [if_neg c3, if_neg (fun h => ct h.2.2.2)]⟩
    rw [Bool.eq_false_iff.mpr ct] at ha
    clear hz c3 c1 h1 c0 ct
    go_enter Try.func16, Try.ntmps16
    go_wp2_with (first | (go_at_call 39; refine hw.mono ?_; rintro e w' ⟨rfl, rfl⟩) | (go_at_call 40; refine ha.mono ?_; rintro e w' ⟨rfl, hb'⟩))
    go_ret
    exact ⟨by rw [HE.out]; rfl, ((Below.refl _ w).alloc (Nat.le_refl _) _).trans (hb'.mono (by simp))⟩
  rw [ct] at ha
  have HE : Aw (checkPlan lot l = chk lot 0 ⟨0, -1, 0⟩ l) := ⟨by unfold checkPlan; rw [if_neg c3, if_pos ⟨c1.1, c1.2, c0, ct⟩]⟩
  have HZ := Aw.mk hz
  have HT := Aw.mk ct
  clear hz c3 h1 c0 ct
  obtain ⟨cl, ch⟩ := c1
  go_enter Try.func16, Try.ntmps16
  go_wp2_with (first | (go_at_call 39; refine hw.mono ?_; rintro e w' ⟨rfl, rfl⟩) | (go_at_call 40; refine ha.mono ?_; rintro e w' ⟨rfl, hb'⟩; have BK := Aw.mk ((Blk.new w #[.int .i64 lot, .slice A l.length c] 31).below hb' (by simp)); have q0 : w'.cell? ⟨w.heap.size, 0, none⟩ = some (.int .i64 lot) := BK.out.cell 0; have q1 : w'.cell? ⟨w.heap.size, 1, none⟩ = some (.slice A l.length c) := BK.out.cell 1; have qs : w.heap.size < w'.heap.size := BK.out.lt; have HB := Aw.mk (((Below.refl _ w).alloc (Nat.le_refl _) (.cells #[.int .i64 lot, .slice A l.length c] 31)).trans (hb'.mono (by simp))); clear hb'))
  have BL := Aw.mk (Blk.new w' #[.int .i64 0, .int .i64 (-1), .int .i64 0] 61)
  have BK2 := Aw.mk (BK.out.alloc (.cells #[.int .i64 0, .int .i64 (-1), .int .i64 0] 61))
  have HB2 := Aw.mk (HB.out.alloc (by have := qs; omega) (.cells #[.int .i64 0, .int .i64 (-1), .int .i64 0] 61))
  clear BK HB q0 q1 ha hw
  obtain ⟨L, hL⟩ : ∃ L, L = w'.heap.size := ⟨_, rfl⟩
  rw [← hL] at BL ⊢
  obtain ⟨w1, hw1⟩ : ∃ w1, w1 = w'.alloc (.cells #[.int .i64 0, .int .i64 (-1), .int .i64 0] 61) := ⟨_, rfl⟩
  rw [← hw1] at BL BK2 HB2 ⊢
  rw [← hL] at qs
  clear hL hw1 w'
  go_loopg [3, 33] l.length (fun gg s3 s33 wr => ∃ (kk : Nat) (tk : Int) (la : Stg), kk ≤ l.length ∧ l.length - kk ≤ gg ∧ s33 = .int .i64 kk ∧ s3 = .int .i64 tk ∧ 0 ≤ tk ∧ tk ≤ lot ∧ Aw (chk lot tk la (l.drop kk) = chk lot 0 ⟨0, -1, 0⟩ l) ∧ Aw (Blk wr L #[.int .i64 la.take, .int .i64 la.accept, .int .i64 la.reject] 61) ∧ Aw (Blk wr w.heap.size #[.int .i64 lot, .slice A l.length c] 31) ∧ Aw (Below w.heap.size w wr))
  case atStart => exact ⟨0, 0, ⟨0, -1, 0⟩, Nat.zero_le _, by omega, rfl, rfl, by omega, by omega, ⟨rfl⟩, BL, BK2, HB2⟩
  case round =>
    clear BL BK2 HB2
    obtain ⟨kk, tk, ⟨la, lb, lc⟩, hkk, hg, rfl, rfl, t0, t1, HC, BL, BK, HB⟩ := hrel
    dsimp only at BL
    by_cases hlt : kk < l.length
    · obtain ⟨b, off, rfl, hbl, h0, h1, h2⟩ := (HZ.out.below HB.out) kk hlt
      have hd : Aw (l.drop kk = l[kk] :: l.drop (kk + 1)) := ⟨List.drop_eq_getElem_cons hlt⟩
      have hpos : 1 ≤ (l[kk]).take := by
        have := List.all_eq_true.1 HT.out (l[kk]) (List.getElem_mem hlt)
        simpa using this
      have hltz : (kk : Int) < (l.length : Int) := by omega
      have q0 : wr.cell? ⟨w.heap.size, 0, none⟩ = some (.int .i64 lot) := BK.out.cell 0
      have l0 : wr.cell? ⟨L, 0, none⟩ = some (.int .i64 la) := BL.out.cell 0
      have l1 : wr.cell? ⟨L, 1, none⟩ = some (.int .i64 lb) := BL.out.cell 1
      have l2 : wr.cell? ⟨L, 2, none⟩ = some (.int .i64 lc) := BL.out.cell 2
      have hL := BL.out.lt
      have hK := BK.out.lt
      have f0 := BL.out.frozen 0
      have f1 := BL.out.frozen 1
      have f2 := BL.out.frozen 2
      generalize l[kk] = y at h0 h1 h2 hd hpos
      obtain ⟨ya, yb, yc⟩ := y
      dsimp only at h0 h1 h2 hpos
      have HB' := Aw.mk (HB.out.alloc HB.out.size (.cells #[.int .i64 ya, .int .i64 yb, .int .i64 yc] 61))
      by_cases ca : lot - tk < ya
      · have d1 : decide (lot - tk < ya) = true := decide_eq_true ca
        have HF : Aw (checkPlan lot l = 1) := ⟨by rw [HE.out, ← HC.out, hd.out, chk, if_pos ca]⟩
        go_wp2
        go_ret
        exact ⟨by rw [HF.out]; rfl, HB'.out⟩
      have d1 : decide (lot - tk < ya) = false := decide_eq_false ca
      by_cases cb : yb < lb
      · have d2 : decide (yb < lb) = true := decide_eq_true cb
        have HF : Aw (checkPlan lot l = 1) := ⟨by rw [HE.out, ← HC.out, hd.out, chk, if_neg ca, if_pos cb]⟩
        go_wp2
        go_ret
        exact ⟨by rw [HF.out]; rfl, HB'.out⟩
      have d2 : decide (yb < lb) = false := decide_eq_false cb
      by_cases cc : yc < lc
      · have d3 : decide (yc < lc) = true := decide_eq_true cc
        have HF : Aw (checkPlan lot l = 1) := ⟨by rw [HE.out, ← HC.out, hd.out, chk, if_neg ca, if_neg cb, if_pos cc]⟩
        go_wp2
        go_ret
        exact ⟨by rw [HF.out]; rfl, HB'.out⟩
      have d3 : decide (yc < lc) = false := decide_eq_false cc
      by_cases cd : wrap64 (yb + 1) ≤ yc ∧ yc ≤ tk + ya + 1
      · have d4 : decide (wrap64 (yb + 1) ≤ yc ∧ yc ≤ tk + ya + 1) = true := decide_eq_true cd
        have HF : Aw (chk lot (tk + ya) ⟨ya, yb, yc⟩ (l.drop (kk + 1)) = chk lot 0 ⟨0, -1, 0⟩ l) := ⟨by rw [← HC.out, hd.out, chk, if_neg ca, if_neg cb, if_neg cc, if_pos cd]⟩
        have hw := fun W => within_any yc (wrap64 (yb + 1)) (tk + ya + 1) W
        rw [d4] at hw
        clear cb cc cd
        go_wp2_with (go_at_call 39; refine (hw _).mono ?_; rintro e w' ⟨rfl, rfl⟩)
        go_roundg (l.length - (kk + 1))
        case measure => omega
        case rel =>
          refine ⟨kk + 1, tk + ya, ⟨ya, yb, yc⟩, by omega, by omega, by go_num, rfl, by omega, by omega, HF, ⟨?_⟩, ⟨?_⟩, ⟨?_⟩⟩
          · exact (((BL.out.set 0 _).set 1 _).set 2 _).alloc _
          · exact (((BK.out.other (a := ⟨L, 0, none⟩) (Nat.ne_of_lt qs) _).other (a := ⟨L, 1, none⟩) (Nat.ne_of_lt qs) _).other (a := ⟨L, 2, none⟩) (Nat.ne_of_lt qs) _).alloc _
          · have hs := ((HB.out.setCell (p := ⟨L, 0, none⟩) (Nat.le_of_lt qs) (.int .i64 ya)).setCell (p := ⟨L, 1, none⟩) (Nat.le_of_lt qs) (.int .i64 yb)).setCell (p := ⟨L, 2, none⟩) (Nat.le_of_lt qs) (.int .i64 yc)
            exact hs.alloc hs.size _
      · have d4 : decide (wrap64 (yb + 1) ≤ yc ∧ yc ≤ tk + ya + 1) = false := decide_eq_false cd
        have HF : Aw (checkPlan lot l = 1) := ⟨by rw [HE.out, ← HC.out, hd.out, chk, if_neg ca, if_neg cb, if_neg cc, if_neg cd]⟩
        have hw := fun W => within_any yc (wrap64 (yb + 1)) (tk + ya + 1) W
        rw [d4] at hw
        clear cb cc cd
        go_wp2_with (go_at_call 39; refine (hw _).mono ?_; rintro e w' ⟨rfl, rfl⟩)
        go_ret
        exact ⟨by rw [HF.out]; rfl, HB'.out⟩
    · have : kk = l.length := by omega
      subst this
      have q0 : wr.cell? ⟨L, 0, none⟩ = some (.int .i64 la) := BL.out.cell 0
      have q1 : wr.cell? ⟨L, 1, none⟩ = some (.int .i64 lb) := BL.out.cell 1
      have q2 : wr.cell? ⟨L, 2, none⟩ = some (.int .i64 lc) := BL.out.cell 2
      have HC' : Aw ((if lc = wrap64 (lb + 1) then 0 else 1) = chk lot 0 ⟨0, -1, 0⟩ l) := ⟨by rw [← HC.out, List.drop_length]; rfl⟩
      by_cases e : lc = wrap64 (lb + 1)
      · have e1 : (lc == wrap64 (lb + 1)) = true := by simpa using e
        have e2 : (lc != wrap64 (lb + 1)) = false := by simpa using e
        have HF : Aw (checkPlan lot l = 0) := ⟨by rw [HE.out, ← HC'.out, if_pos e]⟩
        clear e
        go_wp2
        go_ret
        exact ⟨by rw [HF.out]; rfl, HB.out⟩
      · have e1 : (lc == wrap64 (lb + 1)) = false := by simpa using e
        have e2 : (lc != wrap64 (lb + 1)) = true := by simpa using e
        have HF : Aw (checkPlan lot l = 1) := ⟨by rw [HE.out, ← HC'.out, if_neg e]⟩
        clear e
        go_wp2
        go_ret
        exact ⟨by rw [HF.out]; rfl, HB.out⟩

end Go.Proofs.Ytigpnafpdmdmhaa.Hand

namespace Go.Proofs.Ytigpnafpdmdmhaa.Hand
open Go.RowKit

/-- Of the blocks that stood in W only those of X may have changed. -/
structure Chg (X : Nat → Prop) (W W' : World) : Prop where
  os : W'.os = W.os
  tape : W'.tape = W.tape
  output : W'.output = W.output
  size : W.heap.size ≤ W'.heap.size
  block : ∀ k, k < W.heap.size → ¬ X k → W'.heap[k]? = W.heap[k]?

theorem Chg.refl (X : Nat → Prop) (W : World) : Chg X W W := ⟨rfl, rfl, rfl, Nat.le_refl _, fun _ _ _ => rfl⟩
theorem Chg.mono {X Y : Nat → Prop} {W W' : World} (h : Chg X W W') (hs : ∀ k, k < W.heap.size → X k → Y k) : Chg Y W W' :=
  ⟨h.os, h.tape, h.output, h.size, fun k hk hn => h.block k hk (fun hx => hn (hs k hk hx))⟩
theorem Chg.trans {X : Nat → Prop} {A B C : World} (h : Chg X A B) (g : Chg (fun k => X k ∨ A.heap.size ≤ k) B C) : Chg X A C :=
  ⟨g.os.trans h.os, g.tape.trans h.tape, g.output.trans h.output, Nat.le_trans h.size g.size, fun k hk hn =>
    (g.block k (Nat.lt_of_lt_of_le hk h.size) (fun hx => hx.elim hn (fun hl => Nat.lt_irrefl _ (Nat.lt_of_lt_of_le hk hl)))).trans (h.block k hk hn)⟩
theorem Chg.below {W W' : World} (h : Below W.heap.size W W') (X : Nat → Prop) : Chg X W W' := ⟨h.os, h.tape, h.output, h.size, fun k hk _ => h.block k hk⟩
theorem Chg.toBelow {X : Nat → Prop} {W W' : World} {B : Nat} (h : Chg X W W') (hB : B ≤ W.heap.size) (hX : ∀ k, X k → B ≤ k) : Below B W W' :=
  ⟨h.os, h.tape, h.output, h.size, fun k hk => h.block k (Nat.lt_of_lt_of_le hk hB) (fun hx => Nat.lt_irrefl _ (Nat.lt_of_lt_of_le hk (hX k hx)))⟩
theorem Chg.alloc {X : Nat → Prop} {A W : World} (h : Chg X A W) (o : Obj) : Chg X A (W.alloc o) :=
  h.trans ⟨rfl, rfl, rfl, by simp, fun k hk _ => Below.heap_alloc W o k hk⟩
theorem Chg.drew {X : Nat → Prop} {A W : World} (h : Chg X A W) : Chg X A W.drew := ⟨h.os, h.tape, h.output, h.size, h.block⟩
theorem Chg.drewN {X : Nat → Prop} {A W : World} (h : Chg X A W) (n : Nat) : Chg X A (W.drewN n) := ⟨h.os, h.tape, h.output, h.size, h.block⟩
theorem Chg.setCell {X : Nat → Prop} {A W : World} (h : Chg X A W) {p : Addr} (hp : X p.block ∨ A.heap.size ≤ p.block) (v : Value) : Chg X A (W.setCell p v) :=
  h.trans ⟨rfl, rfl, rfl, by simp [World.setCell], fun k _ hn => Below.heap_setCell W p v k (fun e => hn (e ▸ hp))⟩
theorem Chg.putObj {X : Nat → Prop} {A W : World} (h : Chg X A W) {r : Nat} (hr : X r ∨ A.heap.size ≤ r) (o : Obj) : Chg X A (W.putObj r o) :=
  h.trans ⟨rfl, rfl, rfl, by simp, fun k _ hn => World.putObj_heap_other (fun e => hn (e ▸ hr))⟩
theorem Chg.andBelow {X : Nat → Prop} {A W W' : World} (h : Chg X A W) (hb : Below W.heap.size W W') : Chg X A W' := h.trans (Chg.below hb _)

/-- What a round keeps. -/
def Keep (X : Nat → Prop) (W W' : World) : Prop := W.heap.size ≤ W'.heap.size ∧ ∀ k, X k → k < W.heap.size → W'.heap[k]? = W.heap[k]?

theorem Keep.refl (X : Nat → Prop) (W : World) : Keep X W W := ⟨Nat.le_refl _, fun _ _ _ => rfl⟩
theorem Keep.trans {X : Nat → Prop} {A B C : World} (h : Keep X A B) (g : Keep X B C) : Keep X A C :=
  ⟨Nat.le_trans h.1 g.1, fun k hx hk => (g.2 k hx (Nat.lt_of_lt_of_le hk h.1)).trans (h.2 k hx hk)⟩
theorem Keep.mono {X Y : Nat → Prop} {A B : World} (h : Keep X A B) (hs : ∀ k, Y k → X k) : Keep Y A B := ⟨h.1, fun k hy hk => h.2 k (hs k hy) hk⟩
theorem Chg.keep {X Y : Nat → Prop} {W W' : World} (h : Chg X W W') (hd : ∀ k, Y k → k < W.heap.size → ¬ X k) : Keep Y W W' := ⟨h.size, fun k hy hk => h.block k hk (hd k hy hk)⟩

/-- An invariant that does not mind what others do to their own blocks X and to new ones. -/
def Stab {α : Type} (J : (Nat → Prop) → List α → World → Prop) : Prop :=
  ∀ (X Y : Nat → Prop) (pre : List α) (W W' : World), J X pre W → Chg X W W' → (∀ k, Y k → X k ∨ W.heap.size ≤ k) → (∀ k, Y k → k < W'.heap.size) → J Y pre W'

/-- The rounds of loop l, from the side of the iterator. -/
def Rounds {α : Type} (P : Program) (l : Nat) (encs : α → Array Value) (R : Nat → Prop) (ok : List α → α → Prop) (J Jx : (Nat → Prop) → List α → World → Prop) : Prop :=
  ∀ (X : Nat → Prop) (pre : List α) (x : α) (W : World), J X pre W → ok pre x → (∀ k, X k → k < W.heap.size) →
    YieldAt Fence.wide 0 P l (encs x) W fun e W' => Keep (fun k => X k ∨ R k) W W' ∧
      ((e = .returned (.bool true) ∧ J X (pre ++ [x]) W') ∨ (e = .returned (.bool false) ∧ Jx X (pre ++ [x]) W'))

/-- How the body of a round may be left. -/
def rndPost {α : Type} (X R : Nat → Prop) (J : (Nat → Prop) → List α → World → Prop) (Jx : Code → (Nat → Prop) → List α → World → Prop) (xs : List α) (W : World) : Exit → Act → World → Prop
  | .normal, _, W' => Keep (fun k => X k ∨ R k) W W' ∧ J X xs W'
  | .ret, _, W' => Keep (fun k => X k ∨ R k) W W' ∧ Jx .ret X xs W'
  | .exit id, _, W' => Keep (fun k => X k ∨ R k) W W' ∧ Jx (.exit id) X xs W'
  | .goto t, _, W' => Keep (fun k => X k ∨ R k) W W' ∧ Jx (.goto t) X xs W'
  | .panic _, _, _ => False
  | .outgrown, _, _ => False

/-- A range over a function, at the wide fence. -/
theorem range_law {P : Program} {α : Type} {g : Operand} {ps : Array Tmp} {assign body : Code} {Q : Exit → Act → World → Prop} {a : Act} {w : World}
    {gf : Nat} {lb : Array Value} (hg : a.eval g = .func (.func gf) #[] lb) (eg : ∀ args w, (callFunc gf args).run P w = .ok (.enter gf args) w)
    {encs : α → Array Value} {R : Nat → Prop} {ok : List α → α → Prop} {S Sp : List α → Prop}
    (J : (Nat → Prop) → List α → World → Prop) (Jx : Code → (Nat → Prop) → List α → World → Prop) (hJ : Stab J) (hJx : ∀ c, Stab (Jx c))
    (X0 : Nat → Prop) (hX0 : ∀ k, X0 k → k < w.heap.size) (hR : ∀ k, R k → k < w.heap.size) (h0 : J X0 [] w) (hps : ∀ x, (encs x).size = ps.size)
    (hseq : ∀ (l : Nat) (J' Jx' : (Nat → Prop) → List α → World → Prop) (W1 : World), Chg (fun _ => False) w W1 → Stab J' → Stab Jx' → Rounds P l encs R ok J' Jx' → J' X0 [] W1 →
      Calls P gf (#[.func (.yield l) #[] #[]] ++ lb) W1 fun e W' => (∃ v, e = .returned v) ∧ ((∃ xs, S xs ∧ J' X0 xs W') ∨ (∃ pre, Sp pre ∧ Jx' X0 pre W')))
    (Ja : (Nat → Prop) → List α → α → Act → World → Prop) (hJa : ∀ x a', Stab (fun X pre W => Ja X pre x a' W))
    (hassign : ∀ (l : Nat) (X : Nat → Prop) (pre : List α) (x : α) (W : World), J X pre W → ok pre x → (∀ k, X k → k < W.heap.size) →
      assign.wpIn (Fence.wide.inRound l) 0 P (Exit.then (fun a' W1 => Keep (fun k => X k ∨ R k) W W1 ∧ Ja X pre x a' W1) (fun _ _ _ => False)) { tmps := (ps.zip (encs x)).foldl (fun t (p, v) => t.setIfInBounds p v) a.tmps, defers := [] } W)
    (hbody : ∀ (l : Nat) (X : Nat → Prop) (pre : List α) (x : α) (a' : Act) (W : World), Ja X pre x a' W → ok pre x → (∀ k, X k → k < W.heap.size) →
      body.wpIn (Fence.wide.inRound l) 0 P (rndPost X R J Jx (pre ++ [x]) W) a' W)
    (hdone : ∀ (D : Nat) (xs : List α) (W : World), w.heap.size ≤ D → S xs → J (fun k => X0 k ∨ k = D) xs W → W.heap[D]? = some (.deferred (some [])) → Q .normal { a with defers := { target := .collected D, args := #[] } :: a.defers } W)
    (hstop : ∀ (D : Nat) (c : Code) (pre : List α) (W : World), w.heap.size ≤ D → Sp pre → Jx c (fun k => X0 k ∨ k = D) pre W → W.heap[D]? = some (.deferred (some [])) → c.wpIn Fence.wide 0 P Q { a with defers := { target := .collected D, args := #[] } :: a.defers } W) :
    (Code.rangeFunc g ps assign body).wpIn Fence.wide 0 P Q a w := by
  refine wpIn_rangeFunc ?_
  intro fn _
  rw [show Fence.wide.round = none from rfl]
  obtain ⟨rec, hrec⟩ : ∃ rec : LoopState → Option Code → Loop, rec = fun st pe => { state := st, pending := pe, fn, tmps := a.tmps, params := ps, assign, body, defers := w.heap.size } := ⟨_, rfl⟩
  obtain ⟨W1, hW1⟩ : ∃ W1, (w.alloc (.deferred (some []))).alloc (.loop (rec .ready none)) = W1 := ⟨_, rfl⟩
  have hL1 : W1.heap[w.heap.size + 1]? = some (.loop (rec .ready none)) := by
    rw [← hW1]; have := World.alloc_heap_new (w.alloc (.deferred (some []))) (.loop (rec .ready none)); rwa [World.size_alloc] at this
  have hK1 : W1.heap[w.heap.size]? = some (.deferred (some [])) := by
    rw [← hW1]; exact (Below.heap_alloc _ _ _ (by simp)).trans (World.alloc_heap_new w _)
  have hC1 : Chg (fun _ => False) w W1 := by rw [← hW1]; exact ((Chg.refl _ w).alloc _).alloc _
  have hs1 : W1.heap.size = w.heap.size + 2 := by rw [← hW1]; simp
  obtain ⟨D, hD⟩ : ∃ D, D = w.heap.size := ⟨_, rfl⟩
  obtain ⟨l, hl⟩ : ∃ l, l = w.heap.size + 1 := ⟨_, rfl⟩
  rw [← hl] at hL1
  rw [← hD] at hK1
  refine ⟨l, [{ target := .collected D, args := #[] }], W1, { target := .fn (.func gf) lb, args := #[.func (.yield l) #[] #[]] }, W1, gf,
    #[.func (.yield l) #[] #[]] ++ lb, W1, ?_, ?_, ?_, ?_, fun h => by simp [Fence.wide] at h, ?_⟩
  · rw [← hW1, hrec, hl, hD]; exact run_enterLoop_outer _ _ _ _ _
  · simp only [resolve, hg]
    simp [go_sem]
  · intro f' _; trivial
  · simp [invoke, go_sem, eg]
  · refine callsIn_wide.2 ?_
    have hI1 : J (fun k => X0 k ∨ (k = D ∨ k = l)) [] W1 := hJ X0 _ [] w W1 h0 (hC1.mono (fun _ _ h => h.elim))
      (fun k hk => by rcases hk with h | rfl | rfl; exact .inl h; exact .inr (Nat.le_of_eq hD.symm); exact .inr (by omega))
      (fun k hk => by rcases hk with h | rfl | rfl; exact Nat.lt_of_lt_of_le (hX0 k h) hC1.size; omega; omega)
    have hstab : ∀ (I : (Nat → Prop) → List α → World → Prop), Stab I → ∀ (st : LoopState) (pe : Option Code),
        Stab (fun X pre W => I (fun k => X k ∨ (k = D ∨ k = l)) pre W ∧ (¬ X D ∧ ¬ X l) ∧ W.heap[l]? = some (.loop (rec st pe)) ∧ W.heap[D]? = some (.deferred (some []))) := by
      intro I hI st pe X Y pre A B ⟨h1, h2, h3, h4⟩ hc hY hYl
      have hlA : l < A.heap.size := (Array.getElem?_eq_some_iff.1 h3).1
      have hDA : D < A.heap.size := (Array.getElem?_eq_some_iff.1 h4).1
      refine ⟨hI _ _ pre A B h1 (hc.mono (fun _ _ h => .inl h)) ?_ ?_, ⟨?_, ?_⟩, (hc.block l hlA h2.2).trans h3, (hc.block D hDA h2.1).trans h4⟩
      · rintro k (h | h)
        · rcases hY k h with h | h
          · exact .inl (.inl h)
          · exact .inr h
        · exact .inl (.inr h)
      · rintro k (h | rfl | rfl)
        · exact hYl k h
        · exact Nat.lt_of_lt_of_le hDA hc.size
        · exact Nat.lt_of_lt_of_le hlA hc.size
      · intro h; rcases hY D h with h | h
        · exact h2.1 h
        · omega
      · intro h; rcases hY l h with h | h
        · exact h2.2 h
        · omega
    refine (hseq l (fun X pre W => J (fun k => X k ∨ (k = D ∨ k = l)) pre W ∧ (¬ X D ∧ ¬ X l) ∧ W.heap[l]? = some (.loop (rec .ready none)) ∧ W.heap[D]? = some (.deferred (some [])))
      (fun X pre W => ∃ c, Jx c (fun k => X k ∨ (k = D ∨ k = l)) pre W ∧ (¬ X D ∧ ¬ X l) ∧ W.heap[l]? = some (.loop (rec .done (some c))) ∧ W.heap[D]? = some (.deferred (some [])))
      W1 hC1 (hstab J hJ _ _) ?_ ?_ ⟨hI1, ⟨fun h => by have := hX0 D h; omega, fun h => by have := hX0 l h; omega⟩, hL1, hK1⟩).mono ?_
    · rintro X Y pre A B ⟨c, h⟩ hc hY hYl
      exact ⟨c, hstab (Jx c) (hJx c) .done (some c) X Y pre A B h hc hY hYl⟩
    · rintro X pre x W ⟨hj, ⟨hnD, hnl⟩, hlW, hDW⟩ hok hXW
      have hlA : l < W.heap.size := (Array.getElem?_eq_some_iff.1 hlW).1
      have hDA : D < W.heap.size := (Array.getElem?_eq_some_iff.1 hDW).1
      have hy := run_yield (P := P) (args := encs x) hlW (by rw [hrec]; exact hps x)
      rw [hrec] at hy
      have hXW' : ∀ k, (X k ∨ (k = D ∨ k = l)) → k < W.heap.size := by rintro k (h | rfl | rfl); exact hXW k h; exact hDA; exact hlA
      refine ⟨fn, _, assign, body, hy, roundIn_of_wpIn (F := Fence.wide) trivial (wpIn_mono (hassign l _ pre x W hj hok hXW') ?_)⟩
      intro e a' Wa he
      cases e with
      | normal =>
        obtain ⟨hk1, ha⟩ := he
        have hla := (hk1.2 l (.inl (.inr (.inr rfl))) hlA).trans hlW
        have hDa := (hk1.2 D (.inl (.inr (.inl rfl))) hDA).trans hDW
        have hlA2 : l < Wa.heap.size := (Array.getElem?_eq_some_iff.1 hla).1
        have hDA2 : D < Wa.heap.size := (Array.getElem?_eq_some_iff.1 hDa).1
        have hXA : ∀ k, (X k ∨ (k = D ∨ k = l)) → k < Wa.heap.size := fun k hk => Nat.lt_of_lt_of_le (hXW' k hk) hk1.1
        refine ⟨_, run_beginRound hla (by rw [hrec]), ?_⟩
        have hb1 : Chg (fun k => X k ∨ (k = D ∨ k = l)) Wa (Wa.putObj l (.loop { rec .ready none with state := .busy })) := (Chg.refl _ _).putObj (.inl (.inr (.inr rfl))) _
        have hl2 : (Wa.putObj l (.loop { rec .ready none with state := .busy })).heap[l]? = some (.loop { rec .ready none with state := .busy }) := World.putObj_heap_same hlA2
        have hD2 : (Wa.putObj l (.loop { rec .ready none with state := .busy })).heap[D]? = some (.deferred (some [])) := (World.putObj_heap_other (by omega)).trans hDa
        have ha2 := hJa x a' _ _ pre Wa _ ha hb1 (fun k hk => .inl hk) (fun k hk => by rw [World.putObj_size]; exact hXA k hk)
        refine wpIn_mono (hbody l _ pre x a' _ ha2 hok (fun k hk => by rw [World.putObj_size]; exact hXA k hk)) ?_
        have hkA : Keep (fun k => X k ∨ R k) Wa (Wa.putObj l (.loop { rec .ready none with state := .busy })) := ⟨by simp, fun k hk _ => World.putObj_heap_other (by
          rintro rfl; rcases hk with h | h
          · exact hnl h
          · have := hR _ h; omega)⟩
        have fin : ∀ (jump : Option Code) (W3 : World), Keep (fun k => (X k ∨ (k = D ∨ k = l)) ∨ R k) (Wa.putObj l (.loop { rec .ready none with state := .busy })) W3 →
            (Instr.endRound l jump).run P W3 = .ok (.bool jump.isNone) (W3.putObj l (.loop (rec (if jump.isNone then .ready else .done) jump))) ∧
            Keep (fun k => X k ∨ R k) W (W3.putObj l (.loop (rec (if jump.isNone then .ready else .done) jump))) ∧
            (∀ k, (X k ∨ (k = D ∨ k = l)) → k < W3.heap.size) ∧
            (W3.putObj l (.loop (rec (if jump.isNone then .ready else .done) jump))).heap[l]? = some (.loop (rec (if jump.isNone then .ready else .done) jump)) ∧
            (W3.putObj l (.loop (rec (if jump.isNone then .ready else .done) jump))).heap[D]? = some (.deferred (some [])) := fun jump W3 hk3 => by
          have hl3 := (hk3.2 l (.inl (.inr (.inr rfl))) (by rw [World.putObj_size]; exact hlA2)).trans hl2
          have hD3 := (hk3.2 D (.inl (.inr (.inl rfl))) (by rw [World.putObj_size]; exact hDA2)).trans hD2
          have hlA3 : l < W3.heap.size := (Array.getElem?_eq_some_iff.1 hl3).1
          have := run_endRound (P := P) jump hl3
          rw [hrec] at this ⊢
          refine ⟨this, ?_, fun k hk => Nat.lt_of_lt_of_le (hXA k hk) (by have := hk3.1; rw [World.putObj_size] at this; exact this), World.putObj_heap_same hlA3, (World.putObj_heap_other (by omega)).trans hD3⟩
          refine (((hk1.mono (fun k hk => ?_)).trans hkA).trans (hk3.mono (fun k hk => ?_))).trans ⟨by simp, fun k hk _ => World.putObj_heap_other ?_⟩
          · rcases hk with h | h; exact .inl (.inl h); exact .inr h
          · rcases hk with h | h; exact .inl (.inl h); exact .inr h
          · rintro rfl; rcases hk with h | h
            · exact hnl h
            · have := hR _ h; omega
        have st : ∀ (I : (Nat → Prop) → List α → World → Prop), Stab I → ∀ (W3 : World) (o : Obj), (∀ k, (X k ∨ (k = D ∨ k = l)) → k < W3.heap.size) → I (fun k => X k ∨ (k = D ∨ k = l)) (pre ++ [x]) W3 → I (fun k => X k ∨ (k = D ∨ k = l)) (pre ++ [x]) (W3.putObj l o) :=
          fun I hI W3 o hs h => hI _ _ _ W3 _ h ((Chg.refl _ _).putObj (.inl (.inr (.inr rfl))) _) (fun k hk => .inl hk) (fun k hk => by rw [World.putObj_size]; exact hs k hk)
        rintro e a3 W3 hp
        cases e with
        | normal =>
          obtain ⟨hk3, hi3⟩ := hp
          obtain ⟨hr, hkk, hs3, hl4, hk4⟩ := fin none W3 hk3
          exact ⟨_, _, hr, hkk, .inl ⟨rfl, st J hJ W3 _ hs3 hi3, ⟨hnD, hnl⟩, hl4, hk4⟩⟩
        | ret =>
          obtain ⟨hk3, hi3⟩ := hp
          obtain ⟨hr, hkk, hs3, hl4, hk4⟩ := fin (some .ret) W3 hk3
          exact ⟨_, _, hr, hkk, .inr ⟨rfl, .ret, st _ (hJx _) W3 _ hs3 hi3, ⟨hnD, hnl⟩, hl4, hk4⟩⟩
        | exit id =>
          obtain ⟨hk3, hi3⟩ := hp
          obtain ⟨hr, hkk, hs3, hl4, hk4⟩ := fin (some (.exit id)) W3 hk3
          exact ⟨_, _, hr, hkk, .inr ⟨rfl, .exit id, st _ (hJx _) W3 _ hs3 hi3, ⟨hnD, hnl⟩, hl4, hk4⟩⟩
        | goto t =>
          obtain ⟨hk3, hi3⟩ := hp
          obtain ⟨hr, hkk, hs3, hl4, hk4⟩ := fin (some (.goto t)) W3 hk3
          exact ⟨_, _, hr, hkk, .inr ⟨rfl, .goto t, st _ (hJx _) W3 _ hs3 hi3, ⟨hnD, hnl⟩, hl4, hk4⟩⟩
        | panic ch => exact hp.elim
        | outgrown => exact hp.elim
      | ret => exact he.elim
      | exit id => exact he.elim
      | goto t => exact he.elim
      | panic ch => exact he.elim
      | outgrown => exact he.elim
    · rintro e W2 ⟨⟨v, rfl⟩, (⟨xs, hS, hi, _, hl2, hk2⟩ | ⟨pre, hSp, c, hi, _, hl2, hk2⟩)⟩
      · refine ⟨none, _, by have := run_endLoop (P := P) hl2 (by rw [hrec]; simp); rw [hrec] at this; exact this, hdone D xs _ (Nat.le_of_eq hD.symm) hS (hJ _ _ _ W2 _ hi ((Chg.refl _ _).putObj (.inl (.inr (.inr rfl))) _) ?_ ?_) ((World.putObj_heap_other (by omega)).trans hk2)⟩
        · rintro k (h | rfl); exact .inl (.inl h); exact .inl (.inr (.inl rfl))
        · rintro k (h | rfl)
          · rw [World.putObj_size]
            have := hX0 k h; have := (Array.getElem?_eq_some_iff.1 hk2).1; omega
          · rw [World.putObj_size]; exact (Array.getElem?_eq_some_iff.1 hk2).1
      · refine ⟨some c, _, by have := run_endLoop (P := P) hl2 (by rw [hrec]; simp); rw [hrec] at this; exact this, hstop D c pre _ (Nat.le_of_eq hD.symm) hSp (hJx c _ _ _ W2 _ hi ((Chg.refl _ _).putObj (.inl (.inr (.inr rfl))) _) ?_ ?_) ((World.putObj_heap_other (by omega)).trans hk2)⟩
        · rintro k (h | rfl); exact .inl (.inl h); exact .inl (.inr (.inl rfl))
        · rintro k (h | rfl)
          · rw [World.putObj_size]
            have := hX0 k h; have := (Array.getElem?_eq_some_iff.1 hk2).1; omega
          · rw [World.putObj_size]; exact (Array.getElem?_eq_some_iff.1 hk2).1

end Go.Proofs.Ytigpnafpdmdmhaa.Hand

namespace Go.Proofs.Ytigpnafpdmdmhaa.Hand
open Go.RowKit

/-! ### A region that draws its order, by what each operation leaves -/

/-- One operation carried out: what it leaves and the world behind it. -/
def OpOk (P : Program) (o : Oper) (a : Act) (w : World) (K : Value → World → Prop) : Prop :=
  (∃ v w', (execOp a.eval o).run P w = .ok (.value v) w' ∧ K v w') ∨
  (∃ w', (execOp a.eval o).run P w = .ok .skip w' ∧ K undef w') ∨
  (∃ f args w1, (execOp a.eval o).run P w = .ok (.enter f args) w1 ∧ Calls P f args w1 fun e w' => ∃ v, e = .returned v ∧ K v w') ∨
  (∃ l f tmps az bd w1, (execOp a.eval o).run P w = .ok (.round l f tmps az bd) w1 ∧ RoundIn Fence.wide 0 P l f tmps az bd w1 fun e w' => ∃ v, e = .returned v ∧ K v w')

theorem OpOk.mono {P : Program} {o : Oper} {a : Act} {w : World} {K K' : Value → World → Prop} (h : OpOk P o a w K) (hk : ∀ v w', K v w' → K' v w') : OpOk P o a w K' := by
  rcases h with ⟨v, w', h1, h2⟩ | ⟨w', h1, h2⟩ | ⟨f, args, w1, h1, h2⟩ | ⟨l, f, tmps, az, bd, w1, h1, h2⟩
  · exact .inl ⟨v, w', h1, hk _ _ h2⟩
  · exact .inr (.inl ⟨w', h1, hk _ _ h2⟩)
  · exact .inr (.inr (.inl ⟨f, args, w1, h1, h2.mono fun e w' ⟨v, he, h⟩ => ⟨v, he, hk _ _ h⟩⟩))
  · exact .inr (.inr (.inr ⟨l, f, tmps, az, bd, w1, h1, h2.mono fun e w' ⟨v, he, h⟩ => ⟨v, he, hk _ _ h⟩⟩))

theorem OpOk.wpOpIn {P : Program} {ops : Array Oper} {Q : Exit → Act → World → Prop} {i : Nat} {o : Oper} {a : Act} {w : World} {K : Act → World → Prop} {rd : Option Nat}
    (ho : ops[i]? = some o) (hg : o.guard = none) (hd : ∀ c, o.op ≠ .defer c) (h : OpOk P o a w fun v w' => K (a.put o.dst v) w') :
    wpOpIn { Fence.wide with round := rd } 0 P ops Q i K a w := by
  unfold Go.wpOpIn
  simp only [ho]
  have hw : Region.wanted o (yielded ops a.tmps) = true := by unfold Region.wanted; rw [hg]
  rw [if_pos hw]
  refine ⟨fun _ _ => trivial, ?_⟩
  have hs : o.semAt rd a.eval = execOp a.eval o := by
    cases rd with
    | none => rfl
    | some l => exact Oper.semAt_some l _ o hd
  show o.uponIn _ _ _ _ _ _ ((o.semAt rd a.eval).run P w)
  rw [hs]
  rcases h with ⟨v, w', h1, h2⟩ | ⟨w', h1, h2⟩ | ⟨f, args, w1, h1, h2⟩ | ⟨l, f, tmps, az, bd, w1, h1, h2⟩
  · rw [h1]; exact h2
  · rw [h1]; exact h2
  · rw [h1]
    refine ⟨fun h => by simp [Fence.wide] at h, ?_⟩
    have h3 : CallsIn { Fence.wide with round := rd } 0 P f args w1 (fun e w' => ∃ v, e = .returned v ∧ K (a.put o.dst v) w') := callsIn_wide.2 h2
    refine CallsIn.mono h3 ?_
    rintro e w' ⟨v, rfl, hk⟩
    exact hk
  · rw [h1]
    refine ⟨fun h => by simp [Fence.wide] at h, ?_⟩
    have h3 : RoundIn { Fence.wide with round := rd } 0 P l f tmps az bd w1 (fun e w' => ∃ v, e = .returned v ∧ K (a.put o.dst v) w') := h2
    refine RoundIn.mono h3 ?_
    rintro e w' ⟨v, rfl, hk⟩
    exact hk

/-- How many are still to come. -/
def left (listed : Array Bool) : Nat := listed.toList.countP (fun b => !b)

theorem left_set {listed : Array Bool} {i : Nat} (h : listed.getD i true = false) : left (listed.setIfInBounds i true) + 1 = left listed := by
  have hi : i < listed.size := by
    rcases Nat.lt_or_ge i listed.size with h' | h'
    · exact h'
    · simp [Array.getElem?_eq_none h'] at h
  have hv : listed[i] = false := by simpa [hi] using h
  unfold left
  rw [Array.toList_setIfInBounds]
  have hl : i < listed.toList.length := by simpa using hi
  have key : ∀ (l : List Bool) (i : Nat) (h : i < l.length), l[i] = false → (l.set i true).countP (fun b => !b) + 1 = l.countP (fun b => !b) := by
    intro l
    induction l with
    | nil => intro i h; simp at h
    | cons b l ih =>
      intro i h hb
      cases i with
      | zero => simp at hb; subst hb; simp
      | succ i =>
        simp only [List.set_cons_succ, List.countP_cons]
        have := ih i (by simpa using h) (by simpa using hb)
        omega
  exact key _ i hl (by simpa using hv)

theorem left_zero {listed : Array Bool} (h : left listed = 0) (i : Nat) : listed.getD i true = true := by
  unfold left at h
  rw [List.countP_eq_zero] at h
  by_cases hi : i < listed.size
  · have := h listed[i] (by simp)
    simpa [hi] using this
  · simp [hi]

/-- Each waits for earlier ones alone. -/
def acyc (ops : Array Oper) : Bool := (List.range ops.size).all fun i => match ops[i]? with | some o => o.after.all fun e => decide (e.on < i) | none => true

theorem acyc_spec {ops : Array Oper} (h : acyc ops = true) {i : Nat} {o : Oper} (ho : ops[i]? = some o) {e : Edge} (he : e ∈ o.after) : e.on < i := by
  have hi : i < ops.size := (Array.getElem?_eq_some_iff.1 ho).1
  have := List.all_eq_true.1 h i (List.mem_range.2 hi)
  simp only [ho] at this
  have h2 := Array.all_eq_true_iff_forall_mem.1 this e he
  simpa using h2

theorem ready_ne {ops : Array Oper} {md : Region.Mode} (h : acyc ops = true) {listed : Array Bool} (hs : listed.size = ops.size) (hr : Region.ready md ops listed = []) : ∀ i, i < ops.size → listed.getD i false = true := by
  intro i
  induction i using Nat.strongRecOn with
  | _ i ih =>
    intro hi
    by_cases hv : listed.getD i false = true
    · exact hv
    · have hm : i ∈ Region.ready md ops listed := by
        rw [mem_ready]
        refine ⟨?_, ops[i], by simp [hi], fun e he _ => ?_⟩
        · have hil : i < listed.size := by omega
          simp [hil] at hv ⊢
          exact hv
        · have hlt := acyc_spec h (i := i) (o := ops[i]) (by simp [hi]) he
          exact ih e.on hlt (by omega)
      rw [hr] at hm
      cases hm

/-- A region in whatever order, by an invariant over what has been carried out. -/
theorem wpAnyIn_inv {F : Fence} {n : Nat} {P : Program} {ops : Array Oper} {Q : Exit → Act → World → Prop} (hac : acyc ops = true) (Inv : Array Bool → Act → World → Prop)
    (hstep : ∀ (listed : Array Bool) (a : Act) (w : World) (i : Nat) (o : Oper), Inv listed a w → listed.size = ops.size → ops[i]? = some o → listed.getD i true = false →
      (∀ e ∈ o.after, Region.binds .any e = true → listed.getD e.on false = true) → wpOpIn F n P ops Q i (fun a' w' => Inv (listed.setIfInBounds i true) a' w') a w)
    (hend : ∀ (listed : Array Bool) (a : Act) (w : World), Inv listed a w → (∀ i, i < ops.size → listed.getD i false = true) → Q .normal a w) :
    ∀ (fuel : Nat) (listed : Array Bool) (a : Act) (w : World), Inv listed a w → listed.size = ops.size → left listed ≤ fuel → wpAnyIn F n P .any ops Q fuel listed a w := by
  intro fuel
  induction fuel with
  | zero =>
    intro listed a w hI hs hl
    have hz := left_zero (Nat.le_zero.1 hl)
    have hr : Region.ready .any ops listed = [] := by
      cases h : Region.ready .any ops listed with
      | nil => rfl
      | cons j js =>
        have : j ∈ Region.ready .any ops listed := by rw [h]; simp
        have := (mem_ready.1 this).1
        rw [hz j] at this
        cases this
    exact ⟨hr, hend listed a w hI (ready_ne hac hs hr)⟩
  | succ fuel ih =>
    intro listed a w hI hs hl
    refine ⟨fun hr => hend listed a w hI (ready_ne hac hs hr), fun i hi => ?_⟩
    obtain ⟨h0, o, ho, hall⟩ := mem_ready.1 hi
    refine wpOpIn_mono (fun a' w' h' => ih _ a' w' h' (by simp [hs]) ?_) (hstep listed a w i o hI hs ho h0 hall)
    have := left_set h0
    omega

/-- What the deps of the last one reach. -/
def anc (ops : Array Oper) : Nat → List Nat → List Nat
  | 0, f => f
  | i + 1, f => anc ops i (if f.contains i then (match ops[i]? with | some o => (o.after.toList.filter fun e => Region.binds .any e).map (·.on) ++ f | none => f) else f)

/-- The operations before N stand ahead of N; those behind it come one behind the other. -/
def lastOk (ops : Array Oper) (N : Nat) : Bool := decide (N < ops.size) && acyc ops && ((List.range N).all fun j => (anc ops (N + 1) [N]).contains j) &&
  (List.range ops.size).all fun i => decide (i < N) || (match ops[i]? with
    | some o => o.guard.isNone && (match o.op with | .defer _ => false | _ => true) && (decide (i = N) || o.after.toList.any fun e => Region.binds .any e && e.on + 1 == i)
    | none => false)

theorem anc_spec {ops : Array Oper} {listed : Array Bool} {N : Nat} (hcl : ∀ i o, i ≠ N → ops[i]? = some o → listed.getD i false = true → ∀ e ∈ o.after, Region.binds .any e = true → listed.getD e.on false = true)
    (hN : ∀ o, ops[N]? = some o → ∀ e ∈ o.after, Region.binds .any e = true → listed.getD e.on false = true) : ∀ (i : Nat) (f : List Nat), (∀ j ∈ f, j = N ∨ listed.getD j false = true) → ∀ j ∈ anc ops i f, j = N ∨ listed.getD j false = true := by
  intro i
  induction i with
  | zero => intro f hf; exact hf
  | succ i ih =>
    intro f hf
    unfold anc
    refine ih _ ?_
    by_cases hc : f.contains i = true
    · rw [if_pos hc]
      have hi := hf i (by simpa using hc)
      cases ho : ops[i]? with
      | none => exact hf
      | some o =>
        intro j hj
        simp only [List.mem_append, List.mem_map, List.mem_filter] at hj
        rcases hj with ⟨e, ⟨he, hb⟩, rfl⟩ | hj
        · by_cases e1 : i = N
          · subst e1; exact .inr (hN o ho e (by simpa using he) hb)
          · exact .inr (hcl i o e1 ho (hi.resolve_left e1) e (by simpa using he) hb)
        · exact hf j hj
    · rw [if_neg hc]; exact hf

/-- Operations carried out in the text's order. -/
def tailRun (P : Program) (Q : Exit → Act → World → Prop) : List Oper → Act → World → Prop
  | [], a, w => Q .normal a w
  | o :: r, a, w => OpOk P o a w fun v w' => tailRun P Q r (a.put o.dst v) w'

/-- **A region that draws its order: the operations before N in whatever order, each told by what it leaves; then the others in the text's order.** -/
theorem region_spec {P : Program} {rd : Option Nat} {id : Nat} {ops : Array Oper} {Q : Exit → Act → World → Prop} {a0 : Act} {w0 : World} {N : Nat} (hm : P.follows .mixedOrders = true) (hl : lastOk ops N = true)
    (d : Nat → Nat) (hdst : ∀ i, i < N → ∃ o, ops[i]? = some o ∧ o.guard = none ∧ (∀ c, o.op ≠ .defer c) ∧ o.dst = some (d i) ∧ d i < a0.tmps.size) (hinj : ∀ i j, i < N → j < N → d i = d j → i = j)
    (B : World → Prop) (Sp : Nat → Value → World → Prop)
    (hB : ∀ w w', Below w.heap.size w w' → B w → B w') (hSp : ∀ i v w w', Below w.heap.size w w' → Sp i v w → Sp i v w')
    (hB0 : B w0.drew)
    (hop : ∀ (i : Nat) (o : Oper) (a : Act) (w : World), i < N → ops[i]? = some o → (∀ s, (∀ j, j < N → d j ≠ s) → a.tmps.getD s undef = a0.tmps.getD s undef) → B w →
      (∀ j, (o.after.toList.any fun e => Region.binds .any e && e.on == j) = true → Sp j (a.tmps.getD (d j) undef) w) → OpOk P o a w fun v w' => Below w.heap.size w w' ∧ Sp i v w')
    (hlast : ∀ (a : Act) (w : World), a.defers = a0.defers → a.tmps.size = a0.tmps.size → (∀ s, (∀ j, j < N → d j ≠ s) → a.tmps.getD s undef = a0.tmps.getD s undef) → B w → (∀ j, j < N → Sp j (a.tmps.getD (d j) undef) w) →
      tailRun P Q (ops.toList.drop N) a w) :
    (Code.region id ops true).wpIn { Fence.wide with round := rd } 0 P Q a0 w0 := by
  unfold lastOk at hl
  simp only [Bool.and_eq_true, decide_eq_true_eq] at hl
  obtain ⟨⟨⟨hsz, hac⟩, hanc0⟩, htl0⟩ := hl
  have hanc : ∀ j, j < N → j ∈ anc ops (N + 1) [N] := fun j hj => by simpa using List.all_eq_true.1 hanc0 j (List.mem_range.2 hj)
  have htl : ∀ i o, ops[i]? = some o → N ≤ i → o.guard = none ∧ (∀ c, o.op ≠ .defer c) ∧ (i = N ∨ ∃ e ∈ o.after, Region.binds .any e = true ∧ e.on + 1 = i) := fun i o ho hi => by
    have hlt := (Array.getElem?_eq_some_iff.1 ho).1
    have := List.all_eq_true.1 htl0 i (List.mem_range.2 hlt)
    simp only [ho, Bool.or_eq_true, decide_eq_true_eq, Bool.and_eq_true] at this
    obtain ⟨⟨a1, a2⟩, a3⟩ := this.resolve_left (by omega)
    refine ⟨by simpa using a1, fun c hc => by simp [hc] at a2, a3.imp (fun h => h) fun h => ?_⟩
    obtain ⟨e, he, hb⟩ := List.any_eq_true.1 h
    simp only [Bool.and_eq_true, beq_iff_eq] at hb
    exact ⟨e, by simpa using he, hb.1, hb.2⟩
  refine wpIn_region_any hm (wpAnyIn_inv hac
    (fun listed a w => (∃ k, N < k ∧ k ≤ ops.size ∧ (∀ j, j < k → listed.getD j false = true) ∧ (∀ j, k ≤ j → j < ops.size → listed.getD j true = false) ∧ tailRun P Q (ops.toList.drop k) a w) ∨
      ((∀ j, N ≤ j → j < ops.size → listed.getD j true = false) ∧ listed.size = ops.size ∧ (∀ i o, i ≠ N → ops[i]? = some o → listed.getD i false = true → ∀ e ∈ o.after, Region.binds .any e = true → listed.getD e.on false = true) ∧
      a.defers = a0.defers ∧ a.tmps.size = a0.tmps.size ∧ (∀ s, (∀ j, j < N → d j ≠ s) → a.tmps.getD s undef = a0.tmps.getD s undef) ∧ B w ∧ ∀ j, j < N → listed.getD j false = true → Sp j (a.tmps.getD (d j) undef) w)) ?_ ?_ ops.size _ a0 _ ?_ (by simp) ?_)
  · -- a step of the tail
    have tstep : ∀ (listed : Array Bool) (a : Act) (w : World) (k : Nat) (o : Oper), N ≤ k → ops[k]? = some o → listed.size = ops.size → (∀ j, j < k → listed.getD j false = true) → (∀ j, k ≤ j → j < ops.size → listed.getD j true = false) →
        tailRun P Q (ops.toList.drop k) a w → wpOpIn { Fence.wide with round := rd } 0 P ops Q k (fun a' w' => ∃ k', N < k' ∧ k' ≤ ops.size ∧ (∀ j, j < k' → (listed.setIfInBounds k true).getD j false = true) ∧ (∀ j, k' ≤ j → j < ops.size → (listed.setIfInBounds k true).getD j true = false) ∧ tailRun P Q (ops.toList.drop k') a' w') a w := by
      intro listed a w k o hk ho hs hlo hhi ht
      obtain ⟨hlt, hok⟩ := Array.getElem?_eq_some_iff.1 ho
      have hdr : ops.toList.drop k = o :: ops.toList.drop (k + 1) := by
        rw [List.drop_eq_getElem_cons (by simpa using hlt)]
        simp [hok]
      rw [hdr] at ht
      obtain ⟨g1, g2, _⟩ := htl k o ho hk
      refine OpOk.wpOpIn ho g1 g2 (OpOk.mono ht fun v w' h => ⟨k + 1, by omega, by omega, fun j hj => ?_, fun j hj hjs => ?_, h⟩)
      · by_cases e : j = k
        · subst e
          have : j < listed.size := by omega
          simp [this]
        · exact getD_set_true (hlo j (by omega))
      · rw [getD_set_ne true (by omega)]; exact hhi j (by omega) hjs
    rintro listed a w i o (⟨k, hk1, hk2, hlo, hhi, ht⟩ | ⟨hNl, hls, hcl, hdf, hts, hfix, hBw, hall⟩) hs ho hun hdeps
    · have hi : i < ops.size := (Array.getElem?_eq_some_iff.1 ho).1
      have hki : k ≤ i := by
        rcases Nat.lt_or_ge i k with h | h
        · have h1 := hlo i h
          have hil : i < listed.size := by omega
          simp [hil] at h1 hun
          rw [h1] at hun; cases hun
        · exact h
      have hik : i = k := by
        obtain ⟨_, _, h | ⟨e, he, hb, he1⟩⟩ := htl i o ho (by omega)
        · omega
        · rcases Nat.lt_or_ge k i with h | h
          · have h1 := hdeps e he hb
            have h2 := hhi e.on (by omega) (by omega)
            have hil : e.on < listed.size := by omega
            simp [hil] at h1 h2
            rw [h1] at h2; cases h2
          · omega
      subst hik
      exact wpOpIn_mono (fun a' w' h => .inl h) (tstep listed a w i o (by omega) ho hs hlo hhi ht)
    · have hi : i < ops.size := (Array.getElem?_eq_some_iff.1 ho).1
      rcases Nat.lt_or_ge i N with hiN' | hge
      · obtain ⟨o', ho', hg, hdf', hds, hdlt⟩ := hdst i hiN'
        obtain rfl : o = o' := by rw [ho] at ho'; exact Option.some.inj ho'
        refine OpOk.wpOpIn ho hg hdf' ((hop i o a w hiN' ho hfix hBw (fun j hj => ?_)).mono fun v w' h => .inr ?_)
        · obtain ⟨e, he, hb⟩ := List.any_eq_true.1 hj
          simp only [Bool.and_eq_true, beq_iff_eq] at hb
          obtain ⟨hb1, rfl⟩ := hb
          have he' : e ∈ o.after := by simpa using he
          have hlt := acyc_spec hac ho he'
          exact hall e.on (by omega) (hdeps e he' hb1)
        · obtain ⟨hbw, hsp⟩ := h
          have hil : i < listed.size := by omega
          refine ⟨?_, by simp [hls], ?_, ?_, ?_, ?_, hB _ _ hbw hBw, ?_⟩
          · intro j hj hjs
            rw [getD_set_ne true (by omega)]; exact hNl j hj hjs
          · intro j oj hjN hoj hjl e he hb
            by_cases hji : i = j
            · subst hji
              obtain rfl : o = oj := by rw [ho] at hoj; exact Option.some.inj hoj
              exact getD_set_true (hdeps e he hb)
            · rw [getD_set_ne false hji] at hjl
              exact getD_set_true (hcl j oj hjN hoj hjl e he hb)
          · rw [hds]; exact hdf
          · rw [hds]; simp [Act.put, hts]
          · intro s hns
            rw [hds]
            have hne : d i ≠ s := hns i hiN'
            simp only [Act.put]
            rw [← hfix s hns]
            simp [Array.getElem?_setIfInBounds_ne hne]
          · intro j hj hjl
            rw [hds]
            by_cases hji : i = j
            · subst hji
              simp only [Act.put]
              have : d i < a.tmps.size := by omega
              simpa [this] using hsp
            · rw [getD_set_ne false hji] at hjl
              have hne : d i ≠ d j := fun e => hji (hinj i j hiN' hj e)
              have := hSp j _ w w' hbw (hall j hj hjl)
              simpa [Act.put, Array.getElem?_setIfInBounds_ne hne] using this
      · have hiN : i = N := by
          obtain ⟨_, _, h | ⟨e, he, hb, he1⟩⟩ := htl i o ho hge
          · exact h
          · rcases Nat.lt_or_ge N i with h | h
            · have h1 := hdeps e he hb
              have h2 := hNl e.on (by omega) (by omega)
              have hil : e.on < listed.size := by omega
              simp [hil] at h1 h2
              rw [h1] at h2; cases h2
            · omega
        subst hiN
        have hallL : ∀ j, j < i → listed.getD j false = true := fun j hj => by
          rcases anc_spec hcl (fun o' ho' e he hb => by obtain rfl : o = o' := Option.some.inj (ho.symm.trans ho'); exact hdeps e he hb) (i + 1) [i] (fun k hk => .inl (by simpa using hk)) j (hanc j hj) with h | h
          · omega
          · exact h
        exact wpOpIn_mono (fun a' w' h => .inl h) (tstep listed a w i o (by omega) ho hs hallL hNl (hlast a w hdf hts hfix hBw (fun j hj => hall j hj (hallL j hj))))
  · rintro listed a w (⟨k, hk1, hk2, hlo, hhi, ht⟩ | ⟨hNl, _⟩) hall
    · have hk : k = ops.size := by
        rcases Nat.lt_or_ge k ops.size with h | h
        · have h1 := hall k h
          have h2 := hhi k (Nat.le_refl _) h
          by_cases hkl : k < listed.size
          · simp [hkl] at h1 h2
            rw [h1] at h2; cases h2
          · simp [hkl] at h1
        · omega
      subst hk
      rw [List.drop_of_length_le (by simp)] at ht
      exact ht
    · have h1 := hall N hsz
      have h2 := hNl N (Nat.le_refl _) hsz
      by_cases hkl : N < listed.size
      · simp [hkl] at h1 h2
        rw [h1] at h2; cases h2
      · simp [hkl] at h1
  · refine .inr ⟨fun j _ hj => by simp [hj], by simp, fun i o _ _ h => ?_, rfl, rfl, fun _ _ => rfl, hB0, fun j _ h => ?_⟩
    · simp [Array.getElem?_replicate] at h; split at h <;> simp at h
    · simp [Array.getElem?_replicate] at h; split at h <;> simp at h
  · unfold left
    exact Nat.le_trans List.countP_le_length (by simp)

/-- The operations' own places, az a Bool. -/
def dstOk (ops : Array Oper) (N : Nat) (d : Nat → Nat) (sz : Nat) : Bool :=
  ((List.range N).all fun i => match ops[i]? with
    | some o => o.guard.isNone && (match o.op with | .defer _ => false | _ => true) && o.dst == some (d i) && decide (d i < sz)
    | none => false) && (List.range N).all fun i => (List.range i).all fun j => d i != d j

theorem dstOk_spec {ops : Array Oper} {N : Nat} {d : Nat → Nat} {sz : Nat} (h : dstOk ops N d sz = true) :
    (∀ i, i < N → ∃ o, ops[i]? = some o ∧ o.guard = none ∧ (∀ c, o.op ≠ .defer c) ∧ o.dst = some (d i) ∧ d i < sz) ∧ ∀ i j, i < N → j < N → d i = d j → i = j := by
  unfold dstOk at h
  rw [Bool.and_eq_true] at h
  obtain ⟨h1, h2⟩ := h
  refine ⟨fun i hi => ?_, fun i j hi hj e => ?_⟩
  · have := List.all_eq_true.1 h1 i (List.mem_range.2 hi)
    cases ho : ops[i]? with
    | none => simp [ho] at this
    | some o =>
      simp only [ho, Bool.and_eq_true] at this
      obtain ⟨⟨⟨a1, a2⟩, a3⟩, a4⟩ := this
      refine ⟨o, rfl, by simpa using a1, fun c hc => by simp [hc] at a2, by simpa using a3, by simpa using a4⟩
  · rcases Nat.lt_trichotomy i j with hlt | rfl | hlt
    · have := List.all_eq_true.1 (List.all_eq_true.1 h2 j (List.mem_range.2 hj)) i (List.mem_range.2 hlt)
      simp [e] at this
    · rfl
    · have := List.all_eq_true.1 (List.all_eq_true.1 h2 i (List.mem_range.2 hi)) j (List.mem_range.2 hlt)
      simp [e] at this

/-- As 'region_spec', the places checked at once; each operation by its number. -/
theorem region_walk {P : Program} {rd : Option Nat} {id : Nat} {ops : Array Oper} {Q : Exit → Act → World → Prop} {a0 : Act} {w0 : World} (N : Nat) (d : Nat → Nat) (hm : P.follows .mixedOrders = true) (hl : lastOk ops N = true)
    (hd : dstOk ops N d a0.tmps.size = true)
    (B : World → Prop) (Sp : Nat → Value → World → Prop)
    (hB : ∀ w w', Below w.heap.size w w' → B w → B w') (hSp : ∀ i v w w', i < N → Below w.heap.size w w' → Sp i v w → Sp i v w')
    (hB0 : B w0.drew)
    (hop : ∀ (i : Nat) (a : Act) (w : World) (hi : i < ops.size), i < N → (∀ s, (∀ j, j < N → d j ≠ s) → a.tmps.getD s undef = a0.tmps.getD s undef) → B w →
      (∀ j, (ops[i].after.toList.any fun e => Region.binds .any e && e.on == j) = true → Sp j (a.tmps.getD (d j) undef) w) → OpOk P ops[i] a w fun v w' => Below w.heap.size w w' ∧ Sp i v w')
    (hlast : ∀ (a : Act) (w : World), a.defers = a0.defers → a.tmps.size = a0.tmps.size → (∀ s, (∀ j, j < N → d j ≠ s) → a.tmps.getD s undef = a0.tmps.getD s undef) → B w → (∀ j, j < N → Sp j (a.tmps.getD (d j) undef) w) →
      tailRun P Q (ops.toList.drop N) a w) :
    (Code.region id ops true).wpIn { Fence.wide with round := rd } 0 P Q a0 w0 := by
  obtain ⟨h1, h2⟩ := dstOk_spec hd
  refine region_spec hm hl d h1 h2 B (fun i v w => i < N → Sp i v w) hB (fun i v w w' hb h hi => hSp i v w w' hi hb (h hi)) hB0 ?_ (fun a w e1 e2 e3 e4 e5 => hlast a w e1 e2 e3 e4 (fun j hj => e5 j hj hj))
  intro i o a w hi ho hfix hBw hdep
  obtain ⟨his, rfl⟩ := Array.getElem?_eq_some_iff.1 ho
  have hac : acyc ops = true := by unfold lastOk at hl; simp only [Bool.and_eq_true] at hl; exact hl.1.1.2
  refine (hop i a w his hi hfix hBw (fun j hj => hdep j hj ?_)).mono fun v w' h => ⟨h.1, fun _ => h.2⟩
  obtain ⟨e, he, hb⟩ := List.any_eq_true.1 hj
  simp only [Bool.and_eq_true, beq_iff_eq] at hb
  have := acyc_spec hac ho (e := e) (by simpa using he)
  omega

theorem OpOk.val {P : Program} {o : Oper} {a : Act} {w w' : World} {K : Value → World → Prop} {v : Value} (h : (execOp a.eval o).run P w = .ok (.value v) w') (hk : K v w') : OpOk P o a w K := .inl ⟨v, w', h, hk⟩
theorem OpOk.skip {P : Program} {o : Oper} {a : Act} {w w' : World} {K : Value → World → Prop} (h : (execOp a.eval o).run P w = .ok .skip w') (hk : K undef w') : OpOk P o a w K := .inr (.inl ⟨w', h, hk⟩)
theorem OpOk.call {P : Program} {o : Oper} {a : Act} {w w1 : World} {K : Value → World → Prop} {f : FuncId} {args : Array Value} (h : (execOp a.eval o).run P w = .ok (.enter f args) w1)
    (hk : Calls P f args w1 fun e w' => ∃ v, e = .returned v ∧ K v w') : OpOk P o a w K := .inr (.inr (.inl ⟨f, args, w1, h, hk⟩))
theorem OpOk.round {P : Program} {o : Oper} {a : Act} {w w1 : World} {K : Value → World → Prop} {l : Nat} {f : FuncId} {tmps : Array Value} {asg bd : Code} (h : (execOp a.eval o).run P w = .ok (.round l f tmps asg bd) w1)
    (hk : RoundIn Fence.wide 0 P l f tmps asg bd w1 fun e w' => ∃ v, e = .returned v ∧ K v w') : OpOk P o a w K := .inr (.inr (.inr ⟨l, f, tmps, asg, bd, w1, h, hk⟩))

end Go.Proofs.Ytigpnafpdmdmhaa.Hand

namespace Go.Proofs.Ytigpnafpdmdmhaa.Hand
open Go.RowKit Go.Shelf

/-- Pascal's triangle. -/
def tri : Nat → Nat → Int
  | _, 0 => 1
  | 0, _ + 1 => 0
  | n + 1, k + 1 => tri n k + tri n (k + 1)

theorem tri_zero : ∀ n, tri n 0 = 1 := by intro n; cases n <;> rfl
theorem tri_above : ∀ (n k : Nat), n < k → tri n k = 0
  | 0, 0, h => absurd h (by omega)
  | 0, _ + 1, _ => rfl
  | _ + 1, 0, h => absurd h (by omega)
  | n + 1, k + 1, h => by rw [tri, tri_above n k (by omega), tri_above n (k + 1) (by omega)]; rfl
theorem tri_nonneg : ∀ (n k : Nat), 0 ≤ tri n k
  | _, 0 => by rw [tri_zero]; omega
  | 0, _ + 1 => by show (0 : Int) ≤ 0; omega
  | n + 1, k + 1 => by rw [tri]; have := tri_nonneg n k; have := tri_nonneg n (k + 1); omega
theorem tri_pow : ∀ (n k : Nat), tri n k ≤ 2 ^ n
  | n, 0 => by rw [tri_zero]; exact_mod_cast Nat.one_le_two_pow
  | 0, _ + 1 => by show (0 : Int) ≤ 1; omega
  | n + 1, k + 1 => by rw [tri]; have := tri_pow n k; have := tri_pow n (k + 1); rw [Int.pow_succ]; omega

theorem tri_le30 (n k : Nat) (h : n ≤ 30) : tri n k ≤ 1073741824 := by
  have h1 := tri_pow n k
  have h2 : (2 : Nat) ^ n ≤ 2 ^ 30 := Nat.pow_le_pow_right (by omega) h
  have h3 : ((2 : Int) ^ n) = ((2 ^ n : Nat) : Int) := by simp
  have h4 : (2 : Nat) ^ 30 = 1073741824 := rfl
  omega

/-- The triangle's cells, the first m of them filled. -/
def pascV (m i : Nat) : Value := .int .i64 (if i < m then tri (i / 31) (i % 31) else 0)
def pasc (m : Nat) : Array Value := Array.ofFn (fun i : Fin 961 => pascV m i.val)

theorem pasc_size (m : Nat) : (pasc m).size = 961 := by simp [pasc]
theorem pasc_get (m i : Nat) (h : i < 961) : (pasc m)[i]? = some (pascV m i) := by
  unfold pasc
  rw [Array.getElem?_ofFn, dif_pos h]
theorem pasc_rep : pasc 0 = Array.replicate 961 (.int .i64 0) := by
  apply Array.ext
  · simp [pasc]
  · intro i h1 h2
    simp [pasc, pascV]
theorem pasc_zero : Try.zeroCells104 = pasc 0 := by
  rw [pasc_rep]
  kernel_rfl
theorem pasc_set (m : Nat) (h : m < 961) : (pasc m).setIfInBounds m (.int .i64 (tri (m / 31) (m % 31))) = pasc (m + 1) := by
  apply Array.ext
  · simp [pasc]
  · intro i h1 h2
    have h3 : i < 961 := by simpa [pasc] using h2
    rw [Array.getElem_setIfInBounds (by rw [pasc_size]; omega)]
    simp only [pasc, Array.getElem_ofFn, pascV]
    by_cases e : m = i
    · subst e; simp
    · by_cases l : i < m
      · simp [e, l, show i < m + 1 by omega]
      · simp [e, l, show ¬ i < m + 1 by omega]
theorem pasc_row (n : Nat) (h : n < 31) : pasc (31 * n + n + 1) = pasc (31 * (n + 1)) := by
  apply Array.ext
  · simp [pasc]
  · intro i h1 h2
    simp only [pasc, Array.getElem_ofFn, pascV]
    by_cases l : i < 31 * n + n + 1
    · simp [l, show i < 31 * (n + 1) by omega]
    · by_cases l2 : i < 31 * (n + 1)
      · have e1 : i / 31 = n := by omega
        have e2 : n < i % 31 := by omega
        simp [l, l2, e1, tri_above n _ e2]
      · simp [l, l2]

/-- Cells written one behind the other. -/
def setMany (cs : Array Value) : Nat → List Value → Array Value
  | _, [] => cs
  | o, v :: r => setMany (cs.setIfInBounds o v) (o + 1) r

theorem setMany_size : ∀ (vs : List Value) (cs : Array Value) (o : Nat), (setMany cs o vs).size = cs.size
  | [], _, _ => rfl
  | v :: r, cs, o => by rw [setMany, setMany_size r]; simp

theorem setMany_get : ∀ (vs : List Value) (cs : Array Value) (o i : Nat), i < cs.size → (setMany cs o vs)[i]? = if o ≤ i ∧ i < o + vs.length then vs[i - o]? else cs[i]?
  | [], cs, o, i, h => by simp [setMany, show ¬ (o ≤ i ∧ i < o) by omega]
  | v :: r, cs, o, i, h => by
    rw [setMany, setMany_get r _ _ _ (by simpa using h)]
    by_cases e : o = i
    · subst e
      rw [if_neg (by omega), if_pos (by simp)]
      simp [h]
    · by_cases l : o + 1 ≤ i ∧ i < o + 1 + r.length
      · rw [if_pos l, if_pos (by simp; omega)]
        obtain ⟨d, hd⟩ : ∃ d, i - o = d + 1 := ⟨i - o - 1, by omega⟩
        rw [hd, show i - (o + 1) = d by omega]
        rfl
      · rw [if_neg l, if_neg (by simp; omega)]
        simp [e]

theorem setMany_self (cs : Array Value) : setMany cs 0 cs.toList = cs := by
  apply Array.ext_getElem?
  intro i
  by_cases h : i < cs.size
  · rw [setMany_get _ _ _ _ h, if_pos (by simp [h])]
    simp
  · rw [Array.getElem?_eq_none (by rw [setMany_size]; omega), Array.getElem?_eq_none (by omega)]

theorem Blk.setCells {b : Nat} {t : Nat} : ∀ (vs : List Value) {w : World} {cs : Array Value} (o : Nat), Blk w b cs t → Blk (w.setCells b o vs) b (setMany cs o vs) t
  | [], _, _, _, h => h
  | v :: r, _, _, o, h => Blk.setCells r (o + 1) (h.set o v)

theorem below_setCells {B b : Nat} (hb : B ≤ b) : ∀ (vs : List Value) {a w : World} (o : Nat), Below B a w → Below B a (w.setCells b o vs)
  | [], _, _, _, h => h
  | v :: r, _, _, o, h => below_setCells hb r (o + 1) (h.setCell (p := ⟨b, o, none⟩) hb v)

theorem Blk.there {w : World} {b : Nat} {cs : Array Value} {t : Nat} (h : Blk w b cs t) (o n : Nat) (hn : o + n ≤ cs.size) : w.there b o n := fun j hj =>
  ⟨by rw [h.cell]; simp; omega, h.frozen _⟩

theorem Blk.rangeAt {w : World} {b : Nat} {cs : Array Value} {t : Nat} (h : Blk w b cs t) (o : Nat) (vs : List Value) (hv : ∀ j v, vs[j]? = some v → cs[o + j]? = some v) : w.rangeAt b o vs := fun j v e => by
  rw [h.cell]; exact hv j v e

theorem pasc_one (m : Nat) : (pasc m).all (·.oneCell') = true := by
  rw [Array.all_eq_true]
  intro i hi
  simp only [pasc, Array.getElem_ofFn, pascV]
  rfl

end Go.Proofs.Ytigpnafpdmdmhaa.Hand

namespace Go.Proofs.Ytigpnafpdmdmhaa.Hand
open Go.RowKit Go.Shelf
set_option maxHeartbeats 4000000 in
theorem pascal_any (w : World) : Calls Try.prog 61 #[] w fun e w' => e = .returned (.agg (pasc 961)) ∧ Below w.heap.size w w' := by
  have HZ := pasc_zero
  go_enter Try.func61, Try.ntmps61
  go_wp2
  have BL := Aw.mk (Blk.new w (pasc 0) 104)
  have HB := Aw.mk ((Below.refl _ w).alloc (Nat.le_refl _) (.cells (pasc 0) 104))
  obtain ⟨B, hB⟩ : ∃ B, B = w.heap.size := ⟨_, rfl⟩
  rw [← hB] at BL ⊢
  obtain ⟨w1, hw1⟩ : ∃ w1, w1 = w.alloc (.cells (pasc 0) 104) := ⟨_, rfl⟩
  rw [← hw1] at BL HB ⊢
  have HBw := Aw.mk (Nat.le_of_eq hB.symm)
  rw [← hB] at HB
  have HBe := Aw.mk hB
  clear hw1 HZ hB
  go_loopg [1, 2, 3] 31 (fun gg s1 s2 s3 wr => ∃ (n : Nat), n ≤ 31 ∧ 31 - n ≤ gg ∧ s3 = .int .i64 n ∧ Aw (Blk wr B (pasc (31 * n)) 104) ∧ Aw (Below B w wr))
  case atStart => exact ⟨0, by omega, by omega, rfl, BL, HB⟩
  case round =>
    clear BL HB
    obtain ⟨n, hn, hg, rfl, BL, HB⟩ := hrel
    obtain ⟨wo, hwo⟩ : ∃ wo, wo = wr := ⟨_, rfl⟩
    rw [← hwo] at BL HB ⊢
    clear hwo wr
    by_cases hlt : n < 31
    · have hlt' : (n : Int) < 31 := by omega
      have c0 : wo.cell? ⟨B, n * 31, none⟩ = some (pascV (31 * n) (n * 31)) := (BL.out.cell _).trans (pasc_get _ _ (by omega))
      have f0 := BL.out.frozen (n * 31)
      have HC := HBe
      go_wp2
      have BL1 : Aw (Blk (wo.setCell ⟨B, n * 31, none⟩ (.int .i64 1)) B (pasc (31 * n + 1)) 104) := ⟨by
        have h := pasc_set (31 * n) (by omega)
        rw [show 31 * n / 31 = n by omega, show 31 * n % 31 = 0 by omega, tri_zero] at h
        rw [← h, Nat.mul_comm n 31]
        exact BL.out.set _ _⟩
      have HB1 := Aw.mk (HB.out.setCell (p := ⟨B, n * 31, none⟩) (Nat.le_refl _) (.int .i64 1))
      obtain ⟨wi, hwi⟩ : ∃ wi, wi = wo.setCell ⟨B, n * 31, none⟩ (.int .i64 1) := ⟨_, rfl⟩
      rw [← hwi] at BL1 HB1 ⊢
      clear hwi c0 f0
      go_loopg [2] n (fun gg s2 wr => ∃ (k : Nat), 1 ≤ k ∧ k ≤ n + 1 ∧ n + 1 - k ≤ gg ∧ s2 = .int .i64 k ∧ Aw (Blk wr B (pasc (31 * n + k)) 104) ∧ Aw (Below B w wr))
      case atStart => exact ⟨1, by omega, by omega, by omega, rfl, BL1, HB1⟩
      case round =>
        clear BL1 HB1 BL HB
        obtain ⟨k, hk1, hk2, hg2, rfl, BL, HB⟩ := hrel
        by_cases hkn : k ≤ n
        · have hkn' : (k : Int) ≤ (n : Int) := by omega
          have c1 := (BL.out.cell ((n - 1) * 31 + (k - 1))).trans (pasc_get _ _ (by omega))
          have c2 := (BL.out.cell ((n - 1) * 31 + k)).trans (pasc_get _ _ (by omega))
          have c3 := (BL.out.cell (n * 31 + k)).trans (pasc_get _ _ (by omega))
          have f3 := BL.out.frozen (n * 31 + k)
          have e1 : pascV (31 * n + k) ((n - 1) * 31 + (k - 1)) = .int .i64 (tri (n - 1) (k - 1)) := by
            unfold pascV
            rw [if_pos (by omega), show ((n - 1) * 31 + (k - 1)) / 31 = n - 1 by omega, show ((n - 1) * 31 + (k - 1)) % 31 = k - 1 by omega]
          have e2 : pascV (31 * n + k) ((n - 1) * 31 + k) = .int .i64 (tri (n - 1) k) := by
            unfold pascV
            rw [if_pos (by omega), show ((n - 1) * 31 + k) / 31 = n - 1 by omega, show ((n - 1) * 31 + k) % 31 = k by omega]
          rw [e1] at c1
          rw [e2] at c2
          have HS : Aw (tri (n - 1) (k - 1) + tri (n - 1) k = tri n k) := ⟨by
            obtain ⟨n', rfl⟩ : ∃ m, n = m + 1 := ⟨n - 1, by omega⟩
            obtain ⟨k', rfl⟩ : ∃ m, k = m + 1 := ⟨k - 1, by omega⟩
            rfl⟩
          have x0 := tri_nonneg (n - 1) (k - 1)
          have y0 := tri_nonneg (n - 1) k
          have x1 : tri (n - 1) (k - 1) ≤ 1073741824 := tri_le30 _ _ (by omega)
          have y1 : tri (n - 1) k ≤ 1073741824 := tri_le30 _ _ (by omega)
          generalize tri (n - 1) (k - 1) = x at c1 x0 x1 HS
          generalize tri (n - 1) k = y at c2 y0 y1 HS
          generalize pascV (31 * n + k) (n * 31 + k) = z at c3
          clear e1 e2
          have hk1' : (1 : Int) ≤ (k : Int) := by omega
          have hn1' : (1 : Int) ≤ (n : Int) := by omega
          go_wp2
          go_region
          go_wp2
          go_roundg (n + 1 - (k + 1))
          case measure => omega
          case rel =>
            refine ⟨k + 1, by omega, by omega, by omega, by go_num, ⟨?_⟩, ⟨(HB.out.setCell (p := ⟨B, n * 31 + k, none⟩) (Nat.le_refl _) _).drew⟩⟩
            have h := pasc_set (31 * n + k) (by omega)
            rw [show (31 * n + k) / 31 = n by omega, show (31 * n + k) % 31 = k by omega, ← HS.out] at h
            have h' : (pasc (31 * n + k)).setIfInBounds (n * 31 + k) (.int .i64 (x + y)) = pasc (31 * n + (k + 1)) := by
              rw [show n * 31 + k = 31 * n + k by omega, h, Nat.add_assoc]
            rw [← h']
            exact (BL.out.set _ _).drew
        · have : k = n + 1 := by omega
          subst this
          have hkn' : ¬ ((n + 1 : Nat) : Int) ≤ (n : Int) := by omega
          go_wp2
          go_roundg (31 - (n + 1))
          case measure => omega
          case rel =>
            have h := BL.out
            have e : pasc (31 * n + (n + 1)) = pasc (31 * (n + 1)) := by rw [← pasc_row n hlt, Nat.add_assoc]
            rw [e] at h
            exact ⟨n + 1, by omega, by omega, by go_num, ⟨h⟩, HB⟩
    · have : n = 31 := by omega
      subst this
      go_wp2_with (first | (refine wpList_load_row rfl 104 _ rfl B rfl 104 _ (0, 0) _ BL.out Try.underlying104 rfl (by rw [pasc_size]; kernel_rfl) ?_) | (refine wpList_store_mid rfl 104 _ _ rfl B 0 (pasc (31 * 31)) rfl rfl (BL.out.there _ _ (by rw [pasc_size]; omega)) (by rw [pasc_size]; kernel_rfl) (pasc_one _) ?_))
      refine bodyPost_ret (results_cell_row rfl _ _ B 104 (pasc 961) (0, 0) _ rfl ?_ Try.underlying104 rfl (by rw [pasc_size]; kernel_rfl)) rfl ?_
      · have := BL.out.setCells (pasc (31 * 31)).toList 0
        rw [setMany_self] at this
        exact this
      · exact ⟨rfl, (below_setCells (Nat.le_refl _) _ 0 HB.out).mono HBw.out⟩

end Go.Proofs.Ytigpnafpdmdmhaa.Hand

namespace Go.Proofs.Ytigpnafpdmdmhaa.Hand
open Go.RowKit Go.Shelf

/-- The cells of a plan at work. -/
def workZ : Array Value := #[.int .i64 0, .slice none 0 0, .int .i64 0] ++ pasc 0 ++ #[.map none]
def work (lot : Int) (A : Option Addr) (n c : Nat) (bad : Int) (m : Nat) : Array Value :=
  setMany (setMany (setMany (setMany workZ 0 [.int .i64 lot, .slice A n c]) 2 [.int .i64 bad]) 3 (pasc 961).toList) 964 [.map (some m)]

theorem workZ_size : workZ.size = 965 := by simp [workZ, pasc_size]
theorem work_size (lot : Int) (A : Option Addr) (n c : Nat) (bad : Int) (m : Nat) : (work lot A n c bad m).size = 965 := by
  simp [work, setMany_size, workZ_size]
theorem work_0 (lot : Int) (A : Option Addr) (n c : Nat) (bad : Int) (m : Nat) : (work lot A n c bad m)[0]? = some (.int .i64 lot) := by
  unfold work
  rw [setMany_get _ _ _ _ (by simp [setMany_size, workZ_size]), if_neg (by simp), setMany_get _ _ _ _ (by simp [setMany_size, workZ_size]), if_neg (by simp), setMany_get _ _ _ _ (by simp [setMany_size, workZ_size]), if_neg (by simp), setMany_get _ _ _ _ (by simp [workZ_size]), if_pos (by simp)]
  rfl
theorem work_1 (lot : Int) (A : Option Addr) (n c : Nat) (bad : Int) (m : Nat) : (work lot A n c bad m)[1]? = some (.slice A n c) := by
  unfold work
  rw [setMany_get _ _ _ _ (by simp [setMany_size, workZ_size]), if_neg (by simp), setMany_get _ _ _ _ (by simp [setMany_size, workZ_size]), if_neg (by simp), setMany_get _ _ _ _ (by simp [setMany_size, workZ_size]), if_neg (by simp), setMany_get _ _ _ _ (by simp [workZ_size]), if_pos (by simp)]
  rfl
theorem work_2 (lot : Int) (A : Option Addr) (n c : Nat) (bad : Int) (m : Nat) : (work lot A n c bad m)[2]? = some (.int .i64 bad) := by
  unfold work
  rw [setMany_get _ _ _ _ (by simp [setMany_size, workZ_size]), if_neg (by simp), setMany_get _ _ _ _ (by simp [setMany_size, workZ_size]), if_neg (by simp), setMany_get _ _ _ _ (by simp [setMany_size, workZ_size]), if_pos (by simp)]
  rfl
theorem work_tri (lot : Int) (A : Option Addr) (n c : Nat) (bad : Int) (m : Nat) (i j : Nat) (hi : i < 31) (hj : j < 31) : (work lot A n c bad m)[3 + i * 31 + j]? = some (.int .i64 (tri i j)) := by
  unfold work
  rw [setMany_get _ _ _ _ (by simp [setMany_size, workZ_size]; omega), if_neg (by simp; omega), setMany_get _ _ _ _ (by simp [setMany_size, workZ_size]; omega), if_pos (by simp [pasc_size]; omega)]
  rw [show 3 + i * 31 + j - 3 = i * 31 + j by omega, Array.getElem?_toList, pasc_get _ _ (by omega)]
  unfold pascV
  rw [if_pos (by omega), show (i * 31 + j) / 31 = i by omega, show (i * 31 + j) % 31 = j by omega]
theorem work_m (lot : Int) (A : Option Addr) (n c : Nat) (bad : Int) (m : Nat) : (work lot A n c bad m)[964]? = some (.map (some m)) := by
  unfold work
  rw [setMany_get _ _ _ _ (by simp [setMany_size, workZ_size]), if_pos (by simp)]
  rfl

/-- The loops' product of two. -/
theorem wrap64_mod (x : Int) : wrap64 (wrap64 x) = wrap64 x := by unfold wrap64; omega

theorem mul_mod (x y : Int) : wrap64 (wrap64 x * y) = wrap64 (x * y) := by
  have h : ∃ q : Int, wrap64 x = x + q * 18446744073709551616 := by unfold wrap64; exact ⟨-((x + 9223372036854775808) / 18446744073709551616), by omega⟩
  obtain ⟨q, hq⟩ := h
  rw [hq, Int.add_mul, Int.mul_right_comm]
  unfold wrap64
  omega

end Go.Proofs.Ytigpnafpdmdmhaa.Hand

namespace Go.Proofs.Ytigpnafpdmdmhaa.Hand
theorem zero108 : Try.zeroCells108 = workZ := by
  unfold workZ
  rw [pasc_rep]
  kernel_rfl

end Go.Proofs.Ytigpnafpdmdmhaa.Hand

namespace Go.Proofs.Ytigpnafpdmdmhaa.Hand
open Go.RowKit Go.Shelf

set_option maxHeartbeats 1000000 in
theorem times_any (b : Nat) (x y : Int) (w : World) (h0 : w.cell? ⟨b, 0, none⟩ = some (.int .i64 x)) (h1 : w.cell? ⟨b, 1, none⟩ = some (.int .i64 y)) :
    Calls Try.prog 55 #[.slice (some ⟨b, 0, none⟩) 2 2] w fun e w' => e = .returned (.int .i64 (wrap64 (x * y))) ∧ w = w' := by
  have HM := Aw.mk (mul_mod x y)
  go_enter Try.func55, Try.ntmps55
  go_wp2
  go_loopg [3, 8] 2 (fun gg s3 s8 wr => ∃ k : Nat, k ≤ 2 ∧ 2 - k ≤ gg ∧ s8 = .int .i64 k ∧ s3 = .int .i64 (if k = 0 then 1 else if k = 1 then wrap64 x else wrap64 (wrap64 x * y)) ∧ Aw (w = wr))
  case atStart => exact ⟨0, by omega, by omega, rfl, rfl, ⟨rfl⟩⟩
  case round =>
    obtain ⟨k, hk, hg, rfl, rfl, HW⟩ := hrel
    obtain rfl := HW.out
    rcases (show k = 0 ∨ k = 1 ∨ k = 2 by omega) with rfl | rfl | rfl
    · go_wp2
      go_roundg 1
      case measure => omega
      case rel => exact ⟨1, by omega, by omega, by go_num, by go_num, ⟨rfl⟩⟩
    · go_wp2
      go_roundg 0
      case measure => omega
      case rel => exact ⟨2, by omega, by omega, by go_num, by go_num, ⟨rfl⟩⟩
    · go_wp2
      go_ret
      exact ⟨by rw [← HM.out]; rfl, rfl⟩

theorem times_new (W : World) (x y : Int) : Calls Try.prog 55 #[.slice (some ⟨W.heap.size, 0, none⟩) 2 2] (W.alloc (.cells #[.int .i64 x, .int .i64 y] 3)) fun e w' =>
    e = .returned (.int .i64 (wrap64 (x * y))) ∧ (W.alloc (.cells #[.int .i64 x, .int .i64 y] 3)) = w' :=
  times_any W.heap.size x y _ (by simp) (by simp)

end Go.Proofs.Ytigpnafpdmdmhaa.Hand

namespace Go.Proofs.Ytigpnafpdmdmhaa.Hand
open Go.RowKit Go.Shelf

/-- The stages from t pieces on take what is there. -/
def fits (lot : Nat) : Nat → List Stg → Prop
  | _, [] => True
  | t, s :: l => 1 ≤ s.take ∧ t + s.take.toNat ≤ lot ∧ fits lot (t + s.take.toNat) l

/-- What rest says, as the machine reckons. -/
def restW (lot : Nat) : Nat → List Stg → Int
  | _, [] => 1
  | t, s :: l => wrap64 (tri (lot - t) s.take.toNat * restW lot (t + s.take.toNat) l)

set_option maxHeartbeats 4000000 in
theorem rest_any (lot : Nat) (hlot : lot ≤ 30) (A : Option Addr) (c bad m Bw : Nat) (l : List Stg) (hlen : l.length ≤ 3) : ∀ (d i t : Nat) (w : World), i + d = l.length → t ≤ lot → fits lot t (l.drop i) →
    Blk w Bw (work lot A l.length c bad m) 108 → StAt w A l →
    Calls Try.prog 64 #[.pointer (some ⟨Bw, 0, none⟩), .int .i64 i, .int .i64 t] w fun e w' => e = .returned (.int .i64 (restW lot t (l.drop i))) ∧ Below w.heap.size w w' := by
  intro d
  induction d with
  | zero =>
    intro i t w hd ht hf hB hS
    obtain rfl : i = l.length := by omega
    have q1 : w.cell? ⟨Bw, 1, none⟩ = some (.slice A l.length c) := (hB.cell 1).trans (work_1 ..)
    have e1 : ((l.length : Int) == (l.length : Int)) = true := by simp
    have HE : Aw (restW lot t (l.drop l.length) = 1) := ⟨by rw [List.drop_length]; rfl⟩
    clear hB hS hf
    go_enter Try.func64, Try.ntmps64
    go_wp2_with fail
    go_ret
    exact ⟨by rw [HE.out]; rfl, Below.refl _ _⟩
  | succ d ih =>
    intro i t w hd ht hf hB hS
    have hi : i < l.length := by omega
    have hdr := List.drop_eq_getElem_cons hi
    obtain ⟨b, off, rfl, hbl, h0, _, _⟩ := hS i hi
    rw [hdr] at hf
    obtain ⟨hf1, hf2, hf3⟩ := hf
    have HE : Aw (restW lot t (l.drop i) = wrap64 (tri (lot - t) (l[i]).take.toNat * restW lot (t + (l[i]).take.toNat) (l.drop (i + 1)))) := ⟨by rw [hdr, restW]⟩
    generalize hy : (l[i]).take = y at h0 hf1 hf2 hf3 HE
    clear hy hdr
    obtain ⟨k, rfl⟩ : ∃ k : Nat, y = k := ⟨y.toNat, by omega⟩
    simp only [Int.toNat_natCast] at hf2 hf3 HE
    have q0 : w.cell? ⟨Bw, 0, none⟩ = some (.int .i64 lot) := (hB.cell 0).trans (work_0 ..)
    have q1 : w.cell? ⟨Bw, 1, none⟩ = some (.slice (some ⟨b, off, none⟩) l.length c) := (hB.cell 1).trans (work_1 ..)
    have q2 : w.cell? ⟨Bw, 3 + (lot - t) * 31 + k, none⟩ = some (.int .i64 (tri (lot - t) k)) := (hB.cell _).trans (work_tri _ _ _ _ _ _ _ _ (by omega) (by omega))
    have hBl := hB.lt
    have ihw : ∀ W, Below w.heap.size w W → Calls Try.prog 64 #[.pointer (some ⟨Bw, 0, none⟩), .int .i64 ((i : Int) + 1), .int .i64 ((t : Int) + (k : Int))] W fun e w' => e = .returned (.int .i64 (restW lot (t + k) (l.drop (i + 1)))) ∧ Below W.heap.size W w' := fun W hW => by
      have := ih (i + 1) (t + k) W (by omega) hf2 hf3 (hB.below hW hBl) (hS.below hW)
      exact_mod_cast this
    have HI := Aw.mk ihw
    have HB := Aw.mk hB
    have HS := Aw.mk hS
    have HD := Aw.mk hd
    clear ih ihw hB hS hf3 hd
    generalize restW lot (t + k) (l.drop (i + 1)) = r at HI HE
    generalize tri (lot - t) k = z at q2 HE
    have e1 : ((i : Int) == (l.length : Int)) = false := by simp; omega
    have hi' : (i : Int) < (l.length : Int) := by omega
    go_enter Try.func64, Try.ntmps64
    go_wp2_with fail
    have hk31 : (k : Int) < 31 := by omega
    obtain ⟨q, hq⟩ : ∃ q : Nat, q = lot - t := ⟨_, rfl⟩
    rw [← hq] at q2
    have hq31 : (q : Int) < 31 := by omega
    have w1 : IntKind.i64.wrap ((lot : Int) - (t : Int)) = (q : Int) := by rw [IntWalk.i64_in _ (by omega)]; omega
    have w2 : IntKind.i64.wrap ((i : Int) + 1) = (i : Int) + 1 := IntWalk.i64_in _ (by omega)
    have w3 : IntKind.i64.wrap ((t : Int) + (k : Int)) = (t : Int) + (k : Int) := IntWalk.i64_in _ (by omega)
    have HQ := Aw.mk hq
    clear hq
    have hb0 : Below w.heap.size w w.drew := (Below.refl _ _).drew
    have keepS : ∀ {W W' : World}, (W.cell? ⟨Bw, 0, none⟩ = some (.int .i64 lot) ∧ W.cell? ⟨Bw, 3 + q * 31 + k, none⟩ = some (.int .i64 z) ∧ Below w.heap.size w W) → Below W.heap.size W W' →
        (W'.cell? ⟨Bw, 0, none⟩ = some (.int .i64 lot) ∧ W'.cell? ⟨Bw, 3 + q * 31 + k, none⟩ = some (.int .i64 z) ∧ Below w.heap.size w W') := fun ⟨s1, s2, s3⟩ hb =>
      ⟨(hb.cell (p := ⟨Bw, 0, none⟩) (block_lt_of_cell s1)).trans s1, (hb.cell (p := ⟨Bw, _, none⟩) (block_lt_of_cell s2)).trans s2, s3.trans (hb.mono s3.size)⟩
    have KS := Aw.mk @keepS
    clear keepS
    go_region_held3 (fun w' => w'.cell? ⟨Bw, 0, none⟩ = some (.int .i64 lot) ∧ w'.cell? ⟨Bw, 3 + q * 31 + k, none⟩ = some (.int .i64 z) ∧ Below w.heap.size w w') (first | (refine ⟨?_, ?_, ?_⟩ <;> assumption) | (refine KS.out (by assumption) ?_; first | assumption | exact (Below.refl _ _).alloc (Nat.le_refl _) _) | go_keep)
      (first | (go_at_call 64; refine (HI.out _ ?_).mono ?_; assumption; rintro e w' ⟨rfl, hb⟩) | (go_at_call 55; refine (times_new _ _ _).mono ?_; rintro e w' ⟨rfl, rfl⟩))
    go_wp2_with fail
    go_ret
    rename_i hH
    exact ⟨by rw [HE.out]; rfl, hH.2.2⟩

end Go.Proofs.Ytigpnafpdmdmhaa.Hand

namespace Go.Proofs.Ytigpnafpdmdmhaa.Hand
open Go.RowKit Go.Shelf

theorem foldl_setMany (off : Nat) : ∀ (l : List Value) (k : Nat) (cells : Array Value), (l.zipIdx k).foldl (fun cs p => cs.setIfInBounds (off + p.2) p.1) cells = setMany cells (off + k) l
  | [], _, _ => rfl
  | v :: r, k, cells => by
    rw [List.zipIdx_cons, List.foldl_cons, foldl_setMany off r (k + 1), setMany, Nat.add_assoc]

theorem fill_step (place : Nat → Option (Nat × Nat)) (cells : Array Value) (i off size : Nat) (v : Value) (rest : List (Nat × Value)) (hp : place i = some (off, size)) (hs : v.cells.size = size) (hb : off + v.cells.size ≤ cells.size) :
    Instr.fill place cells ((i, v) :: rest) = Instr.fill place (setMany cells off v.cells.toList) rest := by
  have h1 : (decide (v.cells.size ≠ size) || decide (off + v.cells.size > cells.size)) = false := by simp [hs]; omega
  have h2 : v.cells.zipIdx.foldl (fun cs x => cs.setIfInBounds (off + x.2) x.1) cells = setMany cells off v.cells.toList := by
    rw [← Array.foldl_toList, Array.toList_zipIdx, foldl_setMany]
    rfl
  rw [Instr.fill, hp]
  simp only [h1, h2, Bool.false_eq_true, if_false]

theorem fill_work (T : Array Value) (hT : T.size = 961) (lot : Int) (A : Option Addr) (n c : Nat) (bad : Int) (m : Nat) :
    Instr.fill (fun i => (#[(0, 2), (2, 1), (3, 961), (964, 1)] : Array (Nat × Nat))[i]?) workZ [(0, .agg #[.int .i64 lot, .slice A n c]), (1, .int .i64 bad), (2, .agg T), (3, .map (some m))] =
      some (setMany (setMany (setMany (setMany workZ 0 [.int .i64 lot, .slice A n c]) 2 [.int .i64 bad]) 3 T.toList) 964 [.map (some m)]) := by
  obtain ⟨P, hP⟩ : ∃ P : Nat → Option (Nat × Nat), P = (fun i => (#[(0, 2), (2, 1), (3, 961), (964, 1)] : Array (Nat × Nat))[i]?) := ⟨_, rfl⟩
  rw [← hP]
  have p0 : P 0 = some (0, 2) := by rw [hP]; rfl
  have p1 : P 1 = some (2, 1) := by rw [hP]; rfl
  have p2 : P 2 = some (3, 961) := by rw [hP]; rfl
  have p3 : P 3 = some (964, 1) := by rw [hP]; rfl
  clear hP
  have hZ := workZ_size
  generalize workZ = Z at hZ
  rw [fill_step P _ 0 0 2 _ _ p0 rfl (by rw [hZ]; exact Nat.le_of_ble_eq_true rfl), fill_step P _ 1 2 1 _ _ p1 rfl (by rw [setMany_size, hZ]; exact Nat.le_of_ble_eq_true rfl),
    fill_step P _ 2 3 961 (.agg T) _ p2 hT (by rw [setMany_size, setMany_size, hZ]; show 3 + T.size ≤ 965; rw [hT]; exact Nat.le_of_ble_eq_true rfl),
    fill_step P _ 3 964 1 _ _ p3 rfl (by rw [setMany_size, setMany_size, setMany_size, hZ]; exact Nat.le_of_ble_eq_true rfl)]
  rfl

theorem sz_of {t k : Nat} (h : (Try.prog.info? t).map (·.size) = some k) (W : World) : (sizeOf t).run Try.prog W = .ok k W := by
  cases hq : Try.prog.info? t with
  | none => simp [hq] at h
  | some i =>
    have hs : i.size = k := by simpa [hq] using h
    simp [sizeOf, typeInfo, hq, Sem.run_bind, hs, Result.andThen]
theorem s31 (W : World) : (sizeOf 31).run Try.prog W = .ok 2 W := sz_of (by kernel_rfl) W
theorem s3 (W : World) : (sizeOf 3).run Try.prog W = .ok 1 W := sz_of (by kernel_rfl) W
theorem s104 (W : World) : (sizeOf 104).run Try.prog W = .ok 961 W := sz_of (by kernel_rfl) W
theorem s106 (W : World) : (sizeOf 106).run Try.prog W = .ok 1 W := sz_of (by kernel_rfl) W
theorem hz108 (W : World) : (zeroValue 108).run Try.prog W = .ok (.agg workZ) W := by rw [← zero108]; exact Try.zeroValue108 W

theorem run_build_gen (W : World) (T Z R : Array Value) (lot : Int) (A : Option Addr) (n c : Nat) (bad : Int) (m : Nat)
    (hz : (zeroValue 108).run Try.prog W = .ok (.agg Z) W)
    (hf : Instr.fill (fun i => (#[(0, 2), (2, 1), (3, 961), (964, 1)] : Array (Nat × Nat))[i]?) Z [(0, .agg #[.int .i64 lot, .slice A n c]), (1, .int .i64 bad), (2, .agg T), (3, .map (some m))] = some R) :
    (Instr.build 108 #[(0, .agg #[.int .i64 lot, .slice A n c]), (1, .int .i64 bad), (2, .agg T), (3, .map (some m))]).run Try.prog W = .ok (.agg R) W := by
  unfold Instr.build
  simp only [Sem.run_bind, hz, Result.andThen_ok, run_underlying Try.underlying108 W]
  simp [s31, s3, s104, s106, Sem.run_bind, Result.andThen]
  have hf' : Instr.fill (fun x => ([(0, 2), (2, 1), (3, 961), (964, 1)] : List (Nat × Nat))[x]?) (Value.agg Z).cells [(0, .agg #[.int .i64 lot, .slice A n c]), (1, .int .i64 bad), (2, .agg T), (3, .map (some m))] = some R := by
    show Instr.fill (fun x => ([(0, 2), (2, 1), (3, 961), (964, 1)] : List (Nat × Nat))[x]?) Z _ = some R
    simpa using hf
  rw [hf']
  rfl

theorem run_build108 (W : World) (lot : Int) (A : Option Addr) (n c : Nat) (bad : Int) (m : Nat) :
    (Instr.build 108 #[(0, .agg #[.int .i64 lot, .slice A n c]), (1, .int .i64 bad), (2, .agg (pasc 961)), (3, .map (some m))]).run Try.prog W = .ok (.agg (work lot A n c bad m)) W :=
  run_build_gen W (pasc 961) workZ (work lot A n c bad m) lot A n c bad m (hz108 W) (by rw [work]; exact fill_work (pasc 961) (pasc_size 961) lot A n c bad m)

end Go.Proofs.Ytigpnafpdmdmhaa.Hand

namespace Go.Proofs.Ytigpnafpdmdmhaa.Hand
open Go.RowKit Go.Shelf

theorem held_cell {W W' : World} {a : Addr} {x : Value} (h : W.cell? a = some x) (hb : Below W.heap.size W W') : W'.cell? a = some x := (hb.cell (block_lt_of_cell h)).trans h
theorem held2 {w0 W W' : World} {a b : Addr} {x y : Value} (h : W.cell? a = some x ∧ W.cell? b = some y ∧ Below w0.heap.size w0 W) (hb : Below W.heap.size W W') :
    W'.cell? a = some x ∧ W'.cell? b = some y ∧ Below w0.heap.size w0 W' := ⟨held_cell h.1 hb, held_cell h.2.1 hb, h.2.2.trans (hb.mono h.2.2.size)⟩

/-- A plan at work, new: block g, its map block m, empty. -/
def OnPost (Wk : Nat → Array Value) (w : World) (e : Ending) (w' : World) : Prop :=
  ∃ g m : Nat, e = .returned (.pointer (some ⟨g, 0, none⟩)) ∧ Blk w' g (Wk m) 108 ∧ w'.heap[m]? = some (.map #[] 0) ∧ w.heap.size ≤ g ∧ w.heap.size ≤ m ∧ Below w.heap.size w w'

set_option maxHeartbeats 2000000 in
theorem on_gen (lot : Int) (A : Option Addr) (n c : Nat) (bad : Int) (T : Array Value) (Wk : Nat → Array Value) (w : World)
    (hpas : ∀ W, Calls Try.prog 61 #[] W fun e w' => e = .returned (.agg T) ∧ Below W.heap.size W w')
    (hbd : ∀ (W : World) (m : Nat), (Instr.build 108 #[(0, .agg #[.int .i64 lot, .slice A n c]), (1, .int .i64 bad), (2, .agg T), (3, .map (some m))]).run Try.prog W = .ok (.agg (Wk m)) W) :
    Calls Try.prog 53 #[.agg #[.int .i64 lot, .slice A n c], .int .i64 bad] w (OnPost Wk w) := by
  have HBD := Aw.mk hbd
  have HPA := Aw.mk hpas
  clear hbd hpas
  have hmm := @run_makeMap Try.prog
  go_enter Try.func53, Try.ntmps53
  go_wp2_with fail
  have HB := Aw.mk ((Below.refl w.heap.size w).alloc (Nat.le_refl _) (.cells #[.int .i64 lot, .slice A n c] 31))
  have q0 : (w.alloc (.cells #[.int .i64 lot, .slice A n c] 31)).cell? ⟨w.heap.size, 0, none⟩ = some (.int .i64 lot) := by simp
  have q1 : (w.alloc (.cells #[.int .i64 lot, .slice A n c] 31)).cell? ⟨w.heap.size, 1, none⟩ = some (.slice A n c) := by simp
  have hs : w.heap.size < (w.alloc (.cells #[.int .i64 lot, .slice A n c] 31)).heap.size := by simp
  obtain ⟨B, hB⟩ : ∃ B, B = w.heap.size := ⟨_, rfl⟩
  obtain ⟨w1, hw1⟩ : ∃ w1, w1 = w.alloc (.cells #[.int .i64 lot, .slice A n c] 31) := ⟨_, rfl⟩
  rw [← hB] at q0 q1 hs ⊢
  rw [← hw1] at q0 q1 hs HB ⊢
  clear hw1 hB
  have HBW := HB
  rename_i K hK
  refine wpIn_wide.1 (region_walk (rd := none) 6 (fun i => i + 5) (by kernel_rfl) (by kernel_rfl) (by kernel_rfl)
    (fun W => Below w1.heap.size w1 W)
    (fun i v W => match i with
      | 0 => v = .agg #[.int .i64 lot, .slice A n c]
      | 1 => v = .int .i64 bad
      | 2 => v = .agg (T)
      | 3 => ∃ m, w1.heap.size ≤ m ∧ v = .map (some m) ∧ W.heap[m]? = some (.map #[] 0)
      | 4 => ∃ m, w1.heap.size ≤ m ∧ v = .agg (Wk m) ∧ W.heap[m]? = some (.map #[] 0)
      | _ => ∃ g m, w1.heap.size ≤ g ∧ w1.heap.size ≤ m ∧ v = .pointer (some ⟨g, 0, none⟩) ∧ Blk W g (Wk m) 108 ∧ W.heap[m]? = some (.map #[] 0))
    (fun W W' hb h => h.trans (hb.mono h.size)) ?hSp ((Below.refl _ _).drew) ?hop ?hlast)
  case hSp =>
    intro i v W W' hi hb h
    have hm : ∀ m : Nat, W.heap[m]? = some (.map #[] 0) → W'.heap[m]? = some (.map #[] 0) := fun m h => (hb.block m (Array.getElem?_eq_some_iff.1 h).1).trans h
    match i, h with
    | 0, h => exact h
    | 1, h => exact h
    | 2, h => exact h
    | 3, ⟨m, h1, h2, h3⟩ => exact ⟨m, h1, h2, hm m h3⟩
    | 4, ⟨m, h1, h2, h3⟩ => exact ⟨m, h1, h2, hm m h3⟩
    | _ + 5, ⟨g, m, h1, h2, h3, h4, h5⟩ => exact ⟨g, m, h1, h2, h3, h4.below hb h4.lt, hm m h5⟩
  case hop =>
    intro i a W hi hN hfix hBW hdep
    have f2 : a.tmps.getD 2 undef = .pointer (some ⟨B, 0, none⟩) := hfix 2 (fun j _ => by omega)
    have f1 : a.tmps.getD 1 undef = .int .i64 bad := hfix 1 (fun j _ => by omega)
    have e0 : ∀ x, a.eval (.tmp x) = a.tmps.getD x undef := fun _ => rfl
    have g0 : W.cell? ⟨B, 0, none⟩ = some (.int .i64 lot) := (hBW.cell (p := ⟨B, 0, none⟩) hs).trans q0
    have g1 : W.cell? ⟨B, 1, none⟩ = some (.slice A n c) := (hBW.cell (p := ⟨B, 1, none⟩) hs).trans q1
    match i, hN, hi, hdep with
    | 0, _, _, _ =>
      refine OpOk.val (v := .agg #[.int .i64 lot, .slice A n c]) (w' := W) ?_ ⟨Below.refl _ _, rfl⟩
      show (execOp a.eval { dst := some 5, op := Op.load 31 (Operand.tmp 2), type := 31, pos := _, after := _, guard := none }).run Try.prog W = _
      simp only [execOp, e0, f2]
      go_simp
    | 1, _, _, _ =>
      refine OpOk.val (v := .int .i64 bad) (w' := W) ?_ ⟨Below.refl _ _, rfl⟩
      show (execOp a.eval { dst := some 6, op := Op.move (Operand.tmp 1), type := 3, pos := _, after := _, guard := none }).run Try.prog W = _
      simp only [execOp, e0, f1]
      go_simp
    | 2, _, _, _ =>
      refine OpOk.call (f := 61) (args := #[]) (w1 := W) ?_ ((HPA.out W).mono ?_)
      · show (execOp a.eval { dst := some 7, op := Op.call { callee := Callee.value (Operand.func 61), args := #[], argTypes := #[] }, type := 104, pos := _, after := _, guard := none }).run Try.prog W = _
        have e61 : ∀ args w, (callFunc 61 args).run Try.prog w = .ok (.enter 61 args) w := enters_of Try.func61 (by kernel_rfl) rfl
        simp only [execOp]
        go_simp
      · rintro e w' ⟨rfl, hb⟩
        exact ⟨_, rfl, hb, rfl⟩
    | 3, _, _, _ =>
      refine OpOk.val (v := .map (some W.heap.size)) (w' := W.alloc (.map #[] 0)) ?_ ⟨(Below.refl _ _).alloc (Nat.le_refl _) _, W.heap.size, hBW.size, rfl, World.alloc_heap_new W _⟩
      show (execOp a.eval { dst := some 8, op := Op.makeMap 106 none, type := 106, pos := _, after := _, guard := none }).run Try.prog W = _
      simp only [execOp]
      go_simp
    | 4, _, _, hdep =>
      have d0 : a.tmps.getD 5 undef = _ := hdep 0 rfl
      have d1 : a.tmps.getD 6 undef = _ := hdep 1 rfl
      have d2 : a.tmps.getD 7 undef = _ := hdep 2 rfl
      obtain ⟨m, hm1, d3, hm2⟩ : ∃ m, w1.heap.size ≤ m ∧ a.tmps.getD 8 undef = .map (some m) ∧ W.heap[m]? = some (.map #[] 0) := hdep 3 rfl
      refine OpOk.val (v := .agg (Wk m)) (w' := W) ?_ ⟨Below.refl _ _, m, hm1, rfl, hm2⟩
      show (execOp a.eval { dst := some 9, op := Op.build 108 #[(0, Operand.tmp 5), (1, Operand.tmp 6), (2, Operand.tmp 7), (3, Operand.tmp 8)], type := 108, pos := _, after := _, guard := none }).run Try.prog W = _
      simp only [execOp, e0, d0, d1, d2, d3, List.map_toArray, List.map_cons, List.map_nil, Sem.run_bind, HBD.out, Result.andThen_ok, Sem.run_pure]
    | 5, _, _, hdep =>
      obtain ⟨m, hm1, d4, hm2⟩ : ∃ m, w1.heap.size ≤ m ∧ a.tmps.getD 9 undef = .agg (Wk m) ∧ W.heap[m]? = some (.map #[] 0) := hdep 4 rfl
      refine OpOk.val (v := .pointer (some ⟨W.heap.size, 0, none⟩)) (w' := W.alloc (.cells (Wk m) 108)) ?_ ⟨(Below.refl _ _).alloc (Nat.le_refl _) _, W.heap.size, m, hBW.size, hm1, rfl, Blk.new _ _ _, (Below.heap_alloc W _ m (Array.getElem?_eq_some_iff.1 hm2).1).trans hm2⟩
      show (execOp a.eval { dst := some 10, op := Op.box 108 (Operand.tmp 9), type := 94, pos := _, after := _, guard := none }).run Try.prog W = _
      simp only [execOp, e0, d4]
      go_simp
    | k + 6, h, _, _ => exact absurd h (by omega)
  case hlast =>
    intro a W e1 e2 hfix hBW hall
    obtain ⟨g, m, h1, h2, h3, h4, h5⟩ : ∃ g m, w1.heap.size ≤ g ∧ w1.heap.size ≤ m ∧ a.tmps.getD 10 undef = .pointer (some ⟨g, 0, none⟩) ∧ Blk W g (Wk m) 108 ∧ W.heap[m]? = some (.map #[] 0) := hall 5 (by omega)
    have e0 : ∀ x, a.eval (.tmp x) = a.tmps.getD x undef := fun _ => rfl
    refine OpOk.val (v := .pointer (some ⟨g, 0, none⟩)) (w' := W) ?_ ?_
    · show (execOp a.eval { dst := some 4, op := Op.assign (Operand.tmp 10), type := 94, pos := _, after := _, guard := none }).run Try.prog W = _
      simp only [execOp, e0, h3]
      go_simp
    · refine hK _ _ ?_
      have hz : a.tmps.size = 11 := e2
      go_wp2
      refine bodyPost_ret (results_tmp rfl _ _ _) rfl ⟨g, m, ?_, h4, h5, Nat.le_trans HB.out.size h1, Nat.le_trans HB.out.size h2, HB.out.trans (hBW.mono HB.out.size)⟩
      simp [Act.put, hz]

theorem on_any (lot : Int) (A : Option Addr) (n c : Nat) (bad : Int) (w : World) :
    Calls Try.prog 53 #[.agg #[.int .i64 lot, .slice A n c], .int .i64 bad] w (OnPost (fun m => work lot A n c bad m) w) :=
  on_gen lot A n c bad (pasc 961) (fun m => work lot A n c bad m) w pascal_any (fun W m => run_build108 W lot A n c bad m)

end Go.Proofs.Ytigpnafpdmdmhaa.Hand

namespace Go.Proofs.Ytigpnafpdmdmhaa.Hand
open Go.RowKit Go.Shelf

/-- A stage's draws: the iterator's value and the four boxes that it holds. -/
def DrPost (take left bad Bw : Nat) (w : World) (e : Ending) (w' : World) : Prop :=
  ∃ b5 b6 b7 b2 : Nat, e = .returned (.func (.func 66) #[] #[.pointer (some ⟨b7, 0, none⟩), .pointer (some ⟨b5, 0, none⟩), .pointer (some ⟨b6, 0, none⟩), .pointer (some ⟨b2, 0, none⟩)]) ∧
    Blk w' b7 #[.int .i64 take] 3 ∧ Blk w' b5 #[.int .i64 left] 3 ∧ Blk w' b6 #[.int .i64 bad] 3 ∧ Blk w' b2 #[.pointer (some ⟨Bw, 0, none⟩)] 94 ∧
    w.heap.size ≤ b5 ∧ w.heap.size ≤ b6 ∧ w.heap.size ≤ b7 ∧ w.heap.size ≤ b2 ∧ Below w.heap.size w w'

theorem blk_a (W : World) (x : Array Value) (t : Nat) (b c : Obj) : Blk (((W.alloc (.cells x t)).alloc b).alloc c).drew W.heap.size x t := (((Blk.new W x t).alloc b).alloc c).drew
theorem blk_b (W : World) (x : Array Value) (t : Nat) (a c : Obj) : Blk (((W.alloc a).alloc (.cells x t)).alloc c).drew (W.heap.size + 1) x t := by
  have := ((Blk.new (W.alloc a) x t).alloc c).drew
  simpa using this
theorem blk_c (W : World) (x : Array Value) (t : Nat) (a b : Obj) : Blk (((W.alloc a).alloc b).alloc (.cells x t)).drew (W.heap.size + 1 + 1) x t := by
  have := (Blk.new ((W.alloc a).alloc b) x t).drew
  simpa using this

set_option maxHeartbeats 4000000 in
theorem drawn_any (lot : Nat) (hlot : lot ≤ 30) (A : Option Addr) (c bad m Bw : Nat) (l : List Stg) (hlen : l.length ≤ 3) (i t b k lf bd : Nat) (w : World) (hi : i < l.length) (hk : (l[i]).take = k) (ht : t + lf = lot) (hb : b + bd = bad) (hbl : bad ≤ lot)
    (hB : Blk w Bw (work lot A l.length c bad m) 108) (hS : StAt w A l) :
    Calls Try.prog 63 #[.pointer (some ⟨Bw, 0, none⟩), .agg #[.int .i64 i, .int .i64 t, .int .i64 b]] w (DrPost k lf bd Bw w) := by
  obtain ⟨b1, off, rfl, hbl1, h0, _, _⟩ := hS i hi
  rw [hk] at h0
  have q0 : w.cell? ⟨Bw, 0, none⟩ = some (.int .i64 lot) := (hB.cell 0).trans (work_0 ..)
  have q1 : w.cell? ⟨Bw, 1, none⟩ = some (.slice (some ⟨b1, off, none⟩) l.length c) := (hB.cell 1).trans (work_1 ..)
  have q2 : w.cell? ⟨Bw, 2, none⟩ = some (.int .i64 bad) := (hB.cell 2).trans (work_2 ..)
  have hBw := hB.lt
  have w_1 : IntKind.i64.wrap ((lot : Int) - (t : Int)) = (lf : Int) := by rw [IntWalk.i64_in _ (by omega)]; omega
  have w_2 : IntKind.i64.wrap ((bad : Int) - (b : Int)) = (bd : Int) := by rw [IntWalk.i64_in _ (by omega)]; omega
  clear ht hb
  have hi' : (i : Int) < (l.length : Int) := by omega
  clear hB hS hk
  go_enter Try.func63, Try.ntmps63
  go_wp2_with fail
  obtain ⟨B2, hB2⟩ : ∃ B2, B2 = w.heap.size := ⟨_, rfl⟩
  obtain ⟨B3, hB3⟩ : ∃ B3, B3 = w.heap.size + 1 := ⟨_, rfl⟩
  obtain ⟨w1, hw1⟩ : ∃ w1, w1 = (w.alloc (.cells #[.pointer (some ⟨Bw, 0, none⟩)] 94)).alloc (.cells #[.int .i64 i, .int .i64 t, .int .i64 b] 111) := ⟨_, rfl⟩
  have HB : Below w.heap.size w w1 := by rw [hw1]; exact ((Below.refl w.heap.size w).alloc (Nat.le_refl _) _).alloc (by simp) _
  have hz : w1.heap.size = w.heap.size + 2 := by rw [hw1]; simp
  have HK : Blk w1 B2 #[.pointer (some ⟨Bw, 0, none⟩)] 94 := by rw [hw1, hB2]; exact (Blk.new w _ _).alloc _
  have HL : Blk w1 B3 #[.int .i64 i, .int .i64 t, .int .i64 b] 111 := by
    have := Blk.new (w.alloc (.cells #[.pointer (some ⟨Bw, 0, none⟩)] 94)) #[.int .i64 i, .int .i64 t, .int .i64 b] 111
    rw [hw1, hB3]
    simpa using this
  rw [← hw1, ← hB3, ← hB2]
  have c0 : w1.cell? ⟨Bw, 0, none⟩ = some (.int .i64 lot) := (HB.cell (p := ⟨Bw, 0, none⟩) hBw).trans q0
  have c1 : w1.cell? ⟨Bw, 1, none⟩ = some (.slice (some ⟨b1, off, none⟩) l.length c) := (HB.cell (p := ⟨Bw, 1, none⟩) hBw).trans q1
  have c2 : w1.cell? ⟨Bw, 2, none⟩ = some (.int .i64 bad) := (HB.cell (p := ⟨Bw, 2, none⟩) hBw).trans q2
  have c3 : w1.cell? ⟨b1, off + i * 3, none⟩ = some (.int .i64 k) := (HB.cell (p := ⟨b1, _, none⟩) hbl1).trans h0
  have c4 : w1.cell? ⟨B2, 0, none⟩ = some (.pointer (some ⟨Bw, 0, none⟩)) := HK.cell 0
  have c5 : w1.cell? ⟨B3, 0, none⟩ = some (.int .i64 i) := HL.cell 0
  have c6 : w1.cell? ⟨B3, 1, none⟩ = some (.int .i64 t) := HL.cell 1
  have c7 : w1.cell? ⟨B3, 2, none⟩ = some (.int .i64 b) := HL.cell 2
  have KS := Aw.mk (show ∀ W, Below w1.heap.size w1 W → (W.cell? ⟨Bw, 0, none⟩ = some (.int .i64 lot) ∧ W.cell? ⟨Bw, 1, none⟩ = some (.slice (some ⟨b1, off, none⟩) l.length c) ∧ W.cell? ⟨Bw, 2, none⟩ = some (.int .i64 bad) ∧ W.cell? ⟨b1, off + i * 3, none⟩ = some (.int .i64 k) ∧
      W.cell? ⟨B2, 0, none⟩ = some (.pointer (some ⟨Bw, 0, none⟩)) ∧ W.cell? ⟨B3, 0, none⟩ = some (.int .i64 i) ∧ W.cell? ⟨B3, 1, none⟩ = some (.int .i64 t) ∧ W.cell? ⟨B3, 2, none⟩ = some (.int .i64 b) ∧ Below w1.heap.size w1 W) from fun W hb =>
    ⟨held_cell c0 hb, held_cell c1 hb, held_cell c2 hb, held_cell c3 hb, held_cell c4 hb, held_cell c5 hb, held_cell c6 hb, held_cell c7 hb, hb⟩)
  have HB1 := Aw.mk HB
  have HK1 := Aw.mk HK
  have HZ := Aw.mk hz
  have HB2 := Aw.mk hB2
  clear q0 q1 q2 h0 hw1 HL HB HK hz hB2 hB3
  have hb0 : Below w1.heap.size w1 w1.drew := (Below.refl _ _).drew
  go_region_held3 (fun W => W.cell? ⟨Bw, 0, none⟩ = some (.int .i64 lot) ∧ W.cell? ⟨Bw, 1, none⟩ = some (.slice (some ⟨b1, off, none⟩) l.length c) ∧ W.cell? ⟨Bw, 2, none⟩ = some (.int .i64 bad) ∧ W.cell? ⟨b1, off + i * 3, none⟩ = some (.int .i64 k) ∧
      W.cell? ⟨B2, 0, none⟩ = some (.pointer (some ⟨Bw, 0, none⟩)) ∧ W.cell? ⟨B3, 0, none⟩ = some (.int .i64 i) ∧ W.cell? ⟨B3, 1, none⟩ = some (.int .i64 t) ∧ W.cell? ⟨B3, 2, none⟩ = some (.int .i64 b) ∧ Below w1.heap.size w1 W) ((refine KS.out _ ?_; repeat (first | exact hb0 | exact Below.refl _ _ | (refine Below.alloc ?_ (by first | (simp; done) | (simp; omega)) _) | (refine Below.setCell ?_ (by first | (simp; done) | (simp; omega)) _) | refine Below.drew ?_)))
    (fail)
  all_goals
    go_wp2_with fail
    rename_i hH
    refine bodyPost_ret (results_tmp rfl _ _ _) rfl ?_
    have hbw := HB1.out.trans (hH.2.2.2.2.2.2.2.2.mono HB1.out.size)
    have hKW := HK1.out.below hH.2.2.2.2.2.2.2.2 HK1.out.lt
    refine ⟨_, _, _, _, rfl, ?_, ?_, ?_, hKW, ?_, ?_, ?_, ?_, hbw⟩
  all_goals first | exact blk_a _ _ _ _ _ | exact blk_b _ _ _ _ _ | exact blk_c _ _ _ _ _ | (rw [HZ.out]; omega) | (rw [HB2.out]; exact Nat.le_refl _)

end Go.Proofs.Ytigpnafpdmdmhaa.Hand

namespace Go.Proofs.Ytigpnafpdmdmhaa.Hand
open Go.RowKit Go.Shelf

/-- What a stage's draws are: how many are bad, with how many choices. -/
def drVal (take lf bd n : Nat) : Int × Int := ((n : Int), wrap64 (tri bd n * tri (lf - bd) (take - n)))
def drLo (take lf bd : Nat) : Nat := take - (lf - bd)
def drList (take lf bd : Nat) : List (Int × Int) := (List.range' (drLo take lf bd) (min take bd + 1 - drLo take lf bd)).map (drVal take lf bd)
theorem drList_length (take lf bd : Nat) : (drList take lf bd).length = min take bd + 1 - drLo take lf bd := by simp [drList]
theorem drList_get (take lf bd j : Nat) (h : j < (drList take lf bd).length) : (drList take lf bd)[j] = drVal take lf bd (drLo take lf bd + j) := by simp [drList]
/-- The next one. -/
def listOk {α : Type} (T : List α) (pre : List α) (x : α) : Prop := ∃ j, ∃ h : j < T.length, pre = T.take j ∧ x = T[j]

/-- The boxes that the iterator holds, and the plan at work. -/
structure Cap (take lf bd b7 b5 b6 b2 Bw : Nat) (wk : Array Value) (W : World) : Prop where
  h7 : Blk W b7 #[.int .i64 take] 3
  h5 : Blk W b5 #[.int .i64 lf] 3
  h6 : Blk W b6 #[.int .i64 bd] 3
  h2 : Blk W b2 #[.pointer (some ⟨Bw, 0, none⟩)] 94
  hw : Blk W Bw wk 108

theorem Blk.keep {X : Nat → Prop} {w W : World} {b : Nat} {cs : Array Value} {t : Nat} (h : Blk w b cs t) (hk : Keep X w W) (hx : X b) : Blk W b cs t := (hk.2 b hx h.lt).trans h

theorem Cap.below {take lf bd b7 b5 b6 b2 Bw : Nat} {wk : Array Value} {W W' : World} (h : Cap take lf bd b7 b5 b6 b2 Bw wk W) (hb : Below W.heap.size W W') : Cap take lf bd b7 b5 b6 b2 Bw wk W' :=
  ⟨h.h7.below hb h.h7.lt, h.h5.below hb h.h5.lt, h.h6.below hb h.h6.lt, h.h2.below hb h.h2.lt, h.hw.below hb h.hw.lt⟩
theorem Cap.keep {take lf bd b7 b5 b6 b2 Bw : Nat} {wk : Array Value} {W W' : World} {X : Nat → Prop} (h : Cap take lf bd b7 b5 b6 b2 Bw wk W) (hk : Keep X W W') (x7 : X b7) (x5 : X b5) (x6 : X b6) (x2 : X b2) (xw : X Bw) : Cap take lf bd b7 b5 b6 b2 Bw wk W' :=
  ⟨h.h7.keep hk x7, h.h5.keep hk x5, h.h6.keep hk x6, h.h2.keep hk x2, h.hw.keep hk xw⟩

/-- What an iterator leaves. -/
def ItPost {α : Type} (S Sp : List α → Prop) (J Jx : (Nat → Prop) → List α → World → Prop) (X : Nat → Prop) (e : Ending) (W' : World) : Prop :=
  (∃ v, e = .returned v) ∧ ((∃ xs, S xs ∧ J X xs W') ∨ (∃ pre, Sp pre ∧ Jx X pre W'))

/-- A slot of a frame, behind a name. -/
def slot (a : Act) (i : Nat) : Value := a.tmps.getD i undef
theorem slot_eq (a : Act) (i : Nat) : slot a i = a.tmps.getD i undef := rfl
theorem frame_lit (a : Act) (n : Nat) (h : a.tmps.size = n) (hd : a.defers = []) : a = { tmps := ((List.range n).map (slot a)).toArray, defers := [] } := by
  obtain ⟨t, ds⟩ := a
  simp only at h hd
  subst hd
  congr 1
  apply Array.ext
  · simp [h]
  · intro i h1 h2
    simp [slot, h1]

set_option maxHeartbeats 4000000 in
set_option maxRecDepth 10000 in
theorem drawn1_any (take lf bd gd b7 b5 b6 b2 Bw l : Nat) (wk : Array Value) (J Jx : (Nat → Prop) → List (Int × Int) → World → Prop) (hJ : Stab J) (X : Nat → Prop) (W0 : World)
    (hbd : bd ≤ 30) (hgd : gd ≤ 30) (hg : bd + gd = lf) (hlf : lf ≤ 30) (htk : take ≤ lf)
    (hwk : ∀ i j : Nat, i < 31 → j < 31 → wk[3 + i * 31 + j]? = some (.int .i64 (tri i j)))
    (hc : Cap take lf bd b7 b5 b6 b2 Bw wk W0) (hX : ∀ k, X k → k < W0.heap.size) (x7 : X b7) (x5 : X b5) (x6 : X b6) (x2 : X b2)
    (hR : Rounds Try.prog l (fun x : Int × Int => #[.int .i64 x.1, .int .i64 x.2]) (fun k => k = Bw) (listOk (drList take lf bd)) J Jx) (h0 : J X [] W0) :
    Calls Try.prog 66 #[.func (.yield l) #[] #[], .pointer (some ⟨b7, 0, none⟩), .pointer (some ⟨b5, 0, none⟩), .pointer (some ⟨b6, 0, none⟩), .pointer (some ⟨b2, 0, none⟩)] W0 (ItPost (fun xs => xs = drList take lf bd) (fun _ => True) J Jx X) := by
  have HJ := Aw.mk hJ
  have HR := Aw.mk hR
  have HWK := Aw.mk hwk
  have HX := Aw.mk hX
  have H0 := Aw.mk h0
  have HC := Aw.mk hc
  have q7 : W0.cell? ⟨b7, 0, none⟩ = some (.int .i64 take) := hc.h7.cell 0
  have q5 : W0.cell? ⟨b5, 0, none⟩ = some (.int .i64 lf) := hc.h5.cell 0
  have q6 : W0.cell? ⟨b6, 0, none⟩ = some (.int .i64 bd) := hc.h6.cell 0
  have HG := Aw.mk hg
  have hbl : (bd : Int) ≤ (lf : Int) := by omega
  clear hJ hR hwk hX h0 hc hg
  go_enter Try.func66, Try.ntmps66
  go_wp2
  all_goals
    have T0 : Aw (drLo take lf bd + 0 = drLo take lf bd) := ⟨rfl⟩
    go_loopg [6] (drList take lf bd).length (fun gg s6 wr => ∃ (j : Nat), j ≤ (drList take lf bd).length ∧ (drList take lf bd).length - j ≤ gg ∧ s6 = .int .i64 ((drLo take lf bd + j : Nat) : Int) ∧
      Aw (J X ((drList take lf bd).take j) wr ∧ Cap take lf bd b7 b5 b6 b2 Bw wk wr ∧ ∀ k, X k → k < wr.heap.size))
    case atStart =>
      refine ⟨0, Nat.zero_le _, Nat.le_refl _, ?_, ⟨H0.out, HC.out, HX.out⟩⟩
      have := HG.out
      have e : ∀ x y : Int, x = y → Value.int .i64 x = .int .i64 y := fun x y h => by rw [h]
      exact e _ _ (by unfold drLo; omega)
    case round =>
      obtain ⟨j, hj, hgg, rfl, HI⟩ := hrel
      obtain ⟨hJ1, hcap, hXs⟩ := HI.out
      have g7 : wr.cell? ⟨b7, 0, none⟩ = some (.int .i64 take) := hcap.h7.cell 0
      have g5 : wr.cell? ⟨b5, 0, none⟩ = some (.int .i64 lf) := hcap.h5.cell 0
      have g6 : wr.cell? ⟨b6, 0, none⟩ = some (.int .i64 bd) := hcap.h6.cell 0
      have hlen := drList_length take lf bd
      obtain ⟨n, hn⟩ : ∃ n, n = drLo take lf bd + j := ⟨_, rfl⟩
      have hlo : drLo take lf bd = take - (lf - bd) := rfl
      have HG' := HG.out
      by_cases hlt : j < (drList take lf bd).length
      · have b1 : (n : Int) ≤ (take : Int) := by omega
        have b2' : (n : Int) ≤ (bd : Int) := by omega
        have b3 : (n : Int) < 31 := by omega
        have b4 : (bd : Int) < 31 := by omega
        have b5' : (gd : Int) < 31 := by omega
        obtain ⟨tn, htn⟩ : ∃ tn : Nat, n + tn = take := ⟨take - n, by omega⟩
        have b6' : (tn : Int) < 31 := by omega
        obtain ⟨z1, hz1⟩ : ∃ z, z = tri bd n := ⟨_, rfl⟩
        obtain ⟨z2, hz2⟩ : ∃ z, z = tri gd tn := ⟨_, rfl⟩
        have k1 : wr.cell? ⟨Bw, 3 + bd * 31 + n, none⟩ = some (.int .i64 z1) := by rw [hz1]; exact (hcap.hw.cell _).trans (HWK.out bd n (by omega) (by omega))
        have k2 : wr.cell? ⟨Bw, 3 + gd * 31 + tn, none⟩ = some (.int .i64 z2) := by rw [hz2]; exact (hcap.hw.cell _).trans (HWK.out gd tn (by omega) (by omega))
        have w1 : IntKind.i64.wrap ((lf : Int) - (bd : Int)) = (gd : Int) := by rw [IntWalk.i64_in _ (by omega)]; omega
        have w2 : IntKind.i64.wrap ((take : Int) - (n : Int)) = (tn : Int) := by rw [IntWalk.i64_in _ (by omega)]; omega
        have HX1 : Aw (∀ h : j < (drList take lf bd).length, (drList take lf bd)[j] = ((n : Int), wrap64 (z1 * z2))) := ⟨fun _ => by
          rw [drList_get, ← hn]
          unfold drVal
          rw [hz1, hz2, show lf - bd = gd by omega, show take - n = tn by omega]⟩
        have HOK : Aw (listOk (drList take lf bd) ((drList take lf bd).take j) ((n : Int), wrap64 (z1 * z2))) := ⟨⟨j, hlt, rfl, (HX1.out hlt).symm⟩⟩
        rw [← hn]
        have HN := Aw.mk hn
        have HJ1 := Aw.mk hJ1
        have HCp := Aw.mk hcap
        have HXs := Aw.mk hXs
        have HLT := Aw.mk hlt
        have HTN := Aw.mk htn
        clear hn hlen hlo HG' hJ1 hcap hXs hlt htn hz1 hz2 HI
        go_wp2
        all_goals
          rename_i K hK
          refine wpIn_wide.1 (region_walk (rd := none) 24 (fun i => i + 20) (by kernel_rfl) (by kernel_rfl) (by kernel_rfl)
            (fun W => Cap take lf bd b7 b5 b6 b2 Bw wk W ∧ J X ((drList take lf bd).take j) W ∧ (∀ k, X k → k < W.heap.size) ∧ Below wr.heap.size wr W)
            (fun i v W => match i with
      | 0 => v = .func (.yield l) #[] #[]
      | 1 => v = .int .i64 (n : Int)
      | 2 => v = .pointer (some ⟨Bw, 0, none⟩)
      | 3 => v = .int .i64 (bd : Int)
      | 4 => v = .int .i64 (n : Int)
      | 5 => v = .pointer (some ⟨Bw, 0, none⟩)
      | 6 => v = .pointer (some ⟨Bw, 3, none⟩)
      | 7 => v = .pointer (some ⟨Bw, 3 + bd * 31, none⟩)
      | 8 => v = .pointer (some ⟨Bw, 3 + bd * 31 + n, none⟩)
      | 9 => v = .int .i64 z1
      | 10 => v = .pointer (some ⟨Bw, 0, none⟩)
      | 11 => v = .int .i64 (lf : Int)
      | 12 => v = .int .i64 (bd : Int)
      | 13 => v = .int .i64 (gd : Int)
      | 14 => v = .int .i64 (take : Int)
      | 15 => v = .int .i64 (n : Int)
      | 16 => v = .int .i64 (tn : Int)
      | 17 => v = .pointer (some ⟨Bw, 0, none⟩)
      | 18 => v = .pointer (some ⟨Bw, 3, none⟩)
      | 19 => v = .pointer (some ⟨Bw, 3 + gd * 31, none⟩)
      | 20 => v = .pointer (some ⟨Bw, 3 + gd * 31 + tn, none⟩)
      | 21 => v = .int .i64 z2
      | 22 => ∃ b, v = .slice (some ⟨b, 0, none⟩) 2 2 ∧ Blk W b #[.int .i64 z1, .int .i64 z2] 3
      | _ => v = .int .i64 (wrap64 (z1 * z2)))
            ?hB ?hSp ⟨HCp.out.below (Below.refl _ _).drew, HJ.out X X _ wr _ HJ1.out ((Chg.refl _ _).drew) (fun k h => .inl h) HXs.out, HXs.out, (Below.refl _ _).drew⟩ ?hop ?hlast)
          case hB =>
            rintro W W' hb ⟨h1, h2, h3, h4⟩
            exact ⟨h1.below hb, HJ.out X X _ W W' h2 (Chg.below hb _) (fun k h => .inl h) (fun k h => Nat.lt_of_lt_of_le (h3 k h) hb.size), fun k h => Nat.lt_of_lt_of_le (h3 k h) hb.size, h4.trans (hb.mono h4.size)⟩
          case hSp =>
            intro i v W W' hi hb h
            match i, hi, h with
            | 0, _, h => exact h
            | 1, _, h => exact h
            | 2, _, h => exact h
            | 3, _, h => exact h
            | 4, _, h => exact h
            | 5, _, h => exact h
            | 6, _, h => exact h
            | 7, _, h => exact h
            | 8, _, h => exact h
            | 9, _, h => exact h
            | 10, _, h => exact h
            | 11, _, h => exact h
            | 12, _, h => exact h
            | 13, _, h => exact h
            | 14, _, h => exact h
            | 15, _, h => exact h
            | 16, _, h => exact h
            | 17, _, h => exact h
            | 18, _, h => exact h
            | 19, _, h => exact h
            | 20, _, h => exact h
            | 21, _, h => exact h
            | 22, _, ⟨b, h1, h2⟩ => exact ⟨b, h1, h2.below hb h2.lt⟩
            | 23, _, h => exact h
            | k + 24, hk, _ => exact absurd hk (by omega)
          case hop =>
            intro i a W hi hN hfix hBW hdep
            have f0 : a.tmps.getD 0 undef = .func (.yield l) #[] #[] := hfix 0 (fun j _ => by omega)
            have f1 : a.tmps.getD 1 undef = .pointer (some ⟨b7, 0, none⟩) := hfix 1 (fun j _ => by omega)
            have f2 : a.tmps.getD 2 undef = .pointer (some ⟨b5, 0, none⟩) := hfix 2 (fun j _ => by omega)
            have f3 : a.tmps.getD 3 undef = .pointer (some ⟨b6, 0, none⟩) := hfix 3 (fun j _ => by omega)
            have f4 : a.tmps.getD 4 undef = .pointer (some ⟨b2, 0, none⟩) := hfix 4 (fun j _ => by omega)
            have f6 : a.tmps.getD 6 undef = .int .i64 (n : Int) := hfix 6 (fun j _ => by omega)
            have e0 : ∀ x, a.eval (.tmp x) = a.tmps.getD x undef := fun _ => rfl
            have c7 : W.cell? ⟨b7, 0, none⟩ = some (.int .i64 take) := hBW.1.h7.cell 0
            have c5 : W.cell? ⟨b5, 0, none⟩ = some (.int .i64 lf) := hBW.1.h5.cell 0
            have c6 : W.cell? ⟨b6, 0, none⟩ = some (.int .i64 bd) := hBW.1.h6.cell 0
            have c2 : W.cell? ⟨b2, 0, none⟩ = some (.pointer (some ⟨Bw, 0, none⟩)) := hBW.1.h2.cell 0
            have m1 : W.cell? ⟨Bw, 3 + bd * 31 + n, none⟩ = some (.int .i64 z1) := held_cell k1 hBW.2.2.2
            have m2 : W.cell? ⟨Bw, 3 + gd * 31 + tn, none⟩ = some (.int .i64 z2) := held_cell k2 hBW.2.2.2
            have hB1 := Aw.mk hBW
            have hF1 := Aw.mk hfix
            clear hBW hfix k1 k2 g7 g5 g6 q7 q5 q6
            match i, hN, hi, hdep with
            | 0, _, _, hdep =>
              refine OpOk.val (v := .func (.yield l) #[] #[]) (w' := W) ?_ ⟨Below.refl _ _, rfl⟩
              show (execOp a.eval { dst := some 20, op := Op.move (.tmp 0), type := _, pos := _, after := _, guard := none }).run Try.prog W = _
              simp only [execOp, List.map_toArray, List.map_cons, List.map_nil, e0, f0]
              go_simp
            | 1, _, _, hdep =>
              refine OpOk.val (v := .int .i64 (n : Int)) (w' := W) ?_ ⟨Below.refl _ _, rfl⟩
              show (execOp a.eval { dst := some 21, op := Op.move (.tmp 6), type := _, pos := _, after := _, guard := none }).run Try.prog W = _
              simp only [execOp, List.map_toArray, List.map_cons, List.map_nil, e0, f6]
              go_simp
            | 2, _, _, hdep =>
              refine OpOk.val (v := .pointer (some ⟨Bw, 0, none⟩)) (w' := W) ?_ ⟨Below.refl _ _, rfl⟩
              show (execOp a.eval { dst := some 22, op := Op.load 94 (.tmp 4), type := _, pos := _, after := _, guard := none }).run Try.prog W = _
              simp only [execOp, List.map_toArray, List.map_cons, List.map_nil, e0, f4]
              go_simp
            | 3, _, _, hdep =>
              refine OpOk.val (v := .int .i64 (bd : Int)) (w' := W) ?_ ⟨Below.refl _ _, rfl⟩
              show (execOp a.eval { dst := some 23, op := Op.load 3 (.tmp 3), type := _, pos := _, after := _, guard := none }).run Try.prog W = _
              simp only [execOp, List.map_toArray, List.map_cons, List.map_nil, e0, f3]
              go_simp
            | 4, _, _, hdep =>
              refine OpOk.val (v := .int .i64 (n : Int)) (w' := W) ?_ ⟨Below.refl _ _, rfl⟩
              show (execOp a.eval { dst := some 24, op := Op.move (.tmp 6), type := _, pos := _, after := _, guard := none }).run Try.prog W = _
              simp only [execOp, List.map_toArray, List.map_cons, List.map_nil, e0, f6]
              go_simp
            | 5, _, _, hdep =>
              have d22 : a.tmps.getD 22 undef = .pointer (some ⟨Bw, 0, none⟩) := hdep 2 rfl
              refine OpOk.val (v := .pointer (some ⟨Bw, 0, none⟩)) (w' := W) ?_ ⟨Below.refl _ _, rfl⟩
              show (execOp a.eval { dst := some 25, op := Op.nilCheck (.tmp 22), type := _, pos := _, after := _, guard := none }).run Try.prog W = _
              simp only [execOp, List.map_toArray, List.map_cons, List.map_nil, e0, d22]
              go_simp
            | 6, _, _, hdep =>
              have d25 : a.tmps.getD 25 undef = .pointer (some ⟨Bw, 0, none⟩) := hdep 5 rfl
              refine OpOk.val (v := .pointer (some ⟨Bw, 3, none⟩)) (w' := W) ?_ ⟨Below.refl _ _, rfl⟩
              show (execOp a.eval { dst := some 26, op := Op.fieldAddr 108 (.tmp 25) 2, type := _, pos := _, after := _, guard := none }).run Try.prog W = _
              simp only [execOp, List.map_toArray, List.map_cons, List.map_nil, e0, d25]
              go_simp
            | 7, _, _, hdep =>
              have d23 : a.tmps.getD 23 undef = .int .i64 (bd : Int) := hdep 3 rfl
              have d26 : a.tmps.getD 26 undef = .pointer (some ⟨Bw, 3, none⟩) := hdep 6 rfl
              refine OpOk.val (v := .pointer (some ⟨Bw, 3 + bd * 31, none⟩)) (w' := W) ?_ ⟨Below.refl _ _, rfl⟩
              show (execOp a.eval { dst := some 27, op := Op.indexAddr 104 (.tmp 26) (.tmp 23), type := _, pos := _, after := _, guard := none }).run Try.prog W = _
              simp only [execOp, List.map_toArray, List.map_cons, List.map_nil, e0, d23, d26]
              go_simp
            | 8, _, _, hdep =>
              have d24 : a.tmps.getD 24 undef = .int .i64 (n : Int) := hdep 4 rfl
              have d27 : a.tmps.getD 27 undef = .pointer (some ⟨Bw, 3 + bd * 31, none⟩) := hdep 7 rfl
              refine OpOk.val (v := .pointer (some ⟨Bw, 3 + bd * 31 + n, none⟩)) (w' := W) ?_ ⟨Below.refl _ _, rfl⟩
              show (execOp a.eval { dst := some 28, op := Op.indexAddr 102 (.tmp 27) (.tmp 24), type := _, pos := _, after := _, guard := none }).run Try.prog W = _
              simp only [execOp, List.map_toArray, List.map_cons, List.map_nil, e0, d24, d27]
              go_simp
            | 9, _, _, hdep =>
              have d28 : a.tmps.getD 28 undef = .pointer (some ⟨Bw, 3 + bd * 31 + n, none⟩) := hdep 8 rfl
              refine OpOk.val (v := .int .i64 z1) (w' := W) ?_ ⟨Below.refl _ _, rfl⟩
              show (execOp a.eval { dst := some 29, op := Op.load 3 (.tmp 28), type := _, pos := _, after := _, guard := none }).run Try.prog W = _
              simp only [execOp, List.map_toArray, List.map_cons, List.map_nil, e0, d28]
              go_simp
            | 10, _, _, hdep =>
              refine OpOk.val (v := .pointer (some ⟨Bw, 0, none⟩)) (w' := W) ?_ ⟨Below.refl _ _, rfl⟩
              show (execOp a.eval { dst := some 30, op := Op.load 94 (.tmp 4), type := _, pos := _, after := _, guard := none }).run Try.prog W = _
              simp only [execOp, List.map_toArray, List.map_cons, List.map_nil, e0, f4]
              go_simp
            | 11, _, _, hdep =>
              refine OpOk.val (v := .int .i64 (lf : Int)) (w' := W) ?_ ⟨Below.refl _ _, rfl⟩
              show (execOp a.eval { dst := some 31, op := Op.load 3 (.tmp 2), type := _, pos := _, after := _, guard := none }).run Try.prog W = _
              simp only [execOp, List.map_toArray, List.map_cons, List.map_nil, e0, f2]
              go_simp
            | 12, _, _, hdep =>
              refine OpOk.val (v := .int .i64 (bd : Int)) (w' := W) ?_ ⟨Below.refl _ _, rfl⟩
              show (execOp a.eval { dst := some 32, op := Op.load 3 (.tmp 3), type := _, pos := _, after := _, guard := none }).run Try.prog W = _
              simp only [execOp, List.map_toArray, List.map_cons, List.map_nil, e0, f3]
              go_simp
            | 13, _, _, hdep =>
              have d31 : a.tmps.getD 31 undef = .int .i64 (lf : Int) := hdep 11 rfl
              have d32 : a.tmps.getD 32 undef = .int .i64 (bd : Int) := hdep 12 rfl
              refine OpOk.val (v := .int .i64 (gd : Int)) (w' := W) ?_ ⟨Below.refl _ _, rfl⟩
              show (execOp a.eval { dst := some 33, op := Op.binOp BinOp.sub 3 (.tmp 31) (.tmp 32) 3, type := _, pos := _, after := _, guard := none }).run Try.prog W = _
              simp only [execOp, List.map_toArray, List.map_cons, List.map_nil, e0, d31, d32]
              go_simp
            | 14, _, _, hdep =>
              refine OpOk.val (v := .int .i64 (take : Int)) (w' := W) ?_ ⟨Below.refl _ _, rfl⟩
              show (execOp a.eval { dst := some 34, op := Op.load 3 (.tmp 1), type := _, pos := _, after := _, guard := none }).run Try.prog W = _
              simp only [execOp, List.map_toArray, List.map_cons, List.map_nil, e0, f1]
              go_simp
            | 15, _, _, hdep =>
              refine OpOk.val (v := .int .i64 (n : Int)) (w' := W) ?_ ⟨Below.refl _ _, rfl⟩
              show (execOp a.eval { dst := some 35, op := Op.move (.tmp 6), type := _, pos := _, after := _, guard := none }).run Try.prog W = _
              simp only [execOp, List.map_toArray, List.map_cons, List.map_nil, e0, f6]
              go_simp
            | 16, _, _, hdep =>
              have d34 : a.tmps.getD 34 undef = .int .i64 (take : Int) := hdep 14 rfl
              have d35 : a.tmps.getD 35 undef = .int .i64 (n : Int) := hdep 15 rfl
              refine OpOk.val (v := .int .i64 (tn : Int)) (w' := W) ?_ ⟨Below.refl _ _, rfl⟩
              show (execOp a.eval { dst := some 36, op := Op.binOp BinOp.sub 3 (.tmp 34) (.tmp 35) 3, type := _, pos := _, after := _, guard := none }).run Try.prog W = _
              simp only [execOp, List.map_toArray, List.map_cons, List.map_nil, e0, d34, d35]
              go_simp
            | 17, _, _, hdep =>
              have d30 : a.tmps.getD 30 undef = .pointer (some ⟨Bw, 0, none⟩) := hdep 10 rfl
              refine OpOk.val (v := .pointer (some ⟨Bw, 0, none⟩)) (w' := W) ?_ ⟨Below.refl _ _, rfl⟩
              show (execOp a.eval { dst := some 37, op := Op.nilCheck (.tmp 30), type := _, pos := _, after := _, guard := none }).run Try.prog W = _
              simp only [execOp, List.map_toArray, List.map_cons, List.map_nil, e0, d30]
              go_simp
            | 18, _, _, hdep =>
              have d37 : a.tmps.getD 37 undef = .pointer (some ⟨Bw, 0, none⟩) := hdep 17 rfl
              refine OpOk.val (v := .pointer (some ⟨Bw, 3, none⟩)) (w' := W) ?_ ⟨Below.refl _ _, rfl⟩
              show (execOp a.eval { dst := some 38, op := Op.fieldAddr 108 (.tmp 37) 2, type := _, pos := _, after := _, guard := none }).run Try.prog W = _
              simp only [execOp, List.map_toArray, List.map_cons, List.map_nil, e0, d37]
              go_simp
            | 19, _, _, hdep =>
              have d33 : a.tmps.getD 33 undef = .int .i64 (gd : Int) := hdep 13 rfl
              have d38 : a.tmps.getD 38 undef = .pointer (some ⟨Bw, 3, none⟩) := hdep 18 rfl
              refine OpOk.val (v := .pointer (some ⟨Bw, 3 + gd * 31, none⟩)) (w' := W) ?_ ⟨Below.refl _ _, rfl⟩
              show (execOp a.eval { dst := some 39, op := Op.indexAddr 104 (.tmp 38) (.tmp 33), type := _, pos := _, after := _, guard := none }).run Try.prog W = _
              simp only [execOp, List.map_toArray, List.map_cons, List.map_nil, e0, d33, d38]
              go_simp
            | 20, _, _, hdep =>
              have d36 : a.tmps.getD 36 undef = .int .i64 (tn : Int) := hdep 16 rfl
              have d39 : a.tmps.getD 39 undef = .pointer (some ⟨Bw, 3 + gd * 31, none⟩) := hdep 19 rfl
              refine OpOk.val (v := .pointer (some ⟨Bw, 3 + gd * 31 + tn, none⟩)) (w' := W) ?_ ⟨Below.refl _ _, rfl⟩
              show (execOp a.eval { dst := some 40, op := Op.indexAddr 102 (.tmp 39) (.tmp 36), type := _, pos := _, after := _, guard := none }).run Try.prog W = _
              simp only [execOp, List.map_toArray, List.map_cons, List.map_nil, e0, d36, d39]
              go_simp
            | 21, _, _, hdep =>
              have d40 : a.tmps.getD 40 undef = .pointer (some ⟨Bw, 3 + gd * 31 + tn, none⟩) := hdep 20 rfl
              refine OpOk.val (v := .int .i64 z2) (w' := W) ?_ ⟨Below.refl _ _, rfl⟩
              show (execOp a.eval { dst := some 41, op := Op.load 3 (.tmp 40), type := _, pos := _, after := _, guard := none }).run Try.prog W = _
              simp only [execOp, List.map_toArray, List.map_cons, List.map_nil, e0, d40]
              go_simp
            | 22, _, _, hdep =>
              have d29 : a.tmps.getD 29 undef = .int .i64 z1 := hdep 9 rfl
              have d41 : a.tmps.getD 41 undef = .int .i64 z2 := hdep 21 rfl
              refine OpOk.val (v := .slice (some ⟨W.heap.size, 0, none⟩) 2 2) (w' := W.alloc (.cells #[.int .i64 z1, .int .i64 z2] 3)) ?_ ⟨(Below.refl _ _).alloc (Nat.le_refl _) _, W.heap.size, rfl, Blk.new _ _ _⟩
              show (execOp a.eval { dst := some 42, op := Op.buildSlice 53 2 #[(0, (.tmp 29)), (1, (.tmp 41))], type := _, pos := _, after := _, guard := none }).run Try.prog W = _
              simp only [execOp, List.map_toArray, List.map_cons, List.map_nil, e0, d29, d41]
              go_simp
            | 23, _, _, hdep =>
              obtain ⟨b, d42, hb42⟩ : ∃ b, a.tmps.getD 42 undef = .slice (some ⟨b, 0, none⟩) 2 2 ∧ Blk W b #[.int .i64 z1, .int .i64 z2] 3 := hdep 22 rfl
              refine OpOk.call (f := 55) (args := #[.slice (some ⟨b, 0, none⟩) 2 2]) (w1 := W) ?_ ((times_any b z1 z2 W (hb42.cell 0) (hb42.cell 1)).mono ?_)
              · show (execOp a.eval { dst := some 43, op := Op.call { callee := .value (.func 55), args := #[(.tmp 42)], argTypes := #[53] }, type := _, pos := _, after := _, guard := none }).run Try.prog W = _
                have e55 : ∀ args w, (callFunc 55 args).run Try.prog w = .ok (.enter 55 args) w := enters_of Try.func55 (by kernel_rfl) rfl
                simp only [execOp, List.map_toArray, List.map_cons, List.map_nil, e0, d42]
                go_simp
              · rintro e w' ⟨rfl, rfl⟩
                exact ⟨_, rfl, Below.refl _ _, rfl⟩
            | kk + 24, h, _, _ => exact absurd h (by omega)
          case hlast =>
            intro a W e1 e2 hfix hBW hall
            have f0 : a.tmps.getD 20 undef = .func (.yield l) #[] #[] := hall 0 (by omega)
            have f1 : a.tmps.getD 21 undef = .int .i64 (n : Int) := hall 1 (by omega)
            have f3 : a.tmps.getD 43 undef = .int .i64 (wrap64 (z1 * z2)) := hall 23 (by omega)
            have e0 : ∀ x, a.eval (.tmp x) = a.tmps.getD x undef := fun _ => rfl
            obtain ⟨fn, tmps, asg, bd1, hy, hrd⟩ := HR.out X _ _ W hBW.2.1 HOK.out hBW.2.2.1
            dsimp only at hy
            refine OpOk.round (l := l) (f := fn) (tmps := tmps) (asg := asg) (bd := bd1) (w1 := W) ?_ (hrd.mono ?_)
            · show (execOp a.eval { dst := some 44, op := Op.call { callee := .value (.tmp 20), args := #[(.tmp 21), (.tmp 43)], argTypes := #[3, 3] }, type := _, pos := _, after := _, guard := none }).run Try.prog W = _
              simp only [execOp, List.map_toArray, List.map_cons, List.map_nil, e0, f0, f1, f3]
              go_simp
            · rintro e W2 ⟨hk2, (⟨rfl, hj2⟩ | ⟨rfl, hj2⟩)⟩
              · refine ⟨_, rfl, ?_⟩
                refine OpOk.val (v := .bool false) (w' := W2) ?_ ?_
                · show (execOp (a.put (some 44) (.bool true)).eval { dst := some 45, op := Op.unOp UnOp.not 4 (.tmp 44), type := _, pos := _, after := _, guard := none }).run Try.prog W2 = _
                  have hs44 : (a.put (some 44) (.bool true)).eval (.tmp 44) = .bool true := by
                    show ((a.tmps.setIfInBounds 44 (.bool true)).getD 44 undef) = _
                    simp [show a.tmps.size = 46 from e2]
                  simp only [execOp, hs44]
                  go_simp
                · refine hK _ _ ?_
                  have hsl : ∀ s, s < 20 → slot ((a.put (some 44) (.bool true)).put (some 45) (.bool false)) s = a.tmps.getD s undef := fun s hs => by
                    show ((a.tmps.setIfInBounds 44 (.bool true)).setIfInBounds 45 (.bool false)).getD s undef = _
                    simp [Array.getElem?_setIfInBounds_ne (show 45 ≠ s by omega), Array.getElem?_setIfInBounds_ne (show 44 ≠ s by omega)]
                  have hsl2 := fun s (hs : s < 20) => (hsl s hs).trans (hfix s (fun j _ => by omega))
                  have h45 : slot ((a.put (some 44) (.bool true)).put (some 45) (.bool false)) 45 = .bool false := by
                    show ((a.tmps.setIfInBounds 44 (.bool true)).setIfInBounds 45 (.bool false)).getD 45 undef = _
                    simp [show a.tmps.size = 46 from e2]
                  rw [frame_lit ((a.put (some 44) (.bool true)).put (some 45) (.bool false)) 46 (by simp [Act.put, show a.tmps.size = 46 from e2]) e1]
                  simp only [List.range, List.range.loop, List.map_cons, List.map_nil, h45, hsl2 0 (by omega), hsl2 1 (by omega), hsl2 2 (by omega), hsl2 3 (by omega), hsl2 4 (by omega), hsl2 5 (by omega), hsl2 6 (by omega), hsl2 7 (by omega), hsl2 8 (by omega), hsl2 9 (by omega), hsl2 10 (by omega), hsl2 11 (by omega), hsl2 12 (by omega), hsl2 13 (by omega)]
                  simp only [Array.getD_eq_getD_getElem?, List.getElem?_toArray, List.getElem?_cons_succ, List.getElem?_cons_zero, Option.getD_some]
                  generalize (a.put (some 44) (.bool true)).put (some 45) (.bool false) = a'
                  have hcap2 : Cap take lf bd b7 b5 b6 b2 Bw wk W2 := hBW.1.keep hk2 (.inl x7) (.inl x5) (.inl x6) (.inl x2) (.inr rfl)
                  have hXs2 : ∀ k, X k → k < W2.heap.size := fun k h => Nat.lt_of_lt_of_le (hBW.2.2.1 k h) hk2.1
                  have HA := Aw.mk hcap2
                  have HA2 := Aw.mk hXs2
                  have HA3 := Aw.mk hj2
                  clear hcap2 hXs2 hj2 hsl hsl2 h45 hfix hall hBW e1 e2 hy hrd hk2 f0 f1 f3 e0 k1 k2 g7 g5 g6 q7 q5 q6
                  go_wp2
                  go_roundg ((drList take lf bd).length - (j + 1))
                  case measure => have := HLT.out; omega
                  case rel =>
                    refine ⟨j + 1, HLT.out, Nat.le_refl _, ?_, ⟨?_, HA.out, HA2.out⟩⟩
                    · have e : ∀ x y : Int, x = y → Value.int .i64 x = .int .i64 y := fun x y h => by rw [h]
                      refine e _ _ ?_
                      have := HN.out
                      omega
                    · have h := HA3.out
                      rw [List.take_succ_eq_append_getElem HLT.out]
                      rw [HX1.out HLT.out]
                      exact h
              · refine ⟨_, rfl, ?_⟩
                refine OpOk.val (v := .bool true) (w' := W2) ?_ ?_
                · show (execOp (a.put (some 44) (.bool false)).eval { dst := some 45, op := Op.unOp UnOp.not 4 (.tmp 44), type := _, pos := _, after := _, guard := none }).run Try.prog W2 = _
                  have hs44 : (a.put (some 44) (.bool false)).eval (.tmp 44) = .bool false := by
                    show ((a.tmps.setIfInBounds 44 (.bool false)).getD 44 undef) = _
                    simp [show a.tmps.size = 46 from e2]
                  simp only [execOp, hs44]
                  go_simp
                · refine hK _ _ ?_
                  have hsl : ∀ s, s < 20 → slot ((a.put (some 44) (.bool false)).put (some 45) (.bool true)) s = a.tmps.getD s undef := fun s hs => by
                    show ((a.tmps.setIfInBounds 44 (.bool false)).setIfInBounds 45 (.bool true)).getD s undef = _
                    simp [Array.getElem?_setIfInBounds_ne (show 45 ≠ s by omega), Array.getElem?_setIfInBounds_ne (show 44 ≠ s by omega)]
                  have hsl2 := fun s (hs : s < 20) => (hsl s hs).trans (hfix s (fun j _ => by omega))
                  have h45 : slot ((a.put (some 44) (.bool false)).put (some 45) (.bool true)) 45 = .bool true := by
                    show ((a.tmps.setIfInBounds 44 (.bool false)).setIfInBounds 45 (.bool true)).getD 45 undef = _
                    simp [show a.tmps.size = 46 from e2]
                  rw [frame_lit ((a.put (some 44) (.bool false)).put (some 45) (.bool true)) 46 (by simp [Act.put, show a.tmps.size = 46 from e2]) e1]
                  simp only [List.range, List.range.loop, List.map_cons, List.map_nil, h45, hsl2 0 (by omega), hsl2 1 (by omega), hsl2 2 (by omega), hsl2 3 (by omega), hsl2 4 (by omega), hsl2 5 (by omega), hsl2 6 (by omega), hsl2 7 (by omega), hsl2 8 (by omega), hsl2 9 (by omega), hsl2 10 (by omega), hsl2 11 (by omega), hsl2 12 (by omega), hsl2 13 (by omega)]
                  simp only [Array.getD_eq_getD_getElem?, List.getElem?_toArray, List.getElem?_cons_succ, List.getElem?_cons_zero, Option.getD_some]
                  generalize (a.put (some 44) (.bool false)).put (some 45) (.bool true) = a'
                  have hcap2 : Cap take lf bd b7 b5 b6 b2 Bw wk W2 := hBW.1.keep hk2 (.inl x7) (.inl x5) (.inl x6) (.inl x2) (.inr rfl)
                  have hXs2 : ∀ k, X k → k < W2.heap.size := fun k h => Nat.lt_of_lt_of_le (hBW.2.2.1 k h) hk2.1
                  have HA := Aw.mk hcap2
                  have HA2 := Aw.mk hXs2
                  have HA3 := Aw.mk hj2
                  clear hcap2 hXs2 hj2 hsl hsl2 h45 hfix hall hBW e1 e2 hy hrd hk2 f0 f1 f3 e0 k1 k2 g7 g5 g6 q7 q5 q6
                  go_wp2
                  go_end0
                  exact ⟨⟨_, rfl⟩, .inr ⟨_, trivial, HA3.out⟩⟩
      · have hfin := HI.out.1
        have hle : drList take lf bd = (drList take lf bd).take j := (List.take_of_length_le (by omega)).symm
        rw [← hle] at hfin
        have HF := Aw.mk hfin
        have hnlt : ¬ ((n : Int) ≤ (take : Int) ∧ (n : Int) ≤ (bd : Int)) := by omega
        have hmm : (if bd < take then (bd : Int) else (take : Int)) < (n : Int) := by split <;> omega
        rw [← hn]
        clear hfin hle hn hlen hlo HG' hJ1 hcap hXs HI hj hgg hlt hnlt
        go_wp2
        all_goals
          go_end0
          exact ⟨⟨_, rfl⟩, .inl ⟨_, rfl, HF.out⟩⟩

end Go.Proofs.Ytigpnafpdmdmhaa.Hand

namespace Go.Proofs.Ytigpnafpdmdmhaa.Hand
open Go.RowKit Go.Shelf

/-- The key of the known counts. -/
def keyV (i t b : Nat) : Value := .agg #[.int .i64 (i : Int), .int .i64 (t : Int), .int .i64 (b : Int)]

theorem eq111 (a b c x y z : Int) (W : World) : (Op.equal 111 (.agg #[.int .i64 a, .int .i64 b, .int .i64 c]) (.agg #[.int .i64 x, .int .i64 y, .int .i64 z])).run Try.prog W = .ok (a == x && (b == y && c == z)) W := by
  unfold Op.equal Op.maxDepth
  go_simp
  by_cases h1 : a = x
  · by_cases h2 : b = y
    · by_cases h3 : c = z <;> simp [h1, h2, h3]
    · simp [h1, h2]
  · simp [h1]

theorem check3 (e : Bool) (n : Nat) (a : Int) (W : World) : (Instr.checkKey e (n + 1) 3 (.int .i64 a)).run Try.prog W = .ok () W := by
  unfold Instr.checkKey
  go_simp

theorem check111 (e : Bool) (a b c : Int) (W : World) : (Instr.checkKey e 10000 111 (.agg #[.int .i64 a, .int .i64 b, .int .i64 c])).run Try.prog W = .ok () W := by
  have h := check3 e 9998
  unfold Instr.checkKey
  go_simp

theorem eqKey (i t b i' t' b' : Nat) (W : World) : (Op.equal 111 (keyV i t b) (keyV i' t' b')).run Try.prog W = .ok (decide (i = i' ∧ t = t' ∧ b = b')) W := by
  unfold keyV
  rw [eq111]
  congr 1
  rw [Bool.eq_iff_iff]
  simp
  omega

/-- Each entry tells what G tells. -/
def Ents (G : Nat → Nat → Nat → Value) (es : List MapEntry) : Prop := ∀ e ∈ es, ∃ i t b, e.key = keyV i t b ∧ e.val = G i t b

theorem find_any (G : Nat → Nat → Nat → Value) (i t b : Nat) : ∀ (es : List MapEntry) (j : Nat), Ents G es →
    ∃ r, (∀ W, (Instr.findAsking 111 (keyV i t b) es j).run Try.prog W = .ok r W) ∧ (r = none ∨ ∃ q, r = some (q, G i t b) ∧ j ≤ q ∧ ∃ e, es[q - j]? = some e ∧ e.key = keyV i t b)
  | [], j, _ => ⟨none, fun _ => rfl, .inl rfl⟩
  | e :: es, j, h => by
    obtain ⟨i', t', b', hk, hv⟩ := h e (by simp)
    unfold Instr.findAsking
    simp only [Sem.run_bind, hk, eqKey, Result.andThen_ok]
    by_cases hq : i = i' ∧ t = t' ∧ b = b'
    · obtain ⟨rfl, rfl, rfl⟩ := hq
      refine ⟨some (j, e.val), fun W => by simp, .inr ⟨j, by rw [hv], Nat.le_refl _, e, by simp, hk⟩⟩
    · obtain ⟨r, hr, hc⟩ := find_any G i t b es (j + 1) (fun e' he' => h e' (by simp [he']))
      refine ⟨r, fun W => by simpa [hq] using hr W, hc.imp (fun h => h) ?_⟩
      rintro ⟨q, h1, h2, e', h3, h4⟩
      exact ⟨q, h1, by omega, e', by rw [show q - j = (q - (j + 1)) + 1 by omega]; simpa using h3, h4⟩

theorem findKey_any (G : Nat → Nat → Nat → Value) (i t b : Nat) (es : List MapEntry) (h : Ents G es) :
    ∃ r, (∀ W, (Instr.findKey 111 (keyV i t b) es).run Try.prog W = .ok r W) ∧ (r = none ∨ ∃ q, r = some (q, G i t b) ∧ ∃ e, es[q]? = some e ∧ e.key = keyV i t b) := by
  cases es with
  | nil =>
    refine ⟨none, fun W => ?_, .inl rfl⟩
    unfold Instr.findKey
    rw [Sem.run_bind, run_underlying Try.underlying111 W]
    rfl
  | cons e es =>
    obtain ⟨r, hr, hc⟩ := find_any G i t b (e :: es) 0 h
    refine ⟨r, fun W => ?_, hc.imp (fun h => h) fun ⟨q, h1, _, h2⟩ => ⟨q, h1, by simpa using h2⟩⟩
    unfold Instr.findKey
    rw [Sem.run_bind, run_underlying Try.underlying111 W]
    have hn : ∀ fs, Instr.findNow (.struct fs) (keyV i t b) (e :: es) 0 = none := fun fs => by unfold Instr.findNow Instr.sameNow; rfl
    simp only [Result.andThen_ok, hn]
    exact hr W

/-- A look-up of what is known. -/
theorem lookup_any (G : Nat → Nat → Nat → Value) (i t b m : Nat) (es : Array MapEntry) (h : Ents G es.toList) :
    ∃ (v : Value) (ok : Bool), (∀ (W : World) (clock : Nat), W.heap[m]? = some (.map es clock) → (Instr.lookup 106 (.map (some m)) (keyV i t b) true).run Try.prog W = .ok (.tuple #[v, .bool ok]) W) ∧
      ((ok = true ∧ v = G i t b) ∨ (ok = false ∧ v = .agg #[.int .i64 0, .int .i64 0, .int .i64 0])) := by
  obtain ⟨r, hr, hc⟩ := findKey_any G i t b es.toList h
  have hz : ∀ W, (zeroValue 84).run Try.prog W = .ok (.agg #[.int .i64 0, .int .i64 0, .int .i64 0]) W := fun W => Try.zeroValue84 W
  have hk : ∀ e W, (Instr.checkKey e 10000 111 (keyV i t b)).run Try.prog W = .ok () W := fun e W => check111 e _ _ _ W
  have hu := fun W => run_underlying Try.underlying106 W
  have hg : ∀ (W : World) (clock : Nat), W.heap[m]? = some (.map es clock) → (getObj m).run Try.prog W = .ok (.map es clock) W := fun W clock h => by simp [getObj, Sem.run, h]
  rcases hc with rfl | ⟨q, rfl, _⟩
  · refine ⟨.agg #[.int .i64 0, .int .i64 0, .int .i64 0], false, fun W clock hW => ?_, .inr ⟨rfl, rfl⟩⟩
    unfold Instr.lookup
    simp [Sem.run_bind, hu, hg W clock hW, hk, hr, hz, Result.andThen]
  · refine ⟨G i t b, true, fun W clock hW => ?_, .inl ⟨rfl, rfl⟩⟩
    unfold Instr.lookup
    simp [Sem.run_bind, hu, hg W clock hW, hk, hr, Result.andThen]

/-- A store of what is known. -/
theorem update_any (G : Nat → Nat → Nat → Value) (i t b m : Nat) (es : Array MapEntry) (clock : Nat) (h : Ents G es.toList) :
    ∃ (es' : Array MapEntry) (clock' : Nat), (∀ (W : World), W.heap[m]? = some (.map es clock) → (Instr.mapUpdate 106 (.map (some m)) (keyV i t b) (G i t b)).run Try.prog W = .ok () (W.putObj m (.map es' clock'))) ∧ Ents G es'.toList := by
  obtain ⟨r, hr, hc⟩ := findKey_any G i t b es.toList h
  have hk : ∀ e W, (Instr.checkKey e 10000 111 (keyV i t b)).run Try.prog W = .ok () W := fun e W => check111 e _ _ _ W
  have hu := fun W => run_underlying Try.underlying106 W
  have hg : ∀ (W : World), W.heap[m]? = some (.map es clock) → (getObj m).run Try.prog W = .ok (.map es clock) W := fun W h => by simp [getObj, Sem.run, h]
  have hs : ∀ (W : World) (o : Obj), W.heap[m]? = some (.map es clock) → (setObj m o).run Try.prog W = .ok () (W.putObj m o) := fun W o h => by simp [setObj, Sem.run, h, World.putObj]
  rcases hc with rfl | ⟨q, rfl, e, he, hek⟩
  · refine ⟨es.push { key := keyV i t b, val := G i t b, born := clock }, clock + 1, fun W hW => ?_, ?_⟩
    · unfold Instr.mapUpdate
      simp [Sem.run_bind, hu, hg W hW, hk, hr, hs W _ hW, Result.andThen]
    · intro e he
      simp at he
      rcases he with he | rfl
      · exact h e (by simpa using he)
      · exact ⟨i, t, b, rfl, rfl⟩
  · have hsb : Instr.sameBits 10000 (keyV i t b) (keyV i t b) = true := by unfold keyV; simp [Instr.sameBits]
    have hkt : ∀ W, (Instr.keyThatStays (((es[q]?).map (·.key)).getD (keyV i t b)) (keyV i t b)).run Try.prog W = .ok (keyV i t b) W := fun W => by
      have : ((es[q]?).map (·.key)).getD (keyV i t b) = keyV i t b := by
        rw [show es[q]? = some e by simpa using he]
        simpa using hek
      rw [this]
      unfold Instr.keyThatStays
      rw [hsb]
      rfl
    refine ⟨es.modify q fun e => { e with key := keyV i t b, val := G i t b }, clock, fun W hW => ?_, ?_⟩
    · unfold Instr.mapUpdate
      simp [Sem.run_bind, hu, hg W hW, hk, hr, hkt, hs W _ hW, Result.andThen]
    · intro e' he'
      obtain ⟨n, hn, rfl⟩ := List.getElem_of_mem he'
      simp at hn
      simp only [Array.getElem_toList, Array.getElem_modify]
      split
      · exact ⟨i, t, b, rfl, rfl⟩
      · exact h _ (by simp)

end Go.Proofs.Ytigpnafpdmdmhaa.Hand

namespace Go.Proofs.Ytigpnafpdmdmhaa.Hand
open Go.RowKit Go.Shelf

/-- What a stage says. -/
def saysV (s : Stg) (b : Int) : Int := if b ≤ s.accept then 1 else if s.reject ≤ b then 2 else 3

theorem says_any (s : Stg) (b : Int) (w : World) : Calls Try.prog 47 #[s.enc, .int .i64 b] w fun e w' => e = .returned (.int .u8 (saysV s b)) ∧ Below w.heap.size w w' := by
  obtain ⟨x, y, z⟩ := s
  unfold Stg.enc
  have hb := (Below.refl w.heap.size w).alloc (Nat.le_refl _) (.cells #[.int .i64 x, .int .i64 y, .int .i64 z] 61)
  have HB := Aw.mk hb
  clear hb
  by_cases h1 : b ≤ y
  · have HE : Aw (saysV ⟨x, y, z⟩ b = 1) := ⟨by unfold saysV; rw [if_pos h1]⟩
    have h1' : decide (b ≤ y) = true := decide_eq_true h1
    go_enter Try.func47, Try.ntmps47
    go_wp2
    go_ret
    exact ⟨by rw [HE.out]; rfl, HB.out⟩
  · have h1' : decide (b ≤ y) = false := decide_eq_false h1
    by_cases h2 : z ≤ b
    · have HE : Aw (saysV ⟨x, y, z⟩ b = 2) := ⟨by unfold saysV; rw [if_neg h1, if_pos h2]⟩
      have h2' : decide (z ≤ b) = true := decide_eq_true h2
      go_enter Try.func47, Try.ntmps47
      go_wp2
      go_ret
      exact ⟨by rw [HE.out]; rfl, HB.out⟩
    · have HE : Aw (saysV ⟨x, y, z⟩ b = 3) := ⟨by unfold saysV; rw [if_neg h1, if_neg h2]⟩
      have h2' : decide (z ≤ b) = false := decide_eq_false h2
      go_enter Try.func47, Try.ntmps47
      go_wp2
      go_ret
      exact ⟨by rw [HE.out]; rfl, HB.out⟩

/-- Counts: how many draws accept, how many pieces they take, how many there are. -/
structure Cnt where
  accepts : Int
  pieces : Int
  draws : Int
  deriving Inhabited
def Cnt.enc (c : Cnt) : Value := .agg #[.int .i64 c.accepts, .int .i64 c.pieces, .int .i64 c.draws]

/-- One more kind of draw, as the machine reckons. -/
def Cnt.add (o : Cnt) (many : Int) (c : Cnt) : Cnt := ⟨wrap64 (o.accepts + wrap64 (many * c.accepts)), wrap64 (o.pieces + wrap64 (many * c.pieces)), wrap64 (o.draws + wrap64 (many * c.draws))⟩

/-- What a stage has decided by so many bad ones: else what follows. -/
def decided (lot : Nat) (s : Stg) (l : List Stg) (tk : Nat) (bd : Int) (rest : Cnt) : Cnt :=
  if saysV s bd = 1 then ⟨restW lot tk l, wrap64 ((tk : Int) * restW lot tk l), restW lot tk l⟩
  else if saysV s bd = 2 then ⟨0, wrap64 ((tk : Int) * restW lot tk l), restW lot tk l⟩
  else rest

/-- What count says from a stage on, as the machine reckons. -/
def cntW (lot bad : Nat) : List Stg → Nat → Nat → Cnt
  | [], _, _ => ⟨0, 0, 0⟩
  | s :: l, t, b => (drList s.take.toNat (lot - t) (bad - b)).foldl (fun o x => o.add x.2 (decided lot s l (t + s.take.toNat) ((b : Int) + x.1) (cntW lot bad l (t + s.take.toNat) (b + x.1.toNat)))) ⟨0, 0, 0⟩

/-- The last stage decides. -/
def lastDec : List Stg → Prop
  | [] => True
  | [s] => s.reject ≤ s.accept + 1
  | _ :: l => lastDec l

theorem lastDec_open {s : Stg} {b : Int} (h : lastDec [s]) : saysV s b ≠ 3 := by
  have h' : s.reject ≤ s.accept + 1 := h
  unfold saysV
  split
  · omega
  · rw [if_pos (by omega)]; omega

/-- What stays while a plan is counted. -/
structure Env (lot : Nat) (A : Option Addr) (c bad m Bw Bx Bf : Nat) (l : List Stg) (W : World) : Prop where
  hw : Blk W Bw (work lot A l.length c bad m) 108
  hs : StAt W A l
  hx : Blk W Bx #[.pointer (some ⟨Bw, 0, none⟩)] 94
  hf : Blk W Bf #[.func (.func 62) #[] #[.pointer (some ⟨Bx, 0, none⟩), .pointer (some ⟨Bf, 0, none⟩)]] 109

/-- What is known. -/
def knows (lot bad : Nat) (l : List Stg) (i t b : Nat) : Value := (cntW lot bad (l.drop i) t b).enc
def Known (lot bad m : Nat) (l : List Stg) (W : World) : Prop := ∃ es clock, W.heap[m]? = some (.map es clock) ∧ Ents (knows lot bad l) es.toList

theorem Blk.chg {X : Nat → Prop} {w W : World} {b : Nat} {cs : Array Value} {t : Nat} (h : Blk w b cs t) (hc : Chg X w W) (hx : ¬ X b) : Blk W b cs t := (hc.block b h.lt hx).trans h
theorem not_map {W : World} {m b : Nat} {es : Array MapEntry} {clock : Nat} {cs : Array Value} {t : Nat} (hm : W.heap[m]? = some (.map es clock)) (hb : Blk W b cs t) : b ≠ m := by
  rintro rfl
  rw [show W.heap[b]? = _ from hb] at hm
  cases hm
theorem cell_not_map {W : World} {m : Nat} {es : Array MapEntry} {clock : Nat} {a : Addr} {v : Value} (hm : W.heap[m]? = some (.map es clock)) (hc : W.cell? a = some v) : a.block ≠ m := by
  rintro rfl
  unfold World.cell? at hc
  rw [hm] at hc
  cases hc
theorem Env.chg {lot : Nat} {A : Option Addr} {c bad m Bw Bx Bf : Nat} {l : List Stg} {W W' : World} {X : Nat → Prop} (h : Env lot A c bad m Bw Bx Bf l W) (hc : Chg X W W') (hX : ∀ k, X k → (∃ es clock, W.heap[k]? = some (.map es clock)) ∨ W.heap.size ≤ k) : Env lot A c bad m Bw Bx Bf l W' := by
  have hb : ∀ {b : Nat} {cs : Array Value} {t : Nat}, Blk W b cs t → Blk W' b cs t := fun {b cs t} h => h.chg hc (fun hx => by
    rcases hX b hx with ⟨es, clock, hm⟩ | hl
    · exact not_map hm h rfl
    · exact absurd h.lt (by omega))
  refine ⟨hb h.hw, ?_, hb h.hx, hb h.hf⟩
  intro i hi
  obtain ⟨b, off, hA, hlt, h0, h1, h2⟩ := h.hs i hi
  have hn : ¬ X b := fun hx => by
    rcases hX b hx with ⟨es, clock, hm⟩ | hl
    · exact cell_not_map hm h0 rfl
    · omega
  have e : W'.heap[b]? = W.heap[b]? := hc.block b hlt hn
  have hcell : ∀ o, W'.cell? ⟨b, o, none⟩ = W.cell? ⟨b, o, none⟩ := fun o => World.cell?_of_block (w := W) e
  exact ⟨b, off, hA, Nat.lt_of_lt_of_le hlt hc.size, (hcell _).trans h0, (hcell _).trans h1, (hcell _).trans h2⟩
theorem Env.below {lot : Nat} {A : Option Addr} {c bad m Bw Bx Bf : Nat} {l : List Stg} {W W' : World} (h : Env lot A c bad m Bw Bx Bf l W) (hb : Below W.heap.size W W') : Env lot A c bad m Bw Bx Bf l W' :=
  h.chg (Chg.below hb (fun _ => False)) (fun _ h => h.elim)
theorem Known.below {lot bad m : Nat} {l : List Stg} {W W' : World} (h : Known lot bad m l W) (hb : Below W.heap.size W W') : Known lot bad m l W' := by
  obtain ⟨es, clock, h1, h2⟩ := h
  exact ⟨es, clock, (hb.block m (Array.getElem?_eq_some_iff.1 h1).1).trans h1, h2⟩

/-- What 'from' leaves. -/
def FromPost (lot bad m : Nat) (l : List Stg) (i t b : Nat) (w : World) (e : Ending) (w' : World) : Prop :=
  e = .returned (knows lot bad l i t b) ∧ Chg (fun k => k = m) w w' ∧ Known lot bad m l w'

end Go.Proofs.Ytigpnafpdmdmhaa.Hand

namespace Go.Proofs.Ytigpnafpdmdmhaa.Hand
open Go.RowKit Go.Shelf

/-- A region of a code, by its number. -/
def findOps (id : Nat) : Code → Option (Array Oper)
  | .region i ops _ => if i == id then some ops else none
  | .seq a b => match findOps id a with | some r => some r | none => findOps id b
  | .cond _ a b => match findOps id a with | some r => some r | none => findOps id b
  | .block _ c => findOps id c
  | .loop c => findOps id c
  | .scope c => findOps id c
  | .rangeFunc _ _ a b => match findOps id a with | some r => some r | none => findOps id b
  | _ => none
def opsOf (f : Func) (id : Nat) : Array Oper := match f.body with
  | some c => (findOps id c).getD #[]
  | none => #[]

def Cnt.cells (c : Cnt) : Array Value := #[.int .i64 c.accepts, .int .i64 c.pieces, .int .i64 c.draws]
theorem Cnt.enc_cells (c : Cnt) : c.enc = .agg c.cells := rfl

set_option maxHeartbeats 4000000 in
set_option maxRecDepth 10000 in
theorem add_region (rd : Option Nat) (Bo Bn : Nat) (o n : Cnt) (y : Int) (a0 : Act) (w0 : World) (Q : Exit → Act → World → Prop) (hsz : a0.tmps.size = 116)
    (f7 : a0.tmps.getD 7 undef = .pointer (some ⟨Bo, 0, none⟩)) (f10 : a0.tmps.getD 10 undef = .int .i64 y) (f13 : a0.tmps.getD 13 undef = .pointer (some ⟨Bn, 0, none⟩))
    (ho : Blk w0 Bo o.cells 84) (hn : Blk w0 Bn n.cells 84)
    (hQ : ∀ (a : Act) (W : World), Chg (fun k => k = Bo) w0 W → Blk W Bo (o.add y n).cells 84 → Q .normal a W) :
    (Code.region 18 (opsOf Try.f62 18) true).wpIn { Fence.wide with round := rd } 0 Try.prog Q a0 w0 := by
  have eA : (o.add y n).accepts = wrap64 (o.accepts + wrap64 (y * n.accepts)) := rfl
  have eP : (o.add y n).pieces = wrap64 (o.pieces + wrap64 (y * n.pieces)) := rfl
  have eD : (o.add y n).draws = wrap64 (o.draws + wrap64 (y * n.draws)) := rfl
  refine region_walk (rd := rd) 25 (fun i => i + 84) (by kernel_rfl) (by kernel_rfl) (by rw [hsz]; kernel_rfl)
    (fun W => Blk W Bo o.cells 84 ∧ Blk W Bn n.cells 84 ∧ Below w0.heap.size w0 W)
    (fun i v W => match i with
      | 0 => v = .pointer (some ⟨Bo, 0, none⟩)
      | 1 => v = .int .i64 o.accepts
      | 2 => v = .int .i64 y
      | 3 => v = .pointer (some ⟨Bn, 0, none⟩)
      | 4 => v = .int .i64 n.accepts
      | 5 => ∃ bb, v = .slice (some ⟨bb, 0, none⟩) 2 2 ∧ Blk W bb #[.int .i64 y, .int .i64 n.accepts] 3
      | 6 => v = .int .i64 (wrap64 (y * n.accepts))
      | 7 => v = .int .i64 (o.add y n).accepts
      | 8 => v = .pointer (some ⟨Bo, 1, none⟩)
      | 9 => v = .int .i64 o.pieces
      | 10 => v = .int .i64 y
      | 11 => v = .pointer (some ⟨Bn, 1, none⟩)
      | 12 => v = .int .i64 n.pieces
      | 13 => ∃ bb, v = .slice (some ⟨bb, 0, none⟩) 2 2 ∧ Blk W bb #[.int .i64 y, .int .i64 n.pieces] 3
      | 14 => v = .int .i64 (wrap64 (y * n.pieces))
      | 15 => v = .int .i64 (o.add y n).pieces
      | 16 => v = .pointer (some ⟨Bo, 2, none⟩)
      | 17 => v = .int .i64 o.draws
      | 18 => v = .int .i64 y
      | 19 => v = .pointer (some ⟨Bn, 2, none⟩)
      | 20 => v = .int .i64 n.draws
      | 21 => ∃ bb, v = .slice (some ⟨bb, 0, none⟩) 2 2 ∧ Blk W bb #[.int .i64 y, .int .i64 n.draws] 3
      | 22 => v = .int .i64 (wrap64 (y * n.draws))
      | 23 => v = .int .i64 (o.add y n).draws
      | _ => v = (o.add y n).enc)
    (fun W W' hb h => ⟨h.1.below hb h.1.lt, h.2.1.below hb h.2.1.lt, h.2.2.trans (hb.mono h.2.2.size)⟩) ?hSp ⟨ho.drew, hn.drew, (Below.refl _ _).drew⟩ ?hop ?hlast
  case hSp =>
    intro i v W W' hi hb h
    have hm : ∀ z : Int, (∃ bb, v = .slice (some ⟨bb, 0, none⟩) 2 2 ∧ Blk W bb #[.int .i64 y, .int .i64 z] 3) → (∃ bb, v = .slice (some ⟨bb, 0, none⟩) 2 2 ∧ Blk W' bb #[.int .i64 y, .int .i64 z] 3) := fun z ⟨bb, h1, h2⟩ => ⟨bb, h1, h2.below hb h2.lt⟩
    rcases (show i = 5 ∨ i = 13 ∨ i = 21 ∨ (i ≠ 5 ∧ i ≠ 13 ∧ i ≠ 21) by omega) with rfl | rfl | rfl | ⟨n1, n2, n3⟩
    · exact hm _ h
    · exact hm _ h
    · exact hm _ h
    · match i, h with
      | 0, h | 1, h | 2, h | 3, h | 4, h | 6, h | 7, h | 8, h | 9, h | 10, h | 11, h | 12, h | 14, h | 15, h | 16, h | 17, h | 18, h | 19, h | 20, h | 22, h | 23, h => exact h
      | 5, _ => exact absurd rfl n1
      | 13, _ => exact absurd rfl n2
      | 21, _ => exact absurd rfl n3
      | _ + 24, h => exact h
  case hop =>
    intro i a W hi hN hfix hBW hdep
    have f7 : a.tmps.getD 7 undef = .pointer (some ⟨Bo, 0, none⟩) := (hfix 7 (fun j _ => by omega)).trans f7
    have f10 : a.tmps.getD 10 undef = .int .i64 y := (hfix 10 (fun j _ => by omega)).trans f10
    have f13 : a.tmps.getD 13 undef = .pointer (some ⟨Bn, 0, none⟩) := (hfix 13 (fun j _ => by omega)).trans f13
    have e0 : ∀ x, a.eval (.tmp x) = a.tmps.getD x undef := fun _ => rfl
    have g0 : W.cell? ⟨Bo, 0, none⟩ = some (.int .i64 o.accepts) := hBW.1.cell 0
    have g1 : W.cell? ⟨Bo, 1, none⟩ = some (.int .i64 o.pieces) := hBW.1.cell 1
    have g2 : W.cell? ⟨Bo, 2, none⟩ = some (.int .i64 o.draws) := hBW.1.cell 2
    have g3 : W.cell? ⟨Bn, 0, none⟩ = some (.int .i64 n.accepts) := hBW.2.1.cell 0
    have g4 : W.cell? ⟨Bn, 1, none⟩ = some (.int .i64 n.pieces) := hBW.2.1.cell 1
    have g5 : W.cell? ⟨Bn, 2, none⟩ = some (.int .i64 n.draws) := hBW.2.1.cell 2
    match i, hN, hi, hdep with
    | 0, _, _, hdep =>
      refine OpOk.val (v := .pointer (some ⟨Bo, 0, none⟩)) (w' := W) ?_ ⟨Below.refl _ _, rfl⟩
      show (execOp a.eval { dst := some 84, op := Op.fieldAddr 84 (.tmp 7) 0, type := _, pos := _, after := _, guard := none }).run Try.prog W = _
      simp only [execOp, List.map_toArray, List.map_cons, List.map_nil, e0, f7]
      go_simp
    | 1, _, _, hdep =>
      have d84 : a.tmps.getD 84 undef = .pointer (some ⟨Bo, 0, none⟩) := hdep 0 rfl
      refine OpOk.val (v := .int .i64 o.accepts) (w' := W) ?_ ⟨Below.refl _ _, rfl⟩
      show (execOp a.eval { dst := some 85, op := Op.load 3 (.tmp 84), type := _, pos := _, after := _, guard := none }).run Try.prog W = _
      simp only [execOp, List.map_toArray, List.map_cons, List.map_nil, e0, d84]
      go_simp
    | 2, _, _, hdep =>
      refine OpOk.val (v := .int .i64 y) (w' := W) ?_ ⟨Below.refl _ _, rfl⟩
      show (execOp a.eval { dst := some 86, op := Op.move (.tmp 10), type := _, pos := _, after := _, guard := none }).run Try.prog W = _
      simp only [execOp, List.map_toArray, List.map_cons, List.map_nil, e0, f10]
      go_simp
    | 3, _, _, hdep =>
      refine OpOk.val (v := .pointer (some ⟨Bn, 0, none⟩)) (w' := W) ?_ ⟨Below.refl _ _, rfl⟩
      show (execOp a.eval { dst := some 87, op := Op.fieldAddr 84 (.tmp 13) 0, type := _, pos := _, after := _, guard := none }).run Try.prog W = _
      simp only [execOp, List.map_toArray, List.map_cons, List.map_nil, e0, f13]
      go_simp
    | 4, _, _, hdep =>
      have d87 : a.tmps.getD 87 undef = .pointer (some ⟨Bn, 0, none⟩) := hdep 3 rfl
      refine OpOk.val (v := .int .i64 n.accepts) (w' := W) ?_ ⟨Below.refl _ _, rfl⟩
      show (execOp a.eval { dst := some 88, op := Op.load 3 (.tmp 87), type := _, pos := _, after := _, guard := none }).run Try.prog W = _
      simp only [execOp, List.map_toArray, List.map_cons, List.map_nil, e0, d87]
      go_simp
    | 5, _, _, hdep =>
      have d86 : a.tmps.getD 86 undef = .int .i64 y := hdep 2 rfl
      have d88 : a.tmps.getD 88 undef = .int .i64 n.accepts := hdep 4 rfl
      refine OpOk.val (v := .slice (some ⟨W.heap.size, 0, none⟩) 2 2) (w' := W.alloc (.cells #[.int .i64 y, .int .i64 n.accepts] 3)) ?_ ⟨(Below.refl _ _).alloc (Nat.le_refl _) _, W.heap.size, rfl, Blk.new _ _ _⟩
      show (execOp a.eval { dst := some 89, op := Op.buildSlice 53 2 #[(0, (.tmp 86)), (1, (.tmp 88))], type := _, pos := _, after := _, guard := none }).run Try.prog W = _
      simp only [execOp, List.map_toArray, List.map_cons, List.map_nil, e0, d86, d88]
      go_simp
    | 6, _, _, hdep =>
      obtain ⟨bb, d89, hbb⟩ : ∃ bb, a.tmps.getD 89 undef = .slice (some ⟨bb, 0, none⟩) 2 2 ∧ Blk W bb #[.int .i64 y, .int .i64 n.accepts] 3 := hdep 5 rfl
      refine OpOk.call (f := 55) (args := #[.slice (some ⟨bb, 0, none⟩) 2 2]) (w1 := W) ?_ ((times_any bb y n.accepts W (hbb.cell 0) (hbb.cell 1)).mono ?_)
      · show (execOp a.eval { dst := some 90, op := Op.call { callee := .value (.func 55), args := #[(.tmp 89)], argTypes := #[53] }, type := _, pos := _, after := _, guard := none }).run Try.prog W = _
        have e55 : ∀ args w, (callFunc 55 args).run Try.prog w = .ok (.enter 55 args) w := enters_of Try.func55 (by kernel_rfl) rfl
        simp only [execOp, List.map_toArray, List.map_cons, List.map_nil, e0, d89]
        go_simp
      · rintro e w' ⟨rfl, rfl⟩
        exact ⟨_, rfl, Below.refl _ _, rfl⟩
    | 7, _, _, hdep =>
      have d85 : a.tmps.getD 85 undef = .int .i64 o.accepts := hdep 1 rfl
      have d90 : a.tmps.getD 90 undef = .int .i64 (wrap64 (y * n.accepts)) := hdep 6 rfl
      refine OpOk.val (v := .int .i64 (o.add y n).accepts) (w' := W) ?_ ⟨Below.refl _ _, rfl⟩
      show (execOp a.eval { dst := some 91, op := Op.binOp BinOp.add 3 (.tmp 85) (.tmp 90) 3, type := _, pos := _, after := _, guard := none }).run Try.prog W = _
      simp only [execOp, List.map_toArray, List.map_cons, List.map_nil, e0, d85, d90]
      go_simp
      all_goals (first | rfl | assumption | exact Go.IntWalk.i64_left _)
    | 8, _, _, hdep =>
      refine OpOk.val (v := .pointer (some ⟨Bo, 1, none⟩)) (w' := W) ?_ ⟨Below.refl _ _, rfl⟩
      show (execOp a.eval { dst := some 92, op := Op.fieldAddr 84 (.tmp 7) 1, type := _, pos := _, after := _, guard := none }).run Try.prog W = _
      simp only [execOp, List.map_toArray, List.map_cons, List.map_nil, e0, f7]
      go_simp
    | 9, _, _, hdep =>
      have d92 : a.tmps.getD 92 undef = .pointer (some ⟨Bo, 1, none⟩) := hdep 8 rfl
      refine OpOk.val (v := .int .i64 o.pieces) (w' := W) ?_ ⟨Below.refl _ _, rfl⟩
      show (execOp a.eval { dst := some 93, op := Op.load 3 (.tmp 92), type := _, pos := _, after := _, guard := none }).run Try.prog W = _
      simp only [execOp, List.map_toArray, List.map_cons, List.map_nil, e0, d92]
      go_simp
    | 10, _, _, hdep =>
      refine OpOk.val (v := .int .i64 y) (w' := W) ?_ ⟨Below.refl _ _, rfl⟩
      show (execOp a.eval { dst := some 94, op := Op.move (.tmp 10), type := _, pos := _, after := _, guard := none }).run Try.prog W = _
      simp only [execOp, List.map_toArray, List.map_cons, List.map_nil, e0, f10]
      go_simp
    | 11, _, _, hdep =>
      refine OpOk.val (v := .pointer (some ⟨Bn, 1, none⟩)) (w' := W) ?_ ⟨Below.refl _ _, rfl⟩
      show (execOp a.eval { dst := some 95, op := Op.fieldAddr 84 (.tmp 13) 1, type := _, pos := _, after := _, guard := none }).run Try.prog W = _
      simp only [execOp, List.map_toArray, List.map_cons, List.map_nil, e0, f13]
      go_simp
    | 12, _, _, hdep =>
      have d95 : a.tmps.getD 95 undef = .pointer (some ⟨Bn, 1, none⟩) := hdep 11 rfl
      refine OpOk.val (v := .int .i64 n.pieces) (w' := W) ?_ ⟨Below.refl _ _, rfl⟩
      show (execOp a.eval { dst := some 96, op := Op.load 3 (.tmp 95), type := _, pos := _, after := _, guard := none }).run Try.prog W = _
      simp only [execOp, List.map_toArray, List.map_cons, List.map_nil, e0, d95]
      go_simp
    | 13, _, _, hdep =>
      have d94 : a.tmps.getD 94 undef = .int .i64 y := hdep 10 rfl
      have d96 : a.tmps.getD 96 undef = .int .i64 n.pieces := hdep 12 rfl
      refine OpOk.val (v := .slice (some ⟨W.heap.size, 0, none⟩) 2 2) (w' := W.alloc (.cells #[.int .i64 y, .int .i64 n.pieces] 3)) ?_ ⟨(Below.refl _ _).alloc (Nat.le_refl _) _, W.heap.size, rfl, Blk.new _ _ _⟩
      show (execOp a.eval { dst := some 97, op := Op.buildSlice 53 2 #[(0, (.tmp 94)), (1, (.tmp 96))], type := _, pos := _, after := _, guard := none }).run Try.prog W = _
      simp only [execOp, List.map_toArray, List.map_cons, List.map_nil, e0, d94, d96]
      go_simp
    | 14, _, _, hdep =>
      obtain ⟨bb, d97, hbb⟩ : ∃ bb, a.tmps.getD 97 undef = .slice (some ⟨bb, 0, none⟩) 2 2 ∧ Blk W bb #[.int .i64 y, .int .i64 n.pieces] 3 := hdep 13 rfl
      refine OpOk.call (f := 55) (args := #[.slice (some ⟨bb, 0, none⟩) 2 2]) (w1 := W) ?_ ((times_any bb y n.pieces W (hbb.cell 0) (hbb.cell 1)).mono ?_)
      · show (execOp a.eval { dst := some 98, op := Op.call { callee := .value (.func 55), args := #[(.tmp 97)], argTypes := #[53] }, type := _, pos := _, after := _, guard := none }).run Try.prog W = _
        have e55 : ∀ args w, (callFunc 55 args).run Try.prog w = .ok (.enter 55 args) w := enters_of Try.func55 (by kernel_rfl) rfl
        simp only [execOp, List.map_toArray, List.map_cons, List.map_nil, e0, d97]
        go_simp
      · rintro e w' ⟨rfl, rfl⟩
        exact ⟨_, rfl, Below.refl _ _, rfl⟩
    | 15, _, _, hdep =>
      have d93 : a.tmps.getD 93 undef = .int .i64 o.pieces := hdep 9 rfl
      have d98 : a.tmps.getD 98 undef = .int .i64 (wrap64 (y * n.pieces)) := hdep 14 rfl
      refine OpOk.val (v := .int .i64 (o.add y n).pieces) (w' := W) ?_ ⟨Below.refl _ _, rfl⟩
      show (execOp a.eval { dst := some 99, op := Op.binOp BinOp.add 3 (.tmp 93) (.tmp 98) 3, type := _, pos := _, after := _, guard := none }).run Try.prog W = _
      simp only [execOp, List.map_toArray, List.map_cons, List.map_nil, e0, d93, d98]
      go_simp
      all_goals (first | rfl | assumption | exact Go.IntWalk.i64_left _)
    | 16, _, _, hdep =>
      refine OpOk.val (v := .pointer (some ⟨Bo, 2, none⟩)) (w' := W) ?_ ⟨Below.refl _ _, rfl⟩
      show (execOp a.eval { dst := some 100, op := Op.fieldAddr 84 (.tmp 7) 2, type := _, pos := _, after := _, guard := none }).run Try.prog W = _
      simp only [execOp, List.map_toArray, List.map_cons, List.map_nil, e0, f7]
      go_simp
    | 17, _, _, hdep =>
      have d100 : a.tmps.getD 100 undef = .pointer (some ⟨Bo, 2, none⟩) := hdep 16 rfl
      refine OpOk.val (v := .int .i64 o.draws) (w' := W) ?_ ⟨Below.refl _ _, rfl⟩
      show (execOp a.eval { dst := some 101, op := Op.load 3 (.tmp 100), type := _, pos := _, after := _, guard := none }).run Try.prog W = _
      simp only [execOp, List.map_toArray, List.map_cons, List.map_nil, e0, d100]
      go_simp
    | 18, _, _, hdep =>
      refine OpOk.val (v := .int .i64 y) (w' := W) ?_ ⟨Below.refl _ _, rfl⟩
      show (execOp a.eval { dst := some 102, op := Op.move (.tmp 10), type := _, pos := _, after := _, guard := none }).run Try.prog W = _
      simp only [execOp, List.map_toArray, List.map_cons, List.map_nil, e0, f10]
      go_simp
    | 19, _, _, hdep =>
      refine OpOk.val (v := .pointer (some ⟨Bn, 2, none⟩)) (w' := W) ?_ ⟨Below.refl _ _, rfl⟩
      show (execOp a.eval { dst := some 103, op := Op.fieldAddr 84 (.tmp 13) 2, type := _, pos := _, after := _, guard := none }).run Try.prog W = _
      simp only [execOp, List.map_toArray, List.map_cons, List.map_nil, e0, f13]
      go_simp
    | 20, _, _, hdep =>
      have d103 : a.tmps.getD 103 undef = .pointer (some ⟨Bn, 2, none⟩) := hdep 19 rfl
      refine OpOk.val (v := .int .i64 n.draws) (w' := W) ?_ ⟨Below.refl _ _, rfl⟩
      show (execOp a.eval { dst := some 104, op := Op.load 3 (.tmp 103), type := _, pos := _, after := _, guard := none }).run Try.prog W = _
      simp only [execOp, List.map_toArray, List.map_cons, List.map_nil, e0, d103]
      go_simp
    | 21, _, _, hdep =>
      have d102 : a.tmps.getD 102 undef = .int .i64 y := hdep 18 rfl
      have d104 : a.tmps.getD 104 undef = .int .i64 n.draws := hdep 20 rfl
      refine OpOk.val (v := .slice (some ⟨W.heap.size, 0, none⟩) 2 2) (w' := W.alloc (.cells #[.int .i64 y, .int .i64 n.draws] 3)) ?_ ⟨(Below.refl _ _).alloc (Nat.le_refl _) _, W.heap.size, rfl, Blk.new _ _ _⟩
      show (execOp a.eval { dst := some 105, op := Op.buildSlice 53 2 #[(0, (.tmp 102)), (1, (.tmp 104))], type := _, pos := _, after := _, guard := none }).run Try.prog W = _
      simp only [execOp, List.map_toArray, List.map_cons, List.map_nil, e0, d102, d104]
      go_simp
    | 22, _, _, hdep =>
      obtain ⟨bb, d105, hbb⟩ : ∃ bb, a.tmps.getD 105 undef = .slice (some ⟨bb, 0, none⟩) 2 2 ∧ Blk W bb #[.int .i64 y, .int .i64 n.draws] 3 := hdep 21 rfl
      refine OpOk.call (f := 55) (args := #[.slice (some ⟨bb, 0, none⟩) 2 2]) (w1 := W) ?_ ((times_any bb y n.draws W (hbb.cell 0) (hbb.cell 1)).mono ?_)
      · show (execOp a.eval { dst := some 106, op := Op.call { callee := .value (.func 55), args := #[(.tmp 105)], argTypes := #[53] }, type := _, pos := _, after := _, guard := none }).run Try.prog W = _
        have e55 : ∀ args w, (callFunc 55 args).run Try.prog w = .ok (.enter 55 args) w := enters_of Try.func55 (by kernel_rfl) rfl
        simp only [execOp, List.map_toArray, List.map_cons, List.map_nil, e0, d105]
        go_simp
      · rintro e w' ⟨rfl, rfl⟩
        exact ⟨_, rfl, Below.refl _ _, rfl⟩
    | 23, _, _, hdep =>
      have d101 : a.tmps.getD 101 undef = .int .i64 o.draws := hdep 17 rfl
      have d106 : a.tmps.getD 106 undef = .int .i64 (wrap64 (y * n.draws)) := hdep 22 rfl
      refine OpOk.val (v := .int .i64 (o.add y n).draws) (w' := W) ?_ ⟨Below.refl _ _, rfl⟩
      show (execOp a.eval { dst := some 107, op := Op.binOp BinOp.add 3 (.tmp 101) (.tmp 106) 3, type := _, pos := _, after := _, guard := none }).run Try.prog W = _
      simp only [execOp, List.map_toArray, List.map_cons, List.map_nil, e0, d101, d106]
      go_simp
      all_goals (first | rfl | assumption | exact Go.IntWalk.i64_left _)
    | 24, _, _, hdep =>
      have d91 : a.tmps.getD 91 undef = .int .i64 (o.add y n).accepts := hdep 7 rfl
      have d99 : a.tmps.getD 99 undef = .int .i64 (o.add y n).pieces := hdep 15 rfl
      have d107 : a.tmps.getD 107 undef = .int .i64 (o.add y n).draws := hdep 23 rfl
      refine OpOk.val (v := (o.add y n).enc) (w' := W) ?_ ⟨Below.refl _ _, rfl⟩
      show (execOp a.eval { dst := some 108, op := Op.build 84 #[(0, (.tmp 91)), (1, (.tmp 99)), (2, (.tmp 107))], type := _, pos := _, after := _, guard := none }).run Try.prog W = _
      simp only [execOp, List.map_toArray, List.map_cons, List.map_nil, e0, d91, d99, d107]
      go_simp
      all_goals (first | rfl | assumption | exact Go.IntWalk.i64_left _)
    | kk + 25, h, _, _ => exact absurd h (by omega)
  case hlast =>
    intro a W e1 e2 hfix hBW hall
    have f7 : a.tmps.getD 7 undef = .pointer (some ⟨Bo, 0, none⟩) := (hfix 7 (fun j _ => by omega)).trans f7
    have d : a.tmps.getD 108 undef = (o.add y n).enc := hall 24 (by omega)
    have e0 : ∀ x, a.eval (.tmp x) = a.tmps.getD x undef := fun _ => rfl
    have g0 : W.cell? ⟨Bo, 0, none⟩ = some (.int .i64 o.accepts) := hBW.1.cell 0
    have g1 : W.cell? ⟨Bo, 1, none⟩ = some (.int .i64 o.pieces) := hBW.1.cell 1
    have g2 : W.cell? ⟨Bo, 2, none⟩ = some (.int .i64 o.draws) := hBW.1.cell 2
    have z0 : W.frozen? ⟨Bo, 0, none⟩ = false := hBW.1.frozen 0
    have z1 : W.frozen? ⟨Bo, 1, none⟩ = false := hBW.1.frozen 1
    have z2 : W.frozen? ⟨Bo, 2, none⟩ = false := hBW.1.frozen 2
    generalize hr : o.add y n = r at d hQ
    obtain ⟨ra, rp, rd'⟩ := r
    refine OpOk.skip (w' := ((W.setCell ⟨Bo, 0, none⟩ (.int .i64 ra)).setCell ⟨Bo, 1, none⟩ (.int .i64 rp)).setCell ⟨Bo, 2, none⟩ (.int .i64 rd')) ?_ ?_
    · show (execOp a.eval { dst := none, op := Op.store 84 (.tmp 7) (.tmp 108), type := _, pos := _, after := _, guard := none }).run Try.prog W = _
      unfold Cnt.enc at d
      simp only [execOp, e0, f7, d]
      go_simp
    · refine hQ _ _ ?_ (((hBW.1.set 0 _).set 1 _).set 2 _)
      exact (((Chg.below hBW.2.2 (fun k => k = Bo)).setCell (.inl rfl) _).setCell (.inl rfl) _).setCell (.inl rfl) _

end Go.Proofs.Ytigpnafpdmdmhaa.Hand

namespace Go.Proofs.Ytigpnafpdmdmhaa.Hand
open Go.RowKit Go.Shelf

set_option maxHeartbeats 4000000 in
set_option maxRecDepth 10000 in
theorem upd_region (rd : Option Nat) (Bx Bw Bs Bo m i t b : Nat) (c : Cnt) (es es2 : Array MapEntry) (clock clock2 : Nat) (a0 : Act) (w0 : World) (Q : Exit → Act → World → Prop) (hsz : a0.tmps.size = 116)
    (f1 : a0.tmps.getD 1 undef = .pointer (some ⟨Bx, 0, none⟩)) (f3 : a0.tmps.getD 3 undef = .pointer (some ⟨Bs, 0, none⟩)) (f7 : a0.tmps.getD 7 undef = .pointer (some ⟨Bo, 0, none⟩))
    (e0 : w0.cell? ⟨Bx, 0, none⟩ = some (.pointer (some ⟨Bw, 0, none⟩))) (e1 : w0.cell? ⟨Bw, 964, none⟩ = some (.map (some m)))
    (hs : Blk w0 Bs #[.int .i64 i, .int .i64 t, .int .i64 b] 111) (ho : Blk w0 Bo c.cells 84) (hm : w0.heap[m]? = some (.map es clock))
    (hU : ∀ (W : World), W.heap[m]? = some (.map es clock) → (Instr.mapUpdate 106 (.map (some m)) (keyV i t b) c.enc).run Try.prog W = .ok () (W.putObj m (.map es2 clock2)))
    (hQ : ∀ (a : Act) (W : World), a.defers = a0.defers → a.tmps.size = 116 → a.tmps.getD 4 undef = a0.tmps.getD 4 undef → a.tmps.getD 7 undef = .pointer (some ⟨Bo, 0, none⟩) → Chg (fun k => k = m) w0 W → Blk W Bo c.cells 84 → W.heap[m]? = some (.map es2 clock2) → Q .normal a W) :
    (Code.region 19 (opsOf Try.f62 19) true).wpIn { Fence.wide with round := rd } 0 Try.prog Q a0 w0 := by
  refine region_walk (rd := rd) 6 (fun i => i + 109) (by kernel_rfl) (by kernel_rfl) (by rw [hsz]; kernel_rfl)
    (fun W => Blk W Bs #[.int .i64 i, .int .i64 t, .int .i64 b] 111 ∧ Blk W Bo c.cells 84 ∧ W.heap[m]? = some (.map es clock) ∧ Below w0.heap.size w0 W)
    (fun i' v W => match i' with
      | 0 => v = .pointer (some ⟨Bw, 0, none⟩)
      | 1 => v = .pointer (some ⟨Bw, 0, none⟩)
      | 2 => v = .pointer (some ⟨Bw, 964, none⟩)
      | 3 => v = .map (some m)
      | 4 => v = keyV i t b
      | _ => v = c.enc)
    (fun W W' hb h => ⟨h.1.below hb h.1.lt, h.2.1.below hb h.2.1.lt, (hb.block m (Array.getElem?_eq_some_iff.1 h.2.2.1).1).trans h.2.2.1, h.2.2.2.trans (hb.mono h.2.2.2.size)⟩) ?hSp ⟨hs.drew, ho.drew, hm, (Below.refl _ _).drew⟩ ?hop ?hlast
  case hSp =>
    intro i' v W W' hi hb h
    match i', h with
    | 0, h | 1, h | 2, h | 3, h | 4, h => exact h
    | _ + 5, h => exact h
  case hop =>
    intro i' a W hi hN hfix hBW hdep
    have f1 : a.tmps.getD 1 undef = .pointer (some ⟨Bx, 0, none⟩) := (hfix 1 (fun j _ => by omega)).trans f1
    have f3 : a.tmps.getD 3 undef = .pointer (some ⟨Bs, 0, none⟩) := (hfix 3 (fun j _ => by omega)).trans f3
    have f7 : a.tmps.getD 7 undef = .pointer (some ⟨Bo, 0, none⟩) := (hfix 7 (fun j _ => by omega)).trans f7
    have g0 : W.cell? ⟨Bx, 0, none⟩ = some (.pointer (some ⟨Bw, 0, none⟩)) := held_cell e0 hBW.2.2.2
    have g1 : W.cell? ⟨Bw, 964, none⟩ = some (.map (some m)) := held_cell e1 hBW.2.2.2
    have g2 : W.cell? ⟨Bs, 0, none⟩ = some (.int .i64 i) := hBW.1.cell 0
    have g3 : W.cell? ⟨Bs, 1, none⟩ = some (.int .i64 t) := hBW.1.cell 1
    have g4 : W.cell? ⟨Bs, 2, none⟩ = some (.int .i64 b) := hBW.1.cell 2
    have g5 : W.cell? ⟨Bo, 0, none⟩ = some (.int .i64 c.accepts) := hBW.2.1.cell 0
    have g6 : W.cell? ⟨Bo, 1, none⟩ = some (.int .i64 c.pieces) := hBW.2.1.cell 1
    have g7 : W.cell? ⟨Bo, 2, none⟩ = some (.int .i64 c.draws) := hBW.2.1.cell 2
    have e0 : ∀ x, a.eval (.tmp x) = a.tmps.getD x undef := fun _ => rfl
    clear hU hQ
    match i', hN, hi, hdep with
    | 0, _, _, hdep =>
      refine OpOk.val (v := .pointer (some ⟨Bw, 0, none⟩)) (w' := W) ?_ ⟨Below.refl _ _, rfl⟩
      show (execOp a.eval { dst := some 109, op := Op.load 94 (.tmp 1), type := _, pos := _, after := _, guard := none }).run Try.prog W = _
      simp only [execOp, List.map_toArray, List.map_cons, List.map_nil, e0, f1]
      go_simp
      all_goals rfl
    | 1, _, _, hdep =>
      have d109 : a.tmps.getD 109 undef = .pointer (some ⟨Bw, 0, none⟩) := hdep 0 rfl
      refine OpOk.val (v := .pointer (some ⟨Bw, 0, none⟩)) (w' := W) ?_ ⟨Below.refl _ _, rfl⟩
      show (execOp a.eval { dst := some 110, op := Op.nilCheck (.tmp 109), type := _, pos := _, after := _, guard := none }).run Try.prog W = _
      simp only [execOp, List.map_toArray, List.map_cons, List.map_nil, e0, d109]
      go_simp
      all_goals rfl
    | 2, _, _, hdep =>
      have d110 : a.tmps.getD 110 undef = .pointer (some ⟨Bw, 0, none⟩) := hdep 1 rfl
      refine OpOk.val (v := .pointer (some ⟨Bw, 964, none⟩)) (w' := W) ?_ ⟨Below.refl _ _, rfl⟩
      show (execOp a.eval { dst := some 111, op := Op.fieldAddr 108 (.tmp 110) 3, type := _, pos := _, after := _, guard := none }).run Try.prog W = _
      simp only [execOp, List.map_toArray, List.map_cons, List.map_nil, e0, d110]
      go_simp
      all_goals rfl
    | 3, _, _, hdep =>
      have d111 : a.tmps.getD 111 undef = .pointer (some ⟨Bw, 964, none⟩) := hdep 2 rfl
      refine OpOk.val (v := .map (some m)) (w' := W) ?_ ⟨Below.refl _ _, rfl⟩
      show (execOp a.eval { dst := some 112, op := Op.load 106 (.tmp 111), type := _, pos := _, after := _, guard := none }).run Try.prog W = _
      simp only [execOp, List.map_toArray, List.map_cons, List.map_nil, e0, d111]
      go_simp
      all_goals rfl
    | 4, _, _, hdep =>
      refine OpOk.val (v := keyV i t b) (w' := W) ?_ ⟨Below.refl _ _, rfl⟩
      show (execOp a.eval { dst := some 113, op := Op.load 111 (.tmp 3), type := _, pos := _, after := _, guard := none }).run Try.prog W = _
      simp only [execOp, List.map_toArray, List.map_cons, List.map_nil, e0, f3]
      go_simp
      all_goals rfl
    | 5, _, _, hdep =>
      refine OpOk.val (v := c.enc) (w' := W) ?_ ⟨Below.refl _ _, rfl⟩
      show (execOp a.eval { dst := some 114, op := Op.load 84 (.tmp 7), type := _, pos := _, after := _, guard := none }).run Try.prog W = _
      simp only [execOp, List.map_toArray, List.map_cons, List.map_nil, e0, f7]
      go_simp
      all_goals rfl
    | kk + 6, h, _, _ => exact absurd h (by omega)
  case hlast =>
    intro a W e1 e2 hfix hBW hall
    have d0 : a.tmps.getD 112 undef = .map (some m) := hall 3 (by omega)
    have d1 : a.tmps.getD 113 undef = keyV i t b := hall 4 (by omega)
    have d2 : a.tmps.getD 114 undef = c.enc := hall 5 (by omega)
    have e0 : ∀ x, a.eval (.tmp x) = a.tmps.getD x undef := fun _ => rfl
    refine OpOk.skip (w' := W.putObj m (.map es2 clock2)) ?_ ?_
    · show (execOp a.eval { dst := none, op := Op.mapUpdate 106 (.tmp 112) (.tmp 113) (.tmp 114), type := _, pos := _, after := _, guard := none }).run Try.prog W = _
      simp only [execOp, e0, d0, d1, d2, Sem.run_bind, hU W hBW.2.2.1, Result.andThen_ok, Sem.run_pure]
    · have hlt := (Array.getElem?_eq_some_iff.1 hBW.2.2.1).1
      refine hQ _ _ e1 (e2.trans hsz) (hfix 4 (fun j _ => by omega)) ((hfix 7 (fun j _ => by omega)).trans f7) ((Chg.below hBW.2.2.2 (fun k => k = m)).putObj (.inl rfl) _) ?_ (World.putObj_heap_same hlt)
      exact (World.putObj_heap_other (not_map hBW.2.2.1 hBW.2.1)).trans hBW.2.1

end Go.Proofs.Ytigpnafpdmdmhaa.Hand
