/- The program's own functions that the statements of this seat reach, and what each call of them comes to, for any arguments. -/
import Derived.Test.YtdagijgoegkphaaProg
import Derived.WalkKit
import Derived.KernelRfl
import Derived.Deep.LoopGhost
import Derived.Deep.QuietTactic
import Derived.BigQuiet
import Derived.Shelf.Abstract
import Derived.Laws.AppendOwn
import Derived.WalkLawsBesides
import Derived.RangeFuncNested
import Derived.Deep.Draws
import Derived.RangeFuncBound
import Derived.RangeFuncCalls
import Derived.RangeFuncLeaves
import Derived.OrdersIn
import Derived.TacticsIn
import Derived.Deep.CutRange
import Derived.WideLaws
import Derived.RangeFuncRecord
import Derived.Laws.OwnMore
import Derived.Deep.AppendLies
set_option linter.unusedVariables false
set_option linter.unusedSimpArgs false
namespace Go.Proofs.Ytdagijgoegkphaa.Hand
open Go.RowKit Go.Shelf
structure Aw (p : Prop) : Prop where
  out : p
def Blk (w : World) (b : Nat) (cs : Array Value) (t : Nat) : Prop := w.heap[b]? = some (.cells cs t (0, 0))
theorem Blk.lt {w : World} {b : Nat} {cs : Array Value} {t : Nat} (h : Blk w b cs t) : b < w.heap.size := (Array.getElem?_eq_some_iff.1 h).1
theorem Blk.cell {w : World} {b : Nat} {cs : Array Value} {t : Nat} (h : Blk w b cs t) (i : Nat) : w.cell? ⟨b, i, none⟩ = cs[i]? := by simp [World.cell?, show w.heap[b]? = _ from h]
theorem Blk.frozen {w : World} {b : Nat} {cs : Array Value} {t : Nat} (h : Blk w b cs t) (i : Nat) : w.frozen? ⟨b, i, none⟩ = false := by simp [World.frozen?, show w.heap[b]? = _ from h]
theorem Blk.new (w : World) (cs : Array Value) (t : Nat) : Blk (w.alloc (.cells cs t)) w.heap.size cs t := by
  show (w.heap.push _)[w.heap.size]? = _
  simp
theorem Blk.alloc {w : World} {b : Nat} {cs : Array Value} {t : Nat} (h : Blk w b cs t) (o : Obj) : Blk (w.alloc o) b cs t := (Below.heap_alloc w o b h.lt).trans h
theorem Blk.drew {w : World} {b : Nat} {cs : Array Value} {t : Nat} (h : Blk w b cs t) : Blk w.drew b cs t := h
theorem Blk.drewN {w : World} {b : Nat} {cs : Array Value} {t : Nat} (h : Blk w b cs t) (n : Nat) : Blk (w.drewN n) b cs t := h
theorem Blk.other {w : World} {b : Nat} {cs : Array Value} {t : Nat} (h : Blk w b cs t) {a : Addr} (hne : b ≠ a.block) (v : Value) : Blk (w.setCell a v) b cs t := (Below.heap_setCell w a v b hne).trans h
theorem Blk.set {w : World} {b : Nat} {cs : Array Value} {t : Nat} (h : Blk w b cs t) (i : Nat) (v : Value) : Blk (w.setCell ⟨b, i, none⟩ v) b (cs.setIfInBounds i v) t := by
  obtain ⟨hlt, hk⟩ := Array.getElem?_eq_some_iff.1 h
  show (w.heap.modify b _)[b]? = _
  rw [Array.getElem?_eq_getElem (by rw [Array.size_modify]; exact hlt), Array.getElem_modify_self, hk]
  rfl
theorem Blk.below {w W : World} {b : Nat} {cs : Array Value} {t : Nat} {B : Nat} (h : Blk w b cs t) (hb : Below B w W) (hlt : b < B) : Blk W b cs t := (hb.block b hlt).trans h
def setMany (cs : Array Value) : Nat → List Value → Array Value
  | _, [] => cs
  | o, v :: r => setMany (cs.setIfInBounds o v) (o + 1) r
theorem setMany_size : ∀ (vs : List Value) (cs : Array Value) (o : Nat), (setMany cs o vs).size = cs.size
  | [], _, _ => rfl
  | v :: r, cs, o => by rw [setMany, setMany_size r]; simp
theorem setMany_get : ∀ (vs : List Value) (cs : Array Value) (o i : Nat), i < cs.size → (setMany cs o vs)[i]? = if o ≤ i ∧ i < o + vs.length then vs[i - o]? else cs[i]?
  | [], cs, o, i, h => by simp [setMany, show ¬ (o ≤ i ∧ i < o) by omega]
  | v :: r, cs, o, i, h => by
    rw [setMany, setMany_get r _ _ _ (by simpa using h)]
    by_cases e : o = i
    · subst e
      rw [if_neg (by omega), if_pos (by simp)]
      simp [h]
    · by_cases l : o + 1 ≤ i ∧ i < o + 1 + r.length
      · rw [if_pos l, if_pos (by simp; omega)]
        obtain ⟨d, hd⟩ : ∃ d, i - o = d + 1 := ⟨i - o - 1, by omega⟩
        rw [hd, show i - (o + 1) = d by omega]
        rfl
      · rw [if_neg l, if_neg (by simp; omega)]
        simp [e]
theorem setMany_self (cs : Array Value) : setMany cs 0 cs.toList = cs := by
  apply Array.ext_getElem?
  intro i
  by_cases h : i < cs.size
  · rw [setMany_get _ _ _ _ h, if_pos (by simp [h])]
    simp
  · rw [Array.getElem?_eq_none (by rw [setMany_size]; omega), Array.getElem?_eq_none (by omega)]
theorem below_setCells {B b : Nat} (hb : B ≤ b) : ∀ (vs : List Value) {a w : World} (o : Nat), Below B a w → Below B a (w.setCells b o vs)
  | [], _, _, _, h => h
  | v :: r, _, _, o, h => below_setCells hb r (o + 1) (h.setCell (p := ⟨b, o, none⟩) hb v)
end Go.Proofs.Ytdagijgoegkphaa.Hand

namespace Go.Proofs.Ytdagijgoegkphaa.Hand
open Go.RowKit
structure Chg (X : Nat → Prop) (W W' : World) : Prop where
  os : W'.os = W.os
  tape : W'.tape = W.tape
  output : W'.output = W.output
  size : W.heap.size ≤ W'.heap.size
  block : ∀ k, k < W.heap.size → ¬ X k → W'.heap[k]? = W.heap[k]?
theorem Chg.refl (X : Nat → Prop) (W : World) : Chg X W W := ⟨rfl, rfl, rfl, Nat.le_refl _, fun _ _ _ => rfl⟩
theorem Chg.mono {X Y : Nat → Prop} {W W' : World} (h : Chg X W W') (hs : ∀ k, k < W.heap.size → X k → Y k) : Chg Y W W' :=
  ⟨h.os, h.tape, h.output, h.size, fun k hk hn => h.block k hk (fun hx => hn (hs k hk hx))⟩
theorem Chg.trans {X : Nat → Prop} {A B C : World} (h : Chg X A B) (g : Chg (fun k => X k ∨ A.heap.size ≤ k) B C) : Chg X A C :=
  ⟨g.os.trans h.os, g.tape.trans h.tape, g.output.trans h.output, Nat.le_trans h.size g.size, fun k hk hn =>
    (g.block k (Nat.lt_of_lt_of_le hk h.size) (fun hx => hx.elim hn (fun hl => Nat.lt_irrefl _ (Nat.lt_of_lt_of_le hk hl)))).trans (h.block k hk hn)⟩
theorem Chg.below {W W' : World} (h : Below W.heap.size W W') (X : Nat → Prop) : Chg X W W' := ⟨h.os, h.tape, h.output, h.size, fun k hk _ => h.block k hk⟩
theorem Chg.toBelow {X : Nat → Prop} {W W' : World} {B : Nat} (h : Chg X W W') (hB : B ≤ W.heap.size) (hX : ∀ k, X k → B ≤ k) : Below B W W' :=
  ⟨h.os, h.tape, h.output, h.size, fun k hk => h.block k (Nat.lt_of_lt_of_le hk hB) (fun hx => Nat.lt_irrefl _ (Nat.lt_of_lt_of_le hk (hX k hx)))⟩
theorem Chg.alloc {X : Nat → Prop} {A W : World} (h : Chg X A W) (o : Obj) : Chg X A (W.alloc o) :=
  h.trans ⟨rfl, rfl, rfl, by simp, fun k hk _ => Below.heap_alloc W o k hk⟩
theorem Chg.drew {X : Nat → Prop} {A W : World} (h : Chg X A W) : Chg X A W.drew := ⟨h.os, h.tape, h.output, h.size, h.block⟩
theorem Chg.drewN {X : Nat → Prop} {A W : World} (h : Chg X A W) (n : Nat) : Chg X A (W.drewN n) := ⟨h.os, h.tape, h.output, h.size, h.block⟩
theorem Chg.setCell {X : Nat → Prop} {A W : World} (h : Chg X A W) {p : Addr} (hp : X p.block ∨ A.heap.size ≤ p.block) (v : Value) : Chg X A (W.setCell p v) :=
  h.trans ⟨rfl, rfl, rfl, by simp [World.setCell], fun k _ hn => Below.heap_setCell W p v k (fun e => hn (e ▸ hp))⟩
theorem Chg.putObj {X : Nat → Prop} {A W : World} (h : Chg X A W) {r : Nat} (hr : X r ∨ A.heap.size ≤ r) (o : Obj) : Chg X A (W.putObj r o) :=
  h.trans ⟨rfl, rfl, rfl, by simp, fun k _ hn => World.putObj_heap_other (fun e => hn (e ▸ hr))⟩
theorem Chg.andBelow {X : Nat → Prop} {A W W' : World} (h : Chg X A W) (hb : Below W.heap.size W W') : Chg X A W' := h.trans (Chg.below hb _)
def Keep (X : Nat → Prop) (W W' : World) : Prop := W.heap.size ≤ W'.heap.size ∧ ∀ k, X k → k < W.heap.size → W'.heap[k]? = W.heap[k]?
theorem Keep.refl (X : Nat → Prop) (W : World) : Keep X W W := ⟨Nat.le_refl _, fun _ _ _ => rfl⟩
theorem Keep.trans {X : Nat → Prop} {A B C : World} (h : Keep X A B) (g : Keep X B C) : Keep X A C :=
  ⟨Nat.le_trans h.1 g.1, fun k hx hk => (g.2 k hx (Nat.lt_of_lt_of_le hk h.1)).trans (h.2 k hx hk)⟩
theorem Keep.mono {X Y : Nat → Prop} {A B : World} (h : Keep X A B) (hs : ∀ k, Y k → X k) : Keep Y A B := ⟨h.1, fun k hy hk => h.2 k (hs k hy) hk⟩
theorem Chg.keep {X Y : Nat → Prop} {W W' : World} (h : Chg X W W') (hd : ∀ k, Y k → k < W.heap.size → ¬ X k) : Keep Y W W' := ⟨h.size, fun k hy hk => h.block k hk (hd k hy hk)⟩
def Stab {α : Type} (J : (Nat → Prop) → List α → World → Prop) : Prop :=
  ∀ (X Y : Nat → Prop) (pre : List α) (W W' : World), J X pre W → Chg X W W' → (∀ k, Y k → X k ∨ W.heap.size ≤ k) → (∀ k, Y k → k < W'.heap.size) → J Y pre W'
def Rounds {α : Type} (P : Program) (l : Nat) (encs : α → Array Value) (R : Nat → Prop) (ok : List α → α → Prop) (J Jx : (Nat → Prop) → List α → World → Prop) : Prop :=
  ∀ (X : Nat → Prop) (pre : List α) (x : α) (W : World), J X pre W → ok pre x → (∀ k, X k → k < W.heap.size) →
    YieldAt Fence.wide 0 P l (encs x) W fun e W' => Keep (fun k => X k ∨ R k) W W' ∧
      ((e = .returned (.bool true) ∧ J X (pre ++ [x]) W') ∨ (e = .returned (.bool false) ∧ Jx X (pre ++ [x]) W'))
def rndPost {α : Type} (X R : Nat → Prop) (J : (Nat → Prop) → List α → World → Prop) (Jx : Code → (Nat → Prop) → List α → World → Prop) (xs : List α) (W : World) : Exit → Act → World → Prop
  | .normal, _, W' => Keep (fun k => X k ∨ R k) W W' ∧ J X xs W'
  | .ret, _, W' => Keep (fun k => X k ∨ R k) W W' ∧ Jx .ret X xs W'
  | .exit id, _, W' => Keep (fun k => X k ∨ R k) W W' ∧ Jx (.exit id) X xs W'
  | .goto t, _, W' => Keep (fun k => X k ∨ R k) W W' ∧ Jx (.goto t) X xs W'
  | .panic _, _, _ => False
  | .outgrown, _, _ => False
theorem range_law {P : Program} {α : Type} {g : Operand} {ps : Array Tmp} {assign body : Code} {Q : Exit → Act → World → Prop} {a : Act} {w : World}
    {gf : Nat} {lb : Array Value} (hg : a.eval g = .func (.func gf) #[] lb) (eg : ∀ args w, (callFunc gf args).run P w = .ok (.enter gf args) w)
    {encs : α → Array Value} {R : Nat → Prop} {ok : List α → α → Prop} {S Sp : List α → World → Prop}
    (hSS : ∀ xs W l o, w.heap.size ≤ l → S xs W → S xs (W.putObj l o)) (hSSp : ∀ xs W l o, w.heap.size ≤ l → Sp xs W → Sp xs (W.putObj l o))
    (J : (Nat → Prop) → List α → World → Prop) (Jx : Code → (Nat → Prop) → List α → World → Prop) (hJ : Stab J) (hJx : ∀ c, Stab (Jx c))
    (X0 : Nat → Prop) (hX0 : ∀ k, X0 k → k < w.heap.size) (hR : ∀ k, R k → k < w.heap.size) (h0 : J X0 [] w) (hps : ∀ x, (encs x).size = ps.size)
    (hseq : ∀ (l : Nat) (J' Jx' : (Nat → Prop) → List α → World → Prop) (W1 : World), Chg (fun _ => False) w W1 → Stab J' → Stab Jx' → Rounds P l encs R ok J' Jx' → J' X0 [] W1 →
      Calls P gf (#[.func (.yield l) #[] #[]] ++ lb) W1 fun e W' => (∃ v, e = .returned v) ∧ ((∃ xs, S xs W' ∧ J' X0 xs W') ∨ (∃ pre, Sp pre W' ∧ Jx' X0 pre W')))
    (Ja : (Nat → Prop) → List α → α → Act → World → Prop) (hJa : ∀ x a', Stab (fun X pre W => Ja X pre x a' W))
    (hassign : ∀ (l : Nat) (X : Nat → Prop) (pre : List α) (x : α) (W : World), J X pre W → ok pre x → (∀ k, X k → k < W.heap.size) →
      assign.wpIn (Fence.wide.inRound l) 0 P (Exit.then (fun a' W1 => Keep (fun k => X k ∨ R k) W W1 ∧ Ja X pre x a' W1) (fun _ _ _ => False)) { tmps := (ps.zip (encs x)).foldl (fun t (p, v) => t.setIfInBounds p v) a.tmps, defers := [] } W)
    (hbody : ∀ (l : Nat) (X : Nat → Prop) (pre : List α) (x : α) (a' : Act) (W : World), Ja X pre x a' W → ok pre x → (∀ k, X k → k < W.heap.size) →
      body.wpIn (Fence.wide.inRound l) 0 P (rndPost X R J Jx (pre ++ [x]) W) a' W)
    (hdone : ∀ (D : Nat) (xs : List α) (W : World), w.heap.size ≤ D → S xs W → J (fun k => X0 k ∨ k = D) xs W → W.heap[D]? = some (.deferred (some [])) → Q .normal { a with defers := { target := .collected D, args := #[] } :: a.defers } W)
    (hstop : ∀ (D : Nat) (c : Code) (pre : List α) (W : World), w.heap.size ≤ D → Sp pre W → Jx c (fun k => X0 k ∨ k = D) pre W → W.heap[D]? = some (.deferred (some [])) → c.wpIn Fence.wide 0 P Q { a with defers := { target := .collected D, args := #[] } :: a.defers } W) :
    (Code.rangeFunc g ps assign body).wpIn Fence.wide 0 P Q a w := by
  refine wpIn_rangeFunc ?_
  intro fn _
  rw [show Fence.wide.round = none from rfl]
  obtain ⟨rec, hrec⟩ : ∃ rec : LoopState → Option Code → Loop, rec = fun st pe => { state := st, pending := pe, fn, tmps := a.tmps, params := ps, assign, body, defers := w.heap.size } := ⟨_, rfl⟩
  obtain ⟨W1, hW1⟩ : ∃ W1, (w.alloc (.deferred (some []))).alloc (.loop (rec .ready none)) = W1 := ⟨_, rfl⟩
  have hL1 : W1.heap[w.heap.size + 1]? = some (.loop (rec .ready none)) := by
    rw [← hW1]; have := World.alloc_heap_new (w.alloc (.deferred (some []))) (.loop (rec .ready none)); rwa [World.size_alloc] at this
  have hK1 : W1.heap[w.heap.size]? = some (.deferred (some [])) := by
    rw [← hW1]; exact (Below.heap_alloc _ _ _ (by simp)).trans (World.alloc_heap_new w _)
  have hC1 : Chg (fun _ => False) w W1 := by rw [← hW1]; exact ((Chg.refl _ w).alloc _).alloc _
  have hs1 : W1.heap.size = w.heap.size + 2 := by rw [← hW1]; simp
  obtain ⟨D, hD⟩ : ∃ D, D = w.heap.size := ⟨_, rfl⟩
  obtain ⟨l, hl⟩ : ∃ l, l = w.heap.size + 1 := ⟨_, rfl⟩
  rw [← hl] at hL1
  rw [← hD] at hK1
  refine ⟨l, [{ target := .collected D, args := #[] }], W1, { target := .fn (.func gf) lb, args := #[.func (.yield l) #[] #[]] }, W1, gf,
    #[.func (.yield l) #[] #[]] ++ lb, W1, ?_, ?_, ?_, ?_, fun h => by simp [Fence.wide] at h, ?_⟩
  · rw [← hW1, hrec, hl, hD]; exact run_enterLoop_outer _ _ _ _ _
  · simp only [resolve, hg]
    simp [go_sem]
  · intro f' _; trivial
  · simp [invoke, go_sem, eg]
  · refine callsIn_wide.2 ?_
    have hI1 : J (fun k => X0 k ∨ (k = D ∨ k = l)) [] W1 := hJ X0 _ [] w W1 h0 (hC1.mono (fun _ _ h => h.elim))
      (fun k hk => by rcases hk with h | rfl | rfl; exact .inl h; exact .inr (Nat.le_of_eq hD.symm); exact .inr (by omega))
      (fun k hk => by rcases hk with h | rfl | rfl; exact Nat.lt_of_lt_of_le (hX0 k h) hC1.size; omega; omega)
    have hstab : ∀ (I : (Nat → Prop) → List α → World → Prop), Stab I → ∀ (st : LoopState) (pe : Option Code),
        Stab (fun X pre W => I (fun k => X k ∨ (k = D ∨ k = l)) pre W ∧ (¬ X D ∧ ¬ X l) ∧ W.heap[l]? = some (.loop (rec st pe)) ∧ W.heap[D]? = some (.deferred (some []))) := by
      intro I hI st pe X Y pre A B ⟨h1, h2, h3, h4⟩ hc hY hYl
      have hlA : l < A.heap.size := (Array.getElem?_eq_some_iff.1 h3).1
      have hDA : D < A.heap.size := (Array.getElem?_eq_some_iff.1 h4).1
      refine ⟨hI _ _ pre A B h1 (hc.mono (fun _ _ h => .inl h)) ?_ ?_, ⟨?_, ?_⟩, (hc.block l hlA h2.2).trans h3, (hc.block D hDA h2.1).trans h4⟩
      · rintro k (h | h)
        · rcases hY k h with h | h
          · exact .inl (.inl h)
          · exact .inr h
        · exact .inl (.inr h)
      · rintro k (h | rfl | rfl)
        · exact hYl k h
        · exact Nat.lt_of_lt_of_le hDA hc.size
        · exact Nat.lt_of_lt_of_le hlA hc.size
      · intro h; rcases hY D h with h | h
        · exact h2.1 h
        · omega
      · intro h; rcases hY l h with h | h
        · exact h2.2 h
        · omega
    refine (hseq l (fun X pre W => J (fun k => X k ∨ (k = D ∨ k = l)) pre W ∧ (¬ X D ∧ ¬ X l) ∧ W.heap[l]? = some (.loop (rec .ready none)) ∧ W.heap[D]? = some (.deferred (some [])))
      (fun X pre W => ∃ c, Jx c (fun k => X k ∨ (k = D ∨ k = l)) pre W ∧ (¬ X D ∧ ¬ X l) ∧ W.heap[l]? = some (.loop (rec .done (some c))) ∧ W.heap[D]? = some (.deferred (some [])))
      W1 hC1 (hstab J hJ _ _) ?_ ?_ ⟨hI1, ⟨fun h => by have := hX0 D h; omega, fun h => by have := hX0 l h; omega⟩, hL1, hK1⟩).mono ?_
    · rintro X Y pre A B ⟨c, h⟩ hc hY hYl
      exact ⟨c, hstab (Jx c) (hJx c) .done (some c) X Y pre A B h hc hY hYl⟩
    · rintro X pre x W ⟨hj, ⟨hnD, hnl⟩, hlW, hDW⟩ hok hXW
      have hlA : l < W.heap.size := (Array.getElem?_eq_some_iff.1 hlW).1
      have hDA : D < W.heap.size := (Array.getElem?_eq_some_iff.1 hDW).1
      have hy := run_yield (P := P) (args := encs x) hlW (by rw [hrec]; exact hps x)
      rw [hrec] at hy
      have hXW' : ∀ k, (X k ∨ (k = D ∨ k = l)) → k < W.heap.size := by rintro k (h | rfl | rfl); exact hXW k h; exact hDA; exact hlA
      refine ⟨fn, _, assign, body, hy, roundIn_of_wpIn (F := Fence.wide) trivial (wpIn_mono (hassign l _ pre x W hj hok hXW') ?_)⟩
      intro e a' Wa he
      cases e with
      | normal =>
        obtain ⟨hk1, ha⟩ := he
        have hla := (hk1.2 l (.inl (.inr (.inr rfl))) hlA).trans hlW
        have hDa := (hk1.2 D (.inl (.inr (.inl rfl))) hDA).trans hDW
        have hlA2 : l < Wa.heap.size := (Array.getElem?_eq_some_iff.1 hla).1
        have hDA2 : D < Wa.heap.size := (Array.getElem?_eq_some_iff.1 hDa).1
        have hXA : ∀ k, (X k ∨ (k = D ∨ k = l)) → k < Wa.heap.size := fun k hk => Nat.lt_of_lt_of_le (hXW' k hk) hk1.1
        refine ⟨_, run_beginRound hla (by rw [hrec]), ?_⟩
        have hb1 : Chg (fun k => X k ∨ (k = D ∨ k = l)) Wa (Wa.putObj l (.loop { rec .ready none with state := .busy })) := (Chg.refl _ _).putObj (.inl (.inr (.inr rfl))) _
        have hl2 : (Wa.putObj l (.loop { rec .ready none with state := .busy })).heap[l]? = some (.loop { rec .ready none with state := .busy }) := World.putObj_heap_same hlA2
        have hD2 : (Wa.putObj l (.loop { rec .ready none with state := .busy })).heap[D]? = some (.deferred (some [])) := (World.putObj_heap_other (by omega)).trans hDa
        have ha2 := hJa x a' _ _ pre Wa _ ha hb1 (fun k hk => .inl hk) (fun k hk => by rw [World.putObj_size]; exact hXA k hk)
        refine wpIn_mono (hbody l _ pre x a' _ ha2 hok (fun k hk => by rw [World.putObj_size]; exact hXA k hk)) ?_
        have hkA : Keep (fun k => X k ∨ R k) Wa (Wa.putObj l (.loop { rec .ready none with state := .busy })) := ⟨by simp, fun k hk _ => World.putObj_heap_other (by
          rintro rfl; rcases hk with h | h
          · exact hnl h
          · have := hR _ h; omega)⟩
        have fin : ∀ (jump : Option Code) (W3 : World), Keep (fun k => (X k ∨ (k = D ∨ k = l)) ∨ R k) (Wa.putObj l (.loop { rec .ready none with state := .busy })) W3 →
            (Instr.endRound l jump).run P W3 = .ok (.bool jump.isNone) (W3.putObj l (.loop (rec (if jump.isNone then .ready else .done) jump))) ∧
            Keep (fun k => X k ∨ R k) W (W3.putObj l (.loop (rec (if jump.isNone then .ready else .done) jump))) ∧
            (∀ k, (X k ∨ (k = D ∨ k = l)) → k < W3.heap.size) ∧
            (W3.putObj l (.loop (rec (if jump.isNone then .ready else .done) jump))).heap[l]? = some (.loop (rec (if jump.isNone then .ready else .done) jump)) ∧
            (W3.putObj l (.loop (rec (if jump.isNone then .ready else .done) jump))).heap[D]? = some (.deferred (some [])) := fun jump W3 hk3 => by
          have hl3 := (hk3.2 l (.inl (.inr (.inr rfl))) (by rw [World.putObj_size]; exact hlA2)).trans hl2
          have hD3 := (hk3.2 D (.inl (.inr (.inl rfl))) (by rw [World.putObj_size]; exact hDA2)).trans hD2
          have hlA3 : l < W3.heap.size := (Array.getElem?_eq_some_iff.1 hl3).1
          have := run_endRound (P := P) jump hl3
          rw [hrec] at this ⊢
          refine ⟨this, ?_, fun k hk => Nat.lt_of_lt_of_le (hXA k hk) (by have := hk3.1; rw [World.putObj_size] at this; exact this), World.putObj_heap_same hlA3, (World.putObj_heap_other (by omega)).trans hD3⟩
          refine (((hk1.mono (fun k hk => ?_)).trans hkA).trans (hk3.mono (fun k hk => ?_))).trans ⟨by simp, fun k hk _ => World.putObj_heap_other ?_⟩
          · rcases hk with h | h; exact .inl (.inl h); exact .inr h
          · rcases hk with h | h; exact .inl (.inl h); exact .inr h
          · rintro rfl; rcases hk with h | h
            · exact hnl h
            · have := hR _ h; omega
        have st : ∀ (I : (Nat → Prop) → List α → World → Prop), Stab I → ∀ (W3 : World) (o : Obj), (∀ k, (X k ∨ (k = D ∨ k = l)) → k < W3.heap.size) → I (fun k => X k ∨ (k = D ∨ k = l)) (pre ++ [x]) W3 → I (fun k => X k ∨ (k = D ∨ k = l)) (pre ++ [x]) (W3.putObj l o) :=
          fun I hI W3 o hs h => hI _ _ _ W3 _ h ((Chg.refl _ _).putObj (.inl (.inr (.inr rfl))) _) (fun k hk => .inl hk) (fun k hk => by rw [World.putObj_size]; exact hs k hk)
        rintro e a3 W3 hp
        cases e with
        | normal =>
          obtain ⟨hk3, hi3⟩ := hp
          obtain ⟨hr, hkk, hs3, hl4, hk4⟩ := fin none W3 hk3
          exact ⟨_, _, hr, hkk, .inl ⟨rfl, st J hJ W3 _ hs3 hi3, ⟨hnD, hnl⟩, hl4, hk4⟩⟩
        | ret =>
          obtain ⟨hk3, hi3⟩ := hp
          obtain ⟨hr, hkk, hs3, hl4, hk4⟩ := fin (some .ret) W3 hk3
          exact ⟨_, _, hr, hkk, .inr ⟨rfl, .ret, st _ (hJx _) W3 _ hs3 hi3, ⟨hnD, hnl⟩, hl4, hk4⟩⟩
        | exit id =>
          obtain ⟨hk3, hi3⟩ := hp
          obtain ⟨hr, hkk, hs3, hl4, hk4⟩ := fin (some (.exit id)) W3 hk3
          exact ⟨_, _, hr, hkk, .inr ⟨rfl, .exit id, st _ (hJx _) W3 _ hs3 hi3, ⟨hnD, hnl⟩, hl4, hk4⟩⟩
        | goto t =>
          obtain ⟨hk3, hi3⟩ := hp
          obtain ⟨hr, hkk, hs3, hl4, hk4⟩ := fin (some (.goto t)) W3 hk3
          exact ⟨_, _, hr, hkk, .inr ⟨rfl, .goto t, st _ (hJx _) W3 _ hs3 hi3, ⟨hnD, hnl⟩, hl4, hk4⟩⟩
        | panic ch => exact hp.elim
        | outgrown => exact hp.elim
      | ret => exact he.elim
      | exit id => exact he.elim
      | goto t => exact he.elim
      | panic ch => exact he.elim
      | outgrown => exact he.elim
    · rintro e W2 ⟨⟨v, rfl⟩, (⟨xs, hS, hi, _, hl2, hk2⟩ | ⟨pre, hSp, c, hi, _, hl2, hk2⟩)⟩
      · refine ⟨none, _, by have := run_endLoop (P := P) hl2 (by rw [hrec]; simp); rw [hrec] at this; exact this, hdone D xs _ (Nat.le_of_eq hD.symm) (hSS xs W2 l _ (by omega) hS) (hJ _ _ _ W2 _ hi ((Chg.refl _ _).putObj (.inl (.inr (.inr rfl))) _) ?_ ?_) ((World.putObj_heap_other (by omega)).trans hk2)⟩
        · rintro k (h | rfl); exact .inl (.inl h); exact .inl (.inr (.inl rfl))
        · rintro k (h | rfl)
          · rw [World.putObj_size]
            have := hX0 k h; have := (Array.getElem?_eq_some_iff.1 hk2).1; omega
          · rw [World.putObj_size]; exact (Array.getElem?_eq_some_iff.1 hk2).1
      · refine ⟨some c, _, by have := run_endLoop (P := P) hl2 (by rw [hrec]; simp); rw [hrec] at this; exact this, hstop D c pre _ (Nat.le_of_eq hD.symm) (hSSp pre W2 l _ (by omega) hSp) (hJx c _ _ _ W2 _ hi ((Chg.refl _ _).putObj (.inl (.inr (.inr rfl))) _) ?_ ?_) ((World.putObj_heap_other (by omega)).trans hk2)⟩
        · rintro k (h | rfl); exact .inl (.inl h); exact .inl (.inr (.inl rfl))
        · rintro k (h | rfl)
          · rw [World.putObj_size]
            have := hX0 k h; have := (Array.getElem?_eq_some_iff.1 hk2).1; omega
          · rw [World.putObj_size]; exact (Array.getElem?_eq_some_iff.1 hk2).1
end Go.Proofs.Ytdagijgoegkphaa.Hand

namespace Go.Proofs.Ytdagijgoegkphaa.Hand
open Go.RowKit
def OpOk (P : Program) (o : Oper) (a : Act) (w : World) (K : Value → World → Prop) : Prop :=
  (∃ v w', (execOp a.eval o).run P w = .ok (.value v) w' ∧ K v w') ∨
  (∃ w', (execOp a.eval o).run P w = .ok .skip w' ∧ K undef w') ∨
  (∃ f args w1, (execOp a.eval o).run P w = .ok (.enter f args) w1 ∧ Calls P f args w1 fun e w' => ∃ v, e = .returned v ∧ K v w') ∨
  (∃ l f tmps az bd w1, (execOp a.eval o).run P w = .ok (.round l f tmps az bd) w1 ∧ RoundIn Fence.wide 0 P l f tmps az bd w1 fun e w' => ∃ v, e = .returned v ∧ K v w')
theorem OpOk.mono {P : Program} {o : Oper} {a : Act} {w : World} {K K' : Value → World → Prop} (h : OpOk P o a w K) (hk : ∀ v w', K v w' → K' v w') : OpOk P o a w K' := by
  rcases h with ⟨v, w', h1, h2⟩ | ⟨w', h1, h2⟩ | ⟨f, args, w1, h1, h2⟩ | ⟨l, f, tmps, az, bd, w1, h1, h2⟩
  · exact .inl ⟨v, w', h1, hk _ _ h2⟩
  · exact .inr (.inl ⟨w', h1, hk _ _ h2⟩)
  · exact .inr (.inr (.inl ⟨f, args, w1, h1, h2.mono fun e w' ⟨v, he, h⟩ => ⟨v, he, hk _ _ h⟩⟩))
  · exact .inr (.inr (.inr ⟨l, f, tmps, az, bd, w1, h1, h2.mono fun e w' ⟨v, he, h⟩ => ⟨v, he, hk _ _ h⟩⟩))
theorem OpOk.wpOpIn {P : Program} {ops : Array Oper} {Q : Exit → Act → World → Prop} {i : Nat} {o : Oper} {a : Act} {w : World} {K : Act → World → Prop} {rd : Option Nat}
    (ho : ops[i]? = some o) (hg : o.guard = none) (hd : ∀ c, o.op ≠ .defer c) (h : OpOk P o a w fun v w' => K (a.put o.dst v) w') :
    wpOpIn { Fence.wide with round := rd } 0 P ops Q i K a w := by
  unfold Go.wpOpIn
  simp only [ho]
  have hw : Region.wanted o (yielded ops a.tmps) = true := by unfold Region.wanted; rw [hg]
  rw [if_pos hw]
  refine ⟨fun _ _ => trivial, ?_⟩
  have hs : o.semAt rd a.eval = execOp a.eval o := by
    cases rd with
    | none => rfl
    | some l => exact Oper.semAt_some l _ o hd
  show o.uponIn _ _ _ _ _ _ ((o.semAt rd a.eval).run P w)
  rw [hs]
  rcases h with ⟨v, w', h1, h2⟩ | ⟨w', h1, h2⟩ | ⟨f, args, w1, h1, h2⟩ | ⟨l, f, tmps, az, bd, w1, h1, h2⟩
  · rw [h1]; exact h2
  · rw [h1]; exact h2
  · rw [h1]
    refine ⟨fun h => by simp [Fence.wide] at h, ?_⟩
    have h3 : CallsIn { Fence.wide with round := rd } 0 P f args w1 (fun e w' => ∃ v, e = .returned v ∧ K (a.put o.dst v) w') := callsIn_wide.2 h2
    refine CallsIn.mono h3 ?_
    rintro e w' ⟨v, rfl, hk⟩
    exact hk
  · rw [h1]
    refine ⟨fun h => by simp [Fence.wide] at h, ?_⟩
    have h3 : RoundIn { Fence.wide with round := rd } 0 P l f tmps az bd w1 (fun e w' => ∃ v, e = .returned v ∧ K (a.put o.dst v) w') := h2
    refine RoundIn.mono h3 ?_
    rintro e w' ⟨v, rfl, hk⟩
    exact hk
def left (listed : Array Bool) : Nat := listed.toList.countP (fun b => !b)
theorem left_set {listed : Array Bool} {i : Nat} (h : listed.getD i true = false) : left (listed.setIfInBounds i true) + 1 = left listed := by
  have hi : i < listed.size := by
    rcases Nat.lt_or_ge i listed.size with h' | h'
    · exact h'
    · simp [Array.getElem?_eq_none h'] at h
  have hv : listed[i] = false := by simpa [hi] using h
  unfold left
  rw [Array.toList_setIfInBounds]
  have hl : i < listed.toList.length := by simpa using hi
  have key : ∀ (l : List Bool) (i : Nat) (h : i < l.length), l[i] = false → (l.set i true).countP (fun b => !b) + 1 = l.countP (fun b => !b) := by
    intro l
    induction l with
    | nil => intro i h; simp at h
    | cons b l ih =>
      intro i h hb
      cases i with
      | zero => simp at hb; subst hb; simp
      | succ i =>
        simp only [List.set_cons_succ, List.countP_cons]
        have := ih i (by simpa using h) (by simpa using hb)
        omega
  exact key _ i hl (by simpa using hv)
theorem left_zero {listed : Array Bool} (h : left listed = 0) (i : Nat) : listed.getD i true = true := by
  unfold left at h
  rw [List.countP_eq_zero] at h
  by_cases hi : i < listed.size
  · have := h listed[i] (by simp)
    simpa [hi] using this
  · simp [hi]
def acyc (ops : Array Oper) : Bool := (List.range ops.size).all fun i => match ops[i]? with | some o => o.after.all fun e => decide (e.on < i) | none => true
theorem acyc_spec {ops : Array Oper} (h : acyc ops = true) {i : Nat} {o : Oper} (ho : ops[i]? = some o) {e : Edge} (he : e ∈ o.after) : e.on < i := by
  have hi : i < ops.size := (Array.getElem?_eq_some_iff.1 ho).1
  have := List.all_eq_true.1 h i (List.mem_range.2 hi)
  simp only [ho] at this
  have h2 := Array.all_eq_true_iff_forall_mem.1 this e he
  simpa using h2
theorem ready_ne {ops : Array Oper} {md : Region.Mode} (h : acyc ops = true) {listed : Array Bool} (hs : listed.size = ops.size) (hr : Region.ready md ops listed = []) : ∀ i, i < ops.size → listed.getD i false = true := by
  intro i
  induction i using Nat.strongRecOn with
  | _ i ih =>
    intro hi
    by_cases hv : listed.getD i false = true
    · exact hv
    · have hm : i ∈ Region.ready md ops listed := by
        rw [mem_ready]
        refine ⟨?_, ops[i], by simp [hi], fun e he _ => ?_⟩
        · have hil : i < listed.size := by omega
          simp [hil] at hv ⊢
          exact hv
        · have hlt := acyc_spec h (i := i) (o := ops[i]) (by simp [hi]) he
          exact ih e.on hlt (by omega)
      rw [hr] at hm
      cases hm
theorem wpAnyIn_inv {F : Fence} {n : Nat} {P : Program} {ops : Array Oper} {Q : Exit → Act → World → Prop} (hac : acyc ops = true) (Inv : Array Bool → Act → World → Prop)
    (hstep : ∀ (listed : Array Bool) (a : Act) (w : World) (i : Nat) (o : Oper), Inv listed a w → listed.size = ops.size → ops[i]? = some o → listed.getD i true = false →
      (∀ e ∈ o.after, Region.binds .any e = true → listed.getD e.on false = true) → wpOpIn F n P ops Q i (fun a' w' => Inv (listed.setIfInBounds i true) a' w') a w)
    (hend : ∀ (listed : Array Bool) (a : Act) (w : World), Inv listed a w → (∀ i, i < ops.size → listed.getD i false = true) → Q .normal a w) :
    ∀ (fuel : Nat) (listed : Array Bool) (a : Act) (w : World), Inv listed a w → listed.size = ops.size → left listed ≤ fuel → wpAnyIn F n P .any ops Q fuel listed a w := by
  intro fuel
  induction fuel with
  | zero =>
    intro listed a w hI hs hl
    have hz := left_zero (Nat.le_zero.1 hl)
    have hr : Region.ready .any ops listed = [] := by
      cases h : Region.ready .any ops listed with
      | nil => rfl
      | cons j js =>
        have : j ∈ Region.ready .any ops listed := by rw [h]; simp
        have := (mem_ready.1 this).1
        rw [hz j] at this
        cases this
    exact ⟨hr, hend listed a w hI (ready_ne hac hs hr)⟩
  | succ fuel ih =>
    intro listed a w hI hs hl
    refine ⟨fun hr => hend listed a w hI (ready_ne hac hs hr), fun i hi => ?_⟩
    obtain ⟨h0, o, ho, hall⟩ := mem_ready.1 hi
    refine wpOpIn_mono (fun a' w' h' => ih _ a' w' h' (by simp [hs]) ?_) (hstep listed a w i o hI hs ho h0 hall)
    have := left_set h0
    omega
def anc (ops : Array Oper) : Nat → List Nat → List Nat
  | 0, f => f
  | i + 1, f => anc ops i (if f.contains i then (match ops[i]? with | some o => (o.after.toList.filter fun e => Region.binds .any e).map (·.on) ++ f | none => f) else f)
def lastOk (ops : Array Oper) (N : Nat) : Bool := decide (N < ops.size) && acyc ops && ((List.range N).all fun j => (anc ops (N + 1) [N]).contains j) &&
  (List.range ops.size).all fun i => decide (i < N) || (match ops[i]? with
    | some o => o.guard.isNone && (match o.op with | .defer _ => false | _ => true) && (decide (i = N) || o.after.toList.any fun e => Region.binds .any e && e.on + 1 == i)
    | none => false)
theorem anc_spec {ops : Array Oper} {listed : Array Bool} {N : Nat} (hcl : ∀ i o, i ≠ N → ops[i]? = some o → listed.getD i false = true → ∀ e ∈ o.after, Region.binds .any e = true → listed.getD e.on false = true)
    (hN : ∀ o, ops[N]? = some o → ∀ e ∈ o.after, Region.binds .any e = true → listed.getD e.on false = true) : ∀ (i : Nat) (f : List Nat), (∀ j ∈ f, j = N ∨ listed.getD j false = true) → ∀ j ∈ anc ops i f, j = N ∨ listed.getD j false = true := by
  intro i
  induction i with
  | zero => intro f hf; exact hf
  | succ i ih =>
    intro f hf
    unfold anc
    refine ih _ ?_
    by_cases hc : f.contains i = true
    · rw [if_pos hc]
      have hi := hf i (by simpa using hc)
      cases ho : ops[i]? with
      | none => exact hf
      | some o =>
        intro j hj
        simp only [List.mem_append, List.mem_map, List.mem_filter] at hj
        rcases hj with ⟨e, ⟨he, hb⟩, rfl⟩ | hj
        · by_cases e1 : i = N
          · subst e1; exact .inr (hN o ho e (by simpa using he) hb)
          · exact .inr (hcl i o e1 ho (hi.resolve_left e1) e (by simpa using he) hb)
        · exact hf j hj
    · rw [if_neg hc]; exact hf
def tailRun (P : Program) (Q : Exit → Act → World → Prop) : List Oper → Act → World → Prop
  | [], a, w => Q .normal a w
  | o :: r, a, w => OpOk P o a w fun v w' => tailRun P Q r (a.put o.dst v) w'
theorem region_spec {P : Program} {rd : Option Nat} {id : Nat} {ops : Array Oper} {Q : Exit → Act → World → Prop} {a0 : Act} {w0 : World} {N : Nat} (hm : P.follows .mixedOrders = true) (hl : lastOk ops N = true)
    (d : Nat → Nat) (hdst : ∀ i, i < N → ∃ o, ops[i]? = some o ∧ o.guard = none ∧ (∀ c, o.op ≠ .defer c) ∧ o.dst = some (d i) ∧ d i < a0.tmps.size) (hinj : ∀ i j, i < N → j < N → d i = d j → i = j)
    (B : World → Prop) (Sp : Nat → Value → World → Prop)
    (hB : ∀ w w', Below w.heap.size w w' → B w → B w') (hSp : ∀ i v w w', Below w.heap.size w w' → Sp i v w → Sp i v w')
    (hB0 : B w0.drew)
    (hop : ∀ (i : Nat) (o : Oper) (a : Act) (w : World), i < N → ops[i]? = some o → (∀ s, (∀ j, j < N → d j ≠ s) → a.tmps.getD s undef = a0.tmps.getD s undef) → B w →
      (∀ j, (o.after.toList.any fun e => Region.binds .any e && e.on == j) = true → Sp j (a.tmps.getD (d j) undef) w) → OpOk P o a w fun v w' => Below w.heap.size w w' ∧ Sp i v w')
    (hlast : ∀ (a : Act) (w : World), a.defers = a0.defers → a.tmps.size = a0.tmps.size → (∀ s, (∀ j, j < N → d j ≠ s) → a.tmps.getD s undef = a0.tmps.getD s undef) → B w → (∀ j, j < N → Sp j (a.tmps.getD (d j) undef) w) →
      tailRun P Q (ops.toList.drop N) a w) :
    (Code.region id ops true).wpIn { Fence.wide with round := rd } 0 P Q a0 w0 := by
  unfold lastOk at hl
  simp only [Bool.and_eq_true, decide_eq_true_eq] at hl
  obtain ⟨⟨⟨hsz, hac⟩, hanc0⟩, htl0⟩ := hl
  have hanc : ∀ j, j < N → j ∈ anc ops (N + 1) [N] := fun j hj => by simpa using List.all_eq_true.1 hanc0 j (List.mem_range.2 hj)
  have htl : ∀ i o, ops[i]? = some o → N ≤ i → o.guard = none ∧ (∀ c, o.op ≠ .defer c) ∧ (i = N ∨ ∃ e ∈ o.after, Region.binds .any e = true ∧ e.on + 1 = i) := fun i o ho hi => by
    have hlt := (Array.getElem?_eq_some_iff.1 ho).1
    have := List.all_eq_true.1 htl0 i (List.mem_range.2 hlt)
    simp only [ho, Bool.or_eq_true, decide_eq_true_eq, Bool.and_eq_true] at this
    obtain ⟨⟨a1, a2⟩, a3⟩ := this.resolve_left (by omega)
    refine ⟨by simpa using a1, fun c hc => by simp [hc] at a2, a3.imp (fun h => h) fun h => ?_⟩
    obtain ⟨e, he, hb⟩ := List.any_eq_true.1 h
    simp only [Bool.and_eq_true, beq_iff_eq] at hb
    exact ⟨e, by simpa using he, hb.1, hb.2⟩
  refine wpIn_region_any hm (wpAnyIn_inv hac
    (fun listed a w => (∃ k, N < k ∧ k ≤ ops.size ∧ (∀ j, j < k → listed.getD j false = true) ∧ (∀ j, k ≤ j → j < ops.size → listed.getD j true = false) ∧ tailRun P Q (ops.toList.drop k) a w) ∨
      ((∀ j, N ≤ j → j < ops.size → listed.getD j true = false) ∧ listed.size = ops.size ∧ (∀ i o, i ≠ N → ops[i]? = some o → listed.getD i false = true → ∀ e ∈ o.after, Region.binds .any e = true → listed.getD e.on false = true) ∧
      a.defers = a0.defers ∧ a.tmps.size = a0.tmps.size ∧ (∀ s, (∀ j, j < N → d j ≠ s) → a.tmps.getD s undef = a0.tmps.getD s undef) ∧ B w ∧ ∀ j, j < N → listed.getD j false = true → Sp j (a.tmps.getD (d j) undef) w)) ?_ ?_ ops.size _ a0 _ ?_ (by simp) ?_)
  · -- a step of the tail
    have tstep : ∀ (listed : Array Bool) (a : Act) (w : World) (k : Nat) (o : Oper), N ≤ k → ops[k]? = some o → listed.size = ops.size → (∀ j, j < k → listed.getD j false = true) → (∀ j, k ≤ j → j < ops.size → listed.getD j true = false) →
        tailRun P Q (ops.toList.drop k) a w → wpOpIn { Fence.wide with round := rd } 0 P ops Q k (fun a' w' => ∃ k', N < k' ∧ k' ≤ ops.size ∧ (∀ j, j < k' → (listed.setIfInBounds k true).getD j false = true) ∧ (∀ j, k' ≤ j → j < ops.size → (listed.setIfInBounds k true).getD j true = false) ∧ tailRun P Q (ops.toList.drop k') a' w') a w := by
      intro listed a w k o hk ho hs hlo hhi ht
      obtain ⟨hlt, hok⟩ := Array.getElem?_eq_some_iff.1 ho
      have hdr : ops.toList.drop k = o :: ops.toList.drop (k + 1) := by
        rw [List.drop_eq_getElem_cons (by simpa using hlt)]
        simp [hok]
      rw [hdr] at ht
      obtain ⟨g1, g2, _⟩ := htl k o ho hk
      refine OpOk.wpOpIn ho g1 g2 (OpOk.mono ht fun v w' h => ⟨k + 1, by omega, by omega, fun j hj => ?_, fun j hj hjs => ?_, h⟩)
      · by_cases e : j = k
        · subst e
          have : j < listed.size := by omega
          simp [this]
        · exact getD_set_true (hlo j (by omega))
      · rw [getD_set_ne true (by omega)]; exact hhi j (by omega) hjs
    rintro listed a w i o (⟨k, hk1, hk2, hlo, hhi, ht⟩ | ⟨hNl, hls, hcl, hdf, hts, hfix, hBw, hall⟩) hs ho hun hdeps
    · have hi : i < ops.size := (Array.getElem?_eq_some_iff.1 ho).1
      have hki : k ≤ i := by
        rcases Nat.lt_or_ge i k with h | h
        · have h1 := hlo i h
          have hil : i < listed.size := by omega
          simp [hil] at h1 hun
          rw [h1] at hun; cases hun
        · exact h
      have hik : i = k := by
        obtain ⟨_, _, h | ⟨e, he, hb, he1⟩⟩ := htl i o ho (by omega)
        · omega
        · rcases Nat.lt_or_ge k i with h | h
          · have h1 := hdeps e he hb
            have h2 := hhi e.on (by omega) (by omega)
            have hil : e.on < listed.size := by omega
            simp [hil] at h1 h2
            rw [h1] at h2; cases h2
          · omega
      subst hik
      exact wpOpIn_mono (fun a' w' h => .inl h) (tstep listed a w i o (by omega) ho hs hlo hhi ht)
    · have hi : i < ops.size := (Array.getElem?_eq_some_iff.1 ho).1
      rcases Nat.lt_or_ge i N with hiN' | hge
      · obtain ⟨o', ho', hg, hdf', hds, hdlt⟩ := hdst i hiN'
        obtain rfl : o = o' := by rw [ho] at ho'; exact Option.some.inj ho'
        refine OpOk.wpOpIn ho hg hdf' ((hop i o a w hiN' ho hfix hBw (fun j hj => ?_)).mono fun v w' h => .inr ?_)
        · obtain ⟨e, he, hb⟩ := List.any_eq_true.1 hj
          simp only [Bool.and_eq_true, beq_iff_eq] at hb
          obtain ⟨hb1, rfl⟩ := hb
          have he' : e ∈ o.after := by simpa using he
          have hlt := acyc_spec hac ho he'
          exact hall e.on (by omega) (hdeps e he' hb1)
        · obtain ⟨hbw, hsp⟩ := h
          have hil : i < listed.size := by omega
          refine ⟨?_, by simp [hls], ?_, ?_, ?_, ?_, hB _ _ hbw hBw, ?_⟩
          · intro j hj hjs
            rw [getD_set_ne true (by omega)]; exact hNl j hj hjs
          · intro j oj hjN hoj hjl e he hb
            by_cases hji : i = j
            · subst hji
              obtain rfl : o = oj := by rw [ho] at hoj; exact Option.some.inj hoj
              exact getD_set_true (hdeps e he hb)
            · rw [getD_set_ne false hji] at hjl
              exact getD_set_true (hcl j oj hjN hoj hjl e he hb)
          · rw [hds]; exact hdf
          · rw [hds]; simp [Act.put, hts]
          · intro s hns
            rw [hds]
            have hne : d i ≠ s := hns i hiN'
            simp only [Act.put]
            rw [← hfix s hns]
            simp [Array.getElem?_setIfInBounds_ne hne]
          · intro j hj hjl
            rw [hds]
            by_cases hji : i = j
            · subst hji
              simp only [Act.put]
              have : d i < a.tmps.size := by omega
              simpa [this] using hsp
            · rw [getD_set_ne false hji] at hjl
              have hne : d i ≠ d j := fun e => hji (hinj i j hiN' hj e)
              have := hSp j _ w w' hbw (hall j hj hjl)
              simpa [Act.put, Array.getElem?_setIfInBounds_ne hne] using this
      · have hiN : i = N := by
          obtain ⟨_, _, h | ⟨e, he, hb, he1⟩⟩ := htl i o ho hge
          · exact h
          · rcases Nat.lt_or_ge N i with h | h
            · have h1 := hdeps e he hb
              have h2 := hNl e.on (by omega) (by omega)
              have hil : e.on < listed.size := by omega
              simp [hil] at h1 h2
              rw [h1] at h2; cases h2
            · omega
        subst hiN
        have hallL : ∀ j, j < i → listed.getD j false = true := fun j hj => by
          rcases anc_spec hcl (fun o' ho' e he hb => by obtain rfl : o = o' := Option.some.inj (ho.symm.trans ho'); exact hdeps e he hb) (i + 1) [i] (fun k hk => .inl (by simpa using hk)) j (hanc j hj) with h | h
          · omega
          · exact h
        exact wpOpIn_mono (fun a' w' h => .inl h) (tstep listed a w i o (by omega) ho hs hallL hNl (hlast a w hdf hts hfix hBw (fun j hj => hall j hj (hallL j hj))))
  · rintro listed a w (⟨k, hk1, hk2, hlo, hhi, ht⟩ | ⟨hNl, _⟩) hall
    · have hk : k = ops.size := by
        rcases Nat.lt_or_ge k ops.size with h | h
        · have h1 := hall k h
          have h2 := hhi k (Nat.le_refl _) h
          by_cases hkl : k < listed.size
          · simp [hkl] at h1 h2
            rw [h1] at h2; cases h2
          · simp [hkl] at h1
        · omega
      subst hk
      rw [List.drop_of_length_le (by simp)] at ht
      exact ht
    · have h1 := hall N hsz
      have h2 := hNl N (Nat.le_refl _) hsz
      by_cases hkl : N < listed.size
      · simp [hkl] at h1 h2
        rw [h1] at h2; cases h2
      · simp [hkl] at h1
  · refine .inr ⟨fun j _ hj => by simp [hj], by simp, fun i o _ _ h => ?_, rfl, rfl, fun _ _ => rfl, hB0, fun j _ h => ?_⟩
    · simp [Array.getElem?_replicate] at h; split at h <;> simp at h
    · simp [Array.getElem?_replicate] at h; split at h <;> simp at h
  · unfold left
    exact Nat.le_trans List.countP_le_length (by simp)
def dstOk (ops : Array Oper) (N : Nat) (d : Nat → Nat) (sz : Nat) : Bool :=
  ((List.range N).all fun i => match ops[i]? with
    | some o => o.guard.isNone && (match o.op with | .defer _ => false | _ => true) && o.dst == some (d i) && decide (d i < sz)
    | none => false) && (List.range N).all fun i => (List.range i).all fun j => d i != d j
theorem dstOk_spec {ops : Array Oper} {N : Nat} {d : Nat → Nat} {sz : Nat} (h : dstOk ops N d sz = true) :
    (∀ i, i < N → ∃ o, ops[i]? = some o ∧ o.guard = none ∧ (∀ c, o.op ≠ .defer c) ∧ o.dst = some (d i) ∧ d i < sz) ∧ ∀ i j, i < N → j < N → d i = d j → i = j := by
  unfold dstOk at h
  rw [Bool.and_eq_true] at h
  obtain ⟨h1, h2⟩ := h
  refine ⟨fun i hi => ?_, fun i j hi hj e => ?_⟩
  · have := List.all_eq_true.1 h1 i (List.mem_range.2 hi)
    cases ho : ops[i]? with
    | none => simp [ho] at this
    | some o =>
      simp only [ho, Bool.and_eq_true] at this
      obtain ⟨⟨⟨a1, a2⟩, a3⟩, a4⟩ := this
      refine ⟨o, rfl, by simpa using a1, fun c hc => by simp [hc] at a2, by simpa using a3, by simpa using a4⟩
  · rcases Nat.lt_trichotomy i j with hlt | rfl | hlt
    · have := List.all_eq_true.1 (List.all_eq_true.1 h2 j (List.mem_range.2 hj)) i (List.mem_range.2 hlt)
      simp [e] at this
    · rfl
    · have := List.all_eq_true.1 (List.all_eq_true.1 h2 i (List.mem_range.2 hi)) j (List.mem_range.2 hlt)
      simp [e] at this
theorem region_walk {P : Program} {rd : Option Nat} {id : Nat} {ops : Array Oper} {Q : Exit → Act → World → Prop} {a0 : Act} {w0 : World} (N : Nat) (d : Nat → Nat) (hm : P.follows .mixedOrders = true) (hl : lastOk ops N = true)
    (hd : dstOk ops N d a0.tmps.size = true)
    (B : World → Prop) (Sp : Nat → Value → World → Prop)
    (hB : ∀ w w', Below w.heap.size w w' → B w → B w') (hSp : ∀ i v w w', i < N → Below w.heap.size w w' → Sp i v w → Sp i v w')
    (hB0 : B w0.drew)
    (hop : ∀ (i : Nat) (a : Act) (w : World) (hi : i < ops.size), i < N → (∀ s, (∀ j, j < N → d j ≠ s) → a.tmps.getD s undef = a0.tmps.getD s undef) → B w →
      (∀ j, (ops[i].after.toList.any fun e => Region.binds .any e && e.on == j) = true → Sp j (a.tmps.getD (d j) undef) w) → OpOk P ops[i] a w fun v w' => Below w.heap.size w w' ∧ Sp i v w')
    (hlast : ∀ (a : Act) (w : World), a.defers = a0.defers → a.tmps.size = a0.tmps.size → (∀ s, (∀ j, j < N → d j ≠ s) → a.tmps.getD s undef = a0.tmps.getD s undef) → B w → (∀ j, j < N → Sp j (a.tmps.getD (d j) undef) w) →
      tailRun P Q (ops.toList.drop N) a w) :
    (Code.region id ops true).wpIn { Fence.wide with round := rd } 0 P Q a0 w0 := by
  obtain ⟨h1, h2⟩ := dstOk_spec hd
  refine region_spec hm hl d h1 h2 B (fun i v w => i < N → Sp i v w) hB (fun i v w w' hb h hi => hSp i v w w' hi hb (h hi)) hB0 ?_ (fun a w e1 e2 e3 e4 e5 => hlast a w e1 e2 e3 e4 (fun j hj => e5 j hj hj))
  intro i o a w hi ho hfix hBw hdep
  obtain ⟨his, rfl⟩ := Array.getElem?_eq_some_iff.1 ho
  have hac : acyc ops = true := by unfold lastOk at hl; simp only [Bool.and_eq_true] at hl; exact hl.1.1.2
  refine (hop i a w his hi hfix hBw (fun j hj => hdep j hj ?_)).mono fun v w' h => ⟨h.1, fun _ => h.2⟩
  obtain ⟨e, he, hb⟩ := List.any_eq_true.1 hj
  simp only [Bool.and_eq_true, beq_iff_eq] at hb
  have := acyc_spec hac ho (e := e) (by simpa using he)
  omega
theorem OpOk.val {P : Program} {o : Oper} {a : Act} {w w' : World} {K : Value → World → Prop} {v : Value} (h : (execOp a.eval o).run P w = .ok (.value v) w') (hk : K v w') : OpOk P o a w K := .inl ⟨v, w', h, hk⟩
theorem OpOk.skip {P : Program} {o : Oper} {a : Act} {w w' : World} {K : Value → World → Prop} (h : (execOp a.eval o).run P w = .ok .skip w') (hk : K undef w') : OpOk P o a w K := .inr (.inl ⟨w', h, hk⟩)
theorem OpOk.call {P : Program} {o : Oper} {a : Act} {w w1 : World} {K : Value → World → Prop} {f : FuncId} {args : Array Value} (h : (execOp a.eval o).run P w = .ok (.enter f args) w1)
    (hk : Calls P f args w1 fun e w' => ∃ v, e = .returned v ∧ K v w') : OpOk P o a w K := .inr (.inr (.inl ⟨f, args, w1, h, hk⟩))
theorem OpOk.round {P : Program} {o : Oper} {a : Act} {w w1 : World} {K : Value → World → Prop} {l : Nat} {f : FuncId} {tmps : Array Value} {asg bd : Code} (h : (execOp a.eval o).run P w = .ok (.round l f tmps asg bd) w1)
    (hk : RoundIn Fence.wide 0 P l f tmps asg bd w1 fun e w' => ∃ v, e = .returned v ∧ K v w') : OpOk P o a w K := .inr (.inr (.inr ⟨l, f, tmps, asg, bd, w1, h, hk⟩))
end Go.Proofs.Ytdagijgoegkphaa.Hand

namespace Go.Proofs.Ytdagijgoegkphaa.Hand
open Go.RowKit
theorem OpOk.wpOpIn' {P : Program} {ops : Array Oper} {Q : Exit → Act → World → Prop} {i : Nat} {o : Oper} {a : Act} {w : World} {K : Act → World → Prop} {rd : Option Nat}
    (ho : ops[i]? = some o) (hw : Region.wanted o (yielded ops a.tmps) = true) (hd : ∀ c, o.op ≠ .defer c) (h : OpOk P o a w fun v w' => K (a.put o.dst v) w') :
    Go.wpOpIn { Fence.wide with round := rd } 0 P ops Q i K a w := by
  have h2 : Go.wpOpIn { Fence.wide with round := rd } 0 P #[{ o with guard := none }] Q 0 K a w := OpOk.wpOpIn (i := 0) (o := { o with guard := none }) rfl rfl hd h
  unfold Go.wpOpIn at h2 ⊢
  simp only [ho]
  rw [if_pos hw]
  simp only [List.getElem?_toArray, List.getElem?_cons_zero] at h2
  rw [if_pos (by rfl)] at h2
  exact h2
theorem wpOpIn_skip {P : Program} {ops : Array Oper} {Q : Exit → Act → World → Prop} {i : Nat} {o : Oper} {a : Act} {w : World} {K : Act → World → Prop} {rd : Option Nat}
    (ho : ops[i]? = some o) (hw : Region.wanted o (yielded ops a.tmps) = false) (h : K (a.put o.dst undef) w) : wpOpIn { Fence.wide with round := rd } 0 P ops Q i K a w := by
  unfold Go.wpOpIn
  simp only [ho]
  rw [if_neg (by rw [hw]; exact Bool.false_ne_true)]
  exact ⟨fun _ _ => trivial, h⟩
def dstOk2 (ops : Array Oper) (N : Nat) (d : Nat → Nat) (sz : Nat) : Bool :=
  ((List.range N).all fun i => match ops[i]? with
    | some o => (match o.op with | .defer _ => false | _ => true) && o.dst == some (d i) && decide (d i < sz)
    | none => false) && (List.range N).all fun i => (List.range i).all fun j => d i != d j
theorem dstOk2_spec {ops : Array Oper} {N : Nat} {d : Nat → Nat} {sz : Nat} (h : dstOk2 ops N d sz = true) :
    (∀ i, i < N → ∃ o, ops[i]? = some o ∧ (∀ c, o.op ≠ .defer c) ∧ o.dst = some (d i) ∧ d i < sz) ∧ ∀ i j, i < N → j < N → d i = d j → i = j := by
  unfold dstOk2 at h
  rw [Bool.and_eq_true] at h
  obtain ⟨h1, h2⟩ := h
  refine ⟨fun i hi => ?_, fun i j hi hj e => ?_⟩
  · have := List.all_eq_true.1 h1 i (List.mem_range.2 hi)
    cases ho : ops[i]? with
    | none => simp [ho] at this
    | some o =>
      simp only [ho, Bool.and_eq_true] at this
      obtain ⟨⟨a2, a3⟩, a4⟩ := this
      refine ⟨o, rfl, fun c hc => by simp [hc] at a2, by simpa using a3, by simpa using a4⟩
  · rcases Nat.lt_trichotomy i j with hlt | rfl | hlt
    · have := List.all_eq_true.1 (List.all_eq_true.1 h2 j (List.mem_range.2 hj)) i (List.mem_range.2 hlt)
      simp [e] at this
    · rfl
    · have := List.all_eq_true.1 (List.all_eq_true.1 h2 i (List.mem_range.2 hi)) j (List.mem_range.2 hlt)
      simp [e] at this
theorem region_spec2 {P : Program} {rd : Option Nat} {id : Nat} {ops : Array Oper} {Q : Exit → Act → World → Prop} {a0 : Act} {w0 : World} {N : Nat} (hm : P.follows .mixedOrders = true) (hl : lastOk ops N = true)
    (d : Nat → Nat) (hdst : ∀ i, i < N → ∃ o, ops[i]? = some o ∧ (∀ c, o.op ≠ .defer c) ∧ o.dst = some (d i) ∧ d i < a0.tmps.size) (hinj : ∀ i j, i < N → j < N → d i = d j → i = j)
    (B : (Nat → Prop) → (Nat → Value) → World → Prop) (Rel : Nat → World → World → Prop) (Sp : (Nat → Prop) → Nat → Value → World → Prop)
    (hSp : ∀ (L : Nat → Prop) i j v w w', i < N → j < N → i ≠ j → ¬ L i → (∀ k ∈ anc ops (i + 1) [i], k = i ∨ L k) → (∀ k ∈ anc ops (j + 1) [j], k = j ∨ L k) → Rel i w w' → Sp L j v w → Sp (fun k => L k ∨ k = i) j v w')
    (hL : ∀ (L L' : Nat → Prop) j v w, (∀ k, k < N → L k → L' k) → Sp L j v w → Sp L' j v w)
    (hBc : ∀ (L L' : Nat → Prop) (f f' : Nat → Value) w, (∀ k, k < N → (L k ↔ L' k)) → (∀ k, k < N → f k = f' k) → B L f w → B L' f' w)
    (hB0 : B (fun _ => False) (fun j => a0.tmps.getD (d j) undef) w0.drew)
    (hop : ∀ (L : Nat → Prop) (i : Nat) (o : Oper) (a : Act) (w : World), i < N → ops[i]? = some o → a.tmps.size = a0.tmps.size → (∀ s, (∀ j, j < N → d j ≠ s) → a.tmps.getD s undef = a0.tmps.getD s undef) → B L (fun j => a.tmps.getD (d j) undef) w → ¬ L i → (∀ k ∈ anc ops (i + 1) [i], k = i ∨ L k) →
      (∀ j, j < N → (L j → Sp L j (a.tmps.getD (d j) undef) w)) → (∀ j, (o.after.toList.any fun e => Region.binds .any e && e.on == j) = true → Sp L j (a.tmps.getD (d j) undef) w) →
      (Region.wanted o (yielded ops a.tmps) = true → OpOk P o a w fun v w' => Rel i w w' ∧ Sp (fun k => L k ∨ k = i) i v w' ∧ B (fun k => L k ∨ k = i) (fun j => if j = i then v else a.tmps.getD (d j) undef) w') ∧ (Region.wanted o (yielded ops a.tmps) = false → Rel i w w ∧ Sp (fun k => L k ∨ k = i) i undef w ∧ B (fun k => L k ∨ k = i) (fun j => if j = i then undef else a.tmps.getD (d j) undef) w))
    (hlast : ∀ (a : Act) (w : World), a.defers = a0.defers → a.tmps.size = a0.tmps.size → (∀ s, (∀ j, j < N → d j ≠ s) → a.tmps.getD s undef = a0.tmps.getD s undef) → (∀ (L : Nat → Prop), (∀ j, j < N → L j) → B L (fun j => a.tmps.getD (d j) undef) w) → (∀ (L : Nat → Prop), (∀ j, j < N → L j) → ∀ j, j < N → Sp L j (a.tmps.getD (d j) undef) w) →
      tailRun P Q (ops.toList.drop N) a w) :
    (Code.region id ops true).wpIn { Fence.wide with round := rd } 0 P Q a0 w0 := by
  unfold lastOk at hl
  simp only [Bool.and_eq_true, decide_eq_true_eq] at hl
  obtain ⟨⟨⟨hsz, hac⟩, hanc0⟩, htl0⟩ := hl
  have hanc : ∀ j, j < N → j ∈ anc ops (N + 1) [N] := fun j hj => by simpa using List.all_eq_true.1 hanc0 j (List.mem_range.2 hj)
  have htl : ∀ i o, ops[i]? = some o → N ≤ i → o.guard = none ∧ (∀ c, o.op ≠ .defer c) ∧ (i = N ∨ ∃ e ∈ o.after, Region.binds .any e = true ∧ e.on + 1 = i) := fun i o ho hi => by
    have hlt := (Array.getElem?_eq_some_iff.1 ho).1
    have := List.all_eq_true.1 htl0 i (List.mem_range.2 hlt)
    simp only [ho, Bool.or_eq_true, decide_eq_true_eq, Bool.and_eq_true] at this
    obtain ⟨⟨a1, a2⟩, a3⟩ := this.resolve_left (by omega)
    refine ⟨by simpa using a1, fun c hc => by simp [hc] at a2, a3.imp (fun h => h) fun h => ?_⟩
    obtain ⟨e, he, hb⟩ := List.any_eq_true.1 h
    simp only [Bool.and_eq_true, beq_iff_eq] at hb
    exact ⟨e, by simpa using he, hb.1, hb.2⟩
  refine wpIn_region_any hm (wpAnyIn_inv hac
    (fun listed a w => (∃ k, N < k ∧ k ≤ ops.size ∧ (∀ j, j < k → listed.getD j false = true) ∧ (∀ j, k ≤ j → j < ops.size → listed.getD j true = false) ∧ tailRun P Q (ops.toList.drop k) a w) ∨
      ((∀ j, N ≤ j → j < ops.size → listed.getD j true = false) ∧ listed.size = ops.size ∧ (∀ i o, i ≠ N → ops[i]? = some o → listed.getD i false = true → ∀ e ∈ o.after, Region.binds .any e = true → listed.getD e.on false = true) ∧
      a.defers = a0.defers ∧ a.tmps.size = a0.tmps.size ∧ (∀ s, (∀ j, j < N → d j ≠ s) → a.tmps.getD s undef = a0.tmps.getD s undef) ∧ B (fun k => listed.getD k false = true) (fun j => a.tmps.getD (d j) undef) w ∧ ∀ j, j < N → listed.getD j false = true → Sp (fun k => listed.getD k false = true) j (a.tmps.getD (d j) undef) w)) ?_ ?_ ops.size _ a0 _ ?_ (by simp) ?_)
  · -- a step of the tail
    have tstep : ∀ (listed : Array Bool) (a : Act) (w : World) (k : Nat) (o : Oper), N ≤ k → ops[k]? = some o → listed.size = ops.size → (∀ j, j < k → listed.getD j false = true) → (∀ j, k ≤ j → j < ops.size → listed.getD j true = false) →
        tailRun P Q (ops.toList.drop k) a w → wpOpIn { Fence.wide with round := rd } 0 P ops Q k (fun a' w' => ∃ k', N < k' ∧ k' ≤ ops.size ∧ (∀ j, j < k' → (listed.setIfInBounds k true).getD j false = true) ∧ (∀ j, k' ≤ j → j < ops.size → (listed.setIfInBounds k true).getD j true = false) ∧ tailRun P Q (ops.toList.drop k') a' w') a w := by
      intro listed a w k o hk ho hs hlo hhi ht
      obtain ⟨hlt, hok⟩ := Array.getElem?_eq_some_iff.1 ho
      have hdr : ops.toList.drop k = o :: ops.toList.drop (k + 1) := by
        rw [List.drop_eq_getElem_cons (by simpa using hlt)]
        simp [hok]
      rw [hdr] at ht
      obtain ⟨g1, g2, _⟩ := htl k o ho hk
      refine OpOk.wpOpIn ho g1 g2 (OpOk.mono ht fun v w' h => ⟨k + 1, by omega, by omega, fun j hj => ?_, fun j hj hjs => ?_, h⟩)
      · by_cases e : j = k
        · subst e
          have : j < listed.size := by omega
          simp [this]
        · exact getD_set_true (hlo j (by omega))
      · rw [getD_set_ne true (by omega)]; exact hhi j (by omega) hjs
    rintro listed a w i o (⟨k, hk1, hk2, hlo, hhi, ht⟩ | ⟨hNl, hls, hcl, hdf, hts, hfix, hBw, hall⟩) hs ho hun hdeps
    · have hi : i < ops.size := (Array.getElem?_eq_some_iff.1 ho).1
      have hki : k ≤ i := by
        rcases Nat.lt_or_ge i k with h | h
        · have h1 := hlo i h
          have hil : i < listed.size := by omega
          simp [hil] at h1 hun
          rw [h1] at hun; cases hun
        · exact h
      have hik : i = k := by
        obtain ⟨_, _, h | ⟨e, he, hb, he1⟩⟩ := htl i o ho (by omega)
        · omega
        · rcases Nat.lt_or_ge k i with h | h
          · have h1 := hdeps e he hb
            have h2 := hhi e.on (by omega) (by omega)
            have hil : e.on < listed.size := by omega
            simp [hil] at h1 h2
            rw [h1] at h2; cases h2
          · omega
      subst hik
      exact wpOpIn_mono (fun a' w' h => .inl h) (tstep listed a w i o (by omega) ho hs hlo hhi ht)
    · have hi : i < ops.size := (Array.getElem?_eq_some_iff.1 ho).1
      rcases Nat.lt_or_ge i N with hiN' | hge
      · obtain ⟨o', ho', hdf', hds, hdlt⟩ := hdst i hiN'
        obtain rfl : o = o' := by rw [ho] at ho'; exact Option.some.inj ho'
        have hanc2 : ∀ k ∈ anc ops (i + 1) [i], k = i ∨ listed.getD k false = true :=
          anc_spec (N := i) (fun i' o' hne ho' hl' => by
            by_cases h : i' = N
            · subst h
              have h1 := hNl i' (Nat.le_refl _) hsz
              have hil : i' < listed.size := by omega
              simp [hil] at h1 hl'
              rw [h1] at hl'; cases hl'
            · exact hcl i' o' h ho' hl') (fun o' ho' => by obtain rfl : o = o' := Option.some.inj (ho.symm.trans ho'); exact hdeps) (i + 1) [i] (fun k hk => .inl (by simpa using hk))
        have hanc3 : ∀ j, j < N → listed.getD j false = true → ∀ k ∈ anc ops (j + 1) [j], k = j ∨ listed.getD k false = true := fun j hjN hjl =>
          anc_spec (N := j) (fun i' o' hne ho' hl' => by
            by_cases h : i' = N
            · subst h
              have h1 := hNl i' (Nat.le_refl _) hsz
              have hil : i' < listed.size := by omega
              simp [hil] at h1 hl'
              rw [h1] at hl'; cases hl'
            · exact hcl i' o' h ho' hl') (fun o' ho' => hcl j o' (by omega) ho' hjl) (j + 1) [j] (fun k hk => .inl (by simpa using hk))
        have hnl : ¬ listed.getD i false = true := by
          have hil : i < listed.size := by omega
          simp [hil] at hun ⊢
          exact hun
        have fin : ∀ (v : Value) (w' : World), Rel i w w' ∧ Sp (fun k => listed.getD k false = true ∨ k = i) i v w' ∧ B (fun k => listed.getD k false = true ∨ k = i) (fun j => if j = i then v else a.tmps.getD (d j) undef) w' → (∀ j, N ≤ j → j < ops.size → (listed.setIfInBounds i true).getD j true = false) ∧ (listed.setIfInBounds i true).size = ops.size ∧ (∀ i' o, i' ≠ N → ops[i']? = some o → (listed.setIfInBounds i true).getD i' false = true → ∀ e ∈ o.after, Region.binds .any e = true → (listed.setIfInBounds i true).getD e.on false = true) ∧
            (a.put o.dst v).defers = a0.defers ∧ (a.put o.dst v).tmps.size = a0.tmps.size ∧ (∀ s, (∀ j, j < N → d j ≠ s) → (a.put o.dst v).tmps.getD s undef = a0.tmps.getD s undef) ∧ B (fun k => (listed.setIfInBounds i true).getD k false = true) (fun j => (a.put o.dst v).tmps.getD (d j) undef) w' ∧ ∀ j, j < N → (listed.setIfInBounds i true).getD j false = true → Sp (fun k => (listed.setIfInBounds i true).getD k false = true) j ((a.put o.dst v).tmps.getD (d j) undef) w' := by
          rintro v w' ⟨hbw, hsp, hBn⟩
          have hil : i < listed.size := by omega
          have hLL : ∀ k, k < N → (listed.getD k false = true ∨ k = i) → (listed.setIfInBounds i true).getD k false = true := fun k _ hk => by
            rcases hk with hk | rfl
            · exact getD_set_true hk
            · simp [hil]
          refine ⟨?_, by simp [hls], ?_, ?_, ?_, ?_, ?_, ?_⟩
          · intro j hj hjs
            rw [getD_set_ne true (by omega)]; exact hNl j hj hjs
          · intro j oj hjN hoj hjl e he hb
            by_cases hji : i = j
            · subst hji
              obtain rfl : o = oj := by rw [ho] at hoj; exact Option.some.inj hoj
              exact getD_set_true (hdeps e he hb)
            · rw [getD_set_ne false hji] at hjl
              exact getD_set_true (hcl j oj hjN hoj hjl e he hb)
          · rw [hds]; exact hdf
          · rw [hds]; simp [Act.put, hts]
          · intro s hns
            rw [hds]
            have hne : d i ≠ s := hns i hiN'
            simp only [Act.put]
            rw [← hfix s hns]
            simp [Array.getElem?_setIfInBounds_ne hne]
          · refine hBc _ _ _ _ w' (fun k hk => ⟨hLL k hk, fun h => ?_⟩) (fun k hk => ?_) hBn
            · by_cases hki : i = k
              · exact .inr hki.symm
              · rw [getD_set_ne false hki] at h; exact .inl h
            · rw [hds]
              by_cases hki : k = i
              · subst hki
                have : d k < a.tmps.size := by omega
                simp [Act.put, this]
              · have hne : d i ≠ d k := fun e => hki (hinj i k hiN' hk e).symm
                rw [if_neg hki]
                simp [Act.put, Array.getElem?_setIfInBounds_ne hne]
          · intro j hj hjl
            rw [hds]
            by_cases hji : i = j
            · subst hji
              simp only [Act.put]
              have : d i < a.tmps.size := by omega
              have h2 := hL _ _ i v w' hLL hsp
              simpa [this] using h2
            · rw [getD_set_ne false hji] at hjl
              have hne : d i ≠ d j := fun e => hji (hinj i j hiN' hj e)
              have h2 := hL _ _ j _ w' hLL (hSp (fun k => listed.getD k false = true) i j _ w w' hiN' hj hji hnl hanc2 (hanc3 j hj hjl) hbw (hall j hj hjl))
              simpa [Act.put, Array.getElem?_setIfInBounds_ne hne] using h2
        obtain ⟨hw1, hw0⟩ := hop (fun k => listed.getD k false = true) i o a w hiN' ho hts hfix hBw hnl hanc2 hall (fun j hj => by
          obtain ⟨e, he, hb⟩ := List.any_eq_true.1 hj
          simp only [Bool.and_eq_true, beq_iff_eq] at hb
          obtain ⟨hb1, rfl⟩ := hb
          have he' : e ∈ o.after := by simpa using he
          have hlt := acyc_spec hac ho he'
          exact hall e.on (by omega) (hdeps e he' hb1))
        cases hwt : Region.wanted o (yielded ops a.tmps) with
        | true => exact OpOk.wpOpIn' ho hwt hdf' ((hw1 hwt).mono fun v w' h => .inr (fin v w' h))
        | false => exact wpOpIn_skip ho hwt (.inr (fin undef w (hw0 hwt)))
      · have hiN : i = N := by
          obtain ⟨_, _, h | ⟨e, he, hb, he1⟩⟩ := htl i o ho hge
          · exact h
          · rcases Nat.lt_or_ge N i with h | h
            · have h1 := hdeps e he hb
              have h2 := hNl e.on (by omega) (by omega)
              have hil : e.on < listed.size := by omega
              simp [hil] at h1 h2
              rw [h1] at h2; cases h2
            · omega
        subst hiN
        have hallL : ∀ j, j < i → listed.getD j false = true := fun j hj => by
          rcases anc_spec hcl (fun o' ho' e he hb => by obtain rfl : o = o' := Option.some.inj (ho.symm.trans ho'); exact hdeps e he hb) (i + 1) [i] (fun k hk => .inl (by simpa using hk)) j (hanc j hj) with h | h
          · omega
          · exact h
        exact wpOpIn_mono (fun a' w' h => .inl h) (tstep listed a w i o (by omega) ho hs hallL hNl (hlast a w hdf hts hfix (fun L hLn => hBc _ L _ _ w (fun k hk => ⟨fun _ => hLn k hk, fun _ => hallL k hk⟩) (fun _ _ => rfl) hBw) (fun L hLn j hj => hL _ L j _ w (fun k hk _ => hLn k hk) (hall j hj (hallL j hj)))))
  · rintro listed a w (⟨k, hk1, hk2, hlo, hhi, ht⟩ | ⟨hNl, _⟩) hall
    · have hk : k = ops.size := by
        rcases Nat.lt_or_ge k ops.size with h | h
        · have h1 := hall k h
          have h2 := hhi k (Nat.le_refl _) h
          by_cases hkl : k < listed.size
          · simp [hkl] at h1 h2
            rw [h1] at h2; cases h2
          · simp [hkl] at h1
        · omega
      subst hk
      rw [List.drop_of_length_le (by simp)] at ht
      exact ht
    · have h1 := hall N hsz
      have h2 := hNl N (Nat.le_refl _) hsz
      by_cases hkl : N < listed.size
      · simp [hkl] at h1 h2
        rw [h1] at h2; cases h2
      · simp [hkl] at h1
  · refine .inr ⟨fun j _ hj => by simp [hj], by simp, fun i o _ _ h => ?_, rfl, rfl, fun _ _ => rfl, hBc _ _ _ _ _ (fun k _ => ⟨fun h => h.elim, fun h => ?_⟩) (fun _ _ => rfl) hB0, fun j _ h => ?_⟩
    · simp [Array.getElem?_replicate] at h; split at h <;> simp at h
    · simp [Array.getElem?_replicate] at h; split at h <;> simp at h
    · simp [Array.getElem?_replicate] at h; split at h <;> simp at h
  · unfold left
    exact Nat.le_trans List.countP_le_length (by simp)
theorem region_walk2 {P : Program} {rd : Option Nat} {id : Nat} {ops : Array Oper} {Q : Exit → Act → World → Prop} {a0 : Act} {w0 : World} (N : Nat) (d : Nat → Nat) (hm : P.follows .mixedOrders = true) (hl : lastOk ops N = true)
    (hd : dstOk2 ops N d a0.tmps.size = true)
    (B : (Nat → Prop) → (Nat → Value) → World → Prop) (Rel : Nat → World → World → Prop) (Sp : (Nat → Prop) → Nat → Value → World → Prop)
    (hSp : ∀ (L : Nat → Prop) i j v w w', i < N → j < N → i ≠ j → ¬ L i → (∀ k ∈ anc ops (i + 1) [i], k = i ∨ L k) → (∀ k ∈ anc ops (j + 1) [j], k = j ∨ L k) → Rel i w w' → Sp L j v w → Sp (fun k => L k ∨ k = i) j v w')
    (hL : ∀ (L L' : Nat → Prop) j v w, (∀ k, k < N → L k → L' k) → Sp L j v w → Sp L' j v w)
    (hBc : ∀ (L L' : Nat → Prop) (f f' : Nat → Value) w, (∀ k, k < N → (L k ↔ L' k)) → (∀ k, k < N → f k = f' k) → B L f w → B L' f' w)
    (hB0 : B (fun _ => False) (fun j => a0.tmps.getD (d j) undef) w0.drew)
    (hop : ∀ (L : Nat → Prop) (i : Nat) (a : Act) (w : World) (hi : i < ops.size), i < N → a.tmps.size = a0.tmps.size → (∀ s, (∀ j, j < N → d j ≠ s) → a.tmps.getD s undef = a0.tmps.getD s undef) → B L (fun j => a.tmps.getD (d j) undef) w → ¬ L i → (∀ k ∈ anc ops (i + 1) [i], k = i ∨ L k) →
      (∀ j, j < N → (L j → Sp L j (a.tmps.getD (d j) undef) w)) → (∀ j, (ops[i].after.toList.any fun e => Region.binds .any e && e.on == j) = true → Sp L j (a.tmps.getD (d j) undef) w) →
      (Region.wanted ops[i] (yielded ops a.tmps) = true → OpOk P ops[i] a w fun v w' => Rel i w w' ∧ Sp (fun k => L k ∨ k = i) i v w' ∧ B (fun k => L k ∨ k = i) (fun j => if j = i then v else a.tmps.getD (d j) undef) w') ∧ (Region.wanted ops[i] (yielded ops a.tmps) = false → Rel i w w ∧ Sp (fun k => L k ∨ k = i) i undef w ∧ B (fun k => L k ∨ k = i) (fun j => if j = i then undef else a.tmps.getD (d j) undef) w))
    (hlast : ∀ (a : Act) (w : World), a.defers = a0.defers → a.tmps.size = a0.tmps.size → (∀ s, (∀ j, j < N → d j ≠ s) → a.tmps.getD s undef = a0.tmps.getD s undef) → (∀ (L : Nat → Prop), (∀ j, j < N → L j) → B L (fun j => a.tmps.getD (d j) undef) w) → (∀ (L : Nat → Prop), (∀ j, j < N → L j) → ∀ j, j < N → Sp L j (a.tmps.getD (d j) undef) w) →
      tailRun P Q (ops.toList.drop N) a w) :
    (Code.region id ops true).wpIn { Fence.wide with round := rd } 0 P Q a0 w0 := by
  obtain ⟨h1, h2⟩ := dstOk2_spec hd
  refine region_spec2 hm hl d h1 h2 B Rel Sp hSp hL hBc hB0 ?_ hlast
  intro L i o a w hi ho hts hfix hBw hnl hanc hall hdep
  obtain ⟨his, rfl⟩ := Array.getElem?_eq_some_iff.1 ho
  exact hop L i a w his hi hts hfix hBw hnl hanc hall hdep
end Go.Proofs.Ytdagijgoegkphaa.Hand

namespace Go.Proofs.Ytdagijgoegkphaa.Hand
open Go.RowKit Go.Shelf
def kept3 (o : Oper) (v : Value) : Value := match o.dst with | some _ => v | none => undef
theorem kept3_undef (o : Oper) : kept3 o undef = undef := by unfold kept3; split <;> rfl
theorem getD_past {a : Array Value} {i : Nat} (h : a.size ≤ i) : a.getD i undef = undef := by
  rw [Array.getD_eq_getD_getElem?, Array.getElem?_eq_none h]; rfl
def dstOk3 (ops : Array Oper) (N : Nat) (d : Nat → Nat) (sz : Nat) : Bool :=
  ((List.range N).all fun i => match ops[i]? with
    | some o => (match o.op with | .defer _ => false | _ => true) && ((o.dst == some (d i) && decide (d i < sz)) || (o.dst == none && decide (sz ≤ d i)))
    | none => false) && (List.range N).all fun i => (List.range i).all fun j => d i != d j
theorem dstOk3_spec {ops : Array Oper} {N : Nat} {d : Nat → Nat} {sz : Nat} (h : dstOk3 ops N d sz = true) :
    (∀ i, i < N → ∃ o, ops[i]? = some o ∧ (∀ c, o.op ≠ .defer c) ∧ ((o.dst = some (d i) ∧ d i < sz) ∨ (o.dst = none ∧ sz ≤ d i))) ∧ ∀ i j, i < N → j < N → d i = d j → i = j := by
  unfold dstOk3 at h
  rw [Bool.and_eq_true] at h
  obtain ⟨h1, h2⟩ := h
  refine ⟨fun i hi => ?_, fun i j hi hj e => ?_⟩
  · have := List.all_eq_true.1 h1 i (List.mem_range.2 hi)
    cases ho : ops[i]? with
    | none => simp [ho] at this
    | some o =>
      simp only [ho, Bool.and_eq_true, Bool.or_eq_true] at this
      obtain ⟨a2, a3⟩ := this
      refine ⟨o, rfl, fun c hc => by simp [hc] at a2, a3.imp (fun h => ⟨by simpa using h.1, by simpa using h.2⟩) fun h => ⟨by simpa using h.1, by simpa using h.2⟩⟩
  · rcases Nat.lt_trichotomy i j with hlt | rfl | hlt
    · have := List.all_eq_true.1 (List.all_eq_true.1 h2 j (List.mem_range.2 hj)) i (List.mem_range.2 hlt)
      simp [e] at this
    · rfl
    · have := List.all_eq_true.1 (List.all_eq_true.1 h2 i (List.mem_range.2 hi)) j (List.mem_range.2 hlt)
      simp [e] at this
def acyc3 (ops : Array Oper) : Bool := (List.range ops.size).all fun i => match ops[i]? with | some o => o.after.all fun e => !Region.binds .any e || decide (e.on < i) | none => true
theorem acyc_spec3 {ops : Array Oper} (h : acyc3 ops = true) {i : Nat} {o : Oper} (ho : ops[i]? = some o) {e : Edge} (he : e ∈ o.after) (hb : Region.binds .any e = true) : e.on < i := by
  have hi : i < ops.size := (Array.getElem?_eq_some_iff.1 ho).1
  have := List.all_eq_true.1 h i (List.mem_range.2 hi)
  simp only [ho] at this
  have h2 := Array.all_eq_true_iff_forall_mem.1 this e he
  simpa [hb] using h2
theorem ready_ne3 {ops : Array Oper} (h : acyc3 ops = true) {listed : Array Bool} (hs : listed.size = ops.size) (hr : Region.ready .any ops listed = []) : ∀ i, i < ops.size → listed.getD i false = true := by
  intro i
  induction i using Nat.strongRecOn with
  | _ i ih =>
    intro hi
    by_cases hv : listed.getD i false = true
    · exact hv
    · have hm : i ∈ Region.ready .any ops listed := by
        rw [mem_ready]
        refine ⟨?_, ops[i], by simp [hi], fun e he hb => ?_⟩
        · have hil : i < listed.size := by omega
          simp [hil] at hv ⊢
          exact hv
        · have hlt := acyc_spec3 h (i := i) (o := ops[i]) (by simp [hi]) he hb
          exact ih e.on hlt (by omega)
      rw [hr] at hm
      cases hm
theorem wpAnyIn_inv3 {F : Fence} {n : Nat} {P : Program} {ops : Array Oper} {Q : Exit → Act → World → Prop} (hac : acyc3 ops = true) (Inv : Array Bool → Act → World → Prop)
    (hstep : ∀ (listed : Array Bool) (a : Act) (w : World) (i : Nat) (o : Oper), Inv listed a w → listed.size = ops.size → ops[i]? = some o → listed.getD i true = false →
      (∀ e ∈ o.after, Region.binds .any e = true → listed.getD e.on false = true) → wpOpIn F n P ops Q i (fun a' w' => Inv (listed.setIfInBounds i true) a' w') a w)
    (hend : ∀ (listed : Array Bool) (a : Act) (w : World), Inv listed a w → (∀ i, i < ops.size → listed.getD i false = true) → Q .normal a w) :
    ∀ (fuel : Nat) (listed : Array Bool) (a : Act) (w : World), Inv listed a w → listed.size = ops.size → left listed ≤ fuel → wpAnyIn F n P .any ops Q fuel listed a w := by
  intro fuel
  induction fuel with
  | zero =>
    intro listed a w hI hs hl
    have hz := left_zero (Nat.le_zero.1 hl)
    have hr : Region.ready .any ops listed = [] := by
      cases h : Region.ready .any ops listed with
      | nil => rfl
      | cons j js =>
        have : j ∈ Region.ready .any ops listed := by rw [h]; simp
        have := (mem_ready.1 this).1
        rw [hz j] at this
        cases this
    exact ⟨hr, hend listed a w hI (ready_ne3 hac hs hr)⟩
  | succ fuel ih =>
    intro listed a w hI hs hl
    refine ⟨fun hr => hend listed a w hI (ready_ne3 hac hs hr), fun i hi => ?_⟩
    obtain ⟨h0, o, ho, hall⟩ := mem_ready.1 hi
    refine wpOpIn_mono (fun a' w' h' => ih _ a' w' h' (by simp [hs]) ?_) (hstep listed a w i o hI hs ho h0 hall)
    have := left_set h0
    omega
def lastOk3 (ops : Array Oper) (N : Nat) : Bool := decide (N < ops.size) && acyc3 ops && ((List.range N).all fun j => (anc ops (N + 1) [N]).contains j) &&
  (List.range ops.size).all fun i => decide (i < N) || (match ops[i]? with
    | some o => o.guard.isNone && (match o.op with | .defer _ => false | _ => true) && (decide (i = N) || o.after.toList.any fun e => Region.binds .any e && e.on + 1 == i)
    | none => false)
theorem region_spec3 {P : Program} {rd : Option Nat} {id : Nat} {ops : Array Oper} {Q : Exit → Act → World → Prop} {a0 : Act} {w0 : World} {N : Nat} (hm : P.follows .mixedOrders = true) (hl : lastOk3 ops N = true)
    (d : Nat → Nat) (hdst : ∀ i, i < N → ∃ o, ops[i]? = some o ∧ (∀ c, o.op ≠ .defer c) ∧ ((o.dst = some (d i) ∧ d i < a0.tmps.size) ∨ (o.dst = none ∧ a0.tmps.size ≤ d i))) (hinj : ∀ i j, i < N → j < N → d i = d j → i = j)
    (B : (Nat → Prop) → (Nat → Value) → World → Prop) (Rel : Nat → World → World → Prop) (Sp : (Nat → Prop) → Nat → Value → World → Prop)
    (hSp : ∀ (L : Nat → Prop) i j v w w', i < N → j < N → i ≠ j → ¬ L i → (∀ k ∈ anc ops (i + 1) [i], k = i ∨ L k) → (∀ k ∈ anc ops (j + 1) [j], k = j ∨ L k) → Rel i w w' → Sp L j v w → Sp (fun k => L k ∨ k = i) j v w')
    (hL : ∀ (L L' : Nat → Prop) j v w, (∀ k, k < N → L k → L' k) → Sp L j v w → Sp L' j v w)
    (hBc : ∀ (L L' : Nat → Prop) (f f' : Nat → Value) w, (∀ k, k < N → (L k ↔ L' k)) → (∀ k, k < N → f k = f' k) → B L f w → B L' f' w)
    (hB0 : B (fun _ => False) (fun j => a0.tmps.getD (d j) undef) w0.drew)
    (hop : ∀ (L : Nat → Prop) (i : Nat) (o : Oper) (a : Act) (w : World), i < N → ops[i]? = some o → a.tmps.size = a0.tmps.size → (∀ s, (∀ j, j < N → d j ≠ s) → a.tmps.getD s undef = a0.tmps.getD s undef) → B L (fun j => a.tmps.getD (d j) undef) w → ¬ L i → (∀ k ∈ anc ops (i + 1) [i], k = i ∨ L k) →
      (∀ j, j < N → (L j → Sp L j (a.tmps.getD (d j) undef) w)) → (∀ j, (o.after.toList.any fun e => Region.binds .any e && e.on == j) = true → Sp L j (a.tmps.getD (d j) undef) w) →
      (Region.wanted o (yielded ops a.tmps) = true → OpOk P o a w fun v w' => Rel i w w' ∧ Sp (fun k => L k ∨ k = i) i (kept3 o v) w' ∧ B (fun k => L k ∨ k = i) (fun j => if j = i then kept3 o v else a.tmps.getD (d j) undef) w') ∧ (Region.wanted o (yielded ops a.tmps) = false → Rel i w w ∧ Sp (fun k => L k ∨ k = i) i undef w ∧ B (fun k => L k ∨ k = i) (fun j => if j = i then undef else a.tmps.getD (d j) undef) w))
    (hlast : ∀ (a : Act) (w : World), a.defers = a0.defers → a.tmps.size = a0.tmps.size → (∀ s, (∀ j, j < N → d j ≠ s) → a.tmps.getD s undef = a0.tmps.getD s undef) → (∀ (L : Nat → Prop), (∀ j, j < N → L j) → B L (fun j => a.tmps.getD (d j) undef) w) → (∀ (L : Nat → Prop), (∀ j, j < N → L j) → ∀ j, j < N → Sp L j (a.tmps.getD (d j) undef) w) →
      tailRun P Q (ops.toList.drop N) a w) :
    (Code.region id ops true).wpIn { Fence.wide with round := rd } 0 P Q a0 w0 := by
  unfold lastOk3 at hl
  simp only [Bool.and_eq_true, decide_eq_true_eq] at hl
  obtain ⟨⟨⟨hsz, hac⟩, hanc0⟩, htl0⟩ := hl
  have hanc : ∀ j, j < N → j ∈ anc ops (N + 1) [N] := fun j hj => by simpa using List.all_eq_true.1 hanc0 j (List.mem_range.2 hj)
  have htl : ∀ i o, ops[i]? = some o → N ≤ i → o.guard = none ∧ (∀ c, o.op ≠ .defer c) ∧ (i = N ∨ ∃ e ∈ o.after, Region.binds .any e = true ∧ e.on + 1 = i) := fun i o ho hi => by
    have hlt := (Array.getElem?_eq_some_iff.1 ho).1
    have := List.all_eq_true.1 htl0 i (List.mem_range.2 hlt)
    simp only [ho, Bool.or_eq_true, decide_eq_true_eq, Bool.and_eq_true] at this
    obtain ⟨⟨a1, a2⟩, a3⟩ := this.resolve_left (by omega)
    refine ⟨by simpa using a1, fun c hc => by simp [hc] at a2, a3.imp (fun h => h) fun h => ?_⟩
    obtain ⟨e, he, hb⟩ := List.any_eq_true.1 h
    simp only [Bool.and_eq_true, beq_iff_eq] at hb
    exact ⟨e, by simpa using he, hb.1, hb.2⟩
  refine wpIn_region_any hm (wpAnyIn_inv3 hac
    (fun listed a w => (∃ k, N < k ∧ k ≤ ops.size ∧ (∀ j, j < k → listed.getD j false = true) ∧ (∀ j, k ≤ j → j < ops.size → listed.getD j true = false) ∧ tailRun P Q (ops.toList.drop k) a w) ∨
      ((∀ j, N ≤ j → j < ops.size → listed.getD j true = false) ∧ listed.size = ops.size ∧ (∀ i o, i ≠ N → ops[i]? = some o → listed.getD i false = true → ∀ e ∈ o.after, Region.binds .any e = true → listed.getD e.on false = true) ∧
      a.defers = a0.defers ∧ a.tmps.size = a0.tmps.size ∧ (∀ s, (∀ j, j < N → d j ≠ s) → a.tmps.getD s undef = a0.tmps.getD s undef) ∧ B (fun k => listed.getD k false = true) (fun j => a.tmps.getD (d j) undef) w ∧ ∀ j, j < N → listed.getD j false = true → Sp (fun k => listed.getD k false = true) j (a.tmps.getD (d j) undef) w)) ?_ ?_ ops.size _ a0 _ ?_ (by simp) ?_)
  · -- a step of the tail
    have tstep : ∀ (listed : Array Bool) (a : Act) (w : World) (k : Nat) (o : Oper), N ≤ k → ops[k]? = some o → listed.size = ops.size → (∀ j, j < k → listed.getD j false = true) → (∀ j, k ≤ j → j < ops.size → listed.getD j true = false) →
        tailRun P Q (ops.toList.drop k) a w → wpOpIn { Fence.wide with round := rd } 0 P ops Q k (fun a' w' => ∃ k', N < k' ∧ k' ≤ ops.size ∧ (∀ j, j < k' → (listed.setIfInBounds k true).getD j false = true) ∧ (∀ j, k' ≤ j → j < ops.size → (listed.setIfInBounds k true).getD j true = false) ∧ tailRun P Q (ops.toList.drop k') a' w') a w := by
      intro listed a w k o hk ho hs hlo hhi ht
      obtain ⟨hlt, hok⟩ := Array.getElem?_eq_some_iff.1 ho
      have hdr : ops.toList.drop k = o :: ops.toList.drop (k + 1) := by
        rw [List.drop_eq_getElem_cons (by simpa using hlt)]
        simp [hok]
      rw [hdr] at ht
      obtain ⟨g1, g2, _⟩ := htl k o ho hk
      refine OpOk.wpOpIn ho g1 g2 (OpOk.mono ht fun v w' h => ⟨k + 1, by omega, by omega, fun j hj => ?_, fun j hj hjs => ?_, h⟩)
      · by_cases e : j = k
        · subst e
          have : j < listed.size := by omega
          simp [this]
        · exact getD_set_true (hlo j (by omega))
      · rw [getD_set_ne true (by omega)]; exact hhi j (by omega) hjs
    rintro listed a w i o (⟨k, hk1, hk2, hlo, hhi, ht⟩ | ⟨hNl, hls, hcl, hdf, hts, hfix, hBw, hall⟩) hs ho hun hdeps
    · have hi : i < ops.size := (Array.getElem?_eq_some_iff.1 ho).1
      have hki : k ≤ i := by
        rcases Nat.lt_or_ge i k with h | h
        · have h1 := hlo i h
          have hil : i < listed.size := by omega
          simp [hil] at h1 hun
          rw [h1] at hun; cases hun
        · exact h
      have hik : i = k := by
        obtain ⟨_, _, h | ⟨e, he, hb, he1⟩⟩ := htl i o ho (by omega)
        · omega
        · rcases Nat.lt_or_ge k i with h | h
          · have h1 := hdeps e he hb
            have h2 := hhi e.on (by omega) (by omega)
            have hil : e.on < listed.size := by omega
            simp [hil] at h1 h2
            rw [h1] at h2; cases h2
          · omega
      subst hik
      exact wpOpIn_mono (fun a' w' h => .inl h) (tstep listed a w i o (by omega) ho hs hlo hhi ht)
    · have hi : i < ops.size := (Array.getElem?_eq_some_iff.1 ho).1
      rcases Nat.lt_or_ge i N with hiN' | hge
      · obtain ⟨o', ho', hdf', hdd⟩ := hdst i hiN'
        obtain rfl : o = o' := by rw [ho] at ho'; exact Option.some.inj ho'
        have hanc2 : ∀ k ∈ anc ops (i + 1) [i], k = i ∨ listed.getD k false = true :=
          anc_spec (N := i) (fun i' o' hne ho' hl' => by
            by_cases h : i' = N
            · subst h
              have h1 := hNl i' (Nat.le_refl _) hsz
              have hil : i' < listed.size := by omega
              simp [hil] at h1 hl'
              rw [h1] at hl'; cases hl'
            · exact hcl i' o' h ho' hl') (fun o' ho' => by obtain rfl : o = o' := Option.some.inj (ho.symm.trans ho'); exact hdeps) (i + 1) [i] (fun k hk => .inl (by simpa using hk))
        have hanc3 : ∀ j, j < N → listed.getD j false = true → ∀ k ∈ anc ops (j + 1) [j], k = j ∨ listed.getD k false = true := fun j hjN hjl =>
          anc_spec (N := j) (fun i' o' hne ho' hl' => by
            by_cases h : i' = N
            · subst h
              have h1 := hNl i' (Nat.le_refl _) hsz
              have hil : i' < listed.size := by omega
              simp [hil] at h1 hl'
              rw [h1] at hl'; cases hl'
            · exact hcl i' o' h ho' hl') (fun o' ho' => hcl j o' (by omega) ho' hjl) (j + 1) [j] (fun k hk => .inl (by simpa using hk))
        have hnl : ¬ listed.getD i false = true := by
          have hil : i < listed.size := by omega
          simp [hil] at hun ⊢
          exact hun
        have fin : ∀ (v : Value) (w' : World), Rel i w w' ∧ Sp (fun k => listed.getD k false = true ∨ k = i) i (kept3 o v) w' ∧ B (fun k => listed.getD k false = true ∨ k = i) (fun j => if j = i then kept3 o v else a.tmps.getD (d j) undef) w' → (∀ j, N ≤ j → j < ops.size → (listed.setIfInBounds i true).getD j true = false) ∧ (listed.setIfInBounds i true).size = ops.size ∧ (∀ i' o, i' ≠ N → ops[i']? = some o → (listed.setIfInBounds i true).getD i' false = true → ∀ e ∈ o.after, Region.binds .any e = true → (listed.setIfInBounds i true).getD e.on false = true) ∧
            (a.put o.dst v).defers = a0.defers ∧ (a.put o.dst v).tmps.size = a0.tmps.size ∧ (∀ s, (∀ j, j < N → d j ≠ s) → (a.put o.dst v).tmps.getD s undef = a0.tmps.getD s undef) ∧ B (fun k => (listed.setIfInBounds i true).getD k false = true) (fun j => (a.put o.dst v).tmps.getD (d j) undef) w' ∧ ∀ j, j < N → (listed.setIfInBounds i true).getD j false = true → Sp (fun k => (listed.setIfInBounds i true).getD k false = true) j ((a.put o.dst v).tmps.getD (d j) undef) w' := by
          rintro v w' ⟨hbw, hsp, hBn⟩
          have hil : i < listed.size := by omega
          have hLL : ∀ k, k < N → (listed.getD k false = true ∨ k = i) → (listed.setIfInBounds i true).getD k false = true := fun k _ hk => by
            rcases hk with hk | rfl
            · exact getD_set_true hk
            · simp [hil]
          rcases hdd with ⟨hds, hdlt⟩ | ⟨hds, hdlt⟩
          · have hk3 : kept3 o v = v := by unfold kept3; rw [hds]
            rw [hk3] at hsp hBn
            refine ⟨?_, by simp [hls], ?_, ?_, ?_, ?_, ?_, ?_⟩
            · intro j hj hjs
              rw [getD_set_ne true (by omega)]; exact hNl j hj hjs
            · intro j oj hjN hoj hjl e he hb
              by_cases hji : i = j
              · subst hji
                obtain rfl : o = oj := by rw [ho] at hoj; exact Option.some.inj hoj
                exact getD_set_true (hdeps e he hb)
              · rw [getD_set_ne false hji] at hjl
                exact getD_set_true (hcl j oj hjN hoj hjl e he hb)
            · rw [hds]; exact hdf
            · rw [hds]; simp [Act.put, hts]
            · intro s hns
              rw [hds]
              have hne : d i ≠ s := hns i hiN'
              simp only [Act.put]
              rw [← hfix s hns]
              simp [Array.getElem?_setIfInBounds_ne hne]
            · refine hBc _ _ _ _ w' (fun k hk => ⟨hLL k hk, fun h => ?_⟩) (fun k hk => ?_) hBn
              · by_cases hki : i = k
                · exact .inr hki.symm
                · rw [getD_set_ne false hki] at h; exact .inl h
              · rw [hds]
                by_cases hki : k = i
                · subst hki
                  have : d k < a.tmps.size := by omega
                  simp [Act.put, this]
                · have hne : d i ≠ d k := fun e => hki (hinj i k hiN' hk e).symm
                  rw [if_neg hki]
                  simp [Act.put, Array.getElem?_setIfInBounds_ne hne]
            · intro j hj hjl
              rw [hds]
              by_cases hji : i = j
              · subst hji
                simp only [Act.put]
                have : d i < a.tmps.size := by omega
                have h2 := hL _ _ i v w' hLL hsp
                simpa [this] using h2
              · rw [getD_set_ne false hji] at hjl
                have hne : d i ≠ d j := fun e => hji (hinj i j hiN' hj e)
                have h2 := hL _ _ j _ w' hLL (hSp (fun k => listed.getD k false = true) i j _ w w' hiN' hj hji hnl hanc2 (hanc3 j hj hjl) hbw (hall j hj hjl))
                simpa [Act.put, Array.getElem?_setIfInBounds_ne hne] using h2
          · have hk3 : kept3 o v = undef := by unfold kept3; rw [hds]
            rw [hk3] at hsp hBn
            refine ⟨?_, by simp [hls], ?_, ?_, ?_, ?_, ?_, ?_⟩
            · intro j hj hjs
              rw [getD_set_ne true (by omega)]; exact hNl j hj hjs
            · intro j oj hjN hoj hjl e he hb
              by_cases hji : i = j
              · subst hji
                obtain rfl : o = oj := by rw [ho] at hoj; exact Option.some.inj hoj
                exact getD_set_true (hdeps e he hb)
              · rw [getD_set_ne false hji] at hjl
                exact getD_set_true (hcl j oj hjN hoj hjl e he hb)
            · rw [hds]; exact hdf
            · rw [hds]; exact hts
            · intro s hns
              rw [hds]
              exact hfix s hns
            · refine hBc _ _ _ _ w' (fun k hk => ⟨hLL k hk, fun h => ?_⟩) (fun k hk => ?_) hBn
              · by_cases hki : i = k
                · exact .inr hki.symm
                · rw [getD_set_ne false hki] at h; exact .inl h
              · rw [hds]
                by_cases hki : k = i
                · subst hki
                  rw [if_pos rfl]
                  exact (getD_past (show a.tmps.size ≤ _ by omega)).symm
                · rw [if_neg hki]
                  rfl
            · intro j hj hjl
              rw [hds]
              by_cases hji : i = j
              · subst hji
                have h2 := hL _ _ i undef w' hLL hsp
                have e2 : a.tmps.getD (d i) undef = undef := getD_past (by omega)
                show Sp _ i (a.tmps.getD (d i) undef) w'
                rw [e2]; exact h2
              · rw [getD_set_ne false hji] at hjl
                exact hL _ _ j _ w' hLL (hSp (fun k => listed.getD k false = true) i j _ w w' hiN' hj hji hnl hanc2 (hanc3 j hj hjl) hbw (hall j hj hjl))
        obtain ⟨hw1, hw0⟩ := hop (fun k => listed.getD k false = true) i o a w hiN' ho hts hfix hBw hnl hanc2 hall (fun j hj => by
          obtain ⟨e, he, hb⟩ := List.any_eq_true.1 hj
          simp only [Bool.and_eq_true, beq_iff_eq] at hb
          obtain ⟨hb1, rfl⟩ := hb
          have he' : e ∈ o.after := by simpa using he
          have hlt := acyc_spec3 hac ho he' hb1
          exact hall e.on (by omega) (hdeps e he' hb1))
        cases hwt : Region.wanted o (yielded ops a.tmps) with
        | true => exact OpOk.wpOpIn' ho hwt hdf' ((hw1 hwt).mono fun v w' h => .inr (fin v w' h))
        | false => exact wpOpIn_skip ho hwt (.inr (fin undef w (by rw [kept3_undef]; exact hw0 hwt)))
      · have hiN : i = N := by
          obtain ⟨_, _, h | ⟨e, he, hb, he1⟩⟩ := htl i o ho hge
          · exact h
          · rcases Nat.lt_or_ge N i with h | h
            · have h1 := hdeps e he hb
              have h2 := hNl e.on (by omega) (by omega)
              have hil : e.on < listed.size := by omega
              simp [hil] at h1 h2
              rw [h1] at h2; cases h2
            · omega
        subst hiN
        have hallL : ∀ j, j < i → listed.getD j false = true := fun j hj => by
          rcases anc_spec hcl (fun o' ho' e he hb => by obtain rfl : o = o' := Option.some.inj (ho.symm.trans ho'); exact hdeps e he hb) (i + 1) [i] (fun k hk => .inl (by simpa using hk)) j (hanc j hj) with h | h
          · omega
          · exact h
        exact wpOpIn_mono (fun a' w' h => .inl h) (tstep listed a w i o (by omega) ho hs hallL hNl (hlast a w hdf hts hfix (fun L hLn => hBc _ L _ _ w (fun k hk => ⟨fun _ => hLn k hk, fun _ => hallL k hk⟩) (fun _ _ => rfl) hBw) (fun L hLn j hj => hL _ L j _ w (fun k hk _ => hLn k hk) (hall j hj (hallL j hj)))))
  · rintro listed a w (⟨k, hk1, hk2, hlo, hhi, ht⟩ | ⟨hNl, _⟩) hall
    · have hk : k = ops.size := by
        rcases Nat.lt_or_ge k ops.size with h | h
        · have h1 := hall k h
          have h2 := hhi k (Nat.le_refl _) h
          by_cases hkl : k < listed.size
          · simp [hkl] at h1 h2
            rw [h1] at h2; cases h2
          · simp [hkl] at h1
        · omega
      subst hk
      rw [List.drop_of_length_le (by simp)] at ht
      exact ht
    · have h1 := hall N hsz
      have h2 := hNl N (Nat.le_refl _) hsz
      by_cases hkl : N < listed.size
      · simp [hkl] at h1 h2
        rw [h1] at h2; cases h2
      · simp [hkl] at h1
  · refine .inr ⟨fun j _ hj => by simp [hj], by simp, fun i o _ _ h => ?_, rfl, rfl, fun _ _ => rfl, hBc _ _ _ _ _ (fun k _ => ⟨fun h => h.elim, fun h => ?_⟩) (fun _ _ => rfl) hB0, fun j _ h => ?_⟩
    · simp [Array.getElem?_replicate] at h; split at h <;> simp at h
    · simp [Array.getElem?_replicate] at h; split at h <;> simp at h
    · simp [Array.getElem?_replicate] at h; split at h <;> simp at h
  · unfold left
    exact Nat.le_trans List.countP_le_length (by simp)
theorem region_walk3 {P : Program} {rd : Option Nat} {id : Nat} {ops : Array Oper} {Q : Exit → Act → World → Prop} {a0 : Act} {w0 : World} (N : Nat) (d : Nat → Nat) (hm : P.follows .mixedOrders = true) (hl : lastOk3 ops N = true)
    (hd : dstOk3 ops N d a0.tmps.size = true)
    (B : (Nat → Prop) → (Nat → Value) → World → Prop) (Rel : Nat → World → World → Prop) (Sp : (Nat → Prop) → Nat → Value → World → Prop)
    (hSp : ∀ (L : Nat → Prop) i j v w w', i < N → j < N → i ≠ j → ¬ L i → (∀ k ∈ anc ops (i + 1) [i], k = i ∨ L k) → (∀ k ∈ anc ops (j + 1) [j], k = j ∨ L k) → Rel i w w' → Sp L j v w → Sp (fun k => L k ∨ k = i) j v w')
    (hL : ∀ (L L' : Nat → Prop) j v w, (∀ k, k < N → L k → L' k) → Sp L j v w → Sp L' j v w)
    (hBc : ∀ (L L' : Nat → Prop) (f f' : Nat → Value) w, (∀ k, k < N → (L k ↔ L' k)) → (∀ k, k < N → f k = f' k) → B L f w → B L' f' w)
    (hB0 : B (fun _ => False) (fun j => a0.tmps.getD (d j) undef) w0.drew)
    (hop : ∀ (L : Nat → Prop) (i : Nat) (a : Act) (w : World) (hi : i < ops.size), i < N → a.tmps.size = a0.tmps.size → (∀ s, (∀ j, j < N → d j ≠ s) → a.tmps.getD s undef = a0.tmps.getD s undef) → B L (fun j => a.tmps.getD (d j) undef) w → ¬ L i → (∀ k ∈ anc ops (i + 1) [i], k = i ∨ L k) →
      (∀ j, j < N → (L j → Sp L j (a.tmps.getD (d j) undef) w)) → (∀ j, (ops[i].after.toList.any fun e => Region.binds .any e && e.on == j) = true → Sp L j (a.tmps.getD (d j) undef) w) →
      (Region.wanted ops[i] (yielded ops a.tmps) = true → OpOk P ops[i] a w fun v w' => Rel i w w' ∧ Sp (fun k => L k ∨ k = i) i (kept3 ops[i] v) w' ∧ B (fun k => L k ∨ k = i) (fun j => if j = i then kept3 ops[i] v else a.tmps.getD (d j) undef) w') ∧ (Region.wanted ops[i] (yielded ops a.tmps) = false → Rel i w w ∧ Sp (fun k => L k ∨ k = i) i undef w ∧ B (fun k => L k ∨ k = i) (fun j => if j = i then undef else a.tmps.getD (d j) undef) w))
    (hlast : ∀ (a : Act) (w : World), a.defers = a0.defers → a.tmps.size = a0.tmps.size → (∀ s, (∀ j, j < N → d j ≠ s) → a.tmps.getD s undef = a0.tmps.getD s undef) → (∀ (L : Nat → Prop), (∀ j, j < N → L j) → B L (fun j => a.tmps.getD (d j) undef) w) → (∀ (L : Nat → Prop), (∀ j, j < N → L j) → ∀ j, j < N → Sp L j (a.tmps.getD (d j) undef) w) →
      tailRun P Q (ops.toList.drop N) a w) :
    (Code.region id ops true).wpIn { Fence.wide with round := rd } 0 P Q a0 w0 := by
  obtain ⟨h1, h2⟩ := dstOk3_spec hd
  refine region_spec3 hm hl d h1 h2 B Rel Sp hSp hL hBc hB0 ?_ hlast
  intro L i o a w hi ho hts hfix hBw hnl hanc hall hdep
  obtain ⟨his, rfl⟩ := Array.getElem?_eq_some_iff.1 ho
  exact hop L i a w his hi hts hfix hBw hnl hanc hall hdep
end Go.Proofs.Ytdagijgoegkphaa.Hand

namespace Go.Proofs.Ytdagijgoegkphaa.Hand
open Go.RowKit Go.Shelf
structure Rg where
  lo : Int
  hi : Int
def Rg.enc (s : Rg) : Value := .agg #[.int .i64 s.lo, .int .i64 s.hi]
def Rg.At (w : World) (A : Option Addr) (l : List Rg) : Prop :=
  ∀ i, (h : i < l.length) → ∃ b off, A = some ⟨b, off, none⟩ ∧ b < w.heap.size ∧ w.cell? ⟨b, off + i * 2, none⟩ = some (.int .i64 (l[i]).lo) ∧ w.cell? ⟨b, off + i * 2 + 1, none⟩ = some (.int .i64 (l[i]).hi)
theorem Rg.At.below {w W : World} {A : Option Addr} {l : List Rg} (h : Rg.At w A l) (hb : Below w.heap.size w W) : Rg.At W A l := fun i hi => by
  obtain ⟨b, off, hA, hlt, h0, h1⟩ := h i hi
  exact ⟨b, off, hA, Nat.lt_of_lt_of_le hlt hb.size, (hb.cell (p := ⟨b, _, none⟩) hlt).trans h0, (hb.cell (p := ⟨b, _, none⟩) hlt).trans h1⟩
def Rg.PredB (g : Nat) (ba lb : Array Value) (p : Rg → Bool) (ok : Rg → Prop) (w : World) : Prop :=
  ∀ (W : World) (x : Rg), ok x → Below w.heap.size w W → Calls Try.prog g (ba ++ #[x.enc] ++ lb) W fun e w' => e = .returned (.bool (p x)) ∧ Below W.heap.size W w'
theorem Rg.PredB.later {g : Nat} {ba lb : Array Value} {p : Rg → Bool} {ok : Rg → Prop} {w w' : World} (h : Rg.PredB g ba lb p ok w) (hb : Below w.heap.size w w') : Rg.PredB g ba lb p ok w' :=
  fun W x hx hW => h W x hx (hb.trans (hW.mono hb.size))
def Rg.idxOf (p : Rg → Bool) : List Rg → Nat → Int
  | [], _ => -1
  | x :: l, k => if p x then k else Rg.idxOf p l (k + 1)
theorem Rg.idxOf_any (p : Rg → Bool) : ∀ (l : List Rg) (k : Nat), decide (0 ≤ Rg.idxOf p l k) = l.any p
  | [], _ => by simp [Rg.idxOf]
  | x :: l, k => by
    unfold Rg.idxOf
    cases h : p x
    · simp [h, Rg.idxOf_any p l (k + 1)]
    · simp [h]
set_option maxHeartbeats 2000000 in
theorem Rg.index_any (p : Rg → Bool) (ok : Rg → Prop) (g : Nat) (ba lb : Array Value) (eg : ∀ args w, (callFunc g args).run Try.prog w = .ok (.enter g args) w) (A : Option Addr) (c : Nat) (zs : List Rg) (w : World)
    (hp : Rg.PredB g ba lb p ok w) (hok : ∀ x ∈ zs, ok x) (hz : Rg.At w A zs) (hbig : zs.length ≤ 9223372036854775807) :
    Calls Try.prog 102 #[.slice A zs.length c, .func (.func g) ba lb] w fun e w' => e = .returned (.int .i64 (Rg.idxOf p zs 0)) ∧ Below w.heap.size w w' := by
  have HP := Aw.mk hp
  have HZ := Aw.mk hz
  have HOK := Aw.mk hok
  clear hp hz hok
  go_enter Try.func102, Try.ntmps102
  go_wp2
  go_loopg [5, 8] zs.length (fun gg _ s8 wr => ∃ kk : Nat, kk ≤ zs.length ∧ zs.length - kk ≤ gg ∧ s8 = .int .i64 kk ∧ Aw (Below w.heap.size w wr) ∧ Aw (Rg.idxOf p (zs.drop kk) kk = Rg.idxOf p zs 0))
  case atStart => exact ⟨0, Nat.zero_le _, by omega, rfl, ⟨Below.refl _ w⟩, ⟨rfl⟩⟩
  case round =>
    obtain ⟨kk, hkk, hg, rfl, BW, BA⟩ := hrel
    by_cases hlt : kk < zs.length
    · obtain ⟨b, off, rfl, hbl, h0, h1⟩ := (HZ.out.below BW.out) kk hlt
      have hcall := HP.out wr zs[kk] (HOK.out _ (List.getElem_mem hlt)) BW.out
      have hd : Aw (zs.drop kk = zs[kk] :: zs.drop (kk + 1)) := ⟨List.drop_eq_getElem_cons hlt⟩
      generalize zs[kk] = y at h0 h1 hcall hd
      obtain ⟨y0, y1⟩ := y
      unfold Rg.enc at hcall
      dsimp only at h0 h1 hcall
      have hltz : (kk : Int) < (zs.length : Int) := by omega
      cases hq : p ⟨y0, y1⟩ with
      | true =>
        rw [hq] at hcall
        have HQ := Aw.mk hq
        clear hq
        go_wp2_with (go_at_fn g; refine hcall.mono ?_; rintro e w' ⟨rfl, hb'⟩)
        go_ret
        refine ⟨?_, BW.out.trans (hb'.mono BW.out.size)⟩
        rw [← BA.out, hd.out, Rg.idxOf, HQ.out]
        rfl
      | false =>
        rw [hq] at hcall
        have HQ := Aw.mk hq
        clear hq
        go_wp2_with (go_at_fn g; refine hcall.mono ?_; rintro e w' ⟨rfl, hb'⟩)
        go_roundg (zs.length - (kk + 1))
        case measure => omega
        case rel => exact ⟨kk + 1, by omega, by omega, by go_num, ⟨BW.out.trans (hb'.mono BW.out.size)⟩, ⟨by rw [← BA.out, hd.out, Rg.idxOf, HQ.out]; rfl⟩⟩
    · have : kk = zs.length := by omega
      subst this
      go_wp2
      go_ret
      refine ⟨?_, BW.out⟩
      rw [← BA.out, List.drop_length]
      rfl
theorem Rg.contains_any (p : Rg → Bool) (ok : Rg → Prop) (g : Nat) (ba lb : Array Value) (eg : ∀ args w, (callFunc g args).run Try.prog w = .ok (.enter g args) w) (A : Option Addr) (c : Nat) (zs : List Rg) (w : World)
    (hp : Rg.PredB g ba lb p ok w) (hok : ∀ x ∈ zs, ok x) (hz : Rg.At w A zs) (hbig : zs.length ≤ 9223372036854775807) :
    Calls Try.prog 93 #[.slice A zs.length c, .func (.func g) ba lb] w fun e w' => e = .returned (.bool (zs.any p)) ∧ Below w.heap.size w w' := by
  have HE := Aw.mk (Rg.idxOf_any p zs 0)
  have hc := Rg.index_any p ok g ba lb eg A c zs w hp hok hz hbig
  clear hp hz hok
  go_enter Try.func93, Try.ntmps93
  go_wp2_with (go_at_call 102; refine hc.mono ?_; rintro e w' ⟨rfl, hb'⟩)
  go_ret
  exact ⟨by rw [← HE.out]; rfl, hb'⟩
theorem Rg.not_any (g : Nat) (ba lb : Array Value) (eg : ∀ args w, (callFunc g args).run Try.prog w = .ok (.enter g args) w) (p : Rg → Bool) (ok : Rg → Prop) (w : World) (B : Nat) (hB : B < w.heap.size)
    (hc : w.cell? ⟨B, 0, none⟩ = some (.func (.func g) ba lb)) (hp : Rg.PredB g ba lb p ok w) : Rg.PredB 94 #[] #[.pointer (some ⟨B, 0, none⟩)] (fun s => !p s) ok w := by
  intro W x hx hW
  have h1 : W.cell? ⟨B, 0, none⟩ = some (.func (.func g) ba lb) := (hW.cell (p := ⟨B, 0, none⟩) hB).trans hc
  have h2 := (hp.later hW) (W.alloc (.cells #[.int .i64 x.lo, .int .i64 x.hi] 47)) x hx ((Below.refl _ W).alloc (Nat.le_refl _) _)
  have h3 := (hp.later hW) W x hx (Below.refl _ W)
  have hBW : B < W.heap.size := Nat.lt_of_lt_of_le hB hW.size
  obtain ⟨x0, x1⟩ := x
  unfold Rg.enc at *
  dsimp only at *
  clear hp hc hW hx
  go_enter Try.func94, Try.ntmps94
  go_wp2_with (go_at_fn g; (first | refine h2.mono ?_ | refine h3.mono ?_); rintro e w' ⟨rfl, hb'⟩)
  go_ret
  first | exact ⟨rfl, ((Below.refl _ W).alloc (Nat.le_refl _) _).trans (hb'.mono (by simp))⟩ | exact ⟨rfl, hb'⟩
theorem Rg.all_any (p : Rg → Bool) (ok : Rg → Prop) (g : Nat) (ba lb : Array Value) (eg : ∀ args w, (callFunc g args).run Try.prog w = .ok (.enter g args) w) (A : Option Addr) (c : Nat) (zs : List Rg) (w : World)
    (hp : Rg.PredB g ba lb p ok w) (hok : ∀ x ∈ zs, ok x) (hz : Rg.At w A zs) (hbig : zs.length ≤ 9223372036854775807) :
    Calls Try.prog 73 #[.slice A zs.length c, .func (.func g) ba lb] w fun e w' => e = .returned (.bool (zs.all p)) ∧ Below w.heap.size w w' := by
  have hb : Below w.heap.size w (w.alloc (.cells #[.func (.func g) ba lb] 123)) := (Below.refl _ w).alloc (Nat.le_refl _) _
  have en : ∀ args w, (callFunc 94 args).run Try.prog w = .ok (.enter 94 args) w := enters_of Try.func94 (by kernel_rfl) rfl
  have hc := Rg.contains_any (fun s => !p s) ok 94 #[] #[.pointer (some ⟨w.heap.size, 0, none⟩)] en A c zs (w.alloc (.cells #[.func (.func g) ba lb] 123))
    (Rg.not_any g ba lb eg p ok _ w.heap.size (by simp) (by simp) (hp.later hb)) hok (hz.below hb) hbig
  have HE : Aw ((!zs.any fun s => !p s) = zs.all p) := ⟨by simp [List.all_eq_not_any_not]⟩
  have HB := Aw.mk hb
  clear hp hz hb hok
  go_enter Try.func73, Try.ntmps73
  go_wp2_with (go_at_call 93; refine hc.mono ?_; rintro e w' ⟨rfl, hb'⟩)
  go_ret
  exact ⟨by rw [← HE.out]; rfl, HB.out.trans (hb'.mono (by simp))⟩
structure Sg where
  band : Int
  lo : Int
  hi : Int
def Sg.enc (s : Sg) : Value := .agg #[.int .i64 s.band, .int .i64 s.lo, .int .i64 s.hi]
def Sg.At (w : World) (A : Option Addr) (l : List Sg) : Prop :=
  ∀ i, (h : i < l.length) → ∃ b off, A = some ⟨b, off, none⟩ ∧ b < w.heap.size ∧ w.cell? ⟨b, off + i * 3, none⟩ = some (.int .i64 (l[i]).band) ∧ w.cell? ⟨b, off + i * 3 + 1, none⟩ = some (.int .i64 (l[i]).lo) ∧ w.cell? ⟨b, off + i * 3 + 2, none⟩ = some (.int .i64 (l[i]).hi)
theorem Sg.At.below {w W : World} {A : Option Addr} {l : List Sg} (h : Sg.At w A l) (hb : Below w.heap.size w W) : Sg.At W A l := fun i hi => by
  obtain ⟨b, off, hA, hlt, h0, h1, h2⟩ := h i hi
  exact ⟨b, off, hA, Nat.lt_of_lt_of_le hlt hb.size, (hb.cell (p := ⟨b, _, none⟩) hlt).trans h0, (hb.cell (p := ⟨b, _, none⟩) hlt).trans h1, (hb.cell (p := ⟨b, _, none⟩) hlt).trans h2⟩
def Sg.PredB (g : Nat) (ba lb : Array Value) (p : Sg → Bool) (ok : Sg → Prop) (w : World) : Prop :=
  ∀ (W : World) (x : Sg), ok x → Below w.heap.size w W → Calls Try.prog g (ba ++ #[x.enc] ++ lb) W fun e w' => e = .returned (.bool (p x)) ∧ Below W.heap.size W w'
theorem Sg.PredB.later {g : Nat} {ba lb : Array Value} {p : Sg → Bool} {ok : Sg → Prop} {w w' : World} (h : Sg.PredB g ba lb p ok w) (hb : Below w.heap.size w w') : Sg.PredB g ba lb p ok w' :=
  fun W x hx hW => h W x hx (hb.trans (hW.mono hb.size))
def Sg.idxOf (p : Sg → Bool) : List Sg → Nat → Int
  | [], _ => -1
  | x :: l, k => if p x then k else Sg.idxOf p l (k + 1)
theorem Sg.idxOf_any (p : Sg → Bool) : ∀ (l : List Sg) (k : Nat), decide (0 ≤ Sg.idxOf p l k) = l.any p
  | [], _ => by simp [Sg.idxOf]
  | x :: l, k => by
    unfold Sg.idxOf
    cases h : p x
    · simp [h, Sg.idxOf_any p l (k + 1)]
    · simp [h]
set_option maxHeartbeats 2000000 in
theorem Sg.index_any (p : Sg → Bool) (ok : Sg → Prop) (g : Nat) (ba lb : Array Value) (eg : ∀ args w, (callFunc g args).run Try.prog w = .ok (.enter g args) w) (A : Option Addr) (c : Nat) (zs : List Sg) (w : World)
    (hp : Sg.PredB g ba lb p ok w) (hok : ∀ x ∈ zs, ok x) (hz : Sg.At w A zs) (hbig : zs.length ≤ 9223372036854775807) :
    Calls Try.prog 104 #[.slice A zs.length c, .func (.func g) ba lb] w fun e w' => e = .returned (.int .i64 (Sg.idxOf p zs 0)) ∧ Below w.heap.size w w' := by
  have HP := Aw.mk hp
  have HZ := Aw.mk hz
  have HOK := Aw.mk hok
  clear hp hz hok
  go_enter Try.func104, Try.ntmps104
  go_wp2
  go_loopg [5, 8] zs.length (fun gg _ s8 wr => ∃ kk : Nat, kk ≤ zs.length ∧ zs.length - kk ≤ gg ∧ s8 = .int .i64 kk ∧ Aw (Below w.heap.size w wr) ∧ Aw (Sg.idxOf p (zs.drop kk) kk = Sg.idxOf p zs 0))
  case atStart => exact ⟨0, Nat.zero_le _, by omega, rfl, ⟨Below.refl _ w⟩, ⟨rfl⟩⟩
  case round =>
    obtain ⟨kk, hkk, hg, rfl, BW, BA⟩ := hrel
    by_cases hlt : kk < zs.length
    · obtain ⟨b, off, rfl, hbl, h0, h1, h2⟩ := (HZ.out.below BW.out) kk hlt
      have hcall := HP.out wr zs[kk] (HOK.out _ (List.getElem_mem hlt)) BW.out
      have hd : Aw (zs.drop kk = zs[kk] :: zs.drop (kk + 1)) := ⟨List.drop_eq_getElem_cons hlt⟩
      generalize zs[kk] = y at h0 h1 h2 hcall hd
      obtain ⟨y0, y1, y2⟩ := y
      unfold Sg.enc at hcall
      dsimp only at h0 h1 h2 hcall
      have hltz : (kk : Int) < (zs.length : Int) := by omega
      cases hq : p ⟨y0, y1, y2⟩ with
      | true =>
        rw [hq] at hcall
        have HQ := Aw.mk hq
        clear hq
        go_wp2_with (go_at_fn g; refine hcall.mono ?_; rintro e w' ⟨rfl, hb'⟩)
        go_ret
        refine ⟨?_, BW.out.trans (hb'.mono BW.out.size)⟩
        rw [← BA.out, hd.out, Sg.idxOf, HQ.out]
        rfl
      | false =>
        rw [hq] at hcall
        have HQ := Aw.mk hq
        clear hq
        go_wp2_with (go_at_fn g; refine hcall.mono ?_; rintro e w' ⟨rfl, hb'⟩)
        go_roundg (zs.length - (kk + 1))
        case measure => omega
        case rel => exact ⟨kk + 1, by omega, by omega, by go_num, ⟨BW.out.trans (hb'.mono BW.out.size)⟩, ⟨by rw [← BA.out, hd.out, Sg.idxOf, HQ.out]; rfl⟩⟩
    · have : kk = zs.length := by omega
      subst this
      go_wp2
      go_ret
      refine ⟨?_, BW.out⟩
      rw [← BA.out, List.drop_length]
      rfl
theorem Sg.contains_any (p : Sg → Bool) (ok : Sg → Prop) (g : Nat) (ba lb : Array Value) (eg : ∀ args w, (callFunc g args).run Try.prog w = .ok (.enter g args) w) (A : Option Addr) (c : Nat) (zs : List Sg) (w : World)
    (hp : Sg.PredB g ba lb p ok w) (hok : ∀ x ∈ zs, ok x) (hz : Sg.At w A zs) (hbig : zs.length ≤ 9223372036854775807) :
    Calls Try.prog 98 #[.slice A zs.length c, .func (.func g) ba lb] w fun e w' => e = .returned (.bool (zs.any p)) ∧ Below w.heap.size w w' := by
  have HE := Aw.mk (Sg.idxOf_any p zs 0)
  have hc := Sg.index_any p ok g ba lb eg A c zs w hp hok hz hbig
  clear hp hz hok
  go_enter Try.func98, Try.ntmps98
  go_wp2_with (go_at_call 104; refine hc.mono ?_; rintro e w' ⟨rfl, hb'⟩)
  go_ret
  exact ⟨by rw [← HE.out]; rfl, hb'⟩
theorem Sg.not_any (g : Nat) (ba lb : Array Value) (eg : ∀ args w, (callFunc g args).run Try.prog w = .ok (.enter g args) w) (p : Sg → Bool) (ok : Sg → Prop) (w : World) (B : Nat) (hB : B < w.heap.size)
    (hc : w.cell? ⟨B, 0, none⟩ = some (.func (.func g) ba lb)) (hp : Sg.PredB g ba lb p ok w) : Sg.PredB 99 #[] #[.pointer (some ⟨B, 0, none⟩)] (fun s => !p s) ok w := by
  intro W x hx hW
  have h1 : W.cell? ⟨B, 0, none⟩ = some (.func (.func g) ba lb) := (hW.cell (p := ⟨B, 0, none⟩) hB).trans hc
  have h2 := (hp.later hW) (W.alloc (.cells #[.int .i64 x.band, .int .i64 x.lo, .int .i64 x.hi] 65)) x hx ((Below.refl _ W).alloc (Nat.le_refl _) _)
  have h3 := (hp.later hW) W x hx (Below.refl _ W)
  have hBW : B < W.heap.size := Nat.lt_of_lt_of_le hB hW.size
  obtain ⟨x0, x1, x2⟩ := x
  unfold Sg.enc at *
  dsimp only at *
  clear hp hc hW hx
  go_enter Try.func99, Try.ntmps99
  go_wp2_with (go_at_fn g; (first | refine h2.mono ?_ | refine h3.mono ?_); rintro e w' ⟨rfl, hb'⟩)
  go_ret
  first | exact ⟨rfl, ((Below.refl _ W).alloc (Nat.le_refl _) _).trans (hb'.mono (by simp))⟩ | exact ⟨rfl, hb'⟩
theorem Sg.all_any (p : Sg → Bool) (ok : Sg → Prop) (g : Nat) (ba lb : Array Value) (eg : ∀ args w, (callFunc g args).run Try.prog w = .ok (.enter g args) w) (A : Option Addr) (c : Nat) (zs : List Sg) (w : World)
    (hp : Sg.PredB g ba lb p ok w) (hok : ∀ x ∈ zs, ok x) (hz : Sg.At w A zs) (hbig : zs.length ≤ 9223372036854775807) :
    Calls Try.prog 82 #[.slice A zs.length c, .func (.func g) ba lb] w fun e w' => e = .returned (.bool (zs.all p)) ∧ Below w.heap.size w w' := by
  have hb : Below w.heap.size w (w.alloc (.cells #[.func (.func g) ba lb] 131)) := (Below.refl _ w).alloc (Nat.le_refl _) _
  have en : ∀ args w, (callFunc 99 args).run Try.prog w = .ok (.enter 99 args) w := enters_of Try.func99 (by kernel_rfl) rfl
  have hc := Sg.contains_any (fun s => !p s) ok 99 #[] #[.pointer (some ⟨w.heap.size, 0, none⟩)] en A c zs (w.alloc (.cells #[.func (.func g) ba lb] 131))
    (Sg.not_any g ba lb eg p ok _ w.heap.size (by simp) (by simp) (hp.later hb)) hok (hz.below hb) hbig
  have HE : Aw ((!zs.any fun s => !p s) = zs.all p) := ⟨by simp [List.all_eq_not_any_not]⟩
  have HB := Aw.mk hb
  clear hp hz hb hok
  go_enter Try.func82, Try.ntmps82
  go_wp2_with (go_at_call 98; refine hc.mono ?_; rintro e w' ⟨rfl, hb'⟩)
  go_ret
  exact ⟨by rw [← HE.out]; rfl, HB.out.trans (hb'.mono (by simp))⟩
structure Rn where
  sA : Option Addr
  sc : Nat
  zs : List Sg
  lo : Int
  hi : Int
def Rn.enc (s : Rn) : Value := .agg #[.slice s.sA s.zs.length s.sc, .int .i64 s.lo, .int .i64 s.hi]
def Rn.At (w : World) (A : Option Addr) (l : List Rn) : Prop :=
  ∀ i, (h : i < l.length) → ∃ b off, A = some ⟨b, off, none⟩ ∧ b < w.heap.size ∧ w.cell? ⟨b, off + i * 3, none⟩ = some (.slice (l[i]).sA (l[i]).zs.length (l[i]).sc) ∧ w.cell? ⟨b, off + i * 3 + 1, none⟩ = some (.int .i64 (l[i]).lo) ∧ w.cell? ⟨b, off + i * 3 + 2, none⟩ = some (.int .i64 (l[i]).hi)
theorem Rn.At.below {w W : World} {A : Option Addr} {l : List Rn} (h : Rn.At w A l) (hb : Below w.heap.size w W) : Rn.At W A l := fun i hi => by
  obtain ⟨b, off, hA, hlt, h0, h1, h2⟩ := h i hi
  exact ⟨b, off, hA, Nat.lt_of_lt_of_le hlt hb.size, (hb.cell (p := ⟨b, _, none⟩) hlt).trans h0, (hb.cell (p := ⟨b, _, none⟩) hlt).trans h1, (hb.cell (p := ⟨b, _, none⟩) hlt).trans h2⟩
def Rn.PredB (g : Nat) (ba lb : Array Value) (p : Rn → Bool) (ok : Rn → Prop) (w : World) : Prop :=
  ∀ (W : World) (x : Rn), ok x → Below w.heap.size w W → Calls Try.prog g (ba ++ #[x.enc] ++ lb) W fun e w' => e = .returned (.bool (p x)) ∧ Below W.heap.size W w'
theorem Rn.PredB.later {g : Nat} {ba lb : Array Value} {p : Rn → Bool} {ok : Rn → Prop} {w w' : World} (h : Rn.PredB g ba lb p ok w) (hb : Below w.heap.size w w') : Rn.PredB g ba lb p ok w' :=
  fun W x hx hW => h W x hx (hb.trans (hW.mono hb.size))
def Rn.idxOf (p : Rn → Bool) : List Rn → Nat → Int
  | [], _ => -1
  | x :: l, k => if p x then k else Rn.idxOf p l (k + 1)
theorem Rn.idxOf_any (p : Rn → Bool) : ∀ (l : List Rn) (k : Nat), decide (0 ≤ Rn.idxOf p l k) = l.any p
  | [], _ => by simp [Rn.idxOf]
  | x :: l, k => by
    unfold Rn.idxOf
    cases h : p x
    · simp [h, Rn.idxOf_any p l (k + 1)]
    · simp [h]
set_option maxHeartbeats 2000000 in
theorem Rn.index_any (p : Rn → Bool) (ok : Rn → Prop) (g : Nat) (ba lb : Array Value) (eg : ∀ args w, (callFunc g args).run Try.prog w = .ok (.enter g args) w) (A : Option Addr) (c : Nat) (zs : List Rn) (w : World)
    (hp : Rn.PredB g ba lb p ok w) (hok : ∀ x ∈ zs, ok x) (hz : Rn.At w A zs) (hbig : zs.length ≤ 9223372036854775807) :
    Calls Try.prog 103 #[.slice A zs.length c, .func (.func g) ba lb] w fun e w' => e = .returned (.int .i64 (Rn.idxOf p zs 0)) ∧ Below w.heap.size w w' := by
  have HP := Aw.mk hp
  have HZ := Aw.mk hz
  have HOK := Aw.mk hok
  clear hp hz hok
  go_enter Try.func103, Try.ntmps103
  go_wp2
  go_loopg [5, 8] zs.length (fun gg _ s8 wr => ∃ kk : Nat, kk ≤ zs.length ∧ zs.length - kk ≤ gg ∧ s8 = .int .i64 kk ∧ Aw (Below w.heap.size w wr) ∧ Aw (Rn.idxOf p (zs.drop kk) kk = Rn.idxOf p zs 0))
  case atStart => exact ⟨0, Nat.zero_le _, by omega, rfl, ⟨Below.refl _ w⟩, ⟨rfl⟩⟩
  case round =>
    obtain ⟨kk, hkk, hg, rfl, BW, BA⟩ := hrel
    by_cases hlt : kk < zs.length
    · obtain ⟨b, off, rfl, hbl, h0, h1, h2⟩ := (HZ.out.below BW.out) kk hlt
      have hcall := HP.out wr zs[kk] (HOK.out _ (List.getElem_mem hlt)) BW.out
      have hd : Aw (zs.drop kk = zs[kk] :: zs.drop (kk + 1)) := ⟨List.drop_eq_getElem_cons hlt⟩
      generalize zs[kk] = y at h0 h1 h2 hcall hd
      obtain ⟨y0, y1, y2, y3, y4⟩ := y
      unfold Rn.enc at hcall
      dsimp only at h0 h1 h2 hcall
      have hltz : (kk : Int) < (zs.length : Int) := by omega
      cases hq : p ⟨y0, y1, y2, y3, y4⟩ with
      | true =>
        rw [hq] at hcall
        have HQ := Aw.mk hq
        clear hq
        go_wp2_with (go_at_fn g; refine hcall.mono ?_; rintro e w' ⟨rfl, hb'⟩)
        go_ret
        refine ⟨?_, BW.out.trans (hb'.mono BW.out.size)⟩
        rw [← BA.out, hd.out, Rn.idxOf, HQ.out]
        rfl
      | false =>
        rw [hq] at hcall
        have HQ := Aw.mk hq
        clear hq
        go_wp2_with (go_at_fn g; refine hcall.mono ?_; rintro e w' ⟨rfl, hb'⟩)
        go_roundg (zs.length - (kk + 1))
        case measure => omega
        case rel => exact ⟨kk + 1, by omega, by omega, by go_num, ⟨BW.out.trans (hb'.mono BW.out.size)⟩, ⟨by rw [← BA.out, hd.out, Rn.idxOf, HQ.out]; rfl⟩⟩
    · have : kk = zs.length := by omega
      subst this
      go_wp2
      go_ret
      refine ⟨?_, BW.out⟩
      rw [← BA.out, List.drop_length]
      rfl
theorem Rn.contains_any (p : Rn → Bool) (ok : Rn → Prop) (g : Nat) (ba lb : Array Value) (eg : ∀ args w, (callFunc g args).run Try.prog w = .ok (.enter g args) w) (A : Option Addr) (c : Nat) (zs : List Rn) (w : World)
    (hp : Rn.PredB g ba lb p ok w) (hok : ∀ x ∈ zs, ok x) (hz : Rn.At w A zs) (hbig : zs.length ≤ 9223372036854775807) :
    Calls Try.prog 96 #[.slice A zs.length c, .func (.func g) ba lb] w fun e w' => e = .returned (.bool (zs.any p)) ∧ Below w.heap.size w w' := by
  have HE := Aw.mk (Rn.idxOf_any p zs 0)
  have hc := Rn.index_any p ok g ba lb eg A c zs w hp hok hz hbig
  clear hp hz hok
  go_enter Try.func96, Try.ntmps96
  go_wp2_with (go_at_call 103; refine hc.mono ?_; rintro e w' ⟨rfl, hb'⟩)
  go_ret
  exact ⟨by rw [← HE.out]; rfl, hb'⟩
theorem Rn.not_any (g : Nat) (ba lb : Array Value) (eg : ∀ args w, (callFunc g args).run Try.prog w = .ok (.enter g args) w) (p : Rn → Bool) (ok : Rn → Prop) (w : World) (B : Nat) (hB : B < w.heap.size)
    (hc : w.cell? ⟨B, 0, none⟩ = some (.func (.func g) ba lb)) (hp : Rn.PredB g ba lb p ok w) : Rn.PredB 97 #[] #[.pointer (some ⟨B, 0, none⟩)] (fun s => !p s) ok w := by
  intro W x hx hW
  have h1 : W.cell? ⟨B, 0, none⟩ = some (.func (.func g) ba lb) := (hW.cell (p := ⟨B, 0, none⟩) hB).trans hc
  have h2 := (hp.later hW) (W.alloc (.cells #[.slice x.sA x.zs.length x.sc, .int .i64 x.lo, .int .i64 x.hi] 67)) x hx ((Below.refl _ W).alloc (Nat.le_refl _) _)
  have h3 := (hp.later hW) W x hx (Below.refl _ W)
  have hBW : B < W.heap.size := Nat.lt_of_lt_of_le hB hW.size
  obtain ⟨x0, x1, x2, x3, x4⟩ := x
  unfold Rn.enc at *
  dsimp only at *
  clear hp hc hW hx
  go_enter Try.func97, Try.ntmps97
  go_wp2_with (go_at_fn g; (first | refine h2.mono ?_ | refine h3.mono ?_); rintro e w' ⟨rfl, hb'⟩)
  go_ret
  first | exact ⟨rfl, ((Below.refl _ W).alloc (Nat.le_refl _) _).trans (hb'.mono (by simp))⟩ | exact ⟨rfl, hb'⟩
theorem Rn.all_any (p : Rn → Bool) (ok : Rn → Prop) (g : Nat) (ba lb : Array Value) (eg : ∀ args w, (callFunc g args).run Try.prog w = .ok (.enter g args) w) (A : Option Addr) (c : Nat) (zs : List Rn) (w : World)
    (hp : Rn.PredB g ba lb p ok w) (hok : ∀ x ∈ zs, ok x) (hz : Rn.At w A zs) (hbig : zs.length ≤ 9223372036854775807) :
    Calls Try.prog 78 #[.slice A zs.length c, .func (.func g) ba lb] w fun e w' => e = .returned (.bool (zs.all p)) ∧ Below w.heap.size w w' := by
  have hb : Below w.heap.size w (w.alloc (.cells #[.func (.func g) ba lb] 128)) := (Below.refl _ w).alloc (Nat.le_refl _) _
  have en : ∀ args w, (callFunc 97 args).run Try.prog w = .ok (.enter 97 args) w := enters_of Try.func97 (by kernel_rfl) rfl
  have hc := Rn.contains_any (fun s => !p s) ok 97 #[] #[.pointer (some ⟨w.heap.size, 0, none⟩)] en A c zs (w.alloc (.cells #[.func (.func g) ba lb] 128))
    (Rn.not_any g ba lb eg p ok _ w.heap.size (by simp) (by simp) (hp.later hb)) hok (hz.below hb) hbig
  have HE : Aw ((!zs.any fun s => !p s) = zs.all p) := ⟨by simp [List.all_eq_not_any_not]⟩
  have HB := Aw.mk hb
  clear hp hz hb hok
  go_enter Try.func78, Try.ntmps78
  go_wp2_with (go_at_call 96; refine hc.mono ?_; rintro e w' ⟨rfl, hb'⟩)
  go_ret
  exact ⟨by rw [← HE.out]; rfl, HB.out.trans (hb'.mono (by simp))⟩
structure Nm where
  n : Int
def Nm.enc (s : Nm) : Value := .int .i64 s.n
def Nm.At (w : World) (A : Option Addr) (l : List Nm) : Prop :=
  ∀ i, (h : i < l.length) → ∃ b off, A = some ⟨b, off, none⟩ ∧ b < w.heap.size ∧ w.cell? ⟨b, off + i, none⟩ = some (.int .i64 (l[i]).n)
theorem Nm.At.below {w W : World} {A : Option Addr} {l : List Nm} (h : Nm.At w A l) (hb : Below w.heap.size w W) : Nm.At W A l := fun i hi => by
  obtain ⟨b, off, hA, hlt, h0⟩ := h i hi
  exact ⟨b, off, hA, Nat.lt_of_lt_of_le hlt hb.size, (hb.cell (p := ⟨b, _, none⟩) hlt).trans h0⟩
def Nm.PredB (g : Nat) (ba lb : Array Value) (p : Nm → Bool) (ok : Nm → Prop) (w : World) : Prop :=
  ∀ (W : World) (x : Nm), ok x → Below w.heap.size w W → Calls Try.prog g (ba ++ #[x.enc] ++ lb) W fun e w' => e = .returned (.bool (p x)) ∧ Below W.heap.size W w'
theorem Nm.PredB.later {g : Nat} {ba lb : Array Value} {p : Nm → Bool} {ok : Nm → Prop} {w w' : World} (h : Nm.PredB g ba lb p ok w) (hb : Below w.heap.size w w') : Nm.PredB g ba lb p ok w' :=
  fun W x hx hW => h W x hx (hb.trans (hW.mono hb.size))
def Nm.idxOf (p : Nm → Bool) : List Nm → Nat → Int
  | [], _ => -1
  | x :: l, k => if p x then k else Nm.idxOf p l (k + 1)
theorem Nm.idxOf_any (p : Nm → Bool) : ∀ (l : List Nm) (k : Nat), decide (0 ≤ Nm.idxOf p l k) = l.any p
  | [], _ => by simp [Nm.idxOf]
  | x :: l, k => by
    unfold Nm.idxOf
    cases h : p x
    · simp [h, Nm.idxOf_any p l (k + 1)]
    · simp [h]
set_option maxHeartbeats 2000000 in
theorem Nm.index_any (p : Nm → Bool) (ok : Nm → Prop) (g : Nat) (ba lb : Array Value) (eg : ∀ args w, (callFunc g args).run Try.prog w = .ok (.enter g args) w) (A : Option Addr) (c : Nat) (zs : List Nm) (w : World)
    (hp : Nm.PredB g ba lb p ok w) (hok : ∀ x ∈ zs, ok x) (hz : Nm.At w A zs) (hbig : zs.length ≤ 9223372036854775807) :
    Calls Try.prog 101 #[.slice A zs.length c, .func (.func g) ba lb] w fun e w' => e = .returned (.int .i64 (Nm.idxOf p zs 0)) ∧ Below w.heap.size w w' := by
  have HP := Aw.mk hp
  have HZ := Aw.mk hz
  have HOK := Aw.mk hok
  clear hp hz hok
  go_enter Try.func101, Try.ntmps101
  go_wp2
  go_loopg [5, 8] zs.length (fun gg _ s8 wr => ∃ kk : Nat, kk ≤ zs.length ∧ zs.length - kk ≤ gg ∧ s8 = .int .i64 kk ∧ Aw (Below w.heap.size w wr) ∧ Aw (Nm.idxOf p (zs.drop kk) kk = Nm.idxOf p zs 0))
  case atStart => exact ⟨0, Nat.zero_le _, by omega, rfl, ⟨Below.refl _ w⟩, ⟨rfl⟩⟩
  case round =>
    obtain ⟨kk, hkk, hg, rfl, BW, BA⟩ := hrel
    by_cases hlt : kk < zs.length
    · obtain ⟨b, off, rfl, hbl, h0⟩ := (HZ.out.below BW.out) kk hlt
      have hcall := HP.out wr zs[kk] (HOK.out _ (List.getElem_mem hlt)) BW.out
      have hd : Aw (zs.drop kk = zs[kk] :: zs.drop (kk + 1)) := ⟨List.drop_eq_getElem_cons hlt⟩
      generalize zs[kk] = y at h0 hcall hd
      obtain ⟨y0⟩ := y
      unfold Nm.enc at hcall
      dsimp only at h0 hcall
      have hltz : (kk : Int) < (zs.length : Int) := by omega
      cases hq : p ⟨y0⟩ with
      | true =>
        rw [hq] at hcall
        have HQ := Aw.mk hq
        clear hq
        go_wp2_with (go_at_fn g; refine hcall.mono ?_; rintro e w' ⟨rfl, hb'⟩)
        go_ret
        refine ⟨?_, BW.out.trans (hb'.mono BW.out.size)⟩
        rw [← BA.out, hd.out, Nm.idxOf, HQ.out]
        rfl
      | false =>
        rw [hq] at hcall
        have HQ := Aw.mk hq
        clear hq
        go_wp2_with (go_at_fn g; refine hcall.mono ?_; rintro e w' ⟨rfl, hb'⟩)
        go_roundg (zs.length - (kk + 1))
        case measure => omega
        case rel => exact ⟨kk + 1, by omega, by omega, by go_num, ⟨BW.out.trans (hb'.mono BW.out.size)⟩, ⟨by rw [← BA.out, hd.out, Nm.idxOf, HQ.out]; rfl⟩⟩
    · have : kk = zs.length := by omega
      subst this
      go_wp2
      go_ret
      refine ⟨?_, BW.out⟩
      rw [← BA.out, List.drop_length]
      rfl
theorem Nm.contains_any (p : Nm → Bool) (ok : Nm → Prop) (g : Nat) (ba lb : Array Value) (eg : ∀ args w, (callFunc g args).run Try.prog w = .ok (.enter g args) w) (A : Option Addr) (c : Nat) (zs : List Nm) (w : World)
    (hp : Nm.PredB g ba lb p ok w) (hok : ∀ x ∈ zs, ok x) (hz : Nm.At w A zs) (hbig : zs.length ≤ 9223372036854775807) :
    Calls Try.prog 90 #[.slice A zs.length c, .func (.func g) ba lb] w fun e w' => e = .returned (.bool (zs.any p)) ∧ Below w.heap.size w w' := by
  have HE := Aw.mk (Nm.idxOf_any p zs 0)
  have hc := Nm.index_any p ok g ba lb eg A c zs w hp hok hz hbig
  clear hp hz hok
  go_enter Try.func90, Try.ntmps90
  go_wp2_with (go_at_call 101; refine hc.mono ?_; rintro e w' ⟨rfl, hb'⟩)
  go_ret
  exact ⟨by rw [← HE.out]; rfl, hb'⟩
theorem Nm.not_any (g : Nat) (ba lb : Array Value) (eg : ∀ args w, (callFunc g args).run Try.prog w = .ok (.enter g args) w) (p : Nm → Bool) (ok : Nm → Prop) (w : World) (B : Nat) (hB : B < w.heap.size)
    (hc : w.cell? ⟨B, 0, none⟩ = some (.func (.func g) ba lb)) (hp : Nm.PredB g ba lb p ok w) : Nm.PredB 91 #[] #[.pointer (some ⟨B, 0, none⟩)] (fun s => !p s) ok w := by
  intro W x hx hW
  have h1 : W.cell? ⟨B, 0, none⟩ = some (.func (.func g) ba lb) := (hW.cell (p := ⟨B, 0, none⟩) hB).trans hc
  have h2 := (hp.later hW) (W.alloc (.cells #[.int .i64 x.n] 3)) x hx ((Below.refl _ W).alloc (Nat.le_refl _) _)
  have h3 := (hp.later hW) W x hx (Below.refl _ W)
  have hBW : B < W.heap.size := Nat.lt_of_lt_of_le hB hW.size
  obtain ⟨x0⟩ := x
  unfold Nm.enc at *
  dsimp only at *
  clear hp hc hW hx
  go_enter Try.func91, Try.ntmps91
  go_wp2_with (go_at_fn g; (first | refine h2.mono ?_ | refine h3.mono ?_); rintro e w' ⟨rfl, hb'⟩)
  go_ret
  first | exact ⟨rfl, ((Below.refl _ W).alloc (Nat.le_refl _) _).trans (hb'.mono (by simp))⟩ | exact ⟨rfl, hb'⟩
theorem Nm.all_any (p : Nm → Bool) (ok : Nm → Prop) (g : Nat) (ba lb : Array Value) (eg : ∀ args w, (callFunc g args).run Try.prog w = .ok (.enter g args) w) (A : Option Addr) (c : Nat) (zs : List Nm) (w : World)
    (hp : Nm.PredB g ba lb p ok w) (hok : ∀ x ∈ zs, ok x) (hz : Nm.At w A zs) (hbig : zs.length ≤ 9223372036854775807) :
    Calls Try.prog 68 #[.slice A zs.length c, .func (.func g) ba lb] w fun e w' => e = .returned (.bool (zs.all p)) ∧ Below w.heap.size w w' := by
  have hb : Below w.heap.size w (w.alloc (.cells #[.func (.func g) ba lb] 120)) := (Below.refl _ w).alloc (Nat.le_refl _) _
  have en : ∀ args w, (callFunc 91 args).run Try.prog w = .ok (.enter 91 args) w := enters_of Try.func91 (by kernel_rfl) rfl
  have hc := Nm.contains_any (fun s => !p s) ok 91 #[] #[.pointer (some ⟨w.heap.size, 0, none⟩)] en A c zs (w.alloc (.cells #[.func (.func g) ba lb] 120))
    (Nm.not_any g ba lb eg p ok _ w.heap.size (by simp) (by simp) (hp.later hb)) hok (hz.below hb) hbig
  have HE : Aw ((!zs.any fun s => !p s) = zs.all p) := ⟨by simp [List.all_eq_not_any_not]⟩
  have HB := Aw.mk hb
  clear hp hz hb hok
  go_enter Try.func68, Try.ntmps68
  go_wp2_with (go_at_call 90; refine hc.mono ?_; rintro e w' ⟨rfl, hb'⟩)
  go_ret
  exact ⟨by rw [← HE.out]; rfl, HB.out.trans (hb'.mono (by simp))⟩
end Go.Proofs.Ytdagijgoegkphaa.Hand

namespace Go.Proofs.Ytdagijgoegkphaa.Hand
open Go.RowKit Go.Shelf
theorem within_any (a b c : Int) (w : World) : Calls Try.prog 71 #[.int .i64 a, .int .i64 b, .int .i64 c] w fun e w' => e = .returned (.bool (decide (b ≤ a ∧ a ≤ c))) ∧ w = w' := by
  by_cases h1 : b ≤ a
  · have h2 : decide (b ≤ a) = true := decide_eq_true h1
    have HE : Aw (decide (a ≤ c) = decide (b ≤ a ∧ a ≤ c)) := ⟨by simp [h1]⟩
    clear h1
    go_enter Try.func71, Try.ntmps71
    go_wp2
    go_ret
    exact ⟨by rw [← HE.out]; rfl, rfl⟩
  · have h2 : decide (b ≤ a) = false := decide_eq_false h1
    have HE : Aw (false = decide (b ≤ a ∧ a ≤ c)) := ⟨by simp [h1]⟩
    clear h1
    go_enter Try.func71, Try.ntmps71
    go_wp2
    go_ret
    exact ⟨by rw [← HE.out]; rfl, rfl⟩
def uptoB (lo hi most : Int) : Bool := decide (0 ≤ lo) && decide (lo ≤ hi) && decide (hi ≤ most)
theorem upto_any (lo hi most : Int) (w : World) : Calls Try.prog 95 #[.agg #[.int .i64 lo, .int .i64 hi], .int .i64 most] w fun e w' => e = .returned (.bool (uptoB lo hi most)) ∧ Below w.heap.size w w' := by
  have HB := Aw.mk ((Below.refl _ w).alloc (Nat.le_refl _) (.cells #[.int .i64 lo, .int .i64 hi] 47))
  obtain ⟨r, hr⟩ : ∃ r, r = uptoB lo hi most := ⟨_, rfl⟩
  have HR := Aw.mk hr
  rw [← hr]
  cases h1 : decide (0 ≤ lo) with
  | false =>
    have hq : r = false := by rw [hr, uptoB, h1]; rfl
    subst hq
    clear hr
    go_enter Try.func95, Try.ntmps95
    go_wp2
    go_ret
    exact ⟨rfl, HB.out⟩
  | true =>
    cases h2 : decide (lo ≤ hi) with
    | false =>
      have hq : r = false := by rw [hr, uptoB, h1, h2]; rfl
      subst hq
      clear hr
      go_enter Try.func95, Try.ntmps95
      go_wp2
      go_ret
      exact ⟨rfl, HB.out⟩
    | true =>
      have hq : r = decide (hi ≤ most) := by rw [hr, uptoB, h1, h2]; rfl
      rw [hq]
      clear hr hq HR
      go_enter Try.func95, Try.ntmps95
      go_wp2
      go_ret
      exact ⟨rfl, HB.out⟩
def rateB (x : Rg) : Bool := uptoB x.lo x.hi 1000 && decide (x.hi - x.lo ≤ 20)
theorem rate_any (x : Rg) (w : World) : Calls Try.prog 74 #[x.enc] w fun e w' => e = .returned (.bool (rateB x)) ∧ Below w.heap.size w w' := by
  obtain ⟨lo, hi⟩ := x
  unfold Rg.enc
  have hb := (Below.refl _ w).alloc (Nat.le_refl _) (.cells #[.int .i64 lo, .int .i64 hi] 47)
  have hc := upto_any lo hi 1000 (w.alloc (.cells #[.int .i64 lo, .int .i64 hi] 47))
  have h0 : (w.alloc (.cells #[.int .i64 lo, .int .i64 hi] 47)).cell? ⟨w.heap.size, 0, none⟩ = some (.int .i64 lo) := (Blk.new w _ _).cell 0
  have hX := Aw.mk (Blk.new w #[.int .i64 lo, .int .i64 hi] 47)
  have HB := Aw.mk hb
  cases h1 : uptoB lo hi 1000 with
  | false =>
    have HQ : Aw (rateB ⟨lo, hi⟩ = false) := ⟨by unfold rateB; rw [h1]; rfl⟩
    rw [h1] at hc
    clear h1 h0 hb
    go_enter Try.func74, Try.ntmps74
    go_wp2_with (go_at_call 95; refine hc.mono ?_; rintro e w' ⟨rfl, hb'⟩)
    go_ret
    exact ⟨by rw [HQ.out]; rfl, HB.out.trans (hb'.mono HB.out.size)⟩
  | true =>
    have hx : -9223372036854775808 ≤ hi - lo ∧ hi - lo ≤ 9223372036854775807 := by
      unfold uptoB at h1
      simp only [Bool.and_eq_true, decide_eq_true_eq] at h1
      omega
    have hw : IntKind.i64.wrap (hi - lo) = hi - lo := IntWalk.i64_in _ hx
    have HQ : Aw (rateB ⟨lo, hi⟩ = decide (hi - lo ≤ 20)) := ⟨by unfold rateB; rw [h1]; rfl⟩
    rw [h1] at hc
    clear h1 h0 hb hx
    go_enter Try.func74, Try.ntmps74
    go_wp2_with (go_at_call 95; refine hc.mono ?_; rintro e w' ⟨rfl, hb'⟩; have q0 := (hX.out.below hb' hX.out.lt).cell 0; have q1 := (hX.out.below hb' hX.out.lt).cell 1; simp only [List.getElem?_toArray, List.getElem?_cons_zero, List.getElem?_cons_succ] at q0 q1)
    go_ret
    exact ⟨by rw [HQ.out]; rfl, HB.out.trans (hb'.mono HB.out.size)⟩
end Go.Proofs.Ytdagijgoegkphaa.Hand

namespace Go.Proofs.Ytdagijgoegkphaa.Hand
open Go.RowKit Go.Shelf
def segB (n : Nat) (s : Sg) : Bool := decide (0 ≤ s.band ∧ s.band ≤ (n : Int) - 1) && uptoB s.lo s.hi 1000000
theorem segment_any (A : Option Addr) (n c : Nat) (hn : n ≤ 9223372036854775807) (s : Sg) (w : World) : Calls Try.prog 83 #[.agg #[.slice A n c], s.enc] w fun e w' => e = .returned (.bool (segB n s)) ∧ Below w.heap.size w w' := by
  obtain ⟨bd, lo, hi⟩ := s
  unfold Sg.enc
  have hw : IntKind.i64.wrap ((n : Int) - 1) = (n : Int) - 1 := IntWalk.i64_in _ (by omega)
  obtain ⟨w1, hw1⟩ : ∃ w1, w1 = (w.alloc (.cells #[.slice A n c] 39)).alloc (.cells #[.int .i64 bd, .int .i64 lo, .int .i64 hi] 65) := ⟨_, rfl⟩
  have HB := Aw.mk (show Below w.heap.size w w1 by rw [hw1]; exact ((Below.refl _ w).alloc (Nat.le_refl _) _).alloc (by simp) _)
  have hX : Blk w1 (w.heap.size + 1) #[.int .i64 bd, .int .i64 lo, .int .i64 hi] 65 := by
    have := Blk.new (w.alloc (.cells #[.slice A n c] 39)) #[.int .i64 bd, .int .i64 lo, .int .i64 hi] 65
    rw [hw1]; simpa using this
  have hc := within_any bd 0 ((n : Int) - 1) w1
  have hu := upto_any lo hi 1000000 w1
  have HE : Aw (segB n ⟨bd, lo, hi⟩ = (decide (0 ≤ bd ∧ bd ≤ (n : Int) - 1) && uptoB lo hi 1000000)) := ⟨rfl⟩
  cases h1 : decide (0 ≤ bd ∧ bd ≤ (n : Int) - 1) with
  | false =>
    rw [h1] at hc HE
    rw [hw1] at hc
    clear h1 hu hX
    go_enter Try.func83, Try.ntmps83
    go_wp2_with (go_at_call 71; refine hc.mono ?_; rintro e w' ⟨rfl, rfl⟩)
    go_ret
    exact ⟨by rw [HE.out]; rfl, by rw [← hw1]; exact HB.out⟩
  | true =>
    rw [h1] at hc HE
    rw [hw1] at hc hu
    clear h1 hX
    go_enter Try.func83, Try.ntmps83
    go_wp2_with (first | (go_at_call 71; refine hc.mono ?_; rintro e w' ⟨rfl, rfl⟩) | (go_at_call 95; refine hu.mono ?_; rintro e w' ⟨rfl, hb'⟩))
    go_ret
    exact ⟨by rw [HE.out]; rfl, HB.out.trans ((by rw [hw1]; exact hb' : Below w1.heap.size w1 _).mono HB.out.size)⟩
theorem few_any (x : Rn) (w : World) : Calls Try.prog 79 #[x.enc] w fun e w' => e = .returned (.bool (decide (x.zs.length ≤ 8))) ∧ Below w.heap.size w w' := by
  obtain ⟨A, c, zs, lo, hi⟩ := x
  unfold Rn.enc
  dsimp only
  obtain ⟨n, hn⟩ : ∃ n, n = zs.length := ⟨_, rfl⟩
  rw [← hn]
  have hd : decide ((n : Int) ≤ 8) = decide (n ≤ 8) := by
    by_cases h : n ≤ 8
    · rw [decide_eq_true h, decide_eq_true (by omega)]
    · rw [decide_eq_false h, decide_eq_false (by omega)]
  clear hn
  go_enter Try.func79, Try.ntmps79
  go_wp2
  go_ret
  exact ⟨by first | rfl | (rw [← hd]; rfl), (Below.refl _ w).alloc (Nat.le_refl _) _⟩
end Go.Proofs.Ytdagijgoegkphaa.Hand

namespace Go.Proofs.Ytdagijgoegkphaa.Hand
open Go.RowKit Go.Shelf
theorem segP (A : Option Addr) (n c : Nat) (hn : n ≤ 9223372036854775807) (w : World) : Sg.PredB 83 #[.agg #[.slice A n c]] #[] (segB n) (fun _ => True) w := fun W x _ _ => segment_any A n c hn x W
def runB (n : Nat) (zs : List Sg) (lo hi : Int) : Bool := uptoB lo hi 10000000000 && zs.all (segB n)
theorem run_any (A : Option Addr) (n c : Nat) (hn : n ≤ 9223372036854775807) (A1 : Option Addr) (c1 : Nat) (zs : List Sg) (lo hi : Int) (w : World) (hz : Sg.At w A1 zs) (hbig : zs.length ≤ 9223372036854775807) :
    Calls Try.prog 80 #[.agg #[.slice A n c], .agg #[.slice A1 zs.length c1, .int .i64 lo, .int .i64 hi]] w fun e w' => e = .returned (.bool (runB n zs lo hi)) ∧ Below w.heap.size w w' := by
  obtain ⟨w1, hw1⟩ : ∃ w1, w1 = (w.alloc (.cells #[.slice A n c] 39)).alloc (.cells #[.slice A1 zs.length c1, .int .i64 lo, .int .i64 hi] 67) := ⟨_, rfl⟩
  have HB := Aw.mk (show Below w.heap.size w w1 by rw [hw1]; exact ((Below.refl _ w).alloc (Nat.le_refl _) _).alloc (by simp) _)
  have hX : Blk w1 (w.heap.size + 1) #[.slice A1 zs.length c1, .int .i64 lo, .int .i64 hi] 67 := by
    have := Blk.new (w.alloc (.cells #[.slice A n c] 39)) #[.slice A1 zs.length c1, .int .i64 lo, .int .i64 hi] 67
    rw [hw1]; simpa using this
  have hM : Blk w1 w.heap.size #[.slice A n c] 39 := by rw [hw1]; exact (Blk.new w _ _).alloc _
  have HX := Aw.mk hX
  have HM := Aw.mk hM
  have HZ := Aw.mk (hz.below HB.out)
  have hu := upto_any lo hi 10000000000 w1
  have HE : Aw (runB n zs lo hi = (uptoB lo hi 10000000000 && zs.all (segB n))) := ⟨rfl⟩
  have e83 : ∀ args w, (callFunc 83 args).run Try.prog w = .ok (.enter 83 args) w := enters_of Try.func83 (by kernel_rfl) rfl
  have HW := Aw.mk hw1
  clear hX hM hz
  cases h1 : uptoB lo hi 10000000000 with
  | false =>
    rw [h1] at hu HE
    rw [hw1] at hu
    clear h1 hw1
    go_enter Try.func80, Try.ntmps80
    go_wp2_with (go_at_call 95; refine hu.mono ?_; rintro e w' ⟨rfl, hb'⟩)
    go_ret
    exact ⟨by rw [HE.out]; rfl, HB.out.trans ((by rw [HW.out]; exact hb' : Below w1.heap.size w1 _).mono HB.out.size)⟩
  | true =>
    rw [h1] at hu HE
    rw [hw1] at hu
    obtain ⟨b, hb⟩ : ∃ b, b = zs.all (segB n) := ⟨_, rfl⟩
    rw [← hb] at HE
    have HQ := Aw.mk hb
    clear h1 hb hw1
    go_enter Try.func80, Try.ntmps80
    go_wp2_with (first | (go_at_call 95; refine hu.mono ?_; rintro e w2 ⟨rfl, hb'⟩; rw [← HW.out] at hb'; have q0 := (HX.out.below hb' HX.out.lt).cell 0; have m0 := (HM.out.below hb' HM.out.lt).cell 0; have HB2 := Aw.mk (HB.out.trans (hb'.mono HB.out.size)); have HZ2 := Aw.mk (HZ.out.below hb'); simp only [List.getElem?_toArray, List.getElem?_cons_zero, List.getElem?_cons_succ] at q0 m0; clear hb') | (go_at_call 82; refine (Sg.all_any (segB n) (fun _ => True) 83 #[.agg #[.slice A n c]] #[] e83 A1 c1 zs _ (segP A n c hn _) (fun _ _ => trivial) HZ2.out hbig).mono ?_; rw [← HQ.out]; rintro e w3 ⟨rfl, hb3⟩))
    go_ret
    exact ⟨by rw [HE.out]; rfl, HB2.out.trans (hb3.mono HB2.out.size)⟩
end Go.Proofs.Ytdagijgoegkphaa.Hand

namespace Go.Proofs.Ytdagijgoegkphaa.Hand
open Go.RowKit Go.Shelf
structure Rt where
  r0 : Int
  r1 : Int
  r2 : Int
  deriving DecidableEq
def Rt.cells (r : Rt) : Array Value := #[.int .i64 r.r0, .int .i64 r.r1, .int .i64 r.r2]
def Rt.enc (r : Rt) : Value := .agg r.cells
def Rt.get (r : Rt) : Nat → Int
  | 0 => r.r0
  | 1 => r.r1
  | _ => r.r2
def Rt.set (r : Rt) : Nat → Int → Rt
  | 0, n => ⟨n, r.r1, r.r2⟩
  | 1, n => ⟨r.r0, n, r.r2⟩
  | _, n => ⟨r.r0, r.r1, n⟩
theorem Rt.cells_get (r : Rt) (k : Nat) (h : k < 3) : r.cells[k]? = some (.int .i64 (r.get k)) := by
  match k, h with
  | 0, _ => rfl
  | 1, _ => rfl
  | 2, _ => rfl
  | k + 3, h => omega
theorem Rt.cells_set (r : Rt) (k : Nat) (h : k < 3) (n : Int) : r.cells.setIfInBounds k (.int .i64 n) = (r.set k n).cells := by
  match k, h with
  | 0, _ => rfl
  | 1, _ => rfl
  | 2, _ => rfl
  | k + 3, h => omega
def upFrom (low : Int) : Nat → List Int
  | 0 => []
  | k + 1 => low :: upFrom (low + 1) k
def mx (a b : Int) : Int := if a < b then b else a
def lowAt (ms : List Rg) (r : Rt) (band : Nat) : Int := match ms[band]? with
  | none => 0
  | some m => if 0 < band then mx m.lo (r.get (band - 1)) else m.lo
def hiAt (ms : List Rg) (band : Nat) : Int := match ms[band]? with
  | none => 0
  | some m => m.hi
def lsFrom (ms : List Rg) : Nat → Nat → Rt → List Rt
  | 0, _, r => [r]
  | d + 1, band, r => (upFrom (lowAt ms r band) (hiAt ms band + 1 - lowAt ms r band).toNat).flatMap fun n => lsFrom ms d (band + 1) (r.set band n)
def lists (ms : List Rg) : List Rt := lsFrom ms ms.length 0 ⟨0, 0, 0⟩
end Go.Proofs.Ytdagijgoegkphaa.Hand

namespace Go.Proofs.Ytdagijgoegkphaa.Hand
open Go.RowKit Go.Shelf
theorem Blk.keep {X : Nat → Prop} {w W : World} {b : Nat} {cs : Array Value} {t : Nat} (h : Blk w b cs t) (hk : Keep X w W) (hx : X b) : Blk W b cs t := (hk.2 b hx h.lt).trans h
theorem Rg.At.keep {X : Nat → Prop} {w W : World} {A : Option Addr} {l : List Rg} (h : Rg.At w A l) (hk : Keep X w W) (hx : ∀ a, A = some a → X a.block) : Rg.At W A l := fun i hi => by
  obtain ⟨b, off, hA, hlt, h0, h1⟩ := h i hi
  have hb := hk.2 b (hx _ hA) hlt
  have hc : ∀ o, W.cell? ⟨b, o, none⟩ = w.cell? ⟨b, o, none⟩ := fun o => World.cell?_of_block (w := w) hb
  exact ⟨b, off, hA, Nat.lt_of_lt_of_le hlt hk.1, (hc _).trans h0, (hc _).trans h1⟩
structure LEnv (A : Option Addr) (c : Nat) (ms : List Rg) (l B1 B2 B3 : Nat) (W : World) : Prop where
  h1 : Blk W B1 #[.slice A ms.length c] 39
  h2 : Blk W B2 #[.func (.yield l) #[] #[]] 104
  h3 : Blk W B3 #[.func (.func 88) #[] #[.pointer (some ⟨B1, 0, none⟩), .pointer (some ⟨B2, 0, none⟩), .pointer (some ⟨B3, 0, none⟩)]] 137
  hz : Rg.At W A ms
theorem LEnv.keep {A : Option Addr} {c : Nat} {ms : List Rg} {l B1 B2 B3 : Nat} {X : Nat → Prop} {W W' : World} (h : LEnv A c ms l B1 B2 B3 W) (hk : Keep X W W') (x1 : X B1) (x2 : X B2) (x3 : X B3) (hx : ∀ a, A = some a → X a.block) : LEnv A c ms l B1 B2 B3 W' :=
  ⟨h.h1.keep hk x1, h.h2.keep hk x2, h.h3.keep hk x3, h.hz.keep hk hx⟩
theorem LEnv.below {A : Option Addr} {c : Nat} {ms : List Rg} {l B1 B2 B3 : Nat} {W W' : World} (h : LEnv A c ms l B1 B2 B3 W) (hb : Below W.heap.size W W') : LEnv A c ms l B1 B2 B3 W' :=
  ⟨h.h1.below hb h.h1.lt, h.h2.below hb h.h2.lt, h.h3.below hb h.h3.lt, h.hz.below hb⟩
theorem Rt.set_set (r : Rt) (k : Nat) (a b : Int) : (r.set k a).set k b = r.set k b := by
  match k with
  | 0 => rfl
  | 1 => rfl
  | k + 2 => rfl
structure LInv (A : Option Addr) (c : Nat) (ms : List Rg) (l B1 B2 B3 B5 : Nat) (X R : Nat → Prop) (J : (Nat → Prop) → List Rt → World → Prop) (T done : List Rt) (d band : Nat) (r : Rt) (n : Int) (k : Nat) (W wr : World) : Prop where
  env : LEnv A c ms l B1 B2 B3 wr
  box : ∃ r' : Rt, Blk wr B5 r'.cells 101 ∧ ∀ m, r'.set band m = r.set band m
  inv : ∃ p1 suf, J (fun q => X q ∨ q = B5) p1 wr ∧ T = p1 ++ ((upFrom n k).flatMap fun m => lsFrom ms d (band + 1) (r.set band m)) ++ suf ∧ p1 ++ ((upFrom n k).flatMap fun m => lsFrom ms d (band + 1) (r.set band m)) = done
  keep : Keep (fun q => X q ∨ R q) W wr
  lt5 : B5 < wr.heap.size
  nn : 0 ≤ n
def FromPost (X R : Nat → Prop) (J Jx : (Nat → Prop) → List Rt → World → Prop) (xs : List Rt) (W : World) (e : Ending) (W' : World) : Prop :=
  Keep (fun k => X k ∨ R k) W W' ∧ ((e = .returned (.bool true) ∧ J X xs W') ∨ (e = .returned (.bool false) ∧ ∃ pre, Jx X pre W'))
def listOk {α : Type} (T : List α) (pre : List α) (x : α) : Prop := ∃ suf, T = pre ++ x :: suf
theorem low_Chg {W W' : World} (hb : Below W.heap.size W W') : Chg (fun _ => False) W W' := Chg.below hb _
set_option maxHeartbeats 4000000 in
set_option maxRecDepth 10000 in
theorem from_any (A : Option Addr) (c : Nat) (ms : List Rg) (hms : ms.length ≤ 3) (hv : ∀ m ∈ ms, 0 ≤ m.lo ∧ m.hi ≤ 1000) (l B1 B2 B3 : Nat) (R : Nat → Prop) (hRA : ∀ a, A = some a → R a.block) (J Jx : (Nat → Prop) → List Rt → World → Prop) (hJ : Stab J) (hJx : Stab Jx) (T : List Rt)
    (hR : Rounds Try.prog l (fun x : Rt => #[x.enc]) R (listOk T) J Jx) :
    ∀ (d band : Nat) (r : Rt) (X : Nat → Prop) (pre suf : List Rt) (W : World), band + d = ms.length → LEnv A c ms l B1 B2 B3 W → (X B1 ∨ R B1) → X B2 → X B3 → (∀ k, X k → k < W.heap.size) → (∀ k, R k → k < W.heap.size) → J X pre W → T = pre ++ lsFrom ms d band r ++ suf →
      Calls Try.prog 88 #[r.enc, .int .i64 (band : Int), .pointer (some ⟨B1, 0, none⟩), .pointer (some ⟨B2, 0, none⟩), .pointer (some ⟨B3, 0, none⟩)] W (FromPost X R J Jx (pre ++ lsFrom ms d band r) W) := by
  intro d
  induction d with
  | zero =>
    intro band r X pre suf W hb hE x1 x2 x3 hX hRk hj hT
    obtain rfl : band = ms.length := by omega
    obtain ⟨w1, hw1⟩ : ∃ w1, w1 = W.alloc (.cells #[.int .i64 r.r0, .int .i64 r.r1, .int .i64 r.r2] 101) := ⟨_, rfl⟩
    have hbl : Below W.heap.size W w1 := by rw [hw1]; exact (Below.refl _ _).alloc (Nat.le_refl _) _
    have hE1 := hE.below hbl
    have hj1 : J X pre w1 := hJ X X pre W w1 hj ((Chg.below hbl X)) (fun k h => .inl h) (fun k h => Nat.lt_of_lt_of_le (hX k h) hbl.size)
    have hok : listOk T pre r := ⟨suf, by rw [hT]; simp [lsFrom]⟩
    have hyield := hR X pre r w1 hj1 hok (fun k h => Nat.lt_of_lt_of_le (hX k h) hbl.size)
    have q1 : W.cell? ⟨B1, 0, none⟩ = some (.slice A ms.length c) := hE.h1.cell 0
    have q2 : W.cell? ⟨B2, 0, none⟩ = some (.func (.yield l) #[] #[]) := hE.h2.cell 0
    have l1 := hE.h1.lt
    have l2 := hE.h2.lt
    have HY := Aw.mk hyield
    unfold Rt.enc Rt.cells at *
    clear hE hj hT hR hE1 hj1 hyield hok
    go_enter Try.func88, Try.ntmps88
    refine wpIn_wide.1 (?_ : Code.wpIn Fence.wide 0 Try.prog _ _ _ _)
    gi_wp2
    obtain ⟨fn, tmps, asg, bd, hy, hrd⟩ := HY.out
    rw [← hw1, hy, Oper.uponIn_round]
    refine ⟨fun h => by simp [Fence.wide] at h, hrd.mono ?_⟩
    rintro e W2 ⟨hk2, h⟩
    have HK := Aw.mk (show Keep (fun k => X k ∨ R k) W W2 from ⟨Nat.le_trans hbl.size hk2.1, fun k hk hlt => (hk2.2 k hk (Nat.lt_of_lt_of_le hlt hbl.size)).trans (hbl.block k hlt)⟩)
    rcases h with ⟨rfl, hj2⟩ | ⟨rfl, hj2⟩
    · have HP := Aw.mk (show FromPost X R J Jx (pre ++ lsFrom ms 0 ms.length r) W (.returned (.bool true)) W2 from ⟨HK.out, .inl ⟨rfl, hj2⟩⟩)
      clear hj2 hk2 hrd hy
      gi_wp2
      refine bodyPost_ret (results_tmp rfl _ _ _) rfl ?_
      exact HP.out
    · have HP := Aw.mk (show FromPost X R J Jx (pre ++ lsFrom ms 0 ms.length r) W (.returned (.bool false)) W2 from ⟨HK.out, .inr ⟨rfl, _, hj2⟩⟩)
      clear hj2 hk2 hrd hy
      gi_wp2
      refine bodyPost_ret (results_tmp rfl _ _ _) rfl ?_
      exact HP.out
  | succ d ih =>
    intro band r X pre suf W hb hE x1 x2 x3 hX hRk hj hT
    have hlt : band < ms.length := by omega
    obtain ⟨b, off, rfl, hbl0, h0, h1⟩ := hE.hz band hlt
    obtain ⟨lo, hi, hm⟩ : ∃ lo hi, ms[band] = ⟨lo, hi⟩ := ⟨_, _, rfl⟩
    rw [hm] at h0 h1
    dsimp only at h0 h1
    have hne : ((band : Int) == (ms.length : Int)) = false := by simp; omega
    have hltz : (band : Int) < (ms.length : Int) := by omega
    have q1 : W.cell? ⟨B1, 0, none⟩ = some (.slice (some ⟨b, off, none⟩) ms.length c) := hE.h1.cell 0
    have l1 := hE.h1.lt
    have HE := Aw.mk hE
    have HJ0 := Aw.mk hj
    have HT := Aw.mk hT
    have HIH := Aw.mk ih
    have HM := Aw.mk hm
    have hv0 : 0 ≤ lo ∧ hi ≤ 1000 := by have := hv ms[band] (List.getElem_mem hlt); rw [hm] at this; exact this
    have hg : ∃ g, r.get (band - 1) = g := ⟨_, rfl⟩
    obtain ⟨g, hg⟩ := hg
    unfold Rt.enc Rt.cells at *
    clear hE hj hT ih hm
    have HV := Aw.mk hv0
    clear hv0
    have HLOW : Aw (∀ x, (0 < band ∧ (x = lo ∧ ¬ lo < g ∨ x = g ∧ ¬ g < lo) ∨ band = 0 ∧ x = lo) → x = lowAt ms r band) := ⟨fun x hx => by
      unfold lowAt
      rw [List.getElem?_eq_getElem hlt, HM.out]
      dsimp only
      by_cases hb0 : 0 < band
      · rw [if_pos hb0, hg, mx]
        split <;> omega
      · rw [if_neg hb0]; omega⟩
    have HHI : Aw (hiAt ms band = hi) := ⟨by unfold hiAt; rw [List.getElem?_eq_getElem hlt, HM.out]⟩
    have HL0 : Aw (0 ≤ lowAt ms r band) := ⟨by
      have h1 := HV.out.1
      unfold lowAt
      rw [List.getElem?_eq_getElem hlt, HM.out]
      dsimp only
      split
      · unfold mx; split <;> omega
      · exact h1⟩
    have HST : Aw (LInv (some ⟨b, off, none⟩) c ms l B1 B2 B3 W.heap.size X R J T (pre ++ lsFrom ms (d + 1) band r) d band r (lowAt ms r band) (hi + 1 - lowAt ms r band).toNat W (W.alloc (.cells #[.int .i64 r.r0, .int .i64 r.r1, .int .i64 r.r2] 101))) := ⟨by
      have hbl : Below W.heap.size W (W.alloc (.cells #[.int .i64 r.r0, .int .i64 r.r1, .int .i64 r.r2] 101)) := (Below.refl _ _).alloc (Nat.le_refl _) _
      have hls : lsFrom ms (d + 1) band r = (upFrom (lowAt ms r band) (hi + 1 - lowAt ms r band).toNat).flatMap fun m => lsFrom ms d (band + 1) (r.set band m) := by rw [← HHI.out]; rfl
      refine ⟨HE.out.below hbl, ⟨r, Blk.new W r.cells 101, fun _ => rfl⟩, ⟨pre, suf, ?_, ?_, ?_⟩, ⟨hbl.size, fun k _ hk => hbl.block k hk⟩, by simp, HL0.out⟩
      · exact hJ X _ pre W _ HJ0.out (Chg.below hbl X) (fun k h => by rcases h with h | rfl; exact .inl h; exact .inr (Nat.le_refl _)) (fun k h => by
          rcases h with h | rfl
          · exact Nat.lt_of_lt_of_le (hX k h) hbl.size
          · simp)
      · rw [← hls]; exact HT.out
      · rw [← hls]⟩
    have Hg := Aw.mk hg
    clear hg
    obtain ⟨w1, hw1⟩ : ∃ w1, w1 = W.alloc (.cells #[.int .i64 r.r0, .int .i64 r.r1, .int .i64 r.r2] 101) := ⟨_, rfl⟩
    go_enter Try.func88, Try.ntmps88
    go_upto_if 25 with (fail)
    go_cut [8] from 25 to 31 (fun s8 wx => s8 = .int .i64 (lowAt ms r band) ∧ wx = W.alloc (.cells #[.int .i64 r.r0, .int .i64 r.r1, .int .i64 r.r2] 101))
    case first =>
      by_cases hb0 : 0 < band
      · have hd0 : decide (0 < (band : Int)) = true := decide_eq_true (by omega)
        have wb : IntKind.i64.wrap ((band : Int) - 1) = (band : Int) - 1 := IntWalk.i64_in _ (by omega)
        have q5 : (W.alloc (.cells #[.int .i64 r.r0, .int .i64 r.r1, .int .i64 r.r2] 101)).cell? ⟨W.heap.size, band - 1, none⟩ = some (.int .i64 g) := by
          rw [← Hg.out]; exact ((Blk.new W r.cells 101).cell (band - 1)).trans (Rt.cells_get r (band - 1) (by omega))
        clear hw1
        go_wp2_with fail
        all_goals
          go_meet
          exact ⟨congrArg (Value.int .i64) (HLOW.out _ (by omega)), rfl⟩
      · have hd0 : decide (0 < (band : Int)) = false := decide_eq_false (by omega)
        clear hw1
        go_wp2_with fail
        all_goals
          go_meet
          exact ⟨congrArg (Value.int .i64) (HLOW.out _ (by omega)), rfl⟩
    case rest =>
      obtain ⟨rfl, hwc⟩ := hcut
      rw [← hwc] at HST
      clear hwc hw1
      go_wp2_with fail
      go_loopg [9] (hi + 1 - lowAt ms r band).toNat (fun gg s9 wr => ∃ (n : Int) (k : Nat), k = (hi + 1 - n).toNat ∧ k ≤ gg ∧ s9 = .int .i64 n ∧ Aw (LInv (some ⟨b, off, none⟩) c ms l B1 B2 B3 W.heap.size X R J T (pre ++ lsFrom ms (d + 1) band r) d band r n k W wr))
      case atStart => exact ⟨lowAt ms r band, _, rfl, Nat.le_refl _, rfl, HST⟩
      case round =>
        obtain ⟨n, k, hk, hgg2, rfl, HL⟩ := hrel
        obtain ⟨hEw, ⟨r', hB5, hset⟩, ⟨p1, suf1, hj1, hT1, hdone⟩, hkp, hl5, hnn⟩ := HL.out
        obtain ⟨bb, oo, hAA, hbl1, hh0, hh1⟩ := hEw.hz band hlt
        obtain ⟨rfl, rfl⟩ : b = bb ∧ off = oo := by cases hAA; exact ⟨rfl, rfl⟩
        rw [HM.out] at hh0 hh1
        dsimp only at hh0 hh1
        have q1' : wr.cell? ⟨B1, 0, none⟩ = some (.slice (some ⟨b, off, none⟩) ms.length c) := hEw.h1.cell 0
        clear hAA
        by_cases hn : n ≤ hi
        · have c1 : decide (n ≤ hi) = true := decide_eq_true hn
          have hl3 : band < 3 := by omega
          have hl3' : (band : Int) < 3 := by omega
          have z5 := hB5.frozen band
          have q5b : wr.cell? ⟨W.heap.size, band, none⟩ = some (.int .i64 (r'.get band)) := (hB5.cell band).trans (Rt.cells_get r' band hl3)
          obtain ⟨k', rfl⟩ : ∃ k', k = k' + 1 := ⟨k - 1, by omega⟩
          clear hj1 hT1 hdone hkp hEw hset hB5
          go_upto_region 10 with (fail)
          obtain ⟨w3, hw3⟩ : ∃ w3, w3 = wr.setCell ⟨W.heap.size, band, none⟩ (.int .i64 n) := ⟨_, rfl⟩
          rw [← hw3]
          obtain ⟨hEw, ⟨r', hB5, hset⟩, ⟨p1, suf1, hj1, hT1, hdone⟩, hkp, hl5, _⟩ := HL.out
          have hE0 := HE.out
          have n1 : B1 ≠ W.heap.size := Nat.ne_of_lt hE0.h1.lt
          have n2 : B2 ≠ W.heap.size := Nat.ne_of_lt hE0.h2.lt
          have n3 : B3 ≠ W.heap.size := Nat.ne_of_lt hE0.h3.lt
          have nb : b ≠ W.heap.size := Nat.ne_of_lt hbl0
          have hk13 : Keep (fun q => q ≠ W.heap.size) wr w3 := by
            rw [hw3]
            exact ⟨by simp [World.setCell], fun q hq _ => Below.heap_setCell wr _ _ q hq⟩
          have hE3 := hEw.keep hk13 n1 n2 n3 (fun a ha => by cases ha; exact nb)
          have hB3' : Blk w3 W.heap.size (r.set band n).cells 101 := by
            rw [hw3, ← hset n, ← Rt.cells_set r' band hl3 n]; exact hB5.set band _
          have hj3 : J (fun q => X q ∨ q = W.heap.size) p1 w3 := hJ _ _ p1 wr w3 hj1 (by rw [hw3]; exact (Chg.refl _ wr).setCell (.inl (.inr rfl)) _) (fun q h => .inl h) (fun q h => by
            have e : w3.heap.size = wr.heap.size := by rw [hw3]; simp [World.setCell]
            rw [e]
            rcases h with h | rfl
            · exact Nat.lt_of_lt_of_le (hX q h) hkp.1
            · exact hl5)
          obtain ⟨rs, hrs⟩ : ∃ rs, rs = r.set band n := ⟨_, rfl⟩
          have hup : upFrom n (k' + 1) = n :: upFrom (n + 1) k' := rfl
          rw [hup, List.flatMap_cons, ← hrs] at hT1 hdone
          rw [← hrs] at hB3'
          have hsz3 : wr.heap.size ≤ w3.heap.size := hk13.1
          have hcall := HIH.out (band + 1) rs (fun q => X q ∨ q = W.heap.size) p1 (((upFrom (n + 1) k').flatMap fun m => lsFrom ms d (band + 1) (r.set band m)) ++ suf1) w3 (by omega) hE3 (x1.elim (fun h => .inl (.inl h)) .inr) (.inl x2) (.inl x3)
            (fun q h => by
              rcases h with h | rfl
              · exact Nat.lt_of_lt_of_le (hX q h) (Nat.le_trans hkp.1 hsz3)
              · exact Nat.lt_of_lt_of_le hl5 hsz3) (fun q h => Nat.lt_of_lt_of_le (hRk q h) (Nat.le_trans hkp.1 hsz3)) hj3 (by rw [hT1]; simp [List.append_assoc])
          have c3 : w3.cell? ⟨B3, 0, none⟩ = _ := hE3.h3.cell 0
          have c50 : w3.cell? ⟨W.heap.size, 0, none⟩ = some (.int .i64 rs.r0) := hB3'.cell 0
          have c51 : w3.cell? ⟨W.heap.size, 1, none⟩ = some (.int .i64 rs.r1) := hB3'.cell 1
          have c52 : w3.cell? ⟨W.heap.size, 2, none⟩ = some (.int .i64 rs.r2) := hB3'.cell 2
          simp only [List.getElem?_toArray, List.getElem?_cons_zero, List.getElem?_cons_succ] at c3
          have wb1 : IntKind.i64.wrap ((band : Int) + 1) = (band : Int) + 1 := IntWalk.i64_in _ (by omega)
          have wb2 : IntKind.i64.wrap (n + 1) = n + 1 := IntWalk.i64_in _ (by have := HV.out; omega)
          rw [show ((band + 1 : Nat) : Int) = (band : Int) + 1 by omega] at hcall
          have HC := Aw.mk hcall
          have HS := Aw.mk (show LEnv (some ⟨b, off, none⟩) c ms l B1 B2 B3 w3 from hE3)
          have HB := Aw.mk hB3'
          have HD := Aw.mk (show _ = _ ∧ _ = _ from ⟨hT1, hdone⟩)
          have HRS := Aw.mk hrs
          have HKP := Aw.mk (show Keep (fun q => X q ∨ R q) W w3 from ⟨Nat.le_trans hkp.1 hsz3, fun q hq hql => (hk13.2 q (Nat.ne_of_lt hql) (Nat.lt_of_lt_of_le hql hkp.1)).trans (hkp.2 q hq hql)⟩)
          have HK' := Aw.mk (show k' = (hi + 1 - (n + 1)).toNat by omega)
          have HG' := Aw.mk (show k' ≤ gk - 1 ∧ k' < gk by omega)
          have HN := Aw.mk hnn
          have l53 : W.heap.size < w3.heap.size := Nat.lt_of_lt_of_le hl5 hsz3
          have HL53 := Aw.mk l53
          clear hcall hE3 hB3' hT1 hdone hj1 hj3 hset hB5 hE0 hk13 hup HL hkp hEw hw3 hrs hk hgg2 hnn l53
          go_wp2_with fail
          refine HC.out.mono ?_
          rintro e w4 ⟨hk4, h4⟩
          have hkw : Keep (fun q => X q ∨ R q) w3 w4 := hk4.mono (fun q h => by rcases h with h | h; exact .inl (.inl h); exact .inr h)
          have HKW := Aw.mk (HKP.out.trans hkw)
          have HXL := Aw.mk (show ∀ q, X q → q < w4.heap.size from fun q h => Nat.lt_of_lt_of_le (hX q h) HKW.out.1)
          rcases h4 with ⟨rfl, hj4⟩ | ⟨rfl, pre', hj4⟩
          · have HL4 : Aw (LInv (some ⟨b, off, none⟩) c ms l B1 B2 B3 W.heap.size X R J T (pre ++ lsFrom ms (d + 1) band r) d band r (n + 1) k' W w4) := ⟨by
              refine ⟨HS.out.keep hk4 (x1.elim (fun h => .inl (.inl h)) .inr) (.inl (.inl x2)) (.inl (.inl x3)) (fun a ha => .inr (hRA a ha)), ⟨rs, HB.out.keep hk4 (.inl (.inr rfl)), fun m => by rw [HRS.out]; exact Rt.set_set r band n m⟩, ⟨_, suf1, hj4, ?_, ?_⟩, HKW.out, Nat.lt_of_lt_of_le HL53.out hk4.1, by have := HN.out; omega⟩
              · have := HD.out.1; rw [this]; simp [List.append_assoc]
              · have := HD.out.2; rw [← this]; simp [List.append_assoc]⟩
            clear hj4 hkw hk4
            go_wp2_with fail
            go_roundg k'
            case measure => have := HG'.out; omega
            case rel => exact ⟨n + 1, k', HK'.out, Nat.le_refl _, rfl, HL4⟩
          · have HP := Aw.mk (show FromPost X R J Jx (pre ++ lsFrom ms (d + 1) band r) W (.returned (.bool false)) w4 from ⟨HKW.out, .inr ⟨rfl, pre', hJx _ X pre' w4 w4 hj4 (Chg.refl _ _) (fun q h => .inl (.inl h)) HXL.out⟩⟩)
            clear hj4 hkw hk4
            go_wp2_with fail
            refine bodyPost_ret (results_tmp rfl _ _ _) rfl ?_
            exact HP.out
        · have c1 : decide (n ≤ hi) = false := decide_eq_false hn
          have hk0 : k = 0 := by omega
          rw [hk0] at hdone
          clear hT1
          have HP := Aw.mk (show FromPost X R J Jx (pre ++ lsFrom ms (d + 1) band r) W (.returned (.bool true)) wr from ⟨hkp, .inl ⟨rfl, by
            have e : p1 = pre ++ lsFrom ms (d + 1) band r := by simpa [upFrom] using hdone
            rw [← e]
            exact hJ _ X p1 wr wr hj1 (Chg.refl _ _) (fun q h => .inl (.inl h)) (fun q h => Nat.lt_of_lt_of_le (hX q h) hkp.1)⟩⟩)
          clear hj1 hdone hkp hEw HL hset hk0 hk hnn
          go_wp2_with fail
          refine bodyPost_ret (results_tmp rfl _ _ _) rfl ?_
          exact HP.out
end Go.Proofs.Ytdagijgoegkphaa.Hand

namespace Go.Proofs.Ytdagijgoegkphaa.Hand
open Go.RowKit Go.Shelf
theorem run_store_func {P : Program} {w : World} {a : Addr} (f : Fn) (ba lb : Array Value) (m : Mode) : (store a (.func f ba lb) m).run P w = stored P w a (.func f ba lb) m := run_store P w a _ m rfl
attribute [local go_sem] run_store_func
theorem results87 (tmps : Array Value) (W : World) : (results Try.f87 tmps).run Try.prog W = .ok (.tuple #[]) W := results_none rfl _ _ _
def SeqC {α : Type} (gf : Nat) (lb : Array Value) (encs : α → Array Value) (R X0 : Nat → Prop) (T : List α) (E : World → Prop) (w : World) : Prop :=
  ∀ (l : Nat) (J Jx : (Nat → Prop) → List α → World → Prop) (W1 : World), Chg (fun _ => False) w W1 → Stab J → Stab Jx → Rounds Try.prog l encs R (listOk T) J Jx → J X0 [] W1 →
    Calls Try.prog gf (#[.func (.yield l) #[] #[]] ++ lb) W1 fun e W' => (∃ v, e = .returned v) ∧ ((∃ xs, (xs = T ∧ E W') ∧ J X0 xs W') ∨ (∃ pre, E W' ∧ Jx X0 pre W'))
theorem Blk.chg {X : Nat → Prop} {w W : World} {b : Nat} {cs : Array Value} {t : Nat} (h : Blk w b cs t) (hc : Chg X w W) (hx : ¬ X b) : Blk W b cs t := (hc.block b h.lt hx).trans h
theorem Rg.At.chg {X : Nat → Prop} {w W : World} {A : Option Addr} {l : List Rg} (h : Rg.At w A l) (hc : Chg X w W) (hx : ∀ a, A = some a → a.block < w.heap.size → ¬ X a.block) : Rg.At W A l := fun i hi => by
  obtain ⟨b, off, hA, hlt, h0, h1⟩ := h i hi
  have hb := hc.block b hlt (hx _ hA hlt)
  have hcc : ∀ o, W.cell? ⟨b, o, none⟩ = w.cell? ⟨b, o, none⟩ := fun o => World.cell?_of_block (w := w) hb
  exact ⟨b, off, hA, Nat.lt_of_lt_of_le hlt hc.size, (hcc _).trans h0, (hcc _).trans h1⟩
def VB (A : Option Addr) (k : Nat) : Prop := ∃ a, A = some a ∧ k = a.block
set_option maxHeartbeats 2000000 in
theorem lists1_any (A : Option Addr) (c : Nat) (ms : List Rg) (hms : ms.length ≤ 3) (hv : ∀ m ∈ ms, 0 ≤ m.lo ∧ m.hi ≤ 1000) (B1 : Nat) (R : Nat → Prop) (hRA : ∀ a, A = some a → R a.block) (hR1 : R B1) (w : World) (hb : Blk w B1 #[.slice A ms.length c] 39) (hz : Rg.At w A ms) (hRk : ∀ k, R k → k < w.heap.size) :
    SeqC 87 #[.pointer (some ⟨B1, 0, none⟩)] (fun x : Rt => #[x.enc]) R (fun _ => False) (lists ms) (fun _ => True) w := by
  intro l J Jx W1 hc hJ hJx hR hj
  have hb1 : Blk W1 B1 #[.slice A ms.length c] 39 := hb.chg hc (fun h => h)
  have hz1 : Rg.At W1 A ms := hz.chg hc (fun _ _ _ h => h)
  have HB := Aw.mk hb1
  have HZ := Aw.mk hz1
  have hl1 := hb1.lt
  have HL1 := Aw.mk hl1
  have HS := Aw.mk hc.size
  have HJ := Aw.mk hj
  clear hb hz hc hb1 hz1 hj hl1
  obtain ⟨F, hF⟩ : ∃ F, F = Value.func (.func 88) #[] #[.pointer (some ⟨B1, 0, none⟩), .pointer (some ⟨W1.heap.size, 0, none⟩), .pointer (some ⟨W1.heap.size + 1, 0, none⟩)] := ⟨_, rfl⟩
  obtain ⟨w3, hw3⟩ : ∃ w3, w3 = ((W1.alloc (.cells #[.func (.yield l) #[] #[]] 104)).alloc (.cells #[F] 137)) := ⟨_, rfl⟩
  have hbel : Below W1.heap.size W1 w3 := by rw [hw3]; exact ((Below.refl W1.heap.size W1).alloc (Nat.le_refl _) _).alloc (by simp) _
  have h2 : Blk w3 W1.heap.size #[.func (.yield l) #[] #[]] 104 := by rw [hw3]; exact (Blk.new W1 _ _).alloc _
  have h3 : Blk w3 (W1.heap.size + 1) #[F] 137 := by
    have := Blk.new (W1.alloc (.cells #[.func (.yield l) #[] #[]] 104)) #[F] 137
    rw [show (W1.alloc (.cells #[.func (.yield l) #[] #[]] 104)).heap.size = W1.heap.size + 1 by simp] at this
    rw [hw3]; exact this
  have hsz : w3.heap.size = W1.heap.size + 2 := by rw [hw3]; simp
  have hE : LEnv A c ms l B1 W1.heap.size (W1.heap.size + 1) w3 := ⟨HB.out.below hbel HB.out.lt, h2, by rw [hF] at h3; exact h3, HZ.out.below hbel⟩
  have hcall := from_any A c ms hms hv l B1 W1.heap.size (W1.heap.size + 1) R hRA J Jx hJ hJx (lists ms) hR ms.length 0 ⟨0, 0, 0⟩ (fun k => k = W1.heap.size ∨ k = W1.heap.size + 1) [] [] w3 (by omega) hE (.inr hR1) (.inl rfl) (.inr rfl)
    (fun k h => by rcases h with rfl | rfl <;> omega) (fun k h => by have := hRk k h; have := HS.out; omega)
    (hJ _ _ [] W1 w3 HJ.out (Chg.below hbel _) (fun k h => .inr (by rcases h with rfl | rfl <;> omega)) (fun k h => by rcases h with rfl | rfl <;> omega))
    (by simp [lists])
  have HC := Aw.mk hcall
  have HSZ := Aw.mk hsz
  rw [hw3, hF] at HC
  unfold Rt.enc Rt.cells at HC
  dsimp only at HC
  rw [show ((0 : Nat) : Int) = 0 from rfl] at HC
  clear hcall hE h2 h3 hbel hsz hw3 hF
  go_enter Try.func87, Try.ntmps87
  go_wp2_with fail
  refine HC.out.mono ?_
  rintro e w4 ⟨hk4, h4⟩
  rcases h4 with ⟨rfl, hj4⟩ | ⟨rfl, pre', hj4⟩
  · have HP := Aw.mk (show (∃ xs, (xs = lists ms ∧ True) ∧ J (fun _ => False) xs w4) from ⟨_, ⟨rfl, trivial⟩, hJ _ _ _ w4 w4 (by simpa [lists] using hj4) (Chg.refl _ _) (fun k h => h.elim) (fun k h => h.elim)⟩)
    clear hj4 hk4
    go_wp2_with fail
    exact bodyPost_end (results87 _ _) rfl ⟨⟨_, rfl⟩, .inl HP.out⟩
  · have HP := Aw.mk (show (∃ pre, True ∧ Jx (fun _ => False) pre w4) from ⟨_, trivial, hJx _ _ _ w4 w4 hj4 (Chg.refl _ _) (fun k h => h.elim) (fun k h => h.elim)⟩)
    clear hj4 hk4
    go_wp2_with fail
    exact bodyPost_end (results87 _ _) rfl ⟨⟨_, rfl⟩, .inr HP.out⟩
theorem lists_any (A : Option Addr) (n c : Nat) (w : World) :
    Calls Try.prog 62 #[.agg #[.slice A n c]] w fun e w' => e = .returned (.func (.func 87) #[] #[.pointer (some ⟨w.heap.size, 0, none⟩)]) ∧ w' = w.alloc (.cells #[.slice A n c] 39) := by
  go_enter Try.func62, Try.ntmps62
  go_wp2_with fail
  go_ret
  exact ⟨rfl, rfl⟩
end Go.Proofs.Ytdagijgoegkphaa.Hand

namespace Go.Proofs.Ytdagijgoegkphaa.Hand
open Go.RowKit Go.Shelf
attribute [local go_sem] Oper.semAt_some
def matErr (ms : List Rg) : Int := if (1 ≤ ms.length ∧ ms.length ≤ 3) ∧ ms.all rateB = true then (if lists ms = [] then 1 else 0) else 1
theorem rateP (w : World) : Rg.PredB 74 #[] #[] rateB (fun _ => True) w := fun W x _ _ => rate_any x W
theorem rate_bounds {ms : List Rg} (h : ms.all rateB = true) : ∀ m ∈ ms, 0 ≤ m.lo ∧ m.hi ≤ 1000 := by
  intro m hm
  have := List.all_eq_true.1 h m hm
  unfold rateB uptoB at this
  simp only [Bool.and_eq_true, decide_eq_true_eq] at this
  omega
theorem results36 {tmps : Array Value} {W : World} {g : Nat} {x0 : Value} (hp : tmps.getD 2 undef = .pointer (some ⟨g, 0, none⟩)) (h : Blk W g #[x0] 34) :
    (results Try.f36 tmps).run Try.prog W = .ok x0 W := by
  have c0 : W.cell? ⟨g, 0, none⟩ = some x0 := h.cell 0
  have e : Try.f36.results = #[.cell 2 34] := rfl
  have hp' : tmps[2]?.getD undef = .pointer (some ⟨g, 0, none⟩) := by simpa using hp
  unfold results
  simp only [e]
  go_simp
theorem postM_ret {fn : Func} {R : Ending → World → Prop} {a : Act} {W : World} {D : Nat} {v : Value} (hd : a.defers = [{ target := .collected D, args := #[] }]) (hD : W.heap[D]? = some (.deferred (some [])))
    (hr : (results fn a.tmps).run Try.prog (W.putObj D (.deferred none)) = .ok v (W.putObj D (.deferred none))) (hR : R (.returned v) (W.putObj D (.deferred none))) : bodyPostM Fence.wide 0 Try.prog fn R .ret a W := by
  show LeavesInM Fence.wide 0 Try.prog fn a.tmps R a.defers .returning W
  rw [hd]
  exact ⟨by simp, .inl ⟨_, _, rfl, run_takeDeferred hD, v, hr, hR⟩⟩
theorem postM_end {fn : Func} {R : Ending → World → Prop} {a : Act} {W : World} {D : Nat} {v : Value} (hd : a.defers = [{ target := .collected D, args := #[] }]) (hD : W.heap[D]? = some (.deferred (some [])))
    (hr : (results fn a.tmps).run Try.prog (W.putObj D (.deferred none)) = .ok v (W.putObj D (.deferred none))) (hR : R (.returned v) (W.putObj D (.deferred none))) : bodyPostM Fence.wide 0 Try.prog fn R .normal a W := by
  show LeavesInM Fence.wide 0 Try.prog fn a.tmps R a.defers .returning W
  rw [hd]
  exact ⟨by simp, .inl ⟨_, _, rfl, run_takeDeferred hD, v, hr, hR⟩⟩
theorem postM_ret0 {fn : Func} {R : Ending → World → Prop} {a : Act} {W : World} {v : Value} (hd : a.defers = []) (hr : (results fn a.tmps).run Try.prog W = .ok v W) (hR : R (.returned v) W) : bodyPostM Fence.wide 0 Try.prog fn R .ret a W := by
  show LeavesInM Fence.wide 0 Try.prog fn a.tmps R a.defers .returning W
  rw [hd]
  exact ⟨v, hr, hR⟩
theorem Blk.putOther {W : World} {b D : Nat} {cs : Array Value} {t : Nat} (h : Blk W b cs t) {ds : Option (List Deferred)} (hD : W.heap[D]? = some (.deferred ds)) (o : Obj) : Blk (W.putObj D o) b cs t := by
  have hne : b ≠ D := by
    rintro rfl
    rw [show W.heap[b]? = _ from h] at hD
    cases hD
  exact (World.putObj_heap_other hne).trans h
theorem defer_other {W : World} {b D : Nat} {cs : Array Value} {t : Nat} (h : Blk W b cs t) {ds : Option (List Deferred)} (hD : W.heap[D]? = some (.deferred ds)) : D ≠ b := by
  rintro rfl
  rw [show W.heap[D]? = _ from h] at hD
  cases hD
def slot (a : Act) (i : Nat) : Value := a.tmps.getD i undef
theorem frame_lit' (a : Act) (n : Nat) (h : a.tmps.size = n) : a = { tmps := ((List.range n).map (slot a)).toArray, defers := a.defers } := by
  obtain ⟨t, ds⟩ := a
  simp only at h
  congr 1
  apply Array.ext
  · simp [h]
  · intro i h1 h2
    simp [slot, h1]
structure JOne (Bo : Nat) (x : Value) (Wd : World) (none : Bool) (X : Nat → Prop) (pre : List Rt) (W : World) : Prop where
  none : none = true ↔ pre = []
  chg : Chg (fun k => k = Bo) Wd W
  own : ∀ k, X k → Wd.heap.size ≤ k
  out : Blk W Bo #[x] 34
theorem JOne.stab {Bo : Nat} {x : Value} {Wd : World} {b : Bool} (hBo : Bo < Wd.heap.size) : Stab (JOne Bo x Wd b) := by
  intro X Y pre W W' h hc hY _
  have hs := h.chg.size
  refine ⟨h.none, h.chg.trans (hc.mono fun k _ hx => .inr (h.own k hx)), fun k hk => ?_, h.out.chg hc (fun hx => by have := h.own _ hx; omega)⟩
  rcases hY k hk with h1 | h1
  · exact h.own k h1
  · omega
set_option maxHeartbeats 4000000 in
set_option maxRecDepth 10000 in
theorem check_any (A : Option Addr) (c : Nat) (ms : List Rg) (w : World) (hz : Rg.At w A ms) (hbig : ms.length ≤ 9223372036854775807) :
    Calls Try.prog 36 #[.agg #[.slice A ms.length c]] w fun e w' => e = .returned (.int .i64 (matErr ms)) ∧ Below w.heap.size w w' := by
  obtain ⟨w1, hw1⟩ : ∃ w1, w1 = (w.alloc (.cells #[.slice A ms.length c] 39)).alloc (.cells #[.int .i64 0] 34) := ⟨_, rfl⟩
  have hbel : Below w.heap.size w w1 := by rw [hw1]; exact ((Below.refl w.heap.size w).alloc (Nat.le_refl _) _).alloc (by simp) _
  have h1 : Blk w1 w.heap.size #[.slice A ms.length c] 39 := by rw [hw1]; exact (Blk.new w _ _).alloc _
  have h2 : Blk w1 (w.heap.size + 1) #[.int .i64 0] 34 := by
    have := Blk.new (w.alloc (.cells #[.slice A ms.length c] 39)) #[.int .i64 0] 34
    rw [hw1]; simpa using this
  have HA0 := Aw.mk (show ∀ a, A = some a → 0 < ms.length → a.block < w.heap.size from fun a ha h0 => by
    obtain ⟨b, off, h1, h2, _⟩ := hz 0 h0
    rw [h1] at ha; cases ha; exact h2)
  have HW1 := Aw.mk hw1
  have hsz : w1.heap.size = w.heap.size + 2 := by rw [hw1]; simp
  have HSZ := Aw.mk hsz
  have H1 := Aw.mk h1
  have H2 := Aw.mk h2
  have HB := Aw.mk hbel
  have hz1 := hz.below hbel
  have HZ := Aw.mk hz1
  have e74 : ∀ args w, (callFunc 74 args).run Try.prog w = .ok (.enter 74 args) w := enters_of Try.func74 (by kernel_rfl) rfl
  have hal := Rg.all_any rateB (fun _ => True) 74 #[] #[] e74 A c ms w1 (rateP w1) (fun _ _ => trivial) hz1 hbig
  have hwi := within_any (ms.length : Int) 1 3 w1
  have hwi2 : decide (1 ≤ (ms.length : Int) ∧ (ms.length : Int) ≤ 3) = decide (1 ≤ ms.length ∧ ms.length ≤ 3) := by
    by_cases h : 1 ≤ ms.length ∧ ms.length ≤ 3
    · rw [decide_eq_true h, decide_eq_true (by omega)]
    · rw [decide_eq_false h, decide_eq_false (by omega)]
  rw [hwi2] at hwi
  have hbad : ¬ ((1 ≤ ms.length ∧ ms.length ≤ 3) ∧ ms.all rateB = true) → matErr ms = 1 := fun h => by unfold matErr; rw [if_neg h]
  clear hwi2 h1 hsz hz hbel hz1
  by_cases ha : 1 ≤ ms.length ∧ ms.length ≤ 3
  · rw [decide_eq_true ha] at hwi
    by_cases hb : ms.all rateB = true
    · rw [hb] at hal
      have HRB := Aw.mk (rate_bounds hb)
      have HE := Aw.mk (show matErr ms = if lists ms = [] then 1 else 0 by unfold matErr; rw [if_pos ⟨ha, hb⟩])
      rw [hw1] at hwi hal
      clear hb hbad hw1
      refine (callsIn_wide (n := 0)).1 (callsIn_of_wp_marks Try.func36 rfl trivial ((wpIn_wide (n := 0)).2 ?_) rfl)
      simp only [Try.ntmps36, List.size_toArray, List.length_cons, List.length_nil, Nat.reduceAdd, Nat.reduceSub, Array.replicate_succ, Array.replicate_zero, List.push_toArray, List.append_toArray, List.nil_append, List.cons_append]
      go_wp2_with (first
        | (go_at_call 71; refine hwi.mono ?_; clear hwi; rintro e w' ⟨rfl, rfl⟩)
        | (go_at_call 73; refine hal.mono ?_; clear hal; rintro e w2 ⟨rfl, hb2⟩; have HB2 := Aw.mk (show Below w1.heap.size w1 w2 by rw [HW1.out]; exact hb2); clear hb2; have H12 := Aw.mk (H1.out.below HB2.out H1.out.lt); have c1 : w2.cell? ⟨w.heap.size, 0, none⟩ = some (.slice A ms.length c) := H12.out.cell 0)
        | (go_at_call 62; refine (lists_any _ _ _ _).mono ?_; rintro e w3 ⟨rfl, rfl⟩))
      obtain ⟨w3, hw3⟩ : ∃ w3, w3 = w2.alloc (.cells #[.slice A ms.length c] 39) := ⟨_, rfl⟩
      rw [← hw3]
      have hb3 : Below w2.heap.size w2 w3 := by rw [hw3]; exact (Below.refl _ _).alloc (Nat.le_refl _) _
      have hb13 := HB2.out.trans (hb3.mono HB2.out.size)
      have h23 : Blk w3 (w.heap.size + 1) #[.int .i64 0] 34 := H2.out.below hb13 H2.out.lt
      have hB3 : Blk w3 w2.heap.size #[.slice A ms.length c] 39 := by rw [hw3]; exact Blk.new _ _ _
      have hz3 := HZ.out.below hb13
      have hs3 : w.heap.size + 2 ≤ w3.heap.size := by have := HSZ.out; have := hb13.size; omega
      have hA : ∀ a, A = some a → a.block < w3.heap.size := fun a ha' => by have := HA0.out a ha' (by omega); omega
      clear hw3 hb3
      have hst := JOne.stab (x := .int .i64 0) (b := true) h23.lt
      have hst2 := JOne.stab (x := .int .i64 0) (b := false) h23.lt
      refine wpIn_wide.1 (range_law (gf := 87) (lb := #[.pointer (some ⟨w2.heap.size, 0, none⟩)]) rfl (enters_of Try.func87 (by kernel_rfl) rfl)
        (encs := fun x : Rt => #[x.enc]) (R := fun k => VB A k ∨ k = w2.heap.size) (ok := listOk (lists ms)) (S := fun xs _ => xs = lists ms ∧ True) (Sp := fun _ _ => True) (fun _ _ _ _ _ h => h) (fun _ _ _ _ _ h => h)
        (JOne (w.heap.size + 1) (.int .i64 0) w3 true) (fun c X pre W => c = .ret ∧ JOne (w.heap.size + 1) (.int .i64 0) w3 false X pre W ∧ ∃ x, x ∈ lists ms) hst
        (fun c X Y pre W W' h hc hY hYl => ⟨h.1, hst2 X Y pre W W' h.2.1 hc hY hYl, h.2.2⟩) (fun _ => False) (fun _ h => h.elim) ?hR ?h0 (fun _ => rfl) ?hseq
        (fun X pre x a W => JOne (w.heap.size + 1) (.int .i64 0) w3 true X pre W ∧ a.defers = [] ∧ a.tmps.size = 17 ∧ a.tmps.getD 2 undef = .pointer (some ⟨w.heap.size + 1, 0, none⟩)) ?hJa ?hassign ?hbody ?hdone ?hstop)
      case hR =>
        rintro k (⟨a, ha, rfl⟩ | rfl)
        · exact hA a ha
        · exact hB3.lt
      case h0 => exact ⟨by simp, Chg.refl _ _, fun _ h => h.elim, h23⟩
      case hseq =>
        intro l J' Jx' W1 hc hJ' hJx' hRo hj0
        refine (lists1_any A c ms ha.2 HRB.out w2.heap.size (fun k => VB A k ∨ k = w2.heap.size) (fun a h => .inl ⟨a, h, rfl⟩) (.inr rfl) w3 hB3 hz3 ?_ l J' Jx' W1 hc hJ' hJx' hRo hj0).mono ?_
        · rintro k (⟨a, ha, rfl⟩ | rfl)
          · exact hA a ha
          · exact hB3.lt
        · intro e W' h; exact h
      case hJa =>
        intro x a' X Y pre W W' h hc hY hYl
        exact ⟨hst X Y pre W W' h.1 hc hY hYl, h.2⟩
      case hassign =>
        intro l X pre x W hJ hok hX
        simp only [List.zip_toArray, List.zip_cons_cons, List.zip_nil_left, List.zip_nil_right, List.foldl_toArray, List.foldl_cons, List.foldl_nil, List.setIfInBounds_toArray, List.set_cons_succ, List.set_cons_zero]
        have HJ := Aw.mk hJ
        clear hJ hX hok
        gi_wp2
        exact ⟨Keep.refl _ _, HJ.out, trivial, rfl, rfl⟩
      case hbody =>
        intro l X pre x a' W hja hok hX
        obtain ⟨hj, hdf, hsz, hp2⟩ := hja
        have p2 : slot a' 2 = .pointer (some ⟨w.heap.size + 1, 0, none⟩) := hp2
        have hex : ∃ x, x ∈ lists ms := by obtain ⟨suf, h⟩ := hok; exact ⟨x, by rw [h]; simp⟩
        have z0 : W.frozen? ⟨w.heap.size + 1, 0, none⟩ = false := hj.out.frozen 0
        have c0 : W.cell? ⟨w.heap.size + 1, 0, none⟩ = some (.int .i64 0) := hj.out.cell 0
        have hout := hj.out.set 0 (.int .i64 0)
        have HP := Aw.mk (show Keep (fun k => X k ∨ (VB A k ∨ k = w2.heap.size)) W (W.setCell ⟨w.heap.size + 1, 0, none⟩ (.int .i64 0)) ∧ (Code.ret = Code.ret ∧ JOne (w.heap.size + 1) (.int .i64 0) w3 false X (pre ++ [x]) (W.setCell ⟨w.heap.size + 1, 0, none⟩ (.int .i64 0)) ∧ ∃ x, x ∈ lists ms) from
          ⟨((Chg.refl (fun k => k = w.heap.size + 1) W).setCell (.inl rfl) _).keep (by
            rintro k (h | ⟨a, ha', rfl⟩ | rfl) _ e
            · have := hj.own k h; have := h23.lt; omega
            · have := HA0.out a ha' (by omega); omega
            · have := HSZ.out; have := HB2.out.size; omega), rfl, ⟨by simp, (hj.chg.setCell (.inl rfl) _), hj.own, hout⟩, hex⟩)
        have HP2 := Aw.mk (show rndPost X (fun k => VB A k ∨ k = w2.heap.size) (JOne (w.heap.size + 1) (.int .i64 0) w3 true) (fun c X pre W => c = .ret ∧ JOne (w.heap.size + 1) (.int .i64 0) w3 false X pre W ∧ ∃ x, x ∈ lists ms) (pre ++ [x]) W .ret a' (W.setCell ⟨w.heap.size + 1, 0, none⟩ (.int .i64 0)) from HP.out)
        rw [frame_lit' a' 17 hsz, hdf]
        simp only [List.range, List.range.loop, List.map_cons, List.map_nil, p2]
        clear hj hdf hsz hp2 p2 hout hex hX hok
        generalize a' = a''
        gi_wp2
        exact HP2.out
      case hdone =>
        intro D xs W hD hS hJ hDW
        have hj := hJ.out
        have z0 : W.frozen? ⟨w.heap.size + 1, 0, none⟩ = false := hj.frozen 0
        have c0 : W.cell? ⟨w.heap.size + 1, 0, none⟩ = some (.int .i64 0) := hj.cell 0
        have HJ := Aw.mk hJ
        have HS := Aw.mk hS
        have HDW := Aw.mk hDW
        have HD := Aw.mk hD
        clear hj hJ hS hDW hD
        dsimp only [Exit.inBlock, Exit.then]
        go_wp2_with fail
        have hj := HJ.out
        have hm : matErr ms = 1 := by rw [HE.out, if_pos (by rw [← HS.out.1]; exact hj.none.1 rfl)]
        have hne := defer_other hj.out HDW.out
        have hD2 : (W.setCell ⟨w.heap.size + 1, 0, none⟩ (.int .i64 1)).heap[D]? = some (.deferred (some [])) := (Below.heap_setCell _ _ _ D hne).trans HDW.out
        refine postM_ret rfl hD2 (results36 rfl ((hj.out.set 0 (.int .i64 1)).putOther hD2 _)) ⟨by rw [hm], ?_⟩
        have h1 : Chg (fun k => k = w.heap.size + 1) w W := (Chg.below (HB.out.trans (hb13.mono HB.out.size)) _).trans (hj.chg.mono fun k _ e => .inl e)
        exact ((h1.setCell (.inl rfl) _).putObj (.inr (by have := HD.out; omega)) _).toBelow (Nat.le_refl _) (fun k e => by omega)
      case hstop =>
        intro D cd pre W hD hSp hJx hDW
        obtain ⟨rfl, hj, x, hx⟩ := hJx
        have hm : matErr ms = 0 := by rw [HE.out, if_neg (fun h => by rw [h] at hx; cases hx)]
        have HJ := Aw.mk hj
        have HDW := Aw.mk hDW
        have HD := Aw.mk hD
        clear hD hSp hDW hj hx
        dsimp only [Exit.inBlock, Exit.then]
        gi_wp2
        have hj := HJ.out
        refine postM_ret rfl HDW.out (results36 rfl (hj.out.putOther HDW.out _)) ⟨by rw [hm], ?_⟩
        have h1 : Chg (fun k => k = w.heap.size + 1) w W := (Chg.below (HB.out.trans (hb13.mono HB.out.size)) _).trans (hj.chg.mono fun k _ e => .inl e)
        exact (h1.putObj (.inr (by have := HD.out; omega)) _).toBelow (Nat.le_refl _) (fun k e => by omega)
    · have hb' : ms.all rateB = false := by simpa using hb
      rw [hb'] at hal
      have HE := Aw.mk (hbad (fun h => hb h.2))
      rw [hw1] at hwi hal
      clear hb hbad hw1 hb'
      go_enter Try.func36, Try.ntmps36
      go_wp2_with (first
        | (go_at_call 71; refine hwi.mono ?_; clear hwi; rintro e w' ⟨rfl, rfl⟩)
        | (go_at_call 73; refine hal.mono ?_; clear hal; rintro e w2 ⟨rfl, hb2⟩; have HB2 := Aw.mk (show Below w1.heap.size w1 w2 by rw [HW1.out]; exact hb2); clear hb2; have H22 := Aw.mk (H2.out.below HB2.out H2.out.lt); have c1 : w2.cell? ⟨w.heap.size + 1, 0, none⟩ = some (.int .i64 0) := H22.out.cell 0; have z1 : w2.frozen? ⟨w.heap.size + 1, 0, none⟩ = false := H22.out.frozen 0))
      refine bodyPost_ret (results36 rfl (H22.out.set 0 (.int .i64 1))) rfl ⟨by rw [HE.out], ?_⟩
      exact (HB.out.trans (HB2.out.mono HB.out.size)).setCell (p := ⟨w.heap.size + 1, 0, none⟩) (by simp) _
  · rw [decide_eq_false ha] at hwi
    have HE := Aw.mk (hbad (fun h => ha h.1))
    have c1 : w1.cell? ⟨w.heap.size + 1, 0, none⟩ = some (.int .i64 0) := H2.out.cell 0
    have z1 : w1.frozen? ⟨w.heap.size + 1, 0, none⟩ = false := H2.out.frozen 0
    rw [hw1] at hwi
    clear hbad hw1 hal
    go_enter Try.func36, Try.ntmps36
    go_wp2_with (first
      | (go_at_call 71; refine hwi.mono ?_; clear hwi; rintro e w' ⟨rfl, rfl⟩; rw [← HW1.out]))
    refine bodyPost_ret (results36 rfl (H2.out.set 0 (.int .i64 1))) rfl ⟨by rw [HE.out], ?_⟩
    exact HB.out.setCell (p := ⟨w.heap.size + 1, 0, none⟩) (by simp) _
end Go.Proofs.Ytdagijgoegkphaa.Hand

namespace Go.Proofs.Ytdagijgoegkphaa.Hand
open Go.RowKit Go.Shelf
def findOps (id : Nat) : Code → Option (Array Oper)
  | .region i ops _ => if i == id then some ops else none
  | .seq a b => match findOps id a with | some r => some r | none => findOps id b
  | .cond _ a b => match findOps id a with | some r => some r | none => findOps id b
  | .block _ c => findOps id c
  | .loop c => findOps id c
  | .scope c => findOps id c
  | .rangeFunc _ _ a b => match findOps id a with | some r => some r | none => findOps id b
  | _ => none
def opsOf (f : Func) (id : Nat) : Array Oper := match f.body with
  | some c => (findOps id c).getD #[]
  | none => #[]
theorem held_cell {W W' : World} {a : Addr} {x : Value} (h : W.cell? a = some x) (hb : Below W.heap.size W W') : W'.cell? a = some x := (hb.cell (block_lt_of_cell h)).trans h
theorem low_any (lo hi : Int) (w : World) : Calls Try.prog 85 #[.agg #[.int .i64 lo, .int .i64 hi]] w fun e w' => e = .returned (.int .i64 lo) ∧ Below w.heap.size w w' := by
  go_enter Try.func85, Try.ntmps85
  go_wp2
  go_ret
  exact ⟨rfl, (Below.refl _ w).alloc (Nat.le_refl _) _⟩
theorem high_any (lo hi : Int) (w : World) : Calls Try.prog 86 #[.agg #[.int .i64 lo, .int .i64 hi]] w fun e w' => e = .returned (.int .i64 hi) ∧ Below w.heap.size w w' := by
  go_enter Try.func86, Try.ntmps86
  go_wp2
  go_ret
  exact ⟨rfl, (Below.refl _ w).alloc (Nat.le_refl _) _⟩
def sumL : List Int → Int
  | [] => 0
  | x :: l => x + sumL l
theorem sumL_append : ∀ (a b : List Int), sumL (a ++ b) = sumL a + sumL b
  | [], b => by simp [sumL]
  | x :: a, b => by simp only [List.cons_append, sumL, sumL_append a b]; omega
theorem sumL_bound : ∀ (l : List Int), (∀ x ∈ l, 0 ≤ x ∧ x ≤ 1000000000) → 0 ≤ sumL l ∧ sumL l ≤ 1000000000 * l.length
  | [], _ => by simp [sumL]
  | x :: l, h => by
    have h1 := h x (by simp)
    have h2 := sumL_bound l (fun y hy => h y (by simp [hy]))
    simp only [sumL, List.length_cons]
    omega
def Nm.ns (l : List Nm) : List Int := l.map Nm.n
set_option maxHeartbeats 1000000 in
theorem sum_any (A : Option Addr) (c : Nat) (zs : List Nm) (w : World) (hz : Nm.At w A zs) (hlen : zs.length ≤ 8) (hb : ∀ x ∈ Nm.ns zs, 0 ≤ x ∧ x ≤ 1000000000) :
    Calls Try.prog 100 #[.slice A zs.length c] w fun e w' => e = .returned (.int .i64 (sumL (Nm.ns zs))) ∧ w = w' := by
  have HZ := Aw.mk hz
  have HBD := Aw.mk hb
  clear hz hb
  go_enter Try.func100, Try.ntmps100
  go_wp2
  go_loopg [2, 7] zs.length (fun gg s2 s7 wr => ∃ kk : Nat, kk ≤ zs.length ∧ zs.length - kk ≤ gg ∧ s7 = .int .i64 kk ∧ s2 = .int .i64 (sumL (Nm.ns (zs.take kk))) ∧ wr = w)
  case atStart => exact ⟨0, Nat.zero_le _, by omega, rfl, rfl, rfl⟩
  case round =>
    obtain ⟨kk, hkk, hg, rfl, rfl, rfl⟩ := hrel
    by_cases hlt : kk < zs.length
    · obtain ⟨b, off, rfl, hbl, h0⟩ := HZ.out kk hlt
      have hs : sumL (Nm.ns (zs.take (kk + 1))) = sumL (Nm.ns (zs.take kk)) + (zs[kk]).n := by
        rw [List.take_succ_eq_append_getElem hlt]
        unfold Nm.ns
        rw [List.map_append, sumL_append]
        simp [sumL]
      have hbt := sumL_bound (Nm.ns (zs.take (kk + 1))) (fun x hx => HBD.out x (by
        unfold Nm.ns at hx ⊢
        obtain ⟨y, hy, rfl⟩ := List.mem_map.1 hx
        exact List.mem_map.2 ⟨y, List.mem_of_mem_take hy, rfl⟩))
      have hl2 : (Nm.ns (zs.take (kk + 1))).length ≤ 8 := by unfold Nm.ns; rw [List.length_map, List.length_take]; omega
      obtain ⟨s1, hs1⟩ : ∃ s1, s1 = sumL (Nm.ns (zs.take kk)) := ⟨_, rfl⟩
      obtain ⟨x1, hx1⟩ : ∃ x1, x1 = (zs[kk]).n := ⟨_, rfl⟩
      rw [hs, ← hs1, ← hx1] at hbt
      rw [← hs1, ← hx1] at hs
      rw [← hx1] at h0
      rw [← hs1]
      have wq : IntKind.i64.wrap (s1 + x1) = s1 + x1 := IntWalk.i64_in _ (by omega)
      have HS := Aw.mk hs
      have hltz : (kk : Int) < (zs.length : Int) := by omega
      clear hs hbt hs1 hx1 hl2
      go_wp2
      go_roundg (zs.length - (kk + 1))
      case measure => omega
      case rel => exact ⟨kk + 1, by omega, by omega, by go_num, by rw [HS.out], rfl⟩
    · have : kk = zs.length := by omega
      subst this
      rw [List.take_length]
      go_wp2
      go_ret
      exact ⟨rfl, rfl⟩
def atV (f : Sg → Int) (r : Rt) (zs : List Sg) : Int := sumL (zs.map fun s => r.get s.band.toNat * f s)
def Rt.ok (r : Rt) : Prop := ∀ k, k < 3 → 0 ≤ r.get k ∧ r.get k ≤ 1000
def Sg.ok (s : Sg) : Prop := 0 ≤ s.band ∧ s.band < 3 ∧ 0 ≤ s.lo ∧ s.lo ≤ 1000000 ∧ 0 ≤ s.hi ∧ s.hi ≤ 1000000
theorem mul_bound {a b : Int} (h1 : 0 ≤ a) (h2 : a ≤ 1000) (h3 : 0 ≤ b) (h4 : b ≤ 1000000) : 0 ≤ a * b ∧ a * b ≤ 1000000000 := by
  refine ⟨Int.mul_nonneg h1 h3, ?_⟩
  have := Int.mul_le_mul h2 h4 h3 (by omega)
  omega
end Go.Proofs.Ytdagijgoegkphaa.Hand

namespace Go.Proofs.Ytdagijgoegkphaa.Hand
open Go.RowKit Go.Shelf
theorem getD_put (t : Array Value) (i j : Nat) (v : Value) (h : i < t.size) : (t.setIfInBounds i v).getD j undef = if i = j then v else t.getD j undef := by
  simp only [Array.getD_eq_getD_getElem?, Array.getElem?_setIfInBounds]
  split
  · rename_i e; subst e; simp [h]
  · rfl
def AtQ (B4 B5 B9 : Nat) (r : Rt) (sg : Sg) (g : Nat) (base : Nat) (n : Nat) (xs : List Value) (p : Int) (a0 : Act) (w0 : World) (Q : Exit → Act → World → Prop) : Prop :=
  ∀ (a : Act) (W : World) (V' : Value), a.defers = a0.defers → a.tmps.size = 32 → a.tmps.getD 7 undef = V' → (∀ s, s ≠ 7 → (s < 16 ∨ 28 < s) → a.tmps.getD s undef = a0.tmps.getD s undef) → Below base w0 W → W.ownsRow base 3 1 V' (n + 1) (xs ++ [.int .i64 p]) →
    Blk W B4 r.cells 101 → Blk W B5 #[.func (.func g) #[] #[]] 136 → Q .normal a W
theorem infoI3 : (Try.prog.info? 3).map (fun i => (i.zero, i.size, i.bytes)) = some (some (.int .i64 0), 1, 8) := by kernel_rfl
set_option maxHeartbeats 4000000 in
set_option maxRecDepth 10000 in
theorem at_region (B4 B5 B9 : Nat) (r : Rt) (bd : Nat) (hbd : bd < 3) (lo hi h : Int) (g : Nat) (x : Int) (hx : r.get bd = x) (hg : ∀ W, Calls Try.prog g #[.agg #[.int .i64 lo, .int .i64 hi]] W fun e w' => e = .returned (.int .i64 h) ∧ Below W.heap.size W w') (eg : ∀ args w, (callFunc g args).run Try.prog w = .ok (.enter g args) w)
    (hp : 0 ≤ x * h ∧ x * h ≤ 1000000000) (base : Nat) (V : Value) (n : Nat) (hn : n ≤ 8) (xs : List Value) (h4b : B4 < base) (h5b : B5 < base)
    (a0 : Act) (w0 : World) (Q : Exit → Act → World → Prop) (hsz : a0.tmps.size = 32)
    (f7 : a0.tmps.getD 7 undef = V) (f9 : a0.tmps.getD 9 undef = .pointer (some ⟨B9, 0, none⟩)) (f4 : a0.tmps.getD 4 undef = .pointer (some ⟨B4, 0, none⟩)) (f5 : a0.tmps.getD 5 undef = .pointer (some ⟨B5, 0, none⟩))
    (h4 : Blk w0 B4 r.cells 101) (h5 : Blk w0 B5 #[.func (.func g) #[] #[]] 136) (h9 : Blk w0 B9 #[.int .i64 (bd : Int), .int .i64 lo, .int .i64 hi] 65)
    (hown : w0.ownsRow base 3 1 V n xs) (hbase : base ≤ w0.heap.size)
    (hQ : AtQ B4 B5 B9 r ⟨bd, lo, hi⟩ g base n xs (x * h) a0 w0 Q) :
    (Code.region 5 (opsOf Try.f84 5) true).wpIn Fence.wide 0 Try.prog Q a0 w0 := by
  have hwx : IntKind.i64.wrap (x * h) = x * h := IntWalk.i64_in _ (by omega)
  refine region_walk (rd := none) 12 (fun i => i + 16) (by kernel_rfl) (by kernel_rfl) (by rw [hsz]; kernel_rfl)
    (fun W => Blk W B4 r.cells 101 ∧ Blk W B5 #[.func (.func g) #[] #[]] 136 ∧ Blk W B9 #[.int .i64 (bd : Int), .int .i64 lo, .int .i64 hi] 65 ∧ Below w0.heap.size w0 W)
    (fun i v W => match i with
      | 0 => v = V
      | 1 => v = .pointer (some ⟨B9, 0, none⟩)
      | 2 => v = .int .i64 (bd : Int)
      | 3 => v = .pointer (some ⟨B4, bd, none⟩)
      | 4 => v = .int .i64 x
      | 5 => v = .pointer (some ⟨B5, 0, none⟩)
      | 6 => v = .func (.func g) #[] #[]
      | 7 => v = .pointer (some ⟨B9, 1, none⟩)
      | 8 => v = .agg #[.int .i64 lo, .int .i64 hi]
      | 9 => v = .int .i64 h
      | 10 => v = .int .i64 (x * h)
      | _ => ∃ b, v = .slice (some ⟨b, 0, none⟩) 1 1 ∧ w0.heap.size ≤ b ∧ Blk W b #[.int .i64 (x * h)] 3)
    (fun W W' hb h => ⟨h.1.below hb h.1.lt, h.2.1.below hb h.2.1.lt, h.2.2.1.below hb h.2.2.1.lt, h.2.2.2.trans (hb.mono h.2.2.2.size)⟩) ?hSp ⟨h4.drew, h5.drew, h9.drew, (Below.refl _ _).drew⟩ ?hop ?hlast
  case hSp =>
    intro i v W W' hi hb h
    match i, h with
    | 0, h | 1, h | 2, h | 3, h | 4, h | 5, h | 6, h | 7, h | 8, h | 9, h | 10, h => exact h
    | _ + 11, h =>
      obtain ⟨b, h1, h2, h3⟩ := h
      exact ⟨b, h1, h2, h3.below hb h3.lt⟩
  case hop =>
    intro i a W hiB hN' hfix hBW hdep
    have f7 : a.tmps.getD 7 undef = V := (hfix 7 (fun j _ => by omega)).trans f7
    have f9 : a.tmps.getD 9 undef = .pointer (some ⟨B9, 0, none⟩) := (hfix 9 (fun j _ => by omega)).trans f9
    have f4 : a.tmps.getD 4 undef = .pointer (some ⟨B4, 0, none⟩) := (hfix 4 (fun j _ => by omega)).trans f4
    have f5 : a.tmps.getD 5 undef = .pointer (some ⟨B5, 0, none⟩) := (hfix 5 (fun j _ => by omega)).trans f5
    have e0 : ∀ x, a.eval (.tmp x) = a.tmps.getD x undef := fun _ => rfl
    have g0 : W.cell? ⟨B9, 0, none⟩ = some (.int .i64 (bd : Int)) := hBW.2.2.1.cell 0
    have g1 : W.cell? ⟨B9, 1, none⟩ = some (.int .i64 lo) := hBW.2.2.1.cell 1
    have g2 : W.cell? ⟨B9, 2, none⟩ = some (.int .i64 hi) := hBW.2.2.1.cell 2
    have g3 : W.cell? ⟨B5, 0, none⟩ = some (.func (.func g) #[] #[]) := hBW.2.1.cell 0
    have g4 : W.cell? ⟨B4, bd, none⟩ = some (.int .i64 x) := (hBW.1.cell bd).trans ((Rt.cells_get r bd hbd).trans (by rw [hx]))
    have hbdz : (bd : Int) < 3 := by omega
    have hB0 := hBW.2.2.2
    clear hQ hBW
    match i, hN', hiB, hdep with
    | 0, _, _, hdep =>
      refine OpOk.val (v := V) (w' := W) ?_ ⟨Below.refl _ _, rfl⟩
      show (execOp a.eval { dst := some 16, op := Op.move (.tmp 7), type := _, pos := _, after := _, guard := none }).run Try.prog W = _
      simp only [execOp, List.map_toArray, List.map_cons, List.map_nil, e0, f7]
      go_simp
    | 1, _, _, hdep =>
      refine OpOk.val (v := .pointer (some ⟨B9, 0, none⟩)) (w' := W) ?_ ⟨Below.refl _ _, rfl⟩
      show (execOp a.eval { dst := some 17, op := Op.fieldAddr 65 (.tmp 9) 0, type := _, pos := _, after := _, guard := none }).run Try.prog W = _
      simp only [execOp, List.map_toArray, List.map_cons, List.map_nil, e0, f9]
      go_simp
    | 2, _, _, hdep =>
      have d17 : a.tmps.getD 17 undef = .pointer (some ⟨B9, 0, none⟩) := hdep 1 rfl
      refine OpOk.val (v := .int .i64 (bd : Int)) (w' := W) ?_ ⟨Below.refl _ _, rfl⟩
      show (execOp a.eval { dst := some 18, op := Op.load 3 (.tmp 17), type := _, pos := _, after := _, guard := none }).run Try.prog W = _
      simp only [execOp, List.map_toArray, List.map_cons, List.map_nil, e0, d17]
      go_simp
    | 3, _, _, hdep =>
      have d18 : a.tmps.getD 18 undef = .int .i64 (bd : Int) := hdep 2 rfl
      refine OpOk.val (v := .pointer (some ⟨B4, bd, none⟩)) (w' := W) ?_ ⟨Below.refl _ _, rfl⟩
      show (execOp a.eval { dst := some 19, op := Op.indexAddr 101 (.tmp 4) (.tmp 18), type := _, pos := _, after := _, guard := none }).run Try.prog W = _
      simp only [execOp, List.map_toArray, List.map_cons, List.map_nil, e0, f4, d18]
      go_simp
    | 4, _, _, hdep =>
      have d19 : a.tmps.getD 19 undef = .pointer (some ⟨B4, bd, none⟩) := hdep 3 rfl
      refine OpOk.val (v := .int .i64 x) (w' := W) ?_ ⟨Below.refl _ _, rfl⟩
      show (execOp a.eval { dst := some 20, op := Op.load 3 (.tmp 19), type := _, pos := _, after := _, guard := none }).run Try.prog W = _
      simp only [execOp, List.map_toArray, List.map_cons, List.map_nil, e0, d19]
      go_simp
    | 5, _, _, hdep =>
      refine OpOk.val (v := .pointer (some ⟨B5, 0, none⟩)) (w' := W) ?_ ⟨Below.refl _ _, rfl⟩
      show (execOp a.eval { dst := some 21, op := Op.fieldAddr 136 (.tmp 5) 0, type := _, pos := _, after := _, guard := none }).run Try.prog W = _
      simp only [execOp, List.map_toArray, List.map_cons, List.map_nil, e0, f5]
      go_simp
    | 6, _, _, hdep =>
      have d21 : a.tmps.getD 21 undef = .pointer (some ⟨B5, 0, none⟩) := hdep 5 rfl
      refine OpOk.val (v := .func (.func g) #[] #[]) (w' := W) ?_ ⟨Below.refl _ _, rfl⟩
      show (execOp a.eval { dst := some 22, op := Op.load 133 (.tmp 21), type := _, pos := _, after := _, guard := none }).run Try.prog W = _
      simp only [execOp, List.map_toArray, List.map_cons, List.map_nil, e0, d21]
      go_simp
    | 7, _, _, hdep =>
      refine OpOk.val (v := .pointer (some ⟨B9, 1, none⟩)) (w' := W) ?_ ⟨Below.refl _ _, rfl⟩
      show (execOp a.eval { dst := some 23, op := Op.fieldAddr 65 (.tmp 9) 1, type := _, pos := _, after := _, guard := none }).run Try.prog W = _
      simp only [execOp, List.map_toArray, List.map_cons, List.map_nil, e0, f9]
      go_simp
    | 8, _, _, hdep =>
      have d23 : a.tmps.getD 23 undef = .pointer (some ⟨B9, 1, none⟩) := hdep 7 rfl
      refine OpOk.val (v := .agg #[.int .i64 lo, .int .i64 hi]) (w' := W) ?_ ⟨Below.refl _ _, rfl⟩
      show (execOp a.eval { dst := some 24, op := Op.load 47 (.tmp 23), type := _, pos := _, after := _, guard := none }).run Try.prog W = _
      simp only [execOp, List.map_toArray, List.map_cons, List.map_nil, e0, d23]
      go_simp
    | 9, _, _, hdep =>
      have d22 : a.tmps.getD 22 undef = .func (.func g) #[] #[] := hdep 6 rfl
      have d24 : a.tmps.getD 24 undef = .agg #[.int .i64 lo, .int .i64 hi] := hdep 8 rfl
      refine OpOk.call (f := g) (args := #[.agg #[.int .i64 lo, .int .i64 hi]]) (w1 := W) ?_ ((hg W).mono ?_)
      · show (execOp a.eval { dst := some 25, op := Op.call { callee := .value (.tmp 22), args := #[(.tmp 24)], argTypes := #[47] }, type := _, pos := _, after := _, guard := none }).run Try.prog W = _
        simp only [execOp, List.map_toArray, List.map_cons, List.map_nil, e0, d22, d24]
        go_simp
      · rintro e w' ⟨rfl, hb⟩
        exact ⟨_, rfl, hb, rfl⟩
    | 10, _, _, hdep =>
      have d20 : a.tmps.getD 20 undef = .int .i64 x := hdep 4 rfl
      have d25 : a.tmps.getD 25 undef = .int .i64 h := hdep 9 rfl
      refine OpOk.val (v := .int .i64 (x * h)) (w' := W) ?_ ⟨Below.refl _ _, rfl⟩
      show (execOp a.eval { dst := some 26, op := Op.binOp BinOp.mul 3 (.tmp 20) (.tmp 25) 3, type := _, pos := _, after := _, guard := none }).run Try.prog W = _
      simp only [execOp, List.map_toArray, List.map_cons, List.map_nil, e0, d20, d25]
      go_simp
      all_goals (first | rfl | assumption | exact Go.IntWalk.i64_left _ | exact hwx)
    | 11, _, _, hdep =>
      have d26 : a.tmps.getD 26 undef = .int .i64 (x * h) := hdep 10 rfl
      refine OpOk.val (v := .slice (some ⟨W.heap.size, 0, none⟩) 1 1) (w' := W.alloc (.cells #[.int .i64 (x * h)] 3)) ?_ ⟨(Below.refl _ _).alloc (Nat.le_refl _) _, _, rfl, hB0.size, Blk.new _ _ _⟩
      show (execOp a.eval { dst := some 27, op := Op.buildSlice 31 1 #[(0, (.tmp 26))], type := _, pos := _, after := _, guard := none }).run Try.prog W = _
      simp only [execOp, List.map_toArray, List.map_cons, List.map_nil, e0, d26]
      go_simp
    | kk + 12, h, _, _ => exact absurd h (by omega)
  case hlast =>
    intro a W e1 e2 hfix hBW hall
    have d16 : a.tmps.getD 16 undef = V := hall 0 (by omega)
    obtain ⟨b, d27, hb0, hbB⟩ : ∃ b, a.tmps.getD 27 undef = .slice (some ⟨b, 0, none⟩) 1 1 ∧ w0.heap.size ≤ b ∧ Blk W b #[.int .i64 (x * h)] 3 := hall 11 (by omega)
    have e0 : ∀ x, a.eval (.tmp x) = a.tmps.getD x undef := fun _ => rfl
    have hownW : W.ownsRow base 3 1 V n xs := hown.kept (row := none) ⟨hBW.2.2.2.os, hBW.2.2.2.tape, hBW.2.2.2.output, hBW.2.2.2.size, fun k hk _ => hBW.2.2.2.block k hk⟩ (by cases hv : V.ownBlock with | none => exact .inl rfl | some k => exact .inr (by simp))
    obtain ⟨i0, hi, hz0, hz1, hz2⟩ : ∃ i0, Try.prog.info? 3 = some i0 ∧ i0.zero = some (.int .i64 0) ∧ i0.size = 1 ∧ i0.bytes = 8 := by
      obtain ⟨i0, hi, hzz⟩ := Option.map_eq_some_iff.1 infoI3
      simp only [Prod.mk.injEq] at hzz
      exact ⟨i0, hi, hzz.1, hzz.2.1, hzz.2.2⟩
    obtain ⟨v1, w1, hrun, hown1, hg1, _⟩ := run_append_own (P := Try.prog) W base 31 31 3 i0 (.int .i64 0) 1 8 Try.underlying31 hi hz0 hz1 hz2 rfl (by decide) V n xs hownW ⟨b, 0, none⟩ 1 1 [.int .i64 (x * h)] rfl
      (World.news_of_block (cs := #[.int .i64 (x * h)]) hbB) (by simp [Value.oneCell']) (by simp only [maxLen]; omega) (by omega) (by have := hBW.2.2.2.size; omega)
    have hBW1 : Below base w0 w1 := (hBW.2.2.2.mono hbase).grown hg1 (by have := hBW.2.2.2.size; omega) (fun k hk => (hownW.lt k hk).1)
    have hne : ∀ {B : Nat} {cs : Array Value} {t : Nat}, B < base → Blk W B cs t → Blk w1 B cs t := fun {B cs t} hlt h => (hg1.block B h.lt (fun e => by have := (hownW.lt B e.symm).1; omega)).trans h
    refine OpOk.val (v := v1) (w' := w1) ?_ ?_
    · show (execOp a.eval { dst := some 28, op := Op.call { callee := .builtin .append, args := #[(.tmp 16), (.tmp 27)], argTypes := #[31, 31] }, type := 31, pos := _, after := _, guard := none }).run Try.prog W = _
      simp only [execOp, resolve, invoke, builtin, Sem.run_bind, Sem.run_pure, Result.andThen_ok, List.map_toArray, List.map_cons, List.map_nil, e0, d16, d27, hrun]
    · refine OpOk.val (v := v1) (w' := w1) ?_ ?_
      · show (execOp (a.put (some 28) v1).eval { dst := some 7, op := Op.assign (.tmp 28), type := _, pos := _, after := _, guard := none }).run Try.prog w1 = _
        have e3 : (a.put (some 28) v1).eval (.tmp 28) = v1 := by
          show (a.tmps.setIfInBounds 28 v1).getD 28 undef = v1
          rw [getD_put _ _ _ _ (by rw [e2, hsz]; omega)]; simp
        simp only [execOp, e3]
        go_simp
      · refine hQ _ w1 v1 e1 ?_ ?_ ?_ hBW1 hown1 (hne h4b hBW.1) (hne h5b hBW.2.1)
        · show ((a.tmps.setIfInBounds 28 v1).setIfInBounds 7 v1).size = 32
          simp [e2, hsz]
        · show ((a.tmps.setIfInBounds 28 v1).setIfInBounds 7 v1).getD 7 undef = v1
          rw [getD_put _ _ _ _ (by simp [e2, hsz])]; simp
        · intro s hs7 hs
          show ((a.tmps.setIfInBounds 28 v1).setIfInBounds 7 v1).getD s undef = _
          rw [getD_put _ _ _ _ (by simp [e2, hsz]), if_neg (fun e => hs7 e.symm), getD_put _ _ _ _ (by simp [e2, hsz]), if_neg (by omega)]
          exact hfix s (fun j hj => by omega)
end Go.Proofs.Ytdagijgoegkphaa.Hand

namespace Go.Proofs.Ytdagijgoegkphaa.Hand
open Go.RowKit Go.Shelf
def atVals (f : Sg → Int) (r : Rt) (zs : List Sg) : List Int := zs.map fun s => r.get s.band.toNat * f s
theorem own_ints {W : World} {base : Nat} {V : Value} {n : Nat} {l : List Int} (h : W.ownsRow base 3 1 V n (l.map fun x => .int .i64 x)) : n = l.length ∧ ∃ A c, V = .slice A l.length c ∧ Nm.At W A (l.map Nm.mk) := by
  obtain ⟨hl, h⟩ := h
  rw [List.length_map, Nat.mul_one] at hl
  subst hl
  refine ⟨rfl, ?_⟩
  rcases h with ⟨rfl, h0⟩ | ⟨g, cap, cur, rfl, hb, hh, h1, h2, h3, h4⟩
  · rw [h0]
    refine ⟨none, 0, rfl, fun i hi => ?_⟩
    rw [List.length_map] at hi
    omega
  · refine ⟨_, _, rfl, fun i hi => ⟨g, 0, rfl, (Array.getElem?_eq_some_iff.1 hh).1, ?_⟩⟩
    rw [List.length_map] at hi
    rw [Nat.zero_add]
    have hc : W.cell? ⟨g, i, none⟩ = cur[i]? := by simp [World.cell?, hh]
    rw [hc]
    have e : cur.toList[i]? = (l.map fun x => Value.int .i64 x)[i]? := by
      rw [← h4, List.getElem?_take_of_lt (by omega)]
    rw [← Array.getElem?_toList, e]
    simp [hi]
structure JAt (w : World) (g : Nat) (f : Sg → Int) (r : Rt) (zs : List Sg) (kk : Nat) (V : Value) (wr : World) : Prop where
  bel : Below w.heap.size w wr
  own : wr.ownsRow (w.heap.size + 2) 3 1 V kk ((atVals f r (zs.take kk)).map fun x => .int .i64 x)
  h4 : Blk wr w.heap.size r.cells 101
  h5 : Blk wr (w.heap.size + 1) #[.func (.func g) #[] #[]] 136
set_option maxHeartbeats 4000000 in
set_option maxRecDepth 10000 in
theorem at_any (g : Nat) (f : Sg → Int) (hf : ∀ s : Sg, s.ok → 0 ≤ f s ∧ f s ≤ 1000000) (hg : ∀ (s : Sg) W, Calls Try.prog g #[.agg #[.int .i64 s.lo, .int .i64 s.hi]] W fun e w' => e = .returned (.int .i64 (f s)) ∧ Below W.heap.size W w') (eg : ∀ args w, (callFunc g args).run Try.prog w = .ok (.enter g args) w)
    (A : Option Addr) (c : Nat) (zs : List Sg) (r : Rt) (w : World) (hz : Sg.At w A zs) (hlen : zs.length ≤ 8) (hok : ∀ s ∈ zs, s.ok) (hr : r.ok) :
    Calls Try.prog 84 #[.slice A zs.length c, r.enc, .agg #[.func (.func g) #[] #[]]] w fun e w' => e = .returned (.int .i64 (atV f r zs)) ∧ Below w.heap.size w w' := by
  obtain ⟨w1, hw1⟩ : ∃ w1, w1 = (w.alloc (.cells r.cells 101)).alloc (.cells #[.func (.func g) #[] #[]] 136) := ⟨_, rfl⟩
  have hbel : Below w.heap.size w w1 := by rw [hw1]; exact ((Below.refl w.heap.size w).alloc (Nat.le_refl _) _).alloc (by simp) _
  have h4 : Blk w1 w.heap.size r.cells 101 := by rw [hw1]; exact (Blk.new w _ _).alloc _
  have h5 : Blk w1 (w.heap.size + 1) #[.func (.func g) #[] #[]] 136 := by
    have := Blk.new (w.alloc (.cells r.cells 101)) #[.func (.func g) #[] #[]] 136
    rw [hw1]; simpa using this
  have HST := Aw.mk (show JAt w g f r zs 0 (.slice none 0 0) w1 from ⟨hbel, World.ownsRow_nil _ _ _ _, h4, h5⟩)
  have HZ := Aw.mk hz
  have HOK := Aw.mk hok
  have HR := Aw.mk hr
  have HF := Aw.mk hf
  have HG := Aw.mk hg
  have HW1 := Aw.mk hw1
  rw [hw1] at HST
  unfold Rt.cells at HST
  clear hz hok hr hf hg hbel h4 h5 hw1
  unfold Rt.enc Rt.cells
  go_enter Try.func84, Try.ntmps84
  go_wp2
  go_loopg [7, 12] zs.length (fun gg s7 s12 wr => ∃ kk : Nat, kk ≤ zs.length ∧ zs.length - kk ≤ gg ∧ s12 = .int .i64 kk ∧ Aw (JAt w g f r zs kk s7 wr))
  case atStart => exact ⟨0, Nat.zero_le _, by omega, rfl, HST⟩
  case round =>
    obtain ⟨kk, hkk, hgg, rfl, HJ⟩ := hrel
    by_cases hlt : kk < zs.length
    · obtain ⟨b, off, rfl, hbl, hs0, hs1, hs2⟩ := (HZ.out.below HJ.out.bel) kk hlt
      obtain ⟨s, hs⟩ : ∃ s, s = zs[kk] := ⟨_, rfl⟩
      have hsok : s.ok := by rw [hs]; exact HOK.out _ (List.getElem_mem hlt)
      have htk : atVals f r (zs.take (kk + 1)) = atVals f r (zs.take kk) ++ [r.get s.band.toNat * f s] := by
        rw [List.take_succ_eq_append_getElem hlt, hs]; unfold atVals; rw [List.map_append]; rfl
      rw [← hs] at hs0 hs1 hs2
      have hfs := HF.out s hsok
      have hgs := HG.out s
      have hltz : (kk : Int) < (zs.length : Int) := by omega
      obtain ⟨q1, q2, q3, q4, q5, q6⟩ := hsok
      have hrs := HR.out s.band.toNat (by omega)
      have hmb := mul_bound hrs.1 hrs.2 hfs.1 hfs.2
      have HTK := Aw.mk htk
      have HMB := Aw.mk hmb
      have HGS := Aw.mk hgs
      have HBD := Aw.mk (show s.band.toNat < 3 ∧ ((s.band.toNat : Nat) : Int) = s.band by omega)
      have wq : IntKind.i64.wrap ((kk : Int) + 1) = (kk : Int) + 1 := IntWalk.i64_in _ (by omega)
      clear hfs hgs q1 q2 q3 q4 q5 q6 hrs hmb htk hs
      go_upto_region 5 with (fail)
      obtain ⟨B9, hB9⟩ : ∃ B9, B9 = wr.heap.size := ⟨_, rfl⟩
      obtain ⟨w3, hw3⟩ : ∃ w3, w3 = wr.alloc (.cells #[.int .i64 s.band, .int .i64 s.lo, .int .i64 s.hi] 65) := ⟨_, rfl⟩
      rw [← hw3, ← hB9]
      have hb3 : Below wr.heap.size wr w3 := by rw [hw3]; exact (Below.refl _ _).alloc (Nat.le_refl _) _
      have h9 : Blk w3 B9 #[.int .i64 s.band, .int .i64 s.lo, .int .i64 s.hi] 65 := by rw [hw3, hB9]; exact Blk.new _ _ _
      have hJ3 : JAt w g f r zs kk u7 w3 := ⟨HJ.out.bel.trans (hb3.mono HJ.out.bel.size), by rw [hw3]; exact HJ.out.own.alloc _, HJ.out.h4.below hb3 HJ.out.h4.lt, HJ.out.h5.below hb3 HJ.out.h5.lt⟩
      have HJ3 := Aw.mk hJ3
      have H9 := Aw.mk h9
      have HS3 := Aw.mk (show w.heap.size + 2 ≤ w3.heap.size by have := HJ3.out.h5.lt; omega)
      clear hw3 hb3 h9 hJ3 hB9
      obtain ⟨lo, hi, bd, rfl⟩ : ∃ (lo hi : Int) (bd : Nat), s = ⟨(bd : Int), lo, hi⟩ := by
        obtain ⟨b', lo, hi⟩ := s
        exact ⟨lo, hi, b'.toNat, by rw [show ((b'.toNat : Nat) : Int) = b' from HBD.out.2]⟩
      refine wpIn_wide.1 (at_region w.heap.size (w.heap.size + 1) B9 r bd (by have := HBD.out.1; simpa using this) lo hi (f ⟨bd, lo, hi⟩) g (r.get bd) rfl HGS.out eg (by have := HMB.out; simpa using this) (w.heap.size + 2) u7 kk (by omega) _ (by omega) (by omega)
        _ w3 _ rfl rfl rfl rfl rfl HJ3.out.h4 HJ3.out.h5 H9.out HJ3.out.own HS3.out ?_)
      intro a W V' hd hsz h7 hfix hbW hown hb4 hb5
      have HJ4 : Aw (JAt w g f r zs (kk + 1) V' W) := ⟨HJ3.out.bel.trans (hbW.mono (by omega)), by
        rw [HTK.out, List.map_append]; simpa using hown, hb4, hb5⟩
      have hp : ∀ s, s ≠ 7 → (s < 16 ∨ 28 < s) → slot a s = _ := hfix
      have p0 := hp 0 (by decide) (by decide)
      have p1 := hp 1 (by decide) (by decide)
      have p2 := hp 2 (by decide) (by decide)
      have p3 := hp 3 (by decide) (by decide)
      have p4 := hp 4 (by decide) (by decide)
      have p5 := hp 5 (by decide) (by decide)
      have p6 := hp 6 (by decide) (by decide)
      have p8 := hp 8 (by decide) (by decide)
      have p9 := hp 9 (by decide) (by decide)
      have p10 := hp 10 (by decide) (by decide)
      have p11 := hp 11 (by decide) (by decide)
      have p12 := hp 12 (by decide) (by decide)
      have p13 := hp 13 (by decide) (by decide)
      have p14 := hp 14 (by decide) (by decide)
      have p15 := hp 15 (by decide) (by decide)
      have p29 := hp 29 (by decide) (by decide)
      have p30 := hp 30 (by decide) (by decide)
      have p31 := hp 31 (by decide) (by decide)
      have p7 : slot a 7 = V' := h7
      simp only [Array.getD_eq_getD_getElem?, List.getElem?_toArray, List.getElem?_cons_zero, List.getElem?_cons_succ, Option.getD_some] at p0 p1 p2 p3 p4 p5 p6 p8 p9 p10 p11 p12 p13 p14 p15 p29 p30 p31
      rw [frame_lit' a 32 hsz, hd]
      simp only [List.range, List.range.loop, List.map_cons, List.map_nil, p0, p1, p2, p3, p4, p5, p6, p7, p8, p9, p10, p11, p12, p13, p14, p15, p29, p30, p31]
      clear p0 p1 p2 p3 p4 p5 p6 p7 p8 p9 p10 p11 p12 p13 p14 p15 p29 p30 p31 hp hfix h7 hd hown hb4 hb5 hsz hbW
      generalize a = a'
      dsimp only [Exit.inBlock, Exit.then]
      go_wp2_with fail
      go_roundg (zs.length - (kk + 1))
      case measure => omega
      case rel => exact ⟨kk + 1, by omega, by omega, by go_num, HJ4⟩
    · have : kk = zs.length := by omega
      subst this
      obtain ⟨hn, A', c', hV, hat⟩ := own_ints HJ.out.own
      subst hV
      have hsu := sum_any A' c' ((atVals f r (zs.take zs.length)).map Nm.mk) wr hat (by simp [atVals]; omega) (fun x hx => by
        unfold Nm.ns atVals at hx
        simp only [List.map_map, List.mem_map] at hx
        obtain ⟨s, hs, rfl⟩ := hx
        have hsok := HOK.out s (List.mem_of_mem_take hs)
        have hfs := HF.out s hsok
        obtain ⟨q1, q2, q3, q4, q5, q6⟩ := hsok
        have hrs := HR.out s.band.toNat (by omega)
        exact mul_bound hrs.1 hrs.2 hfs.1 hfs.2)
      have hval : sumL (Nm.ns ((atVals f r (zs.take zs.length)).map Nm.mk)) = atV f r zs := by
        unfold Nm.ns atVals atV
        rw [List.take_length]
        simp only [List.map_map]
        rfl
      rw [hval, List.length_map, show (atVals f r (zs.take zs.length)).length = zs.length by simp [atVals]] at hsu
      rw [show (atVals f r (zs.take zs.length)).length = zs.length by simp [atVals]]
      clear hat hn hval
      go_wp2_with (go_at_call 100; refine hsu.mono ?_; clear hsu; rintro e w' ⟨rfl, rfl⟩)
      go_ret
      exact ⟨rfl, HJ.out.bel⟩
end Go.Proofs.Ytdagijgoegkphaa.Hand

namespace Go.Proofs.Ytdagijgoegkphaa.Hand
open Go.RowKit Go.Shelf
def stLo (r : Rt) (zs : List Sg) : Int := atV Sg.lo r zs
def stHi (r : Rt) (zs : List Sg) : Int := atV Sg.hi r zs
theorem low_at (A : Option Addr) (c : Nat) (zs : List Sg) (r : Rt) (w : World) (hz : Sg.At w A zs) (hlen : zs.length ≤ 8) (hok : ∀ s ∈ zs, s.ok) (hr : r.ok) :
    Calls Try.prog 84 #[.slice A zs.length c, r.enc, .agg #[.func (.func 85) #[] #[]]] w fun e w' => e = .returned (.int .i64 (stLo r zs)) ∧ Below w.heap.size w w' :=
  at_any 85 Sg.lo (fun s h => by obtain ⟨q1, q2, q3, q4, q5, q6⟩ := h; omega) (fun s W => low_any s.lo s.hi W) (enters_of Try.func85 (by kernel_rfl) rfl) A c zs r w hz hlen hok hr
theorem high_at (A : Option Addr) (c : Nat) (zs : List Sg) (r : Rt) (w : World) (hz : Sg.At w A zs) (hlen : zs.length ≤ 8) (hok : ∀ s ∈ zs, s.ok) (hr : r.ok) :
    Calls Try.prog 84 #[.slice A zs.length c, r.enc, .agg #[.func (.func 86) #[] #[]]] w fun e w' => e = .returned (.int .i64 (stHi r zs)) ∧ Below w.heap.size w w' :=
  at_any 86 Sg.hi (fun s h => by obtain ⟨q1, q2, q3, q4, q5, q6⟩ := h; omega) (fun s W => high_any s.lo s.hi W) (enters_of Try.func86 (by kernel_rfl) rfl) A c zs r w hz hlen hok hr
def StQ (B4 : Nat) (L H : Int) (w0 : World) (Q : Exit → Act → World → Prop) : Prop :=
  ∀ (a : Act) (W : World), a.defers = [] → a.tmps.getD 4 undef = .pointer (some ⟨B4, 0, none⟩) → Chg (fun k => k = B4) w0 W → Blk W B4 #[.int .i64 L, .int .i64 H] 47 → Q .normal a W
set_option maxHeartbeats 4000000 in
set_option maxRecDepth 10000 in
theorem stretch_region (A : Option Addr) (c : Nat) (zs : List Sg) (r : Rt) (B3 B4 : Nat) (L H : Int) (a0 : Act) (w0 : World) (Q : Exit → Act → World → Prop) (hsz : a0.tmps.size = 14) (hdf : a0.defers = [])
    (hl : ∀ W, Sg.At W A zs → Calls Try.prog 84 #[.slice A zs.length c, .agg r.cells, .agg #[.func (.func 85) #[] #[]]] W fun e w' => e = .returned (.int .i64 L) ∧ Below W.heap.size W w')
    (hh : ∀ W, Sg.At W A zs → Calls Try.prog 84 #[.slice A zs.length c, .agg r.cells, .agg #[.func (.func 86) #[] #[]]] W fun e w' => e = .returned (.int .i64 H) ∧ Below W.heap.size W w')
    (f0 : a0.tmps.getD 0 undef = .slice A zs.length c) (f3 : a0.tmps.getD 3 undef = .pointer (some ⟨B3, 0, none⟩)) (f4 : a0.tmps.getD 4 undef = .pointer (some ⟨B4, 0, none⟩))
    (hz : Sg.At w0 A zs) (h3 : Blk w0 B3 r.cells 101) (h4 : Blk w0 B4 #[.int .i64 0, .int .i64 0] 47) (hQ : StQ B4 L H w0 Q) :
    (Code.region 1 (opsOf Try.f61 1) true).wpIn Fence.wide 0 Try.prog Q a0 w0 := by
  have HZ := Aw.mk hz
  refine region_walk (rd := none) 9 (fun i => i + 5) (by kernel_rfl) (by kernel_rfl) (by rw [hsz]; kernel_rfl)
    (fun W => Blk W B3 r.cells 101 ∧ Blk W B4 #[.int .i64 0, .int .i64 0] 47 ∧ Below w0.heap.size w0 W)
    (fun i v W => match i with
      | 0 => v = .slice A zs.length c
      | 1 => v = .agg #[.int .i64 r.r0, .int .i64 r.r1, .int .i64 r.r2]
      | 2 => v = .agg #[.func (.func 85) #[] #[]]
      | 3 => v = .int .i64 L
      | 4 => v = .slice A zs.length c
      | 5 => v = .agg #[.int .i64 r.r0, .int .i64 r.r1, .int .i64 r.r2]
      | 6 => v = .agg #[.func (.func 86) #[] #[]]
      | 7 => v = .int .i64 H
      | _ => v = .agg #[.int .i64 L, .int .i64 H])
    (fun W W' hb h => ⟨h.1.below hb h.1.lt, h.2.1.below hb h.2.1.lt, h.2.2.trans (hb.mono h.2.2.size)⟩) ?hSp ⟨h3.drew, h4.drew, (Below.refl _ _).drew⟩ ?hop ?hlast
  case hSp =>
    intro i v W W' hi hb h
    match i, h with
    | 0, h | 1, h | 2, h | 3, h | 4, h | 5, h | 6, h | 7, h => exact h
    | _ + 8, h => exact h
  case hop =>
    intro i a W hiB hN' hfix hBW hdep
    have f0 : a.tmps.getD 0 undef = .slice A zs.length c := (hfix 0 (fun j _ => by omega)).trans f0
    have f3 : a.tmps.getD 3 undef = .pointer (some ⟨B3, 0, none⟩) := (hfix 3 (fun j _ => by omega)).trans f3
    have f4 : a.tmps.getD 4 undef = .pointer (some ⟨B4, 0, none⟩) := (hfix 4 (fun j _ => by omega)).trans f4
    have e0 : ∀ x, a.eval (.tmp x) = a.tmps.getD x undef := fun _ => rfl
    have g0 : W.cell? ⟨B3, 0, none⟩ = some (.int .i64 r.r0) := hBW.1.cell 0
    have g1 : W.cell? ⟨B3, 1, none⟩ = some (.int .i64 r.r1) := hBW.1.cell 1
    have g2 : W.cell? ⟨B3, 2, none⟩ = some (.int .i64 r.r2) := hBW.1.cell 2
    have hB0 := hBW.2.2
    unfold Rt.cells at *
    clear hQ hBW
    match i, hN', hiB, hdep with
    | 0, _, _, hdep =>
      refine OpOk.val (v := .slice A zs.length c) (w' := W) ?_ ⟨Below.refl _ _, rfl⟩
      show (execOp a.eval { dst := some 5, op := Op.move (.tmp 0), type := _, pos := _, after := _, guard := none }).run Try.prog W = _
      simp only [execOp, List.map_toArray, List.map_cons, List.map_nil, e0, f0]
      go_simp
    | 1, _, _, hdep =>
      refine OpOk.val (v := .agg #[.int .i64 r.r0, .int .i64 r.r1, .int .i64 r.r2]) (w' := W) ?_ ⟨Below.refl _ _, rfl⟩
      show (execOp a.eval { dst := some 6, op := Op.load 101 (.tmp 3), type := _, pos := _, after := _, guard := none }).run Try.prog W = _
      simp only [execOp, List.map_toArray, List.map_cons, List.map_nil, e0, f3]
      go_simp
    | 2, _, _, hdep =>
      refine OpOk.val (v := .agg #[.func (.func 85) #[] #[]]) (w' := W) ?_ ⟨Below.refl _ _, rfl⟩
      show (execOp a.eval { dst := some 7, op := Op.build 136 #[(0, (.func 85))], type := _, pos := _, after := _, guard := none }).run Try.prog W = _
      simp only [execOp, List.map_toArray, List.map_cons, List.map_nil, e0]
      go_simp
      all_goals (first | rfl | assumption | exact Go.IntWalk.i64_left _ | exact rfl)
    | 3, _, _, hdep =>
      have d5 : a.tmps.getD 5 undef = .slice A zs.length c := hdep 0 rfl
      have d6 : a.tmps.getD 6 undef = .agg #[.int .i64 r.r0, .int .i64 r.r1, .int .i64 r.r2] := hdep 1 rfl
      have d7 : a.tmps.getD 7 undef = .agg #[.func (.func 85) #[] #[]] := hdep 2 rfl
      refine OpOk.call (f := 84) (args := #[.slice A zs.length c, .agg #[.int .i64 r.r0, .int .i64 r.r1, .int .i64 r.r2], .agg #[.func (.func 85) #[] #[]]]) (w1 := W) ?_ ((hl W (HZ.out.below hB0)).mono ?_)
      · show (execOp a.eval { dst := some 8, op := Op.call { callee := .value (.func 84), args := #[(.tmp 5), (.tmp 6), (.tmp 7)], argTypes := #[50, 101, 136] }, type := _, pos := _, after := _, guard := none }).run Try.prog W = _
        have e84 : ∀ args w, (callFunc 84 args).run Try.prog w = .ok (.enter 84 args) w := enters_of Try.func84 (by kernel_rfl) rfl
        simp only [execOp, List.map_toArray, List.map_cons, List.map_nil, e0, d5, d6, d7]
        go_simp
      · rintro e w' ⟨rfl, hb⟩
        exact ⟨_, rfl, hb, rfl⟩
    | 4, _, _, hdep =>
      refine OpOk.val (v := .slice A zs.length c) (w' := W) ?_ ⟨Below.refl _ _, rfl⟩
      show (execOp a.eval { dst := some 9, op := Op.move (.tmp 0), type := _, pos := _, after := _, guard := none }).run Try.prog W = _
      simp only [execOp, List.map_toArray, List.map_cons, List.map_nil, e0, f0]
      go_simp
    | 5, _, _, hdep =>
      refine OpOk.val (v := .agg #[.int .i64 r.r0, .int .i64 r.r1, .int .i64 r.r2]) (w' := W) ?_ ⟨Below.refl _ _, rfl⟩
      show (execOp a.eval { dst := some 10, op := Op.load 101 (.tmp 3), type := _, pos := _, after := _, guard := none }).run Try.prog W = _
      simp only [execOp, List.map_toArray, List.map_cons, List.map_nil, e0, f3]
      go_simp
    | 6, _, _, hdep =>
      refine OpOk.val (v := .agg #[.func (.func 86) #[] #[]]) (w' := W) ?_ ⟨Below.refl _ _, rfl⟩
      show (execOp a.eval { dst := some 11, op := Op.build 136 #[(0, (.func 86))], type := _, pos := _, after := _, guard := none }).run Try.prog W = _
      simp only [execOp, List.map_toArray, List.map_cons, List.map_nil, e0]
      go_simp
      all_goals (first | rfl | assumption | exact Go.IntWalk.i64_left _ | exact rfl)
    | 7, _, _, hdep =>
      have d9 : a.tmps.getD 9 undef = .slice A zs.length c := hdep 4 rfl
      have d10 : a.tmps.getD 10 undef = .agg #[.int .i64 r.r0, .int .i64 r.r1, .int .i64 r.r2] := hdep 5 rfl
      have d11 : a.tmps.getD 11 undef = .agg #[.func (.func 86) #[] #[]] := hdep 6 rfl
      refine OpOk.call (f := 84) (args := #[.slice A zs.length c, .agg #[.int .i64 r.r0, .int .i64 r.r1, .int .i64 r.r2], .agg #[.func (.func 86) #[] #[]]]) (w1 := W) ?_ ((hh W (HZ.out.below hB0)).mono ?_)
      · show (execOp a.eval { dst := some 12, op := Op.call { callee := .value (.func 84), args := #[(.tmp 9), (.tmp 10), (.tmp 11)], argTypes := #[50, 101, 136] }, type := _, pos := _, after := _, guard := none }).run Try.prog W = _
        have e84 : ∀ args w, (callFunc 84 args).run Try.prog w = .ok (.enter 84 args) w := enters_of Try.func84 (by kernel_rfl) rfl
        simp only [execOp, List.map_toArray, List.map_cons, List.map_nil, e0, d9, d10, d11]
        go_simp
      · rintro e w' ⟨rfl, hb⟩
        exact ⟨_, rfl, hb, rfl⟩
    | 8, _, _, hdep =>
      have d8 : a.tmps.getD 8 undef = .int .i64 L := hdep 3 rfl
      have d12 : a.tmps.getD 12 undef = .int .i64 H := hdep 7 rfl
      refine OpOk.val (v := .agg #[.int .i64 L, .int .i64 H]) (w' := W) ?_ ⟨Below.refl _ _, rfl⟩
      show (execOp a.eval { dst := some 13, op := Op.build 47 #[(0, (.tmp 8)), (1, (.tmp 12))], type := _, pos := _, after := _, guard := none }).run Try.prog W = _
      simp only [execOp, List.map_toArray, List.map_cons, List.map_nil, e0, d8, d12]
      go_simp
      all_goals (first | rfl | assumption | exact Go.IntWalk.i64_left _ | exact rfl)
    | kk + 9, h, _, _ => exact absurd h (by omega)
  case hlast =>
    intro a W e1 e2 hfix hBW hall
    have f4 : a.tmps.getD 4 undef = .pointer (some ⟨B4, 0, none⟩) := (hfix 4 (fun j _ => by omega)).trans f4
    have d13 : a.tmps.getD 13 undef = .agg #[.int .i64 L, .int .i64 H] := hall 8 (by omega)
    have e0 : ∀ x, a.eval (.tmp x) = a.tmps.getD x undef := fun _ => rfl
    have g0 : W.cell? ⟨B4, 0, none⟩ = some (.int .i64 0) := hBW.2.1.cell 0
    have g1 : W.cell? ⟨B4, 1, none⟩ = some (.int .i64 0) := hBW.2.1.cell 1
    have z0 : W.frozen? ⟨B4, 0, none⟩ = false := hBW.2.1.frozen 0
    have z1 : W.frozen? ⟨B4, 1, none⟩ = false := hBW.2.1.frozen 1
    refine OpOk.skip (w' := ((W.setCell ⟨B4, 0, none⟩ (.int .i64 L)).setCell ⟨B4, 1, none⟩ (.int .i64 H))) ?_ ?_
    · show (execOp a.eval { dst := none, op := Op.store 47 (.tmp 4) (.tmp 13), type := _, pos := _, after := _, guard := none }).run Try.prog W = _
      simp only [execOp, e0, f4, d13]
      go_simp
    · exact hQ _ _ (e1.trans hdf) f4 (((Chg.below hBW.2.2 (fun k => k = B4)).setCell (.inl rfl) _).setCell (.inl rfl) _) ((hBW.2.1.set 0 _).set 1 _)
theorem results61 {tmps : Array Value} {W : World} {g : Nat} {x0 x1 : Value} (hp : tmps.getD 4 undef = .pointer (some ⟨g, 0, none⟩)) (h : Blk W g #[x0, x1] 47) :
    (results Try.f61 tmps).run Try.prog W = .ok (.agg #[x0, x1]) W := by
  have c0 : W.cell? ⟨g, 0, none⟩ = some x0 := h.cell 0
  have c1 : W.cell? ⟨g, 1, none⟩ = some x1 := h.cell 1
  have e : Try.f61.results = #[.cell 4 47] := rfl
  have hp' : tmps[4]?.getD undef = .pointer (some ⟨g, 0, none⟩) := by simpa using hp
  unfold results
  simp only [e]
  go_simp
set_option maxHeartbeats 2000000 in
theorem stretch_any (A : Option Addr) (c : Nat) (zs : List Sg) (r : Rt) (w : World) (hz : Sg.At w A zs) (hlen : zs.length ≤ 8) (hok : ∀ s ∈ zs, s.ok) (hr : r.ok) :
    Calls Try.prog 61 #[.slice A zs.length c, r.enc] w fun e w' => e = .returned (.agg #[.int .i64 (stLo r zs), .int .i64 (stHi r zs)]) ∧ Below w.heap.size w w' := by
  obtain ⟨w1, hw1⟩ : ∃ w1, w1 = (w.alloc (.cells r.cells 101)).alloc (.cells #[.int .i64 0, .int .i64 0] 47) := ⟨_, rfl⟩
  have hbel : Below w.heap.size w w1 := by rw [hw1]; exact ((Below.refl w.heap.size w).alloc (Nat.le_refl _) _).alloc (by simp) _
  have h3 : Blk w1 w.heap.size r.cells 101 := by rw [hw1]; exact (Blk.new w _ _).alloc _
  have h4 : Blk w1 (w.heap.size + 1) #[.int .i64 0, .int .i64 0] 47 := by
    have := Blk.new (w.alloc (.cells r.cells 101)) #[.int .i64 0, .int .i64 0] 47
    rw [hw1]; simpa using this
  have HB := Aw.mk hbel
  have H3 := Aw.mk h3
  have H4 := Aw.mk h4
  have HZ := Aw.mk (hz.below hbel)
  have HL := Aw.mk (fun W (h : Sg.At W A zs) => low_at A c zs r W h hlen hok hr)
  have HH := Aw.mk (fun W (h : Sg.At W A zs) => high_at A c zs r W h hlen hok hr)
  obtain ⟨L, hL⟩ : ∃ L, L = stLo r zs := ⟨_, rfl⟩
  obtain ⟨H, hH⟩ : ∃ H, H = stHi r zs := ⟨_, rfl⟩
  rw [← hL] at HL ⊢
  rw [← hH] at HH ⊢
  have HW := Aw.mk hw1
  clear hz hok hr hbel h3 h4 hw1 hL hH
  unfold Rt.enc Rt.cells
  go_enter Try.func61, Try.ntmps61
  go_upto_region 1 with (fail)
  refine wpIn_wide.1 (stretch_region A c zs r w.heap.size (w.heap.size + 1) L H _ _ _ rfl rfl HL.out HH.out rfl rfl rfl (by have := HZ.out; rw [HW.out] at this; exact this) (by have := H3.out; rw [HW.out] at this; exact this) (by have := H4.out; rw [HW.out] at this; exact this) ?_)
  intro a W hd h4 hc hb
  dsimp only [Exit.inBlock, Exit.then]
  have e : a = { tmps := a.tmps, defers := [] } := by rw [← hd]
  rw [e]
  clear e
  go_wp2_with fail
  refine bodyPost_ret (results61 h4 hb) rfl ⟨rfl, ?_⟩
  have h1 : Chg (fun k => k = w.heap.size + 1) w W := (Chg.below HB.out _).trans (by rw [HW.out]; exact hc.mono fun k _ e => .inl e)
  exact h1.toBelow (Nat.le_refl _) (fun k e => by omega)
def allowsB (r : Rt) (zs : List Sg) (lo hi : Int) : Bool := decide (stLo r zs ≤ hi) && decide (lo ≤ stHi r zs)
set_option maxHeartbeats 2000000 in
theorem allows_any (A : Option Addr) (c : Nat) (zs : List Sg) (lo hi : Int) (r : Rt) (w : World) (hz : Sg.At w A zs) (hlen : zs.length ≤ 8) (hok : ∀ s ∈ zs, s.ok) (hr : r.ok) :
    Calls Try.prog 63 #[.agg #[.slice A zs.length c, .int .i64 lo, .int .i64 hi], r.enc] w fun e w' => e = .returned (.bool (allowsB r zs lo hi)) ∧ Below w.heap.size w w' := by
  obtain ⟨w1, hw1⟩ : ∃ w1, w1 = (w.alloc (.cells #[.slice A zs.length c, .int .i64 lo, .int .i64 hi] 67)).alloc (.cells r.cells 101) := ⟨_, rfl⟩
  have hbel : Below w.heap.size w w1 := by rw [hw1]; exact ((Below.refl w.heap.size w).alloc (Nat.le_refl _) _).alloc (by simp) _
  have h2 : Blk w1 w.heap.size #[.slice A zs.length c, .int .i64 lo, .int .i64 hi] 67 := by rw [hw1]; exact (Blk.new w _ _).alloc _
  have hst := stretch_any A c zs r w1 (hz.below hbel) hlen hok hr
  have HE : Aw (allowsB r zs lo hi = (decide (stLo r zs ≤ hi) && decide (lo ≤ stHi r zs))) := ⟨rfl⟩
  obtain ⟨L, hL⟩ : ∃ L, L = stLo r zs := ⟨_, rfl⟩
  obtain ⟨H, hH⟩ : ∃ H, H = stHi r zs := ⟨_, rfl⟩
  rw [← hL, ← hH] at hst HE
  have HW := Aw.mk hw1
  have HB := Aw.mk hbel
  have H2 := Aw.mk h2
  rw [hw1] at hst
  unfold Rt.enc Rt.cells at *
  clear hz hok hr hbel h2 hw1 hL hH
  cases h1 : decide (L ≤ hi) with
  | false =>
    rw [h1] at HE
    go_enter Try.func63, Try.ntmps63
    go_wp2_with (go_at_call 61; refine hst.mono ?_; clear hst; rintro e w2 ⟨rfl, hb⟩; rw [← HW.out] at hb; have q := H2.out.below hb H2.out.lt; have c1 : w2.cell? ⟨w.heap.size, 1, none⟩ = some (.int .i64 lo) := q.cell 1; have c2 : w2.cell? ⟨w.heap.size, 2, none⟩ = some (.int .i64 hi) := q.cell 2; have l2 := q.lt; have HB2 := Aw.mk (HB.out.trans (hb.mono HB.out.size)); clear q hb)
    go_ret
    exact ⟨by rw [HE.out]; rfl, HB2.out.alloc HB2.out.size _⟩
  | true =>
    rw [h1] at HE
    go_enter Try.func63, Try.ntmps63
    go_wp2_with (go_at_call 61; refine hst.mono ?_; clear hst; rintro e w2 ⟨rfl, hb⟩; rw [← HW.out] at hb; have q := H2.out.below hb H2.out.lt; have c1 : w2.cell? ⟨w.heap.size, 1, none⟩ = some (.int .i64 lo) := q.cell 1; have c2 : w2.cell? ⟨w.heap.size, 2, none⟩ = some (.int .i64 hi) := q.cell 2; have l2 := q.lt; have HB2 := Aw.mk (HB.out.trans (hb.mono HB.out.size)); clear q hb)
    go_ret
    exact ⟨by rw [HE.out]; rfl, HB2.out.alloc HB2.out.size _⟩
end Go.Proofs.Ytdagijgoegkphaa.Hand

namespace Go.Proofs.Ytdagijgoegkphaa.Hand
open Go.RowKit Go.Shelf
theorem results54 {tmps : Array Value} {W : World} {g : Nat} {x0 x1 x2 y : Value} (hp : tmps.getD 4 undef = .pointer (some ⟨g, 0, none⟩)) (hy : tmps.getD 5 undef = y) (h : Blk W g #[x0, x1, x2] 101) :
    (results Try.f54 tmps).run Try.prog W = .ok (.tuple #[.agg #[x0, x1, x2], y]) W := by
  have c0 : W.cell? ⟨g, 0, none⟩ = some x0 := h.cell 0
  have c1 : W.cell? ⟨g, 1, none⟩ = some x1 := h.cell 1
  have c2 : W.cell? ⟨g, 2, none⟩ = some x2 := h.cell 2
  have e : Try.f54.results = #[.cell 4 101, .tmp 5] := rfl
  have hp' : tmps[4]?.getD undef = .pointer (some ⟨g, 0, none⟩) := by simpa using hp
  have hy' : tmps[5]?.getD undef = y := by simpa using hy
  unfold results
  simp only [e]
  go_simp
def okAt (ms : List Rg) (l : List Nm) (b : Nat) : Bool :=
  decide ((ms.getD b ⟨0, 0⟩).lo ≤ (l.getD b ⟨0⟩).n ∧ (l.getD b ⟨0⟩).n ≤ (ms.getD b ⟨0, 0⟩).hi) && !(decide (0 < b) && decide ((l.getD b ⟨0⟩).n < (l.getD (b - 1) ⟨0⟩).n))
def ownB (ms : List Rg) (l : List Nm) : Bool := decide (l.length = ms.length) && (List.range l.length).all (okAt ms l)
def rtOf (l : List Nm) : Rt := ⟨(l.getD 0 ⟨0⟩).n, (l.getD 1 ⟨0⟩).n, (l.getD 2 ⟨0⟩).n⟩
theorem rtOf_take (l : List Nm) (k : Nat) (h : k < l.length) (h3 : k < 3) : rtOf (l.take (k + 1)) = (rtOf (l.take k)).set k (l.getD k ⟨0⟩).n := by
  have e : ∀ i j, (l.take i).getD j ⟨0⟩ = if j < i then l.getD j ⟨0⟩ else ⟨0⟩ := fun i j => by
    simp only [List.getD_eq_getElem?_getD, List.getElem?_take]
    split <;> rfl
  unfold rtOf
  simp only [e]
  match k, h3 with
  | 0, _ => simp [Rt.set]
  | 1, _ => simp [Rt.set]
  | 2, _ => simp [Rt.set]
theorem Rg.At.drewN {w : World} {A : Option Addr} {l : List Rg} (h : Rg.At w A l) (n : Nat) : Rg.At (w.drewN n) A l := h
structure JOwn (A : Option Addr) (w : World) (l : List Nm) (ms : List Rg) (kk : Nat) (wr : World) : Prop where
  bel : Below w.heap.size w wr
  ok : (List.range kk).all (okAt ms l) = true
  h2 : ∃ c, Blk wr w.heap.size #[.slice A ms.length c] 39 ∧ Rg.At wr A ms
  h4 : Blk wr (w.heap.size + 1) (rtOf (l.take kk)).cells 101
theorem JOwn.drewN {A : Option Addr} {w : World} {l : List Nm} {ms : List Rg} {kk : Nat} {wr : World} (h : JOwn A w l ms kk wr) (n : Nat) : JOwn A w l ms kk (wr.drewN n) :=
  ⟨⟨h.bel.os, h.bel.tape, h.bel.output, h.bel.size, h.bel.block⟩, h.ok, let ⟨c, a, b⟩ := h.h2; ⟨c, a.drewN n, b.drewN n⟩, h.h4.drewN n⟩
def OwnPost (ms : List Rg) (l : List Nm) (w : World) (e : Ending) (w' : World) : Prop :=
  ∃ r : Rt, e = .returned (.tuple #[r.enc, .bool (ownB ms l)]) ∧ (ownB ms l = true → r = rtOf l) ∧ Below w.heap.size w w'
set_option maxHeartbeats 4000000 in
set_option maxRecDepth 10000 in
theorem own_any (A : Option Addr) (c : Nat) (ms : List Rg) (hms : ms.length ≤ 3) (A2 : Option Addr) (c2 : Nat) (l : List Nm) (hbig : l.length ≤ 9223372036854775807) (w : World) (hz : Rg.At w A ms) (hl : Nm.At w A2 l) :
    Calls Try.prog 54 #[.agg #[.slice A ms.length c], .slice A2 l.length c2] w (OwnPost ms l w) := by
  obtain ⟨w1, hw1⟩ : ∃ w1, w1 = (w.alloc (.cells #[.slice A ms.length c] 39)).alloc (.cells #[.int .i64 0, .int .i64 0, .int .i64 0] 101) := ⟨_, rfl⟩
  have hbel : Below w.heap.size w w1 := by rw [hw1]; exact ((Below.refl w.heap.size w).alloc (Nat.le_refl _) _).alloc (by simp) _
  have h2 : Blk w1 w.heap.size #[.slice A ms.length c] 39 := by rw [hw1]; exact (Blk.new w _ _).alloc _
  have h4 : Blk w1 (w.heap.size + 1) #[.int .i64 0, .int .i64 0, .int .i64 0] 101 := by
    have := Blk.new (w.alloc (.cells #[.slice A ms.length c] 39)) #[.int .i64 0, .int .i64 0, .int .i64 0] 101
    rw [hw1]; simpa using this
  have HB := Aw.mk hbel
  have H2 := Aw.mk h2
  have H4 := Aw.mk h4
  have HZ := Aw.mk (hz.below hbel)
  have HZ0 := Aw.mk hz
  have HL := Aw.mk hl
  have HW := Aw.mk hw1
  have c4 : w1.cell? ⟨w.heap.size + 1, 0, none⟩ = some (.int .i64 0) := h4.cell 0
  have c5 : w1.cell? ⟨w.heap.size + 1, 1, none⟩ = some (.int .i64 0) := h4.cell 1
  have c6 : w1.cell? ⟨w.heap.size + 1, 2, none⟩ = some (.int .i64 0) := h4.cell 2
  by_cases hlen : l.length = ms.length
  · have hle : ((l.length : Int) != (ms.length : Int)) = false := by simp; omega
    have HST := Aw.mk (show JOwn A w l ms 0 w1 from ⟨hbel, by simp, ⟨c, h2, hz.below hbel⟩, h4⟩)
    rw [hw1] at HST
    have HLEN := Aw.mk hlen
    clear hz hl hbel h2 h4 hw1 hlen c4 c5 c6
    go_enter Try.func54, Try.ntmps54
    go_wp2
    go_loopg [5, 6, 7, 17] l.length (fun gg s5 _ _ s17 wr => ∃ kk : Nat, kk ≤ l.length ∧ l.length - kk ≤ gg ∧ s17 = .int .i64 kk ∧ s5 = .bool false ∧ Aw (JOwn A w l ms kk wr))
    case atStart => exact ⟨0, Nat.zero_le _, by omega, rfl, rfl, HST⟩
    case round =>
      obtain ⟨kk, hkk, hgg, rfl, rfl, HJ⟩ := hrel
      by_cases hlt : kk < l.length
      · have hlm := HLEN.out
        obtain ⟨c1, hb2, hz1⟩ := HJ.out.h2
        obtain ⟨b, off, rfl, hbl, z0, z1⟩ := hz1 kk (by omega)
        have HB0 := Aw.mk (show b < w.heap.size by obtain ⟨b', off', e1, e2, _⟩ := HZ0.out kk (by omega); cases e1; exact e2)
        obtain ⟨bb, oo, rfl, hbl2, y0⟩ := (HL.out.below HJ.out.bel) kk hlt
        obtain ⟨x, hx⟩ : ∃ x, x = (l[kk]).n := ⟨_, rfl⟩
        obtain ⟨lo, hlo⟩ : ∃ lo, lo = (ms[kk]).lo := ⟨_, rfl⟩
        obtain ⟨hi, hhi⟩ : ∃ hi, hi = (ms[kk]).hi := ⟨_, rfl⟩
        rw [← hx] at y0
        rw [← hlo] at z0
        rw [← hhi] at z1
        have q2 : wr.cell? ⟨w.heap.size, 0, none⟩ = some (.slice (some ⟨b, off, none⟩) ms.length c1) := hb2.cell 0
        have l2 := hb2.lt
        have e4 : ∀ i, i < 3 → wr.cell? ⟨w.heap.size + 1, i, none⟩ = some (.int .i64 ((rtOf (l.take kk)).get i)) := fun i hi => (HJ.out.h4.cell i).trans (Rt.cells_get _ i hi)
        have hltz : (kk : Int) < (l.length : Int) := by omega
        have hltz2 : (kk : Int) < (ms.length : Int) := by omega
        have hk3 : kk < 3 := by omega
        have hokk : okAt ms l kk = (decide (lo ≤ x ∧ x ≤ hi) && !(decide (0 < kk) && decide (x < (l.getD (kk - 1) ⟨0⟩).n))) := by
          unfold okAt
          simp only [List.getD_eq_getElem?_getD, List.getElem?_eq_getElem hlt, List.getElem?_eq_getElem (show kk < ms.length by omega), Option.getD_some, ← hx, ← hlo, ← hhi]
        have hwi : ∀ W, Calls Try.prog 71 #[.int .i64 x, .int .i64 lo, .int .i64 hi] W fun e w' => e = .returned (.bool (decide (lo ≤ x ∧ x ≤ hi))) ∧ w' = W := fun W => (within_any x lo hi W).mono fun e w' h => ⟨h.1, h.2.symm⟩
        have HX0 := Aw.mk (show x = (l.getD kk ⟨0⟩).n by rw [hx]; simp [List.getD_eq_getElem?_getD, List.getElem?_eq_getElem hlt])
        have hbad : okAt ms l kk = false → ownB ms l = false := fun h => by
          unfold ownB
          rw [Bool.and_eq_false_iff]
          refine .inr ?_
          rw [List.all_eq_false]
          exact ⟨kk, by simpa using hlt, by simp [h]⟩
        clear hx hlo hhi hlm hz1 hb2
        cases hin : decide (lo ≤ x ∧ x ≤ hi) with
        | false =>
          rw [hin] at hokk hwi
          have HO := Aw.mk (hbad (by rw [hokk]; rfl))
          clear hokk hbad hin e4 HX0
          go_upto_region 6 with (fail)
          go_quiet ((go_at_call 71; exact Calls.quiet_of_same (hwi _)))
          obtain ⟨wq, hwq⟩ : ∃ wq, wq = wr.drewN nq := ⟨_, rfl⟩
          have hjq : JOwn (some ⟨b, off, none⟩) w l ms kk wq := by rw [hwq]; exact HJ.out.drewN nq
          rw [← hwq]
          have HJQ := Aw.mk hjq
          have e4 : ∀ i, i < 3 → wq.cell? ⟨w.heap.size + 1, i, none⟩ = some (.int .i64 ((rtOf (l.take kk)).get i)) := fun i hi => (hjq.h4.cell i).trans (Rt.cells_get _ i hi)
          have c4 := e4 0 (by decide)
          have c5 := e4 1 (by decide)
          have c6 := e4 2 (by decide)
          have z4 : ∀ i, wq.frozen? ⟨w.heap.size + 1, i, none⟩ = false := fun i => hjq.h4.frozen i
          have z40 := z4 0
          have z41 := z4 1
          have z42 := z4 2
          clear hwq hjq e4 z4 q2 z0 z1 y0
          dsimp only [Exit.inBlock, Exit.then]
          go_wp2_with fail
          have hb3 := ((HJQ.out.h4.set 0 (.int .i64 ((rtOf (l.take kk)).get 0))).set 1 (.int .i64 ((rtOf (l.take kk)).get 1))).set 2 (.int .i64 ((rtOf (l.take kk)).get 2))
          refine bodyPost_ret (results54 rfl rfl hb3) rfl ⟨rtOf (l.take kk), by rw [HO.out]; rfl, (fun h => by rw [HO.out] at h; cases h), ?_⟩
          exact ((HJQ.out.bel.setCell (p := ⟨w.heap.size + 1, 0, none⟩) (by simp) _).setCell (p := ⟨w.heap.size + 1, 1, none⟩) (by simp) _).setCell (p := ⟨w.heap.size + 1, 2, none⟩) (by simp) _
        | true =>
          rw [hin] at hokk hwi
          by_cases hk0 : 0 < kk
          · obtain ⟨b3, o3, hA3, hbl3, y1⟩ := (HL.out.below HJ.out.bel) (kk - 1) (by omega)
            obtain ⟨rfl, rfl⟩ : bb = b3 ∧ oo = o3 := by cases hA3; exact ⟨rfl, rfl⟩
            obtain ⟨pv, hpv⟩ : ∃ pv, pv = (l[kk - 1]).n := ⟨_, rfl⟩
            rw [← hpv] at y1
            have hpd : (l.getD (kk - 1) ⟨0⟩).n = pv := by rw [hpv]; simp [List.getD_eq_getElem?_getD, List.getElem?_eq_getElem (show kk - 1 < l.length by omega)]
            rw [hpd, decide_eq_true hk0] at hokk
            have d0 : decide (0 < (kk : Int)) = true := decide_eq_true (by omega)
            have wk : IntKind.i64.wrap ((kk : Int) - 1) = (kk : Int) - 1 := IntWalk.i64_in _ (by omega)
            have wk2 : ((kk : Int) - 1).toNat = kk - 1 := by omega
            have wk3 : 0 ≤ (kk : Int) - 1 := by omega
            have wk5 : (1 : Int) ≤ (kk : Int) := by omega
            have wk4 : (kk : Int) - 1 < (l.length : Int) := by omega
            clear hpv hpd hA3
            cases hlss : decide (x < pv) with
            | true =>
              rw [hlss] at hokk
              have HO := Aw.mk (hbad (by rw [hokk]; rfl))
              clear hokk hbad hin e4 HX0
              go_upto_region 6 with (fail)
              go_quiet ((go_at_call 71; exact Calls.quiet_of_same (hwi _)))
              obtain ⟨wq, hwq⟩ : ∃ wq, wq = wr.drewN nq := ⟨_, rfl⟩
              have hjq : JOwn (some ⟨b, off, none⟩) w l ms kk wq := by rw [hwq]; exact HJ.out.drewN nq
              rw [← hwq]
              have HJQ := Aw.mk hjq
              have e4 : ∀ i, i < 3 → wq.cell? ⟨w.heap.size + 1, i, none⟩ = some (.int .i64 ((rtOf (l.take kk)).get i)) := fun i hi => (hjq.h4.cell i).trans (Rt.cells_get _ i hi)
              have c4 := e4 0 (by decide)
              have c5 := e4 1 (by decide)
              have c6 := e4 2 (by decide)
              have z4 : ∀ i, wq.frozen? ⟨w.heap.size + 1, i, none⟩ = false := fun i => hjq.h4.frozen i
              have z40 := z4 0
              have z41 := z4 1
              have z42 := z4 2
              clear hwq hjq e4 z4 q2 z0 z1 y0
              dsimp only [Exit.inBlock, Exit.then]
              go_wp2_with fail
              have hb3 := ((HJQ.out.h4.set 0 (.int .i64 ((rtOf (l.take kk)).get 0))).set 1 (.int .i64 ((rtOf (l.take kk)).get 1))).set 2 (.int .i64 ((rtOf (l.take kk)).get 2))
              refine bodyPost_ret (results54 rfl rfl hb3) rfl ⟨rtOf (l.take kk), by rw [HO.out]; rfl, (fun h => by rw [HO.out] at h; cases h), ?_⟩
              exact ((HJQ.out.bel.setCell (p := ⟨w.heap.size + 1, 0, none⟩) (by simp) _).setCell (p := ⟨w.heap.size + 1, 1, none⟩) (by simp) _).setCell (p := ⟨w.heap.size + 1, 2, none⟩) (by simp) _
            | false =>
              rw [hlss] at hokk
              have HOK : Aw (okAt ms l kk = true) := ⟨by rw [hokk]; rfl⟩
              have HX := HX0
              clear hokk hbad hin e4 HX0
              go_upto_region 6 with (fail)
              go_quiet ((go_at_call 71; exact Calls.quiet_of_same (hwi _)))
              obtain ⟨wq, hwq⟩ : ∃ wq, wq = wr.drewN nq := ⟨_, rfl⟩
              have hjq : JOwn (some ⟨b, off, none⟩) w l ms kk wq := by rw [hwq]; exact HJ.out.drewN nq
              rw [← hwq]
              have HJQ := Aw.mk hjq
              have c4 : wq.cell? ⟨w.heap.size + 1, kk, none⟩ = some (.int .i64 ((rtOf (l.take kk)).get kk)) := (hjq.h4.cell kk).trans (Rt.cells_get _ kk hk3)
              have z4 : wq.frozen? ⟨w.heap.size + 1, kk, none⟩ = false := hjq.h4.frozen kk
              have hk3z : (kk : Int) < 3 := by omega
              have wq1 : IntKind.i64.wrap ((kk : Int) + 1) = (kk : Int) + 1 := IntWalk.i64_in _ (by omega)
              clear hwq hjq q2 z0 z1 y0
              dsimp only [Exit.inBlock, Exit.then]
              go_wp2_with fail
              have HJ5 : Aw (JOwn (some ⟨b, off, none⟩) w l ms (kk + 1) (wq.setCell ⟨w.heap.size + 1, kk, none⟩ (.int .i64 x))) := ⟨by
                obtain ⟨c', a1, a2⟩ := HJQ.out.h2
                have hk := ((Chg.refl (fun k => k = w.heap.size + 1) wq).setCell (p := ⟨w.heap.size + 1, kk, none⟩) (.inl rfl) (.int .i64 x))
                refine ⟨HJQ.out.bel.setCell (p := ⟨w.heap.size + 1, kk, none⟩) (by simp) _, ?_, ⟨c', a1.chg hk (by omega), ?_⟩, ?_⟩
                · rw [List.range_succ, List.all_append, HJQ.out.ok]; simp [HOK.out]
                · exact a2.chg hk (fun a ha hlt' => by cases ha; have := HB0.out; simp only; omega)
                · rw [rtOf_take l kk hlt hk3, ← HX.out, ← Rt.cells_set _ kk hk3]
                  exact HJQ.out.h4.set kk _⟩
              go_roundg (l.length - (kk + 1))
              case measure => omega
              case rel => exact ⟨kk + 1, by omega, by omega, by go_num, rfl, HJ5⟩
          · have d0 : decide (0 < (kk : Int)) = false := decide_eq_false (by omega)
            rw [decide_eq_false hk0] at hokk
            have HOK : Aw (okAt ms l kk = true) := ⟨by rw [hokk]; rfl⟩
            have HX := HX0
            clear hokk hbad hin e4 HX0
            go_upto_region 6 with (fail)
            go_quiet ((go_at_call 71; exact Calls.quiet_of_same (hwi _)))
            obtain ⟨wq, hwq⟩ : ∃ wq, wq = wr.drewN nq := ⟨_, rfl⟩
            have hjq : JOwn (some ⟨b, off, none⟩) w l ms kk wq := by rw [hwq]; exact HJ.out.drewN nq
            rw [← hwq]
            have HJQ := Aw.mk hjq
            have c4 : wq.cell? ⟨w.heap.size + 1, kk, none⟩ = some (.int .i64 ((rtOf (l.take kk)).get kk)) := (hjq.h4.cell kk).trans (Rt.cells_get _ kk hk3)
            have z4 : wq.frozen? ⟨w.heap.size + 1, kk, none⟩ = false := hjq.h4.frozen kk
            have hk3z : (kk : Int) < 3 := by omega
            have wq1 : IntKind.i64.wrap ((kk : Int) + 1) = (kk : Int) + 1 := IntWalk.i64_in _ (by omega)
            clear hwq hjq q2 z0 z1 y0
            dsimp only [Exit.inBlock, Exit.then]
            go_wp2_with fail
            have HJ5 : Aw (JOwn (some ⟨b, off, none⟩) w l ms (kk + 1) (wq.setCell ⟨w.heap.size + 1, kk, none⟩ (.int .i64 x))) := ⟨by
              obtain ⟨c', a1, a2⟩ := HJQ.out.h2
              have hk := ((Chg.refl (fun k => k = w.heap.size + 1) wq).setCell (p := ⟨w.heap.size + 1, kk, none⟩) (.inl rfl) (.int .i64 x))
              refine ⟨HJQ.out.bel.setCell (p := ⟨w.heap.size + 1, kk, none⟩) (by simp) _, ?_, ⟨c', a1.chg hk (by omega), ?_⟩, ?_⟩
              · rw [List.range_succ, List.all_append, HJQ.out.ok]; simp [HOK.out]
              · exact a2.chg hk (fun a ha hlt' => by cases ha; have := HB0.out; simp only; omega)
              · rw [rtOf_take l kk hlt hk3, ← HX.out, ← Rt.cells_set _ kk hk3]
                exact HJQ.out.h4.set kk _⟩
            go_roundg (l.length - (kk + 1))
            case measure => omega
            case rel => exact ⟨kk + 1, by omega, by omega, by go_num, rfl, HJ5⟩
      · have hkl : kk = l.length := by omega
        subst hkl
        have hj := HJ.out
        have HO := Aw.mk (show ownB ms l = true by unfold ownB; rw [hj.ok, decide_eq_true HLEN.out]; rfl)
        have hb4 := hj.h4
        rw [List.take_length] at hb4
        have H4' := Aw.mk hb4
        have e4 : ∀ i, i < 3 → wr.cell? ⟨w.heap.size + 1, i, none⟩ = some (.int .i64 ((rtOf l).get i)) := fun i hi => (hb4.cell i).trans (Rt.cells_get _ i hi)
        have c4 := e4 0 (by decide)
        have c5 := e4 1 (by decide)
        have c6 := e4 2 (by decide)
        have z4 : ∀ i, wr.frozen? ⟨w.heap.size + 1, i, none⟩ = false := fun i => hb4.frozen i
        have z40 := z4 0
        have z41 := z4 1
        have z42 := z4 2
        clear e4 z4 hj hb4
        go_wp2_with fail
        have hb3 := ((H4'.out.set 0 (.int .i64 ((rtOf l).get 0))).set 1 (.int .i64 ((rtOf l).get 1))).set 2 (.int .i64 ((rtOf l).get 2))
        refine bodyPost_ret (results54 rfl rfl hb3) rfl ⟨rtOf l, by rw [HO.out]; rfl, fun _ => rfl, ?_⟩
        exact ((HJ.out.bel.setCell (p := ⟨w.heap.size + 1, 0, none⟩) (by simp) _).setCell (p := ⟨w.heap.size + 1, 1, none⟩) (by simp) _).setCell (p := ⟨w.heap.size + 1, 2, none⟩) (by simp) _
  · have hle : ((l.length : Int) != (ms.length : Int)) = true := by simp; omega
    have HO := Aw.mk (show ownB ms l = false by unfold ownB; simp [hlen])
    have z40 : w1.frozen? ⟨w.heap.size + 1, 0, none⟩ = false := h4.frozen 0
    have z41 : w1.frozen? ⟨w.heap.size + 1, 1, none⟩ = false := h4.frozen 1
    have z42 : w1.frozen? ⟨w.heap.size + 1, 2, none⟩ = false := h4.frozen 2
    clear hz hl hbel h2 h4 hlen hw1 c4 c5 c6 z40 z41 z42
    go_enter Try.func54, Try.ntmps54
    go_wp2
    rw [← HW.out]
    refine bodyPost_ret (results54 rfl rfl H4.out) rfl ⟨⟨0, 0, 0⟩, by rw [HO.out]; rfl, (fun h => by rw [HO.out] at h; cases h), HB.out⟩
end Go.Proofs.Ytdagijgoegkphaa.Hand

namespace Go.Proofs.Ytdagijgoegkphaa.Hand
open Go.RowKit Go.Shelf
structure RunsAt (w : World) (A : Option Addr) (rs : List Rn) : Prop where
  at_ : Rn.At w A rs
  segs : ∀ x ∈ rs, Sg.At w x.sA x.zs ∧ x.zs.length ≤ 9223372036854775807
theorem RunsAt.below {w W : World} {A : Option Addr} {rs : List Rn} (h : RunsAt w A rs) (hb : Below w.heap.size w W) : RunsAt W A rs :=
  ⟨h.at_.below hb, fun x hx => ⟨(h.segs x hx).1.below hb, (h.segs x hx).2⟩⟩
def fewB (x : Rn) : Bool := decide (x.zs.length ≤ 8)
def runOk (n : Nat) (x : Rn) : Bool := runB n x.zs x.lo x.hi
def enterErr (ms : List Rg) (rs : List Rn) : Int :=
  if matErr ms = 0 then (if rs.length ≤ 6 ∧ rs.all fewB = true then (if rs.all (runOk ms.length) = true then 0 else 1) else 3) else matErr ms
def keyR (r : Rt) : Value := r.enc
theorem check3 (e : Bool) (n : Nat) (a : Int) (W : World) : (Instr.checkKey e (n + 1) 3 (.int .i64 a)).run Try.prog W = .ok () W := by
  unfold Instr.checkKey
  go_simp
theorem sz3 (W : World) : (sizeOf 3).run Try.prog W = .ok 1 W := by
  obtain ⟨i, hi, hz⟩ := Option.map_eq_some_iff.1 (show (Try.prog.info? 3).map (·.size) = some 1 by kernel_rfl)
  simp [sizeOf, typeInfo, Sem.run_bind, Sem.run, hi, hz, Result.andThen, program]
theorem part3 (cs : Array Value) (i : Nat) (v : Value) (h : cs[i]? = some v) (W : World) : (part 3 cs i).run Try.prog W = .ok v W := by
  unfold part
  go_simp
theorem eqIn3 (n : Nat) (a b : Int) (W : World) : (Op.equalIn (n + 1) 3 (.int .i64 a) (.int .i64 b)).run Try.prog W = .ok (a == b) W := by
  unfold Op.equalIn
  go_simp
theorem eq101 (a b c x y z : Int) (W : World) : (Op.equal 101 (.agg #[.int .i64 a, .int .i64 b, .int .i64 c]) (.agg #[.int .i64 x, .int .i64 y, .int .i64 z])).run Try.prog W = .ok (a == x && (b == y && c == z)) W := by
  have he : ∀ (a b : Int) (W : World), (Op.equalIn 9999 3 (.int .i64 a) (.int .i64 b)).run Try.prog W = .ok (a == b) W := eqIn3 9998
  have p0 := fun (a b c : Int) => part3 #[.int .i64 a, .int .i64 b, .int .i64 c] 0 (.int .i64 a) rfl
  have p1 := fun (a b c : Int) => part3 #[.int .i64 a, .int .i64 b, .int .i64 c] 1 (.int .i64 b) rfl
  have p2 := fun (a b c : Int) => part3 #[.int .i64 a, .int .i64 b, .int .i64 c] 2 (.int .i64 c) rfl
  unfold Op.equal Op.maxDepth Op.equalIn
  rw [Sem.run_bind, run_underlying Try.underlying101 W]
  simp only [Result.andThen_ok, Sem.run_bind, sz3, Std.Legacy.Range.forIn_eq_forIn_range', Std.Legacy.Range.size, Nat.sub_zero, Nat.add_sub_cancel, Nat.div_one, show List.range' 0 3 1 = [0, 1, 2] from rfl, List.forIn_cons, List.forIn_nil, Nat.mul_one, Nat.zero_mul, p0, p1, p2, he]
  by_cases h1 : a = x
  · by_cases h2 : b = y
    · by_cases h3 : c = z <;> simp [h1, h2, h3, Sem.run_bind, Result.andThen, he, p0, p1, p2]
    · simp [h1, h2, Sem.run_bind, Result.andThen, he, p0, p1, p2]
  · simp [h1, Sem.run_bind, Result.andThen, he, p0, p1, p2]
theorem check101 (e : Bool) (a b c : Int) (W : World) : (Instr.checkKey e 10000 101 (.agg #[.int .i64 a, .int .i64 b, .int .i64 c])).run Try.prog W = .ok () W := by
  have h : ∀ (a : Int) (W : World), (Instr.checkKey e 9999 3 (.int .i64 a)).run Try.prog W = .ok () W := check3 e 9998
  have p0 := fun (a b c : Int) => part3 #[.int .i64 a, .int .i64 b, .int .i64 c] 0 (.int .i64 a) rfl
  have p1 := fun (a b c : Int) => part3 #[.int .i64 a, .int .i64 b, .int .i64 c] 1 (.int .i64 b) rfl
  have p2 := fun (a b c : Int) => part3 #[.int .i64 a, .int .i64 b, .int .i64 c] 2 (.int .i64 c) rfl
  unfold Instr.checkKey
  rw [Sem.run_bind, run_underlying Try.underlying101 W]
  simp only [Result.andThen_ok, Sem.run_bind, sz3, Std.Legacy.Range.forIn_eq_forIn_range', Std.Legacy.Range.size, Nat.sub_zero, Nat.add_sub_cancel, Nat.div_one, show List.range' 0 3 1 = [0, 1, 2] from rfl, List.forIn_cons, List.forIn_nil, Nat.mul_one, Nat.zero_mul, p0, p1, p2, h]
  simp [Sem.run_bind, Result.andThen, h, sz3, p0, p1, p2]
end Go.Proofs.Ytdagijgoegkphaa.Hand

namespace Go.Proofs.Ytdagijgoegkphaa.Hand
open Go.RowKit Go.Shelf
theorem eqKey (r s : Rt) (W : World) : (Op.equal 101 r.enc s.enc).run Try.prog W = .ok (decide (r = s)) W := by
  obtain ⟨a, b, c⟩ := r
  obtain ⟨x, y, z⟩ := s
  unfold Rt.enc Rt.cells
  rw [eq101]
  congr 1
  rw [Bool.eq_iff_iff]
  simp
def Ents (G : Rt → Bool) (es : List MapEntry) : Prop := ∀ e ∈ es, ∃ r : Rt, e.key = r.enc ∧ e.val = .bool (G r)
theorem find_any (G : Rt → Bool) (r : Rt) : ∀ (es : List MapEntry) (j : Nat), Ents G es →
    ∃ q, (∀ W, (Instr.findAsking 101 r.enc es j).run Try.prog W = .ok q W) ∧ (q = none ∨ ∃ i, q = some (i, .bool (G r)) ∧ j ≤ i ∧ ∃ e, es[i - j]? = some e ∧ e.key = r.enc)
  | [], j, _ => ⟨none, fun _ => rfl, .inl rfl⟩
  | e :: es, j, h => by
    obtain ⟨s, hk, hv⟩ := h e (by simp)
    unfold Instr.findAsking
    simp only [Sem.run_bind, hk, eqKey, Result.andThen_ok]
    by_cases hq : r = s
    · subst hq
      refine ⟨some (j, e.val), fun W => by simp, .inr ⟨j, by rw [hv], Nat.le_refl _, e, by simp, hk⟩⟩
    · obtain ⟨q, hr, hc⟩ := find_any G r es (j + 1) (fun e' he' => h e' (by simp [he']))
      refine ⟨q, fun W => by simpa [hq] using hr W, hc.imp (fun h => h) ?_⟩
      rintro ⟨i, h1, h2, e', h3, h4⟩
      exact ⟨i, h1, by omega, e', by rw [show i - j = (i - (j + 1)) + 1 by omega]; simpa using h3, h4⟩
theorem findKey_any (G : Rt → Bool) (r : Rt) (es : List MapEntry) (h : Ents G es) :
    ∃ q, (∀ W, (Instr.findKey 101 r.enc es).run Try.prog W = .ok q W) ∧ (q = none ∨ ∃ i, q = some (i, .bool (G r)) ∧ ∃ e, es[i]? = some e ∧ e.key = r.enc) := by
  cases es with
  | nil =>
    refine ⟨none, fun W => ?_, .inl rfl⟩
    unfold Instr.findKey
    rw [Sem.run_bind, run_underlying Try.underlying101 W]
    rfl
  | cons e es =>
    obtain ⟨q, hr, hc⟩ := find_any G r (e :: es) 0 h
    refine ⟨q, fun W => ?_, hc.imp (fun h => h) fun ⟨i, h1, _, h2⟩ => ⟨i, h1, by simpa using h2⟩⟩
    unfold Instr.findKey
    rw [Sem.run_bind, run_underlying Try.underlying101 W]
    have hn : ∀ n t, Instr.findNow (.array n t) r.enc (e :: es) 0 = none := fun n t => by unfold Instr.findNow Instr.sameNow; rfl
    simp only [Result.andThen_ok, hn]
    exact hr W
theorem lookup_any (G : Rt → Bool) (r : Rt) (m : Nat) (es : Array MapEntry) (h : Ents G es.toList) :
    ∃ (v ok : Bool), (∀ (W : World) (clock : Nat), W.heap[m]? = some (.map es clock) → (Instr.lookup 113 (.map (some m)) r.enc true).run Try.prog W = .ok (.tuple #[.bool v, .bool ok]) W) ∧
      ((ok = true ∧ v = G r) ∨ (ok = false ∧ v = false)) := by
  obtain ⟨q, hr, hc⟩ := findKey_any G r es.toList h
  have hz : ∀ W, (zeroValue 4).run Try.prog W = .ok (.bool false) W := fun W => Try.zeroValue4 W
  have hk : ∀ e W, (Instr.checkKey e 10000 101 r.enc).run Try.prog W = .ok () W := fun e W => check101 e _ _ _ W
  have hu := fun W => run_underlying Try.underlying113 W
  have hg : ∀ (W : World) (clock : Nat), W.heap[m]? = some (.map es clock) → (getObj m).run Try.prog W = .ok (.map es clock) W := fun W clock h => by simp [getObj, Sem.run, h]
  rcases hc with rfl | ⟨i, rfl, _⟩
  · refine ⟨false, false, fun W clock hW => ?_, .inr ⟨rfl, rfl⟩⟩
    unfold Instr.lookup
    simp [Sem.run_bind, hu, hg W clock hW, hk, hr, hz, Result.andThen]
  · refine ⟨G r, true, fun W clock hW => ?_, .inl ⟨rfl, rfl⟩⟩
    unfold Instr.lookup
    simp [Sem.run_bind, hu, hg W clock hW, hk, hr, Result.andThen]
theorem update_any (G : Rt → Bool) (r : Rt) (m : Nat) (es : Array MapEntry) (clock : Nat) (h : Ents G es.toList) :
    ∃ (es' : Array MapEntry) (clock' : Nat), (∀ (W : World), W.heap[m]? = some (.map es clock) → (Instr.mapUpdate 113 (.map (some m)) r.enc (.bool (G r))).run Try.prog W = .ok () (W.putObj m (.map es' clock'))) ∧ Ents G es'.toList := by
  obtain ⟨q, hr, hc⟩ := findKey_any G r es.toList h
  have hk : ∀ e W, (Instr.checkKey e 10000 101 r.enc).run Try.prog W = .ok () W := fun e W => check101 e _ _ _ W
  have hu := fun W => run_underlying Try.underlying113 W
  have hg : ∀ (W : World), W.heap[m]? = some (.map es clock) → (getObj m).run Try.prog W = .ok (.map es clock) W := fun W h => by simp [getObj, Sem.run, h]
  have hs : ∀ (W : World) (o : Obj), W.heap[m]? = some (.map es clock) → (setObj m o).run Try.prog W = .ok () (W.putObj m o) := fun W o h => by simp [setObj, Sem.run, h, World.putObj]
  rcases hc with rfl | ⟨i, rfl, e, he, hek⟩
  · refine ⟨es.push { key := r.enc, val := .bool (G r), born := clock }, clock + 1, fun W hW => ?_, ?_⟩
    · unfold Instr.mapUpdate
      simp [Sem.run_bind, hu, hg W hW, hk, hr, hs W _ hW, Result.andThen]
    · intro e he
      simp at he
      rcases he with he | rfl
      · exact h e (by simpa using he)
      · exact ⟨r, rfl, rfl⟩
  · have hsb : Instr.sameBits 10000 r.enc r.enc = true := by unfold Rt.enc Rt.cells; simp [Instr.sameBits]
    have hkt : ∀ W, (Instr.keyThatStays (((es[i]?).map (·.key)).getD r.enc) r.enc).run Try.prog W = .ok r.enc W := fun W => by
      have : ((es[i]?).map (·.key)).getD r.enc = r.enc := by
        rw [show es[i]? = some e by simpa using he]
        simpa using hek
      rw [this]
      unfold Instr.keyThatStays
      rw [hsb]
      rfl
    refine ⟨es.modify i fun e => { e with key := r.enc, val := .bool (G r) }, clock, fun W hW => ?_, ?_⟩
    · unfold Instr.mapUpdate
      simp [Sem.run_bind, hu, hg W hW, hk, hr, hkt, hs W _ hW, Result.andThen]
    · intro e' he'
      obtain ⟨n, hn, rfl⟩ := List.getElem_of_mem he'
      simp at hn
      simp only [Array.getElem_toList, Array.getElem_modify]
      split
      · exact ⟨r, rfl, rfl⟩
      · exact h _ (by simp)
def allowedB (rs : List Rn) (r : Rt) : Bool := rs.all fun x => allowsB r x.zs x.lo x.hi
def Known (rs : List Rn) (m : Nat) (W : World) : Prop := ∃ es clock, W.heap[m]? = some (.map es clock) ∧ Ents (allowedB rs) es.toList
structure Room (A : Option Addr) (c : Nat) (ms : List Rg) (AR : Option Addr) (cR : Nat) (rs : List Rn) (x m : Nat) (W : World) : Prop where
  blk : Blk W x #[.slice A ms.length c, .slice AR rs.length cR, .map (some m)] 115
  hz : Rg.At W A ms
  hr : RunsAt W AR rs
theorem not_map {W : World} {m b : Nat} {es : Array MapEntry} {clock : Nat} {cs : Array Value} {t : Nat} (hm : W.heap[m]? = some (.map es clock)) (hb : Blk W b cs t) : b ≠ m := by
  rintro rfl
  rw [show W.heap[b]? = _ from hb] at hm
  cases hm
theorem cell_not_map {W : World} {m : Nat} {es : Array MapEntry} {clock : Nat} {a : Addr} {v : Value} (hm : W.heap[m]? = some (.map es clock)) (hc : W.cell? a = some v) : a.block ≠ m := by
  rintro rfl
  unfold World.cell? at hc
  rw [hm] at hc
  cases hc
theorem Known.below {rs : List Rn} {m : Nat} {W W' : World} (h : Known rs m W) (hb : Below W.heap.size W W') : Known rs m W' := by
  obtain ⟨es, clock, h1, h2⟩ := h
  exact ⟨es, clock, (hb.block m (Array.getElem?_eq_some_iff.1 h1).1).trans h1, h2⟩
theorem Known.chg {rs : List Rn} {m : Nat} {W W' : World} {X : Nat → Prop} (h : Known rs m W) (hc : Chg X W W') (hx : ¬ X m) : Known rs m W' := by
  obtain ⟨es, clock, h1, h2⟩ := h
  exact ⟨es, clock, (hc.block m (Array.getElem?_eq_some_iff.1 h1).1 hx).trans h1, h2⟩
theorem Known.lt {rs : List Rn} {m : Nat} {W : World} (h : Known rs m W) : m < W.heap.size := by
  obtain ⟨es, clock, h1, _⟩ := h
  exact (Array.getElem?_eq_some_iff.1 h1).1
def Stays (W W' : World) : Prop := ∀ (b o : Nat) (v : Value), W.cell? ⟨b, o, none⟩ = some v → b < W.heap.size → W'.cell? ⟨b, o, none⟩ = some v ∧ b < W'.heap.size
theorem Rg.At.stays {W W' : World} {A : Option Addr} {l : List Rg} (h : Rg.At W A l) (hs : Stays W W') : Rg.At W' A l := fun i hi => by
  obtain ⟨b, off, hA, hlt, h0, h1⟩ := h i hi
  exact ⟨b, off, hA, (hs _ _ _ h0 hlt).2, (hs _ _ _ h0 hlt).1, (hs _ _ _ h1 hlt).1⟩
theorem Sg.At.stays {W W' : World} {A : Option Addr} {l : List Sg} (h : Sg.At W A l) (hs : Stays W W') : Sg.At W' A l := fun i hi => by
  obtain ⟨b, off, hA, hlt, h0, h1, h2⟩ := h i hi
  exact ⟨b, off, hA, (hs _ _ _ h0 hlt).2, (hs _ _ _ h0 hlt).1, (hs _ _ _ h1 hlt).1, (hs _ _ _ h2 hlt).1⟩
theorem Rn.At.stays {W W' : World} {A : Option Addr} {l : List Rn} (h : Rn.At W A l) (hs : Stays W W') : Rn.At W' A l := fun i hi => by
  obtain ⟨b, off, hA, hlt, h0, h1, h2⟩ := h i hi
  exact ⟨b, off, hA, (hs _ _ _ h0 hlt).2, (hs _ _ _ h0 hlt).1, (hs _ _ _ h1 hlt).1, (hs _ _ _ h2 hlt).1⟩
theorem RunsAt.stays {W W' : World} {A : Option Addr} {rs : List Rn} (h : RunsAt W A rs) (hs : Stays W W') : RunsAt W' A rs := ⟨h.at_.stays hs, fun x hx => ⟨(h.segs x hx).1.stays hs, (h.segs x hx).2⟩⟩
theorem stays_map {X : Nat → Prop} {W W' : World} (hc : Chg X W W') (hX : ∀ k, X k → (∃ es clock, W.heap[k]? = some (.map es clock)) ∨ W.heap.size ≤ k) : Stays W W' := fun b o v h hlt => by
  have hn : ¬ X b := fun hx => by
    rcases hX b hx with ⟨es, clock, hm⟩ | hl
    · exact cell_not_map hm h rfl
    · omega
  exact ⟨(World.cell?_of_block (w := W) (hc.block b hlt hn)).trans h, Nat.lt_of_lt_of_le hlt hc.size⟩
theorem Room.chg {A : Option Addr} {c : Nat} {ms : List Rg} {AR : Option Addr} {cR : Nat} {rs : List Rn} {x m : Nat} {W W' : World} {X : Nat → Prop} (h : Room A c ms AR cR rs x m W) (hc : Chg X W W') (hX : ∀ k, X k → (∃ es clock, W.heap[k]? = some (.map es clock)) ∨ W.heap.size ≤ k) : Room A c ms AR cR rs x m W' :=
  ⟨h.blk.chg hc (fun hx => by
    rcases hX x hx with ⟨es, clock, hm⟩ | hl
    · exact not_map hm h.blk rfl
    · exact absurd h.blk.lt (by omega)), h.hz.stays (stays_map hc hX), h.hr.stays (stays_map hc hX)⟩
theorem Room.below {A : Option Addr} {c : Nat} {ms : List Rg} {AR : Option Addr} {cR : Nat} {rs : List Rn} {x m : Nat} {W W' : World} (h : Room A c ms AR cR rs x m W) (hb : Below W.heap.size W W') : Room A c ms AR cR rs x m W' :=
  h.chg (Chg.below hb (fun _ => False)) (fun _ h => h.elim)
end Go.Proofs.Ytdagijgoegkphaa.Hand
