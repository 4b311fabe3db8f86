/- The program's own functions that the statements of this seat reach, and what each call of them comes to, for any arguments. -/
import Derived.Test.YtdagijgoegkphaaProg
import Derived.Below
import Derived.Deep.Draws
import Derived.Deep.AppendLies
import Derived.Maps.AppendAt
import Derived.OwnWalk
import Derived.Laws.BytesArg
import Derived.Laws.MakeOwn
import Derived.Laws.OwnMore
import Derived.Deep.OwnRows
import Derived.Tactics
import Derived.Lib.ConvBytes
import Derived.Laws.Slices
import Derived.WalkKit
import Derived.KernelRfl
import Derived.RowKit3
import Derived.Deep.LoopGhost
import Derived.Deep.QuietTactic
import Derived.BigQuiet
import Derived.WideLaws
import Derived.Deep.DeepCutAuto
import Derived.Deep.CutBlock
import Derived.Deep.RegionHeld3
import Derived.Laws.Rows
import Derived.Lib.AppendStr
import Derived.ArgAppend
import Derived.Laws.IdiomCopy
import Derived.OrdersHeld
import Derived.Laws.BitsLemmas
import Derived.RowKit
import Derived.Test.YtdagijgoegkphaaWd
import Derived.Test.YtdagijgoegkphaaC1
import Derived.Deep.Slices
import Derived.OpenShut
set_option linter.unusedVariables false
set_option linter.unusedSimpArgs false
namespace Go.Proofs.Ytdagijgoegkphaa.P
open Go.RowKit Go.Proofs.YtdagijgoegkphaaW.PrintWords Go.Proofs.YtdagijgoegkphaaW.PrintLast Go.Proofs.YtdagijgoegkphaaW.PrintMore
attribute [local go_sem] max2_int min2_int max_two min_two max_three min_three max_four min_four   -- for this text's walks alone
def errW : Option Int → Value
  | none => .nilIface
  | some c => .iface 0 (.int .i64 c)
theorem errW_none : errW none = .nilIface := rfl
theorem errW_some (c : Int) : errW (some c) = .iface 0 (.int .i64 c) := rfl
theorem info3 : (Try.prog.info? 3).map (fun i => (i.zero, i.size, i.bytes)) = some (some (.int .i64 0), 1, 8) := by kernel_rfl
theorem info31 : (Try.prog.info? 31).map (fun i => (i.zero, i.size, i.bytes)) = some (some (.slice none 0 0), 1, 24) := by kernel_rfl
theorem info47 : (Try.prog.info? 47).map (fun i => (i.zero, i.size, i.bytes)) = some (some (.agg #[(.int .i64 0), (.int .i64 0)]), 2, 16) := by kernel_rfl
theorem info65 : (Try.prog.info? 65).map (fun i => (i.zero, i.size, i.bytes)) = some (some (.agg #[(.int .i64 0), (.int .i64 0), (.int .i64 0)]), 3, 24) := by kernel_rfl
theorem info67 : (Try.prog.info? 67).map (fun i => (i.zero, i.size, i.bytes)) = some (some (.agg #[(.slice none 0 0), (.int .i64 0), (.int .i64 0)]), 3, 40) := by kernel_rfl
theorem info81 : (Try.prog.info? 81).map (fun i => (i.zero, i.size, i.bytes)) = some (some (.agg #[(.slice none 0 0), (.int .i64 0), (.int .i64 0)]), 3, 40) := by kernel_rfl
-- the values' own types
structure S47 where
  f0 : Int
  f1 : Int
def z47 : S47 := ⟨(0 : Int), (0 : Int)⟩
def k47 : Kd S47 := Kd.iso (Kd.pair (Kd.int .i64) (Kd.int .i64)) (fun x : S47 => (x.f0, x.f1))
theorem k47_heap : Kd.Heap k47 := Kd.heap_iso _ (Kd.heap_pair (Kd.heap_int .i64) (Kd.heap_int .i64))
theorem k47_open {w : World} {x : S47} {cs : List Value} (h : k47.K w x cs) : cs = [.int .i64 x.f0, .int .i64 x.f1] := by
  obtain ⟨_, _, rfl, rfl, rfl⟩ := h
  exact rfl
theorem k47_openM {w : World} {base : Nat} {ok : Nat → Prop} {x : S47} {cs : List Value} (h : k47.M w base ok x cs) : cs = [.int .i64 x.f0, .int .i64 x.f1] := by
  obtain ⟨_, _, rfl, rfl, rfl⟩ := h
  exact rfl
theorem k47_mk (w : World) (x : S47)  : k47.K w x [.int .i64 x.f0, .int .i64 x.f1] := ⟨[.int .i64 x.f0], [.int .i64 x.f1], rfl, rfl, rfl⟩
theorem k47_mkM (w : World) (base : Nat) (ok : Nat → Prop) (x : S47)  : k47.M w base ok x [.int .i64 x.f0, .int .i64 x.f1] := ⟨[.int .i64 x.f0], [.int .i64 x.f1], rfl, rfl, rfl⟩
theorem k47_mkF (W : World) (ok : Nat → Prop) (x : S47) : Kd.FK k47 W ok x [.int .i64 x.f0, .int .i64 x.f1] := fun W2 _ => k47_mk W2 x
def rd_T47 (xs : List S47) (i : Int) : S47 := xs.getD i.toNat z47
theorem at_T47 {w : World} {A : Option Addr} {n : Nat} {xs : List S47} (h : Kd.C k47 w A n xs) (i : Int) (h0 : 0 ≤ i) (h1 : i < n) : ∃ ad , A = some ad ∧ w.cell? (ad.add (i.toNat * 2)) = some (.int .i64 (rd_T47 xs i).f0) ∧ w.cell? ⟨(ad.add (i.toNat * 2)).block, (ad.add (i.toNat * 2)).off + 1, none⟩ = some (.int .i64 (rd_T47 xs i).f1) := by
  obtain ⟨ad, c, e, _, hK, hc0⟩ := Kd.C_get h z47 i h0 h1
  have hc : ∀ j u, c[j]? = some u → w.cell? (ad.add (i.toNat * 2 + j)) = some u := hc0
  obtain rfl := k47_open hK
  exact ⟨ad, e, hc 0 _ rfl, by rw [← add_field _ _ 1 (by omega)]; exact hc 1 _ rfl⟩
def rd_L2 (xs : List (List S47)) (i : Int) : (List S47) := xs.getD i.toNat ([] : List S47)
theorem at_L2 {w : World} {A : Option Addr} {n : Nat} {xs : List (List S47)} (h : Kd.C (Kd.slice 47 k47) w A n xs) (i : Int) (h0 : 0 ≤ i) (h1 : i < n) : ∃ ad A0 c0, A = some ad ∧ w.cell? (ad.add i.toNat) = some (.slice A0 (rd_L2 xs i).length c0) ∧ (rd_L2 xs i).length ≤ c0 ∧ k47.C w A0 (rd_L2 xs i).length (rd_L2 xs i) := by
  obtain ⟨ad, c, e, _, hK, hc0⟩ := Kd.C_get h ([] : List S47) i h0 h1
  have hc : ∀ j u, c[j]? = some u → w.cell? (ad.add (i.toNat * 1 + j)) = some u := hc0
  obtain ⟨A0, c0, rfl, l0, g0⟩ := hK
  exact ⟨ad, A0, c0, e, by have hq := hc 0 _ rfl; rwa [Nat.mul_one, Nat.add_zero] at hq, l0, g0⟩
structure S65 where
  f0 : Int
  f1 : S47
def z65 : S65 := ⟨(0 : Int), z47⟩
def k65 : Kd S65 := Kd.iso (Kd.pair (Kd.int .i64) k47) (fun x : S65 => (x.f0, x.f1))
theorem k65_heap : Kd.Heap k65 := Kd.heap_iso _ (Kd.heap_pair (Kd.heap_int .i64) k47_heap)
theorem k65_open {w : World} {x : S65} {cs : List Value} (h : k65.K w x cs) : cs = [.int .i64 x.f0, .int .i64 x.f1.f0, .int .i64 x.f1.f1] := by
  obtain ⟨_, _, rfl, rfl, s1⟩ := h
  obtain rfl := k47_open s1
  exact rfl
theorem k65_openM {w : World} {base : Nat} {ok : Nat → Prop} {x : S65} {cs : List Value} (h : k65.M w base ok x cs) : cs = [.int .i64 x.f0, .int .i64 x.f1.f0, .int .i64 x.f1.f1] := by
  obtain ⟨_, _, rfl, rfl, s1⟩ := h
  obtain rfl := k47_openM s1
  exact rfl
theorem k65_mk (w : World) (x : S65)  : k65.K w x [.int .i64 x.f0, .int .i64 x.f1.f0, .int .i64 x.f1.f1] := ⟨[.int .i64 x.f0], [.int .i64 x.f1.f0, .int .i64 x.f1.f1], rfl, rfl, (k47_mk w x.f1 )⟩
theorem k65_mkM (w : World) (base : Nat) (ok : Nat → Prop) (x : S65)  : k65.M w base ok x [.int .i64 x.f0, .int .i64 x.f1.f0, .int .i64 x.f1.f1] := ⟨[.int .i64 x.f0], [.int .i64 x.f1.f0, .int .i64 x.f1.f1], rfl, rfl, (k47_mkM w base ok x.f1 )⟩
theorem k65_mkF (W : World) (ok : Nat → Prop) (x : S65) : Kd.FK k65 W ok x [.int .i64 x.f0, .int .i64 x.f1.f0, .int .i64 x.f1.f1] := fun W2 _ => k65_mk W2 x
def rd_T65 (xs : List S65) (i : Int) : S65 := xs.getD i.toNat z65
theorem at_T65 {w : World} {A : Option Addr} {n : Nat} {xs : List S65} (h : Kd.C k65 w A n xs) (i : Int) (h0 : 0 ≤ i) (h1 : i < n) : ∃ ad , A = some ad ∧ w.cell? (ad.add (i.toNat * 3)) = some (.int .i64 (rd_T65 xs i).f0) ∧ w.cell? ⟨(ad.add (i.toNat * 3)).block, (ad.add (i.toNat * 3)).off + 1, none⟩ = some (.int .i64 (rd_T65 xs i).f1.f0) ∧ w.cell? ⟨(ad.add (i.toNat * 3)).block, (ad.add (i.toNat * 3)).off + 2, none⟩ = some (.int .i64 (rd_T65 xs i).f1.f1) := by
  obtain ⟨ad, c, e, _, hK, hc0⟩ := Kd.C_get h z65 i h0 h1
  have hc : ∀ j u, c[j]? = some u → w.cell? (ad.add (i.toNat * 3 + j)) = some u := hc0
  obtain rfl := k65_open hK
  exact ⟨ad, e, hc 0 _ rfl, by rw [← add_field _ _ 1 (by omega)]; exact hc 1 _ rfl, by rw [← add_field _ _ 2 (by omega)]; exact hc 2 _ rfl⟩
def rd_L4 (xs : List (List S65)) (i : Int) : (List S65) := xs.getD i.toNat ([] : List S65)
theorem at_L4 {w : World} {A : Option Addr} {n : Nat} {xs : List (List S65)} (h : Kd.C (Kd.slice 65 k65) w A n xs) (i : Int) (h0 : 0 ≤ i) (h1 : i < n) : ∃ ad A0 c0, A = some ad ∧ w.cell? (ad.add i.toNat) = some (.slice A0 (rd_L4 xs i).length c0) ∧ (rd_L4 xs i).length ≤ c0 ∧ k65.C w A0 (rd_L4 xs i).length (rd_L4 xs i) := by
  obtain ⟨ad, c, e, _, hK, hc0⟩ := Kd.C_get h ([] : List S65) i h0 h1
  have hc : ∀ j u, c[j]? = some u → w.cell? (ad.add (i.toNat * 1 + j)) = some u := hc0
  obtain ⟨A0, c0, rfl, l0, g0⟩ := hK
  exact ⟨ad, A0, c0, e, by have hq := hc 0 _ rfl; rwa [Nat.mul_one, Nat.add_zero] at hq, l0, g0⟩
structure S67 where
  f0 : (List S65)
  f1 : S47
def z67 : S67 := ⟨([] : List S65), z47⟩
def k67 : Kd S67 := Kd.iso (Kd.pair (Kd.slice 65 k65) k47) (fun x : S67 => (x.f0, x.f1))
theorem k67_heap : Kd.Heap k67 := Kd.heap_iso _ (Kd.heap_pair (Kd.heap_slice 65 k65_heap) k47_heap)
theorem k67_open {w : World} {x : S67} {cs : List Value} (h : k67.K w x cs) : ∃ A0 c0, cs = [.slice A0 x.f0.length c0, .int .i64 x.f1.f0, .int .i64 x.f1.f1] ∧ x.f0.length ≤ c0 ∧ k65.C w A0 x.f0.length x.f0 := by
  obtain ⟨_, _, rfl, ⟨A0, c0, rfl, l0, g0⟩, s1⟩ := h
  obtain rfl := k47_open s1
  exact ⟨A0, c0, rfl, l0, g0⟩
theorem k67_openM {w : World} {base : Nat} {ok : Nat → Prop} {x : S67} {cs : List Value} (h : k67.M w base ok x cs) : ∃ v0, cs = [v0, .int .i64 x.f1.f0, .int .i64 x.f1.f1] ∧ k65.R 65 w base ok v0 x.f0 := by
  obtain ⟨_, _, rfl, ⟨v0, rfl, g0⟩, s1⟩ := h
  obtain rfl := k47_openM s1
  exact ⟨v0, rfl, g0⟩
theorem k67_mk (w : World) (x : S67) {A0 : Option Addr} {c0 : Nat} (l0 : x.f0.length ≤ c0) (g0 : k65.C w A0 x.f0.length x.f0) : k67.K w x [.slice A0 x.f0.length c0, .int .i64 x.f1.f0, .int .i64 x.f1.f1] := ⟨[.slice A0 x.f0.length c0], [.int .i64 x.f1.f0, .int .i64 x.f1.f1], rfl, ⟨A0, c0, rfl, l0, g0⟩, (k47_mk w x.f1 )⟩
theorem k67_mkM (w : World) (base : Nat) (ok : Nat → Prop) (x : S67) {v0 : Value} (g0 : k65.R 65 w base ok v0 x.f0) : k67.M w base ok x [v0, .int .i64 x.f1.f0, .int .i64 x.f1.f1] := ⟨[v0], [.int .i64 x.f1.f0, .int .i64 x.f1.f1], rfl, ⟨v0, rfl, g0⟩, (k47_mkM w base ok x.f1 )⟩
theorem k67_openF {W : World} {ok : Nat → Prop} {x : S67} {cs : List Value} (h : Kd.FK k67 W ok x cs) : ∃ A0 c0, cs = [.slice A0 x.f0.length c0, .int .i64 x.f1.f0, .int .i64 x.f1.f1] ∧ x.f0.length ≤ c0 ∧ Kd.F k65 W ok A0 x.f0.length x.f0 := by
  obtain ⟨A0, c0, rfl, l0, _⟩ := k67_open (Kd.FK_now h)
  exact ⟨A0, c0, rfl, l0, (fun W' hW => by obtain ⟨A0_, c0_, he, l0_, g0_⟩ := k67_open (h W' hW); injection (Option.some.inj (show some (Value.slice A0 x.f0.length c0) = some (Value.slice A0_ x.f0.length c0_) from congrArg (fun l => l[0]?) he)) with ha_ _ _; rw [ha_]; exact g0_)⟩
theorem k67_mkF (W : World) (ok : Nat → Prop) (x : S67) {A0 : Option Addr} {c0 : Nat} (l0 : x.f0.length ≤ c0) (g0 : Kd.F k65 W ok A0 x.f0.length x.f0) : Kd.FK k67 W ok x [.slice A0 x.f0.length c0, .int .i64 x.f1.f0, .int .i64 x.f1.f1] := fun W2 hW => k67_mk W2 x l0 (g0 W2 hW)
def rd_T67 (xs : List S67) (i : Int) : S67 := xs.getD i.toNat z67
theorem at_T67 {w : World} {A : Option Addr} {n : Nat} {xs : List S67} (h : Kd.C k67 w A n xs) (i : Int) (h0 : 0 ≤ i) (h1 : i < n) : ∃ ad A0 c0, A = some ad ∧ w.cell? (ad.add (i.toNat * 3)) = some (.slice A0 (rd_T67 xs i).f0.length c0) ∧ w.cell? ⟨(ad.add (i.toNat * 3)).block, (ad.add (i.toNat * 3)).off + 1, none⟩ = some (.int .i64 (rd_T67 xs i).f1.f0) ∧ w.cell? ⟨(ad.add (i.toNat * 3)).block, (ad.add (i.toNat * 3)).off + 2, none⟩ = some (.int .i64 (rd_T67 xs i).f1.f1) ∧ (rd_T67 xs i).f0.length ≤ c0 ∧ k65.C w A0 (rd_T67 xs i).f0.length (rd_T67 xs i).f0 := by
  obtain ⟨ad, c, e, _, hK, hc0⟩ := Kd.C_get h z67 i h0 h1
  have hc : ∀ j u, c[j]? = some u → w.cell? (ad.add (i.toNat * 3 + j)) = some u := hc0
  obtain ⟨A0, c0, rfl, l0, g0⟩ := k67_open hK
  exact ⟨ad, A0, c0, e, hc 0 _ rfl, by rw [← add_field _ _ 1 (by omega)]; exact hc 1 _ rfl, by rw [← add_field _ _ 2 (by omega)]; exact hc 2 _ rfl, l0, g0⟩
def rd_L6 (xs : List (List S67)) (i : Int) : (List S67) := xs.getD i.toNat ([] : List S67)
theorem at_L6 {w : World} {A : Option Addr} {n : Nat} {xs : List (List S67)} (h : Kd.C (Kd.slice 67 k67) w A n xs) (i : Int) (h0 : 0 ≤ i) (h1 : i < n) : ∃ ad A0 c0, A = some ad ∧ w.cell? (ad.add i.toNat) = some (.slice A0 (rd_L6 xs i).length c0) ∧ (rd_L6 xs i).length ≤ c0 ∧ k67.C w A0 (rd_L6 xs i).length (rd_L6 xs i) := by
  obtain ⟨ad, c, e, _, hK, hc0⟩ := Kd.C_get h ([] : List S67) i h0 h1
  have hc : ∀ j u, c[j]? = some u → w.cell? (ad.add (i.toNat * 1 + j)) = some u := hc0
  obtain ⟨A0, c0, rfl, l0, g0⟩ := hK
  exact ⟨ad, A0, c0, e, by have hq := hc 0 _ rfl; rwa [Nat.mul_one, Nat.add_zero] at hq, l0, g0⟩
def rd_L8 (xs : List (List Int)) (i : Int) : (List Int) := xs.getD i.toNat ([] : List Int)
theorem at_L8 {w : World} {A : Option Addr} {n : Nat} {xs : List (List Int)} (h : Kd.C (Kd.slice 3 (Kd.int .i64)) w A n xs) (i : Int) (h0 : 0 ≤ i) (h1 : i < n) : ∃ ad A0 c0, A = some ad ∧ w.cell? (ad.add i.toNat) = some (.slice A0 (rd_L8 xs i).length c0) ∧ (rd_L8 xs i).length ≤ c0 ∧ (Kd.int .i64).C w A0 (rd_L8 xs i).length (rd_L8 xs i) := by
  obtain ⟨ad, c, e, _, hK, hc0⟩ := Kd.C_get h ([] : List Int) i h0 h1
  have hc : ∀ j u, c[j]? = some u → w.cell? (ad.add (i.toNat * 1 + j)) = some u := hc0
  obtain ⟨A0, c0, rfl, l0, g0⟩ := hK
  exact ⟨ad, A0, c0, e, by have hq := hc 0 _ rfl; rwa [Nat.mul_one, Nat.add_zero] at hq, l0, g0⟩
structure S54 where
  f0 : Int
  f1 : Int
def z54 : S54 := ⟨(0 : Int), (0 : Int)⟩
def k54 : Kd S54 := Kd.iso (Kd.pair (Kd.int .i64) (Kd.int .i64)) (fun x : S54 => (x.f0, x.f1))
theorem k54_heap : Kd.Heap k54 := Kd.heap_iso _ (Kd.heap_pair (Kd.heap_int .i64) (Kd.heap_int .i64))
theorem k54_open {w : World} {x : S54} {cs : List Value} (h : k54.K w x cs) : cs = [.int .i64 x.f0, .int .i64 x.f1] := by
  obtain ⟨_, _, rfl, rfl, rfl⟩ := h
  exact rfl
theorem k54_openM {w : World} {base : Nat} {ok : Nat → Prop} {x : S54} {cs : List Value} (h : k54.M w base ok x cs) : cs = [.int .i64 x.f0, .int .i64 x.f1] := by
  obtain ⟨_, _, rfl, rfl, rfl⟩ := h
  exact rfl
theorem k54_mk (w : World) (x : S54)  : k54.K w x [.int .i64 x.f0, .int .i64 x.f1] := ⟨[.int .i64 x.f0], [.int .i64 x.f1], rfl, rfl, rfl⟩
theorem k54_mkM (w : World) (base : Nat) (ok : Nat → Prop) (x : S54)  : k54.M w base ok x [.int .i64 x.f0, .int .i64 x.f1] := ⟨[.int .i64 x.f0], [.int .i64 x.f1], rfl, rfl, rfl⟩
theorem k54_mkF (W : World) (ok : Nat → Prop) (x : S54) : Kd.FK k54 W ok x [.int .i64 x.f0, .int .i64 x.f1] := fun W2 _ => k54_mk W2 x
def rd_T54 (xs : List S54) (i : Int) : S54 := xs.getD i.toNat z54
theorem at_T54 {w : World} {A : Option Addr} {n : Nat} {xs : List S54} (h : Kd.C k54 w A n xs) (i : Int) (h0 : 0 ≤ i) (h1 : i < n) : ∃ ad , A = some ad ∧ w.cell? (ad.add (i.toNat * 2)) = some (.int .i64 (rd_T54 xs i).f0) ∧ w.cell? ⟨(ad.add (i.toNat * 2)).block, (ad.add (i.toNat * 2)).off + 1, none⟩ = some (.int .i64 (rd_T54 xs i).f1) := by
  obtain ⟨ad, c, e, _, hK, hc0⟩ := Kd.C_get h z54 i h0 h1
  have hc : ∀ j u, c[j]? = some u → w.cell? (ad.add (i.toNat * 2 + j)) = some u := hc0
  obtain rfl := k54_open hK
  exact ⟨ad, e, hc 0 _ rfl, by rw [← add_field _ _ 1 (by omega)]; exact hc 1 _ rfl⟩
structure S56 where
  f0 : Int
  f1 : S54
def z56 : S56 := ⟨(0 : Int), z54⟩
def k56 : Kd S56 := Kd.iso (Kd.pair (Kd.int .i64) k54) (fun x : S56 => (x.f0, x.f1))
theorem k56_heap : Kd.Heap k56 := Kd.heap_iso _ (Kd.heap_pair (Kd.heap_int .i64) k54_heap)
theorem k56_open {w : World} {x : S56} {cs : List Value} (h : k56.K w x cs) : cs = [.int .i64 x.f0, .int .i64 x.f1.f0, .int .i64 x.f1.f1] := by
  obtain ⟨_, _, rfl, rfl, s1⟩ := h
  obtain rfl := k54_open s1
  exact rfl
theorem k56_openM {w : World} {base : Nat} {ok : Nat → Prop} {x : S56} {cs : List Value} (h : k56.M w base ok x cs) : cs = [.int .i64 x.f0, .int .i64 x.f1.f0, .int .i64 x.f1.f1] := by
  obtain ⟨_, _, rfl, rfl, s1⟩ := h
  obtain rfl := k54_openM s1
  exact rfl
theorem k56_mk (w : World) (x : S56)  : k56.K w x [.int .i64 x.f0, .int .i64 x.f1.f0, .int .i64 x.f1.f1] := ⟨[.int .i64 x.f0], [.int .i64 x.f1.f0, .int .i64 x.f1.f1], rfl, rfl, (k54_mk w x.f1 )⟩
theorem k56_mkM (w : World) (base : Nat) (ok : Nat → Prop) (x : S56)  : k56.M w base ok x [.int .i64 x.f0, .int .i64 x.f1.f0, .int .i64 x.f1.f1] := ⟨[.int .i64 x.f0], [.int .i64 x.f1.f0, .int .i64 x.f1.f1], rfl, rfl, (k54_mkM w base ok x.f1 )⟩
theorem k56_mkF (W : World) (ok : Nat → Prop) (x : S56) : Kd.FK k56 W ok x [.int .i64 x.f0, .int .i64 x.f1.f0, .int .i64 x.f1.f1] := fun W2 _ => k56_mk W2 x
def rd_T56 (xs : List S56) (i : Int) : S56 := xs.getD i.toNat z56
theorem at_T56 {w : World} {A : Option Addr} {n : Nat} {xs : List S56} (h : Kd.C k56 w A n xs) (i : Int) (h0 : 0 ≤ i) (h1 : i < n) : ∃ ad , A = some ad ∧ w.cell? (ad.add (i.toNat * 3)) = some (.int .i64 (rd_T56 xs i).f0) ∧ w.cell? ⟨(ad.add (i.toNat * 3)).block, (ad.add (i.toNat * 3)).off + 1, none⟩ = some (.int .i64 (rd_T56 xs i).f1.f0) ∧ w.cell? ⟨(ad.add (i.toNat * 3)).block, (ad.add (i.toNat * 3)).off + 2, none⟩ = some (.int .i64 (rd_T56 xs i).f1.f1) := by
  obtain ⟨ad, c, e, _, hK, hc0⟩ := Kd.C_get h z56 i h0 h1
  have hc : ∀ j u, c[j]? = some u → w.cell? (ad.add (i.toNat * 3 + j)) = some u := hc0
  obtain rfl := k56_open hK
  exact ⟨ad, e, hc 0 _ rfl, by rw [← add_field _ _ 1 (by omega)]; exact hc 1 _ rfl, by rw [← add_field _ _ 2 (by omega)]; exact hc 2 _ rfl⟩
def rd_L11 (xs : List (List S56)) (i : Int) : (List S56) := xs.getD i.toNat ([] : List S56)
theorem at_L11 {w : World} {A : Option Addr} {n : Nat} {xs : List (List S56)} (h : Kd.C (Kd.slice 56 k56) w A n xs) (i : Int) (h0 : 0 ≤ i) (h1 : i < n) : ∃ ad A0 c0, A = some ad ∧ w.cell? (ad.add i.toNat) = some (.slice A0 (rd_L11 xs i).length c0) ∧ (rd_L11 xs i).length ≤ c0 ∧ k56.C w A0 (rd_L11 xs i).length (rd_L11 xs i) := by
  obtain ⟨ad, c, e, _, hK, hc0⟩ := Kd.C_get h ([] : List S56) i h0 h1
  have hc : ∀ j u, c[j]? = some u → w.cell? (ad.add (i.toNat * 1 + j)) = some u := hc0
  obtain ⟨A0, c0, rfl, l0, g0⟩ := hK
  exact ⟨ad, A0, c0, e, by have hq := hc 0 _ rfl; rwa [Nat.mul_one, Nat.add_zero] at hq, l0, g0⟩
structure S81 where
  f0 : (List S56)
  f1 : S54
def z81 : S81 := ⟨([] : List S56), z54⟩
def k81 : Kd S81 := Kd.iso (Kd.pair (Kd.slice 56 k56) k54) (fun x : S81 => (x.f0, x.f1))
theorem k81_heap : Kd.Heap k81 := Kd.heap_iso _ (Kd.heap_pair (Kd.heap_slice 56 k56_heap) k54_heap)
theorem k81_open {w : World} {x : S81} {cs : List Value} (h : k81.K w x cs) : ∃ A0 c0, cs = [.slice A0 x.f0.length c0, .int .i64 x.f1.f0, .int .i64 x.f1.f1] ∧ x.f0.length ≤ c0 ∧ k56.C w A0 x.f0.length x.f0 := by
  obtain ⟨_, _, rfl, ⟨A0, c0, rfl, l0, g0⟩, s1⟩ := h
  obtain rfl := k54_open s1
  exact ⟨A0, c0, rfl, l0, g0⟩
theorem k81_openM {w : World} {base : Nat} {ok : Nat → Prop} {x : S81} {cs : List Value} (h : k81.M w base ok x cs) : ∃ v0, cs = [v0, .int .i64 x.f1.f0, .int .i64 x.f1.f1] ∧ k56.R 56 w base ok v0 x.f0 := by
  obtain ⟨_, _, rfl, ⟨v0, rfl, g0⟩, s1⟩ := h
  obtain rfl := k54_openM s1
  exact ⟨v0, rfl, g0⟩
theorem k81_mk (w : World) (x : S81) {A0 : Option Addr} {c0 : Nat} (l0 : x.f0.length ≤ c0) (g0 : k56.C w A0 x.f0.length x.f0) : k81.K w x [.slice A0 x.f0.length c0, .int .i64 x.f1.f0, .int .i64 x.f1.f1] := ⟨[.slice A0 x.f0.length c0], [.int .i64 x.f1.f0, .int .i64 x.f1.f1], rfl, ⟨A0, c0, rfl, l0, g0⟩, (k54_mk w x.f1 )⟩
theorem k81_mkM (w : World) (base : Nat) (ok : Nat → Prop) (x : S81) {v0 : Value} (g0 : k56.R 56 w base ok v0 x.f0) : k81.M w base ok x [v0, .int .i64 x.f1.f0, .int .i64 x.f1.f1] := ⟨[v0], [.int .i64 x.f1.f0, .int .i64 x.f1.f1], rfl, ⟨v0, rfl, g0⟩, (k54_mkM w base ok x.f1 )⟩
theorem k81_openF {W : World} {ok : Nat → Prop} {x : S81} {cs : List Value} (h : Kd.FK k81 W ok x cs) : ∃ A0 c0, cs = [.slice A0 x.f0.length c0, .int .i64 x.f1.f0, .int .i64 x.f1.f1] ∧ x.f0.length ≤ c0 ∧ Kd.F k56 W ok A0 x.f0.length x.f0 := by
  obtain ⟨A0, c0, rfl, l0, _⟩ := k81_open (Kd.FK_now h)
  exact ⟨A0, c0, rfl, l0, (fun W' hW => by obtain ⟨A0_, c0_, he, l0_, g0_⟩ := k81_open (h W' hW); injection (Option.some.inj (show some (Value.slice A0 x.f0.length c0) = some (Value.slice A0_ x.f0.length c0_) from congrArg (fun l => l[0]?) he)) with ha_ _ _; rw [ha_]; exact g0_)⟩
theorem k81_mkF (W : World) (ok : Nat → Prop) (x : S81) {A0 : Option Addr} {c0 : Nat} (l0 : x.f0.length ≤ c0) (g0 : Kd.F k56 W ok A0 x.f0.length x.f0) : Kd.FK k81 W ok x [.slice A0 x.f0.length c0, .int .i64 x.f1.f0, .int .i64 x.f1.f1] := fun W2 hW => k81_mk W2 x l0 (g0 W2 hW)
def rd_T81 (xs : List S81) (i : Int) : S81 := xs.getD i.toNat z81
theorem at_T81 {w : World} {A : Option Addr} {n : Nat} {xs : List S81} (h : Kd.C k81 w A n xs) (i : Int) (h0 : 0 ≤ i) (h1 : i < n) : ∃ ad A0 c0, A = some ad ∧ w.cell? (ad.add (i.toNat * 3)) = some (.slice A0 (rd_T81 xs i).f0.length c0) ∧ w.cell? ⟨(ad.add (i.toNat * 3)).block, (ad.add (i.toNat * 3)).off + 1, none⟩ = some (.int .i64 (rd_T81 xs i).f1.f0) ∧ w.cell? ⟨(ad.add (i.toNat * 3)).block, (ad.add (i.toNat * 3)).off + 2, none⟩ = some (.int .i64 (rd_T81 xs i).f1.f1) ∧ (rd_T81 xs i).f0.length ≤ c0 ∧ k56.C w A0 (rd_T81 xs i).f0.length (rd_T81 xs i).f0 := by
  obtain ⟨ad, c, e, _, hK, hc0⟩ := Kd.C_get h z81 i h0 h1
  have hc : ∀ j u, c[j]? = some u → w.cell? (ad.add (i.toNat * 3 + j)) = some u := hc0
  obtain ⟨A0, c0, rfl, l0, g0⟩ := k81_open hK
  exact ⟨ad, A0, c0, e, hc 0 _ rfl, by rw [← add_field _ _ 1 (by omega)]; exact hc 1 _ rfl, by rw [← add_field _ _ 2 (by omega)]; exact hc 2 _ rfl, l0, g0⟩
end Go.Proofs.Ytdagijgoegkphaa.P

namespace Go.Proofs.Ytdagijgoegkphaa.P
open Go.RowKit Go.Proofs.YtdagijgoegkphaaW.PrintWords Go.Proofs.YtdagijgoegkphaaW.PrintLast Go.Proofs.YtdagijgoegkphaaW.PrintMore
attribute [local go_sem] max2_int min2_int max_two min_two max_three min_three max_four min_four   -- for this text's walks alone
theorem eqA47 (d : Nat) (w : World) (x0 y0 : Int) (x1 y1 : Int) :
    (Op.equalIn (d + 2) 47 (.agg #[.int .i64 x0, .int .i64 x1]) (.agg #[.int .i64 y0, .int .i64 y1])).run Try.prog w = .ok (x0 == y0 && (x1 == y1)) w := by
  refine eqA_of Try.underlying47 (by kernel_rfl) ?_
  refine eqf_cons (by rfl) (by go_simp; rfl) (by go_simp; rfl) (by go_simp) ?_
  exact eqf_last (by rfl) (by go_simp; rfl) (by go_simp; rfl) (by go_simp)
end Go.Proofs.Ytdagijgoegkphaa.P

namespace Go.Proofs.Ytdagijgoegkphaa.P
open Go.RowKit Go.Proofs.YtdagijgoegkphaaW.PrintWords Go.Proofs.YtdagijgoegkphaaW.PrintLast
theorem plain_of_cell {w : World} {ad : Addr} {v : Value} (g1 : w.cell? ad = some v) : ad.spot = none := by
  unfold World.cell? at g1
  split at g1
  · split at g1
    · cases g1
    · rename_i hn
      cases hsp : ad.spot with
      | none => rfl
      | some x => rw [hsp] at hn; exact absurd rfl hn
  · cases g1
theorem add_plain (b off k : Nat) : (⟨b, off, none⟩ : Addr).add k = ⟨b, off + k, none⟩ := by
  unfold Addr.add
  split
  · rename_i hz; rw [hz]; rfl
  · rfl
def toRg1 (s : S47) : Hand.Rg := ⟨s.f0, s.f1⟩
def toRg (l : List S47) : List Hand.Rg := l.map toRg1
theorem toRg_length (l : List S47) : (toRg l).length = l.length := List.length_map ..
def ofRg1 (s : Hand.Rg) : S47 := ⟨s.lo, s.hi⟩
def ofRg (l : List Hand.Rg) : List S47 := l.map ofRg1
def toSg1 (s : S65) : Hand.Sg := ⟨s.f0, s.f1.f0, s.f1.f1⟩
def toSg (l : List S65) : List Hand.Sg := l.map toSg1
theorem toSg_length (l : List S65) : (toSg l).length = l.length := List.length_map ..
def toRn1 (s : S67) : Hand.Rn := ⟨none, 0, toSg s.f0, s.f1.f0, s.f1.f1⟩
def toRn (l : List S67) : List Hand.Rn := l.map toRn1
theorem toRn_length (l : List S67) : (toRn l).length = l.length := List.length_map ..
def toNm (l : List Int) : List Hand.Nm := l.map Hand.Nm.mk
theorem toNm_length (l : List Int) : (toNm l).length = l.length := List.length_map ..
theorem rgAt_of_C {w : World} {A : Option Addr} {l : List S47} (h : Kd.C k47 w A l.length l) : Hand.Rg.At w A (toRg l) := by
  intro i hi
  have hil : i < l.length := by rw [toRg_length] at hi; exact hi
  obtain ⟨ad, hA, h0, h1⟩ := at_T47 h (i : Int) (by omega) (by omega)
  obtain ⟨ad', hA', g0, _⟩ := at_T47 h (0 : Int) (by omega) (by omega)
  obtain rfl : ad = ad' := Option.some.inj (hA.symm.trans hA')
  have hs : ad.spot = none := by have := plain_of_cell g0; simpa [Addr.add] using this
  obtain ⟨b, off, sp⟩ := ad
  simp only at hs
  subst hs
  rw [add_plain, Int.toNat_natCast] at h0 h1
  have er : rd_T47 l (i : Int) = l[i] := by
    unfold rd_T47
    rw [Int.toNat_natCast, List.getD_eq_getElem?_getD, List.getElem?_eq_getElem hil]
    rfl
  rw [er] at h0 h1
  have eg : (toRg l)[i] = toRg1 l[i] := List.getElem_map toRg1
  rw [eg]
  exact ⟨b, off, hA, block_lt_of_cell h0, h0, h1⟩
theorem sgAt_of_C {w : World} {A : Option Addr} {l : List S65} (h : Kd.C k65 w A l.length l) : Hand.Sg.At w A (toSg l) := by
  intro i hi
  have hil : i < l.length := by rw [toSg_length] at hi; exact hi
  obtain ⟨ad, hA, h0, h1, h2⟩ := at_T65 h (i : Int) (by omega) (by omega)
  obtain ⟨ad', hA', g0, _⟩ := at_T65 h (0 : Int) (by omega) (by omega)
  obtain rfl : ad = ad' := Option.some.inj (hA.symm.trans hA')
  have hs : ad.spot = none := by have := plain_of_cell g0; simpa [Addr.add] using this
  obtain ⟨b, off, sp⟩ := ad
  simp only at hs
  subst hs
  rw [add_plain, Int.toNat_natCast] at h0 h1 h2
  have er : rd_T65 l (i : Int) = l[i] := by
    unfold rd_T65
    rw [Int.toNat_natCast, List.getD_eq_getElem?_getD, List.getElem?_eq_getElem hil]
    rfl
  rw [er] at h0 h1 h2
  have eg : (toSg l)[i] = toSg1 l[i] := List.getElem_map toSg1
  rw [eg]
  exact ⟨b, off, hA, block_lt_of_cell h0, h0, h1, h2⟩
theorem nmAt_of_C {w : World} {A : Option Addr} {l : List Int} (h : Kd.C (Kd.int .i64) w A l.length l) : Hand.Nm.At w A (toNm l) := by
  intro i hi
  have hil : i < l.length := by rw [toNm_length] at hi; exact hi
  have key : ∀ j : Nat, j < l.length → ∃ ad, A = some ad ∧ w.cell? (ad.add j) = some (.int .i64 (l.getD j 0)) := fun j hj => by
    obtain ⟨ad, c, e, _, hK, hc⟩ := Kd.C_get h 0 (j : Int) (by omega) (by omega)
    rw [Int.toNat_natCast] at hK
    have hcc : c = [.int .i64 (l.getD j 0)] := hK
    subst hcc
    have := hc 0 _ rfl
    rw [Int.toNat_natCast] at this
    exact ⟨ad, e, by simpa [Kd.int, Kd.scalar] using this⟩
  obtain ⟨ad, hA, h0⟩ := key i hil
  obtain ⟨ad', hA', g0⟩ := key 0 (by omega)
  obtain rfl : ad = ad' := Option.some.inj (hA.symm.trans hA')
  have hs : ad.spot = none := by have := plain_of_cell g0; simpa [Addr.add] using this
  obtain ⟨b, off, sp⟩ := ad
  simp only at hs
  subst hs
  rw [add_plain, List.getD_eq_getElem?_getD, List.getElem?_eq_getElem hil] at h0
  have eg : (toNm l)[i] = ⟨l[i]⟩ := List.getElem_map Hand.Nm.mk
  rw [eg]
  exact ⟨b, off, hA, block_lt_of_cell h0, h0⟩
theorem runsAt_of_C {w : World} {A : Option Addr} {l : List S67} (h : Kd.C k67 w A l.length l) : ∃ rs : List Hand.Rn, rs.map Hand.Rn.bare = toRn l ∧ rs.length = l.length ∧ Hand.RunsAt w A rs := by
  have key : ∀ i : Nat, ∃ p : Option Addr × Nat, i < l.length → ∃ ad, A = some ad ∧ w.cell? (ad.add (i * 3)) = some (.slice p.1 (rd_T67 l i).f0.length p.2) ∧ w.cell? ⟨(ad.add (i * 3)).block, (ad.add (i * 3)).off + 1, none⟩ = some (.int .i64 (rd_T67 l i).f1.f0) ∧ w.cell? ⟨(ad.add (i * 3)).block, (ad.add (i * 3)).off + 2, none⟩ = some (.int .i64 (rd_T67 l i).f1.f1) ∧ k65.C w p.1 (rd_T67 l i).f0.length (rd_T67 l i).f0 := fun i => by
    by_cases hi : i < l.length
    · obtain ⟨ad, A0, c0, hA, h0, h1, h2, _, h3⟩ := at_T67 h (i : Int) (by omega) (by omega)
      rw [Int.toNat_natCast] at h0 h1 h2
      exact ⟨(A0, c0), fun _ => ⟨ad, hA, h0, h1, h2, h3⟩⟩
    · exact ⟨(none, 0), fun h => absurd h hi⟩
  obtain ⟨f, hf⟩ := Classical.axiomOfChoice key
  refine ⟨l.mapIdx fun i s => ⟨(f i).1, (f i).2, toSg s.f0, s.f1.f0, s.f1.f1⟩, ?_, by simp, ?_, ?_⟩
  · apply List.ext_getElem
    · simp [toRn]
    · intro i h1 h2
      simp [toRn, toRn1, Hand.Rn.bare]
  · intro i hi
    have hil : i < l.length := by simpa using hi
    obtain ⟨ad, hA, h0, h1, h2, h3⟩ := hf i hil
    obtain ⟨ad', hA', g0, _⟩ := hf 0 (by omega)
    obtain rfl : ad = ad' := Option.some.inj (hA.symm.trans hA')
    have hs : ad.spot = none := by have := plain_of_cell g0; simpa [Addr.add] using this
    obtain ⟨b, off, sp⟩ := ad
    simp only at hs
    subst hs
    rw [add_plain] at h0 h1 h2
    have er : rd_T67 l (i : Int) = l[i] := by
      unfold rd_T67
      rw [Int.toNat_natCast, List.getD_eq_getElem?_getD, List.getElem?_eq_getElem hil]
      rfl
    rw [er] at h0 h1 h2
    simp only [List.getElem_mapIdx, toSg_length]
    exact ⟨b, off, hA, block_lt_of_cell h0, h0, h1, h2⟩
  · intro x hx
    obtain ⟨i, hi, rfl⟩ := List.mem_iff_getElem.1 hx
    have hil : i < l.length := by simpa using hi
    obtain ⟨ad, hA, h0, h1, h2, h3⟩ := hf i hil
    have er : rd_T67 l (i : Int) = l[i] := by
      unfold rd_T67
      rw [Int.toNat_natCast, List.getD_eq_getElem?_getD, List.getElem?_eq_getElem hil]
      rfl
    rw [er] at h3
    simp only [List.getElem_mapIdx, toSg_length]
    exact ⟨sgAt_of_C h3, h3.2.1⟩
theorem reps47 : ∀ (o : List Hand.Rg) (w : World) (base : Nat) (ok : Nat → Prop), Reps (k47.M w base ok) k47.sz (ofRg o) (Hand.rgC o) := by
  intro o w base ok
  have key : ∀ (o2 o1 : List Hand.Rg), Reps (k47.M w base ok) k47.sz (ofRg o1) (Hand.rgC o1) → Reps (k47.M w base ok) k47.sz (ofRg (o1 ++ o2)) (Hand.rgC (o1 ++ o2)) := by
    intro o2
    induction o2 with
    | nil => intro o1 h; rw [List.append_nil]; exact h
    | cons x o2 ih =>
      intro o1 h
      have h2 : Reps (k47.M w base ok) k47.sz (ofRg (o1 ++ [x])) (Hand.rgC (o1 ++ [x])) := by
        have e1 : ofRg (o1 ++ [x]) = ofRg o1 ++ [ofRg1 x] := by unfold ofRg; simp
        have e2 : Hand.rgC (o1 ++ [x]) = Hand.rgC o1 ++ [.int .i64 x.lo, .int .i64 x.hi] := by unfold Hand.rgC; simp
        rw [e1, e2]
        exact Reps.snoc h (k47_mkM w base ok (ofRg1 x)) rfl
      have := ih (o1 ++ [x]) h2
      simpa using this
  have := key o [] (Reps.none _ _)
  simpa using this
theorem R_of_row {w : World} {base : Nat} {v : Value} {o : List Hand.Rg} (h : Hand.RgRow w base v o) (hm : o.length ≤ maxLen) : Kd.R k47 47 w base (fun _ => True) v (ofRg o) := by
  rcases h with ⟨rfl, rfl⟩ | ⟨b, rfl, hb, hblk⟩
  · exact Kd.R_nil _ _ _ _ _
  · have hl : (ofRg o).length = o.length := List.length_map ..
    have hc : (Hand.rgC o).length = o.length * 2 := by
      have : ∀ o : List Hand.Rg, (Hand.rgC o).length = o.length * 2 := by
        intro o
        induction o with
        | nil => rfl
        | cons x o ih => unfold Hand.rgC at ih ⊢; rw [List.flatMap_cons, List.length_append, ih, List.length_cons]; simp; omega
      exact this o
    refine ⟨fun _ _ => trivial, Hand.rgC o, ⟨?_, .inr ⟨b, o.length, (Hand.rgC o).toArray, ?_, hb, hblk, ?_, hm, ?_, ?_⟩⟩, reps47 o _ _ _⟩
    · rw [hl]; exact hc
    · rw [hl]
    · rw [hl]; exact Nat.le_refl _
    · show (Hand.rgC o).toArray.size = o.length * 2
      simpa using hc
    · show (Hand.rgC o).toArray.toList.take ((ofRg o).length * 2) = _
      rw [hl, ← hc]; simp
end Go.Proofs.Ytdagijgoegkphaa.P

namespace Go.Proofs.Ytdagijgoegkphaa.Hand
open Go.RowKit Go.Shelf
set_option maxHeartbeats 2000000 in
set_option maxRecDepth 100000 in
theorem list_any (l : List Int) (hl : l.length ≤ 1000) (ad : Addr) (c : Nat) (w : World) (hat : ∀ (j : Nat) (u : Value), (ivs l)[j]? = some u → w.cell? (ad.add j) = some u) : Calls Try.prog 23 #[.slice (some ad) l.length c] w (ClonePost l w) := by
  have HN := Aw.mk hat
  have HO := Aw.mk (World.ownsRow_nil w w.heap.size 3 1)
  have HU := Aw.mk (show ∀ u ∈ ivs l, u.oneCell' = true from fun u hu => by unfold ivs at hu; obtain ⟨x, _, rfl⟩ := List.mem_map.1 hu; rfl)
  have HLN := Aw.mk (show (ivs l).length = l.length * 1 by simp [ivs])
  clear hat
  obtain ⟨i0, hi, hz0, hz1, hz2⟩ := info_parts infoI3
  obtain ⟨n, hnn⟩ : ∃ n, n = l.length := ⟨_, rfl⟩
  rw [← hnn] at hl HLN ⊢
  have HNN := Aw.mk hnn
  clear hnn
  go_enter Try.func23, Try.ntmps23
  go_wp2_with (at_builtin; refine wpList_append_own _ rfl (.const (.slice none 0 0)) (.tmp 3) 31 rfl w.heap.size 3 i0 (.int .i64 0) 1 8 Try.underlying31 hi hz0 hz1 hz2 rfl (by decide) _ 0 [] rfl HO.out ad n c (ivs l) rfl HLN.out HN.out HU.out (by simp only [maxLen]; omega) (by omega) (Nat.le_refl _) ?_; intro v' w1 hown1 hgrow1 hnil1; have HO1 := Aw.mk hown1; have HG1 := Aw.mk hgrow1; clear hown1 hgrow1 hnil1)
  go_ret
  refine ⟨v', rfl, ?_, (Below.refl _ _).grown HG1.out (Nat.le_refl _) (fun k e => by cases e)⟩
  have := HO1.out
  rw [Nat.zero_add, List.nil_append, HNN.out] at this
  exact this
set_option maxHeartbeats 2000000 in
theorem list_nil (c : Nat) (w : World) : Calls Try.prog 23 #[.slice none 0 c] w (ClonePost [] w) := by
  obtain ⟨i0, hi, hz0, hz1, hz2⟩ := info_parts infoI3
  have hn : ∀ (W : World) (ty : Nat), (Builtin.append_ #[31, 31] ty #[.slice none 0 0, .slice none 0 c]).run Try.prog W = .ok (.slice none 0 0) W := fun W ty => by
    simp [Builtin.append_, run_underlying Try.underlying31, sizeOf, typeInfo, hi, Builtin.lenOf, Builtin.firstCells]
  go_enter Try.func23, Try.ntmps23
  go_wp2
  go_ret
  exact ⟨_, rfl, World.ownsRow_nil _ _ _ _, Below.refl _ _⟩
end Go.Proofs.Ytdagijgoegkphaa.Hand

namespace Go.Proofs.Ytdagijgoegkphaa.P
open Go.RowKit Go.Proofs.YtdagijgoegkphaaW.PrintWords Go.Proofs.YtdagijgoegkphaaW.PrintLast Go.Proofs.YtdagijgoegkphaaW.PrintMore
attribute [local go_sem] max2_int min2_int max_two min_two max_three min_three max_four min_four   -- for this text's walks alone
def creep_CheckMaterial.f (l0 : List (S47)) : Option (Int) := some (Hand.matErr (toRg l0))
theorem creep_CheckMaterial.calls (A0 : Option Addr) (c0 : Nat) (l0 : List (S47)) (r : Int) (w : World) (hr0 : Kd.C k47 w A0 l0.length l0) (hc0 : l0.length ≤ c0) (h : creep_CheckMaterial.f l0 = some r) :
  Calls Try.prog 36 #[.agg #[.slice A0 l0.length c0]] w fun e w' => e = .returned (.int .i64 r) ∧ Below w.heap.size w w' := by
 obtain rfl := Option.some.inj h
 have := Hand.check_any A0 c0 (toRg l0) w (rgAt_of_C hr0) (by rw [toRg_length]; exact hr0.2.1)
 rw [toRg_length] at this
 exact this
end Go.Proofs.Ytdagijgoegkphaa.P

namespace Go.Proofs.Ytdagijgoegkphaa.P
open Go.RowKit Go.Proofs.YtdagijgoegkphaaW.PrintWords Go.Proofs.YtdagijgoegkphaaW.PrintLast Go.Proofs.YtdagijgoegkphaaW.PrintMore
attribute [local go_sem] max2_int min2_int max_two min_two max_three min_three max_four min_four   -- for this text's walks alone
def creep_Allows.f (l0 : List (S47)) (l1 : List (S67)) (l2 : List Int) : Option (Bool × Int) := some (Hand.allowsV (toRg l0) (toRn l1) (toNm l2))
theorem creep_Allows.calls (A0 : Option Addr) (c0 : Nat) (l0 : List (S47)) (A1 : Option Addr) (c1 : Nat) (l1 : List (S67)) (A2 : Option Addr) (c2 : Nat) (l2 : List Int) (r1 : Bool) (r2 : Int) (w : World) (hr0 : Kd.C k47 w A0 l0.length l0) (hc0 : l0.length ≤ c0) (hr1 : Kd.C k67 w A1 l1.length l1) (hc1 : l1.length ≤ c1) (hr2 : Kd.C (Kd.int .i64) w A2 l2.length l2) (hc2 : l2.length ≤ c2) (h : creep_Allows.f l0 l1 l2 = some (r1, r2)) :
  Calls Try.prog 20 #[.agg #[.slice A0 l0.length c0], .slice A1 l1.length c1, .slice A2 l2.length c2] w fun e w' => e = .returned (.tuple #[.bool r1, .int .i64 r2]) ∧ Below w.heap.size w w' := by
 have hv := Option.some.inj h
 obtain ⟨rs, hb, hl, hr⟩ := runsAt_of_C hr1
 have := Hand.Allows_any A0 c0 (toRg l0) A1 c1 rs A2 c2 (toNm l2) w (rgAt_of_C hr0) hr (nmAt_of_C hr2) (by rw [toRg_length]; exact hr0.2.1) (by rw [hl]; exact hr1.2.1) (by rw [toNm_length]; exact hr2.2.1)
 rw [← Hand.bare_allows, hb, hv, toRg_length, hl, toNm_length] at this
 exact this
end Go.Proofs.Ytdagijgoegkphaa.P

namespace Go.Proofs.Ytdagijgoegkphaa.P
open Go.RowKit Go.Proofs.YtdagijgoegkphaaW.PrintWords Go.Proofs.YtdagijgoegkphaaW.PrintLast Go.Proofs.YtdagijgoegkphaaW.PrintMore
attribute [local go_sem] max2_int min2_int max_two min_two max_three min_three max_four min_four   -- for this text's walks alone
def creep_Rates.f (l0 : List (S47)) (l1 : List (S67)) : Option (List S47 × Int × Int) := some (ofRg (Hand.ratesV (toRg l0) (toRn l1)).1, (Hand.ratesV (toRg l0) (toRn l1)).2.1, (Hand.ratesV (toRg l0) (toRn l1)).2.2)
theorem creep_Rates.calls (A0 : Option Addr) (c0 : Nat) (l0 : List (S47)) (A1 : Option Addr) (c1 : Nat) (l1 : List (S67)) (r1 : List S47) (r2 : Int) (r3 : Int) (w : World) (hr0 : Kd.C k47 w A0 l0.length l0) (hc0 : l0.length ≤ c0) (hr1 : Kd.C k67 w A1 l1.length l1) (hc1 : l1.length ≤ c1) (h : creep_Rates.f l0 l1 = some (r1, r2, r3)) :
  Calls Try.prog 24 #[.agg #[.slice A0 l0.length c0], .slice A1 l1.length c1] w fun e w' => ∃ v1_ : Value, e = .returned (.tuple #[v1_, .int .i64 r2, .int .i64 r3]) ∧ Kd.R k47 47 w' w.heap.size (fun _ => True) v1_ r1 ∧ Below w.heap.size w w' := by
 have hv := Option.some.inj h
 obtain ⟨rs, hb, hl, hr⟩ := runsAt_of_C hr1
 have := Hand.Rates_any A0 c0 (toRg l0) A1 c1 rs w (rgAt_of_C hr0) hr (by rw [toRg_length]; exact hr0.2.1) (by rw [hl]; exact hr1.2.1) Hand.good_len
 rw [toRg_length, hl] at this
 refine this.mono ?_
 rintro e w' ⟨v, rfl, hrow, hbel⟩
 rw [← Hand.bare_rates, hb] at hrow ⊢
 simp only [Prod.mk.injEq] at hv
 obtain ⟨rfl, rfl, rfl⟩ := hv
 refine ⟨v, rfl, R_of_row hrow ?_, hbel⟩
 unfold Hand.ratesV
 split
 ·
  rename_i h0
  have h1 := (Hand.enter_ok (Hand.poss_enter h0)).1.2
  show (Hand.accR _ _).length ≤ maxLen
  rw [Hand.accR_length]
  simp only [maxLen]; omega
 ·
  exact Nat.zero_le _
end Go.Proofs.Ytdagijgoegkphaa.P

namespace Go.Proofs.Ytdagijgoegkphaa.P
open Go.RowKit Go.Proofs.YtdagijgoegkphaaW.PrintWords Go.Proofs.YtdagijgoegkphaaW.PrintLast Go.Proofs.YtdagijgoegkphaaW.PrintMore
attribute [local go_sem] max2_int min2_int max_two min_two max_three min_three max_four min_four   -- for this text's walks alone
def creep_Stretch.f (l0 : List (S47)) (l1 : List (S67)) (l2 : List S65) : Option (Int × Int × Int) := some (Hand.stretchV (toRg l0) (toRn l1) (toSg l2))
theorem creep_Stretch.calls (A0 : Option Addr) (c0 : Nat) (l0 : List (S47)) (A1 : Option Addr) (c1 : Nat) (l1 : List (S67)) (A2 : Option Addr) (c2 : Nat) (l2 : List S65) (r1 : Int) (r2 : Int) (r3 : Int) (w : World) (hr0 : Kd.C k47 w A0 l0.length l0) (hc0 : l0.length ≤ c0) (hr1 : Kd.C k67 w A1 l1.length l1) (hc1 : l1.length ≤ c1) (hr2 : Kd.C k65 w A2 l2.length l2) (hc2 : l2.length ≤ c2) (h : creep_Stretch.f l0 l1 l2 = some (r1, r2, r3)) :
  Calls Try.prog 25 #[.agg #[.slice A0 l0.length c0], .slice A1 l1.length c1, .slice A2 l2.length c2] w fun e w' => e = .returned (.tuple #[.agg #[.int .i64 r1, .int .i64 r2], .int .i64 r3]) ∧ Below w.heap.size w w' := by
 have hv := Option.some.inj h
 obtain ⟨rs, hb, hl, hr⟩ := runsAt_of_C hr1
 have := Hand.Stretch_any A0 c0 (toRg l0) A1 c1 rs A2 c2 (toSg l2) w (rgAt_of_C hr0) hr (sgAt_of_C hr2) (by rw [toRg_length]; exact hr0.2.1) (by rw [hl]; exact hr1.2.1) (by rw [toSg_length]; exact hr2.2.1)
 rw [← Hand.bare_stretch, hb, hv, toRg_length, hl, toSg_length] at this
 exact this
end Go.Proofs.Ytdagijgoegkphaa.P

namespace Go.Proofs.Ytdagijgoegkphaa.P
open Go.RowKit Go.Proofs.YtdagijgoegkphaaW.PrintWords Go.Proofs.YtdagijgoegkphaaW.PrintLast Go.Proofs.YtdagijgoegkphaaW.PrintMore
attribute [local go_sem] max2_int min2_int max_two min_two max_three min_three max_four min_four   -- for this text's walks alone
def creep_Life.f (l0 : List (S47)) (l1 : List (S67)) (a2 : Int) (a3 : Int) : Option (Int × Int × Int) := some (Hand.lifeV (toRg l0) (toRn l1) a2 a3)
theorem creep_Life.calls (A0 : Option Addr) (c0 : Nat) (l0 : List (S47)) (A1 : Option Addr) (c1 : Nat) (l1 : List (S67)) (a2 : Int) (a3 : Int) (r1 : Int) (r2 : Int) (r3 : Int) (w : World) (hr0 : Kd.C k47 w A0 l0.length l0) (hc0 : l0.length ≤ c0) (hr1 : Kd.C k67 w A1 l1.length l1) (hc1 : l1.length ≤ c1) (h : creep_Life.f l0 l1 a2 a3 = some (r1, r2, r3)) :
  Calls Try.prog 29 #[.agg #[.slice A0 l0.length c0], .slice A1 l1.length c1, .int .i64 a2, .int .i64 a3] w fun e w' => e = .returned (.tuple #[.agg #[.int .i64 r1, .int .i64 r2], .int .i64 r3]) ∧ Below w.heap.size w w' := by
 have hv := Option.some.inj h
 obtain ⟨rs, hb, hl, hr⟩ := runsAt_of_C hr1
 have := Hand.Life_any A0 c0 (toRg l0) A1 c1 rs a2 a3 w (rgAt_of_C hr0) hr (by rw [toRg_length]; exact hr0.2.1) (by rw [hl]; exact hr1.2.1)
 rw [toRg_length, hl] at this
 refine this.mono ?_
 rintro e w' ⟨rfl, hbel⟩
 rw [← Hand.bare_life, hb, hv]
 exact ⟨rfl, hbel⟩
end Go.Proofs.Ytdagijgoegkphaa.P

namespace Go.Proofs.Ytdagijgoegkphaa.P
open Go.RowKit Go.Proofs.YtdagijgoegkphaaW.PrintWords Go.Proofs.YtdagijgoegkphaaW.PrintLast Go.Proofs.YtdagijgoegkphaaW.PrintMore
open Go.Proofs.YtdagijgoegkphaaW.PrintWords renaming blk_drewN → b0, blk_drew → b1, blk_alloc → b2, below_set → b3, blk_cell → b4, pw_below_drewN → b6, below_drew1 → b7, below_alloc → b8, blk_frozen → b9, below_size → b12, below_step → b13
attribute [local go_sem] max2_int min2_int max_two min_two max_three min_three max_four min_four   -- for this text's walks alone
def tensilelaw05_between.f (a0 : Int) (a1 : Int) : Option (Int × Int) := some (a0, a1)
set_option maxHeartbeats 8000000 in
set_option maxRecDepth 100000 in
theorem tensilelaw05_between.calls (a0 : Int) (a1 : Int) (r1 : Int) (r2 : Int) (w : World) (h : tensilelaw05_between.f a0 a1 = some (r1, r2)) :
  Calls Try.prog 33 #[.int .i64 a0, .int .i64 a1] w fun e w' => e = .returned (.agg #[.int .i64 r1, .int .i64 r2]) ∧ Below w.heap.size w w' := by
 have hu47 := Try.underlying47
 have HB := Aside0.mk (Below.refl w.heap.size w)
 have H : (some (a0, a1)) = some (r1, r2) := h
 clear h
 simp only [Option.some.injEq, Prod.mk.injEq] at H
 obtain ⟨rfl, rfl⟩ := H
 go_enter Try.func33, Try.ntmps33
 go_wp2_with (first | ((with_reducible refine gate_dst (N := 4) rfl ?_); refine box_event ?hg (N := 4) ?hd (cs := #[.int .i64 0, .int .i64 0]) (t := 47) ?hr ?_; (case hd => rfl); (case hg => rfl); (case hr => first | (go_simp; done) | (go_simp; rfl)); intro gb104 hg w3 hbox hb; have n0_ := Aside0.mk (b13 (by repeat (first | (with_reducible first | exact HB.out | apply b8 | apply b6 | apply b7) | exact HB.out)) hb); have n1_ := Aside0.mk (hbox); have n2_ := Aside0.mk ((by rw [hg]; exact (b12 (by repeat (first | (with_reducible first | exact HB.out | apply b8 | apply b6 | apply b7) | exact HB.out))) : w.heap.size ≤ gb104)); have n3_ := Aside0.mk ((by rw [hg]; exact (b12 (by repeat (first | (with_reducible first | exact HB.out | apply b8 | apply b6 | apply b7) | exact HB.out))) : w.heap.size ≤ gb104)); clear HB; have HB := n0_; have BK104 := n1_; have GW104 := n2_; have GE104 := n3_; clear n0_ n1_ n2_ n3_; clear hb hbox hg; have hcz4_0 : w3.cell? ⟨gb104, 0, none⟩ = some (.int .i64 0) := (b4 BK104.out 0).trans rfl; have hcz4_1 : w3.cell? ⟨gb104, 1, none⟩ = some (.int .i64 0) := (b4 BK104.out 1).trans rfl; have hfz4_0 := b9 BK104.out 0; have hfz4_1 := b9 BK104.out 1))
 refine bodyPost_ret (results_cell_row rfl _ _ gb104 47 #[.int .i64 a0, .int .i64 a1] (0, 0) _ rfl (by (with_reducible repeat (first | refine b0 ?_ _ | refine b1 ?_ | refine b2 ?_ _)); refine blk_put (cs := #[.int .i64 a0, .int .i64 0]) ?_ 1 _ rfl; (with_reducible repeat (first | refine b0 ?_ _ | refine b1 ?_ | refine b2 ?_ _)); refine blk_put (cs := #[.int .i64 0, .int .i64 0]) ?_ 0 _ rfl; (with_reducible repeat (first | refine b0 ?_ _ | refine b1 ?_ | refine b2 ?_ _)); exact BK104.out) Try.underlying47 rfl (by kernel_rfl)) rfl ?_
 exact ⟨by first | rfl | (simp [errW_none, errW_some] <;> rfl) | (simp [*, errW_none, errW_some] <;> rfl), by repeat (first | (with_reducible first | exact HB.out | apply b8 | apply b6 | apply b7 | refine b3 ?_ GE104.out) | exact HB.out)⟩
end Go.Proofs.Ytdagijgoegkphaa.P

namespace Go.Proofs.Ytdagijgoegkphaa.P
open Go.RowKit Go.Proofs.YtdagijgoegkphaaW.PrintWords Go.Proofs.YtdagijgoegkphaaW.PrintLast Go.Proofs.YtdagijgoegkphaaW.PrintMore
open Go.Proofs.YtdagijgoegkphaaW.PrintWords renaming blk_drewN → b0, blk_drew → b1, blk_alloc → b2, below_set → b3, blk_cell → b4, blk_below → b5, pw_below_drewN → b6, below_drew1 → b7, below_alloc → b8, blk_frozen → b9, below_size → b12, below_step → b13
open Go.Proofs.YtdagijgoegkphaaW.PrintWords.Kd renaming R_alloc → k0, R_drewN → k1, R_drew → k2, R_far → k8, R_mono → k10, R_types → k11, R_lower → k12
attribute [local go_sem] max2_int min2_int max_two min_two max_three min_three max_four min_four   -- for this text's walks alone
def tensilelaw05_hot.f  : Option ((List (S47))) := (tensilelaw05_between.f 1 3).bind fun bt106 => ((tensilelaw05_between.f 2 8).bind fun bt108 => (some (([(⟨bt106.1, bt106.2⟩ : S47), (⟨bt108.1, bt108.2⟩ : S47)] : List (S47)))))
set_option maxHeartbeats 8000000 in
set_option maxRecDepth 100000 in
theorem tensilelaw05_hot.calls  (r : List (S47)) (w : World) (h : tensilelaw05_hot.f  = some r) :
  Calls Try.prog 31 #[] w fun e w' => ∃ v0_ : Value, e = .returned (.agg #[v0_]) ∧ Kd.R k47 47 w' w.heap.size (fun _ => True) v0_ r ∧ Below w.heap.size w w' := by
 have hu39 := Try.underlying39
 have HB := Aside0.mk (Below.refl w.heap.size w)
 have H : ((tensilelaw05_between.f 1 3).bind fun bt106 => ((tensilelaw05_between.f 2 8).bind fun bt108 => (some (([(⟨bt106.1, bt106.2⟩ : S47), (⟨bt108.1, bt108.2⟩ : S47)] : List (S47)))))) = some r := h
 clear h
 replace H := Option.bind_eq_some_iff.mp H
 obtain ⟨⟨t106, t107⟩, A10, H⟩ := H
 replace H : ((tensilelaw05_between.f 2 8).bind fun bt108 => (some (([(⟨t106, t107⟩ : S47), (⟨bt108.1, bt108.2⟩ : S47)] : List (S47))))) = some r := H
 have A1 := Aside0.mk A10
 clear A10
 replace H := Option.bind_eq_some_iff.mp H
 obtain ⟨⟨t108, t109⟩, A20, H⟩ := H
 replace H : (some (([(⟨t106, t107⟩ : S47), (⟨t108, t109⟩ : S47)] : List (S47)))) = some r := H
 have A2 := Aside0.mk A20
 clear A20
 obtain ⟨y110, hy110⟩ : ∃ y_ : List (S47), y_ = (([(⟨t106, t107⟩ : S47), (⟨t108, t109⟩ : S47)] : List (S47))) := ⟨_, rfl⟩
 replace H : (some y110) = some r := by first | (rw [hy110]; with_reducible exact H) | (have H2_ := (Option.bind_some _ _).symm.trans H; rw [hy110]; with_reducible exact H2_) | (have H2_ := (Option.bind_some _ _).symm.trans H; with_reducible exact H2_) | with_reducible exact H | (rw [hy110]; exact H) | exact H
 have Ny110 := Aside0.mk hy110
 clear hy110
 obtain rfl := Option.some.inj H
 go_enter Try.func31, Try.ntmps31
 go_wp2_with (first | ((with_reducible refine gate_dst (N := 0) rfl ?_); refine box_event ?hg (N := 0) ?hd (cs := #[.slice none 0 0]) (t := 39) ?hr ?_; (case hd => rfl); (case hg => rfl); (case hr => first | (go_simp; done) | (go_simp; rfl)); intro gb105 hg w3 hbox hb; have n0_ := Aside0.mk (b13 (by repeat (first | (with_reducible first | exact HB.out | apply b8 | apply b6 | apply b7) | exact HB.out)) hb); have n1_ := Aside0.mk (hbox); have n2_ := Aside0.mk ((by rw [hg]; exact (b12 (by repeat (first | (with_reducible first | exact HB.out | apply b8 | apply b6 | apply b7) | exact HB.out))) : w.heap.size ≤ gb105)); have n3_ := Aside0.mk ((by rw [hg]; exact (b12 (by repeat (first | (with_reducible first | exact HB.out | apply b8 | apply b6 | apply b7) | exact HB.out))) : w.heap.size ≤ gb105)); clear HB; have HB := n0_; have BK105 := n1_; have GW105 := n2_; have GE105 := n3_; clear n0_ n1_ n2_ n3_; clear hb hbox hg) | ((with_reducible refine gate_callee (f := 33) rfl ?_); refine goesL_ (some 1) rfl rfl Try.func33 (by kernel_rfl) rfl #[.int .i64 1, .int .i64 3] rfl (by (try simp only [List.map_toArray, List.map_cons, List.map_nil]); first | done | rfl | (simp only [List.length_drop, List.length_take]; rfl)) ?_; (with_reducible refine (tensilelaw05_between.calls 1 3 t106 t107 _ A1.out).mono ?_); rintro e w4 ⟨rfl, hb⟩; refine ⟨_, rfl, ?_⟩; have n0_ := Aside0.mk (b5 (g := gb105) (o := .cells #[.slice none 0 0] 39 (0, 0)) (by (with_reducible repeat (first | refine b0 ?_ _ | refine b1 ?_ | refine b2 ?_ _)); exact BK105.out) hb); have n1_ := Aside0.mk (b13 (by repeat (first | (with_reducible first | exact HB.out | apply b8 | apply b6 | apply b7 | refine b3 ?_ GE105.out) | exact HB.out)) hb); clear BK105; clear HB; have BK105 := n0_; have HB := n1_; clear n0_ n1_; (try clear hb); (try clear hb2); (try clear hk); (try clear hi)) | ((with_reducible refine gate_callee (f := 33) rfl ?_); refine goesL_ (some 2) rfl rfl Try.func33 (by kernel_rfl) rfl #[.int .i64 2, .int .i64 8] rfl (by (try simp only [List.map_toArray, List.map_cons, List.map_nil]); first | done | rfl | (simp only [List.length_drop, List.length_take]; rfl)) ?_; (with_reducible refine (tensilelaw05_between.calls 2 8 t108 t109 _ A2.out).mono ?_); rintro e w5 ⟨rfl, hb⟩; refine ⟨_, rfl, ?_⟩; have n0_ := Aside0.mk (b5 (g := gb105) (o := .cells #[.slice none 0 0] 39 (0, 0)) (by (with_reducible repeat (first | refine b0 ?_ _ | refine b1 ?_ | refine b2 ?_ _)); exact BK105.out) hb); have n1_ := Aside0.mk (b13 (by repeat (first | (with_reducible first | exact HB.out | apply b8 | apply b6 | apply b7 | refine b3 ?_ GE105.out) | exact HB.out)) hb); clear BK105; clear HB; have BK105 := n0_; have HB := n1_; clear n0_ n1_; (try clear hb); (try clear hb2); (try clear hk); (try clear hi)) | ((with_reducible refine gate_dst (N := 3) rfl ?_); refine Kd.R_lit k47 _ 47 ?hg (N := 3) ?hd (xs := ([(⟨t106, t107⟩ : S47), (⟨t108, t109⟩ : S47)] : List (S47))) (inner := [.int .i64 t106, .int .i64 t107, .int .i64 t108, .int .i64 t109]) (ok := fun _ => True) (okp := fun _ => True) ?hr ?hp (fun _ hk => hk) trivial (Below.refl _ _) (Nat.le_refl _) (by simp) ?_; (case hd => rfl); (case hg => rfl); (case hr => first | (go_simp; done) | (go_simp; rfl)); (case hp => exact (Reps.c2 (show Kd.M k47 _ _ _ (⟨t106, t107⟩ : S47) [.int .i64 t106, .int .i64 t107] from (k47_mkM _ _ _ (⟨t106, t107⟩ : S47) )) (Reps.c2 (show Kd.M k47 _ _ _ (⟨t108, t109⟩ : S47) [.int .i64 t108, .int .i64 t109] from (k47_mkM _ _ _ (⟨t108, t109⟩ : S47) )) (Reps.none _ _)))); intro v111 w6 ho7 hb hg_ hnew_; clear hg_ hnew_; (first | rw [← Ny110.out] at ho7 | (simp only [Int.reduceToNat] at ho7; rw [← Ny110.out] at ho7)); have n0_ := Aside0.mk (k12 ho7 (b12 (by repeat (first | (with_reducible first | exact HB.out | apply b8 | apply b6 | apply b7 | refine b3 ?_ GE105.out) | exact HB.out)))); have n1_ := Aside0.mk (b5 (g := gb105) (o := .cells #[.slice none 0 0] 39 (0, 0)) (by (with_reducible repeat (first | refine b0 ?_ _ | refine b1 ?_ | refine b2 ?_ _)); exact BK105.out) hb); have n2_ := Aside0.mk (b13 (by repeat (first | (with_reducible first | exact HB.out | apply b8 | apply b6 | apply b7 | refine b3 ?_ GE105.out) | exact HB.out)) hb); clear BK105; clear HB; have HO112 := n0_; have BK105 := n1_; have HB := n2_; clear n0_ n1_ n2_; clear hb ho7; obtain ⟨Ao8, co8, eo8⟩ := Kd.R_slice HO112.out; subst eo8; have hcz9_0 : w6.cell? ⟨gb105, 0, none⟩ = some (.slice none 0 0) := (b4 BK105.out 0).trans rfl; have hfz9_0 := b9 BK105.out 0))
 refine bodyPost_ret (results_cell_row rfl _ _ gb105 39 #[.slice Ao8 y110.length co8] (0, 0) _ rfl (by (with_reducible repeat (first | refine b0 ?_ _ | refine b1 ?_ | refine b2 ?_ _)); refine blk_put (cs := #[.slice none 0 0]) ?_ 0 _ rfl; (with_reducible repeat (first | refine b0 ?_ _ | refine b1 ?_ | refine b2 ?_ _)); exact BK105.out) Try.underlying39 rfl (by kernel_rfl)) rfl ?_
 exact ⟨_, by first | rfl | (simp [errW_none, errW_some] <;> rfl) | (simp [*, errW_none, errW_some] <;> rfl), by (with_reducible repeat (first | apply k0 | apply k1 | apply k2)); exact k10 (k8 (p := ⟨gb105, 0, none⟩) (k11 HO112.out BK105.out (by decide)) (fun _ hk => hk.2) (.slice Ao8 y110.length co8)) (fun _ hk => trivial), by repeat (first | (with_reducible first | exact HB.out | apply b8 | apply b6 | apply b7 | refine b3 ?_ GE105.out) | exact HB.out)⟩
end Go.Proofs.Ytdagijgoegkphaa.P

namespace Go.Proofs.Ytdagijgoegkphaa.P
open Go.RowKit Go.Proofs.YtdagijgoegkphaaW.PrintWords Go.Proofs.YtdagijgoegkphaaW.PrintLast Go.Proofs.YtdagijgoegkphaaW.PrintMore
open Go.Proofs.YtdagijgoegkphaaW.PrintWords renaming pw_below_drewN → b6, below_drew1 → b7, below_alloc → b8, below_size → b12, below_step → b13
open Go.Proofs.YtdagijgoegkphaaW.PrintWords.Kd renaming R_alloc → k0, R_drewN → k1, R_drew → k2, R_below → k3, R_new' → k4, R_lt → k5, R_elder' → k6, R_base → k7, R_reads' → k9, R_mono → k10, R_lower → k12
attribute [local go_sem] max2_int min2_int max_two min_two max_three min_three max_four min_four   -- for this text's walks alone
def tensilelaw05_made.f  : Option ((List (S67))) := (tensilelaw05_between.f 100 100).bind fun bt113 => ((tensilelaw05_between.f 10 10).bind fun bt115 => ((tensilelaw05_between.f 220 250).bind fun bt120 => ((tensilelaw05_between.f 20 30).bind fun bt122 => ((tensilelaw05_between.f 90 100).bind fun bt127 => (some (([(⟨(([(⟨0, (⟨bt113.1, bt113.2⟩ : S47)⟩ : S65), (⟨1, (⟨bt115.1, bt115.2⟩ : S47)⟩ : S65)] : List (S65))), (⟨bt120.1, bt120.2⟩ : S47)⟩ : S67), (⟨(([(⟨1, (⟨bt122.1, bt122.2⟩ : S47)⟩ : S65)] : List (S65))), (⟨bt127.1, bt127.2⟩ : S47)⟩ : S67)] : List (S67))))))))
set_option maxHeartbeats 8000000 in
set_option maxRecDepth 100000 in
theorem tensilelaw05_made.calls  (r : List (S67)) (w : World) (h : tensilelaw05_made.f  = some r) :
  Calls Try.prog 32 #[] w fun e w' => ∃ v0_ : Value, e = .returned (v0_) ∧ Kd.N k67 67 w' w.heap.size (fun k_ => (w.heap.size ≤ k_)) v0_ r ∧ Below w.heap.size w w' := by
 have hu65 := Try.underlying65
 have hu67 := Try.underlying67
 have HB := Aside0.mk (Below.refl w.heap.size w)
 have H : ((tensilelaw05_between.f 100 100).bind fun bt113 => ((tensilelaw05_between.f 10 10).bind fun bt115 => ((tensilelaw05_between.f 220 250).bind fun bt120 => ((tensilelaw05_between.f 20 30).bind fun bt122 => ((tensilelaw05_between.f 90 100).bind fun bt127 => (some (([(⟨(([(⟨0, (⟨bt113.1, bt113.2⟩ : S47)⟩ : S65), (⟨1, (⟨bt115.1, bt115.2⟩ : S47)⟩ : S65)] : List (S65))), (⟨bt120.1, bt120.2⟩ : S47)⟩ : S67), (⟨(([(⟨1, (⟨bt122.1, bt122.2⟩ : S47)⟩ : S65)] : List (S65))), (⟨bt127.1, bt127.2⟩ : S47)⟩ : S67)] : List (S67))))))))) = some r := h
 clear h
 replace H := Option.bind_eq_some_iff.mp H
 obtain ⟨⟨t113, t114⟩, A10, H⟩ := H
 replace H : ((tensilelaw05_between.f 10 10).bind fun bt115 => ((tensilelaw05_between.f 220 250).bind fun bt120 => ((tensilelaw05_between.f 20 30).bind fun bt122 => ((tensilelaw05_between.f 90 100).bind fun bt127 => (some (([(⟨(([(⟨0, (⟨t113, t114⟩ : S47)⟩ : S65), (⟨1, (⟨bt115.1, bt115.2⟩ : S47)⟩ : S65)] : List (S65))), (⟨bt120.1, bt120.2⟩ : S47)⟩ : S67), (⟨(([(⟨1, (⟨bt122.1, bt122.2⟩ : S47)⟩ : S65)] : List (S65))), (⟨bt127.1, bt127.2⟩ : S47)⟩ : S67)] : List (S67)))))))) = some r := H
 have A1 := Aside0.mk A10
 clear A10
 replace H := Option.bind_eq_some_iff.mp H
 obtain ⟨⟨t115, t116⟩, A20, H⟩ := H
 replace H : ((tensilelaw05_between.f 220 250).bind fun bt120 => ((tensilelaw05_between.f 20 30).bind fun bt122 => ((tensilelaw05_between.f 90 100).bind fun bt127 => (some (([(⟨(([(⟨0, (⟨t113, t114⟩ : S47)⟩ : S65), (⟨1, (⟨t115, t116⟩ : S47)⟩ : S65)] : List (S65))), (⟨bt120.1, bt120.2⟩ : S47)⟩ : S67), (⟨(([(⟨1, (⟨bt122.1, bt122.2⟩ : S47)⟩ : S65)] : List (S65))), (⟨bt127.1, bt127.2⟩ : S47)⟩ : S67)] : List (S67))))))) = some r := H
 have A2 := Aside0.mk A20
 clear A20
 obtain ⟨y117, hy117⟩ : ∃ y_ : List (S65), y_ = (([(⟨0, (⟨t113, t114⟩ : S47)⟩ : S65), (⟨1, (⟨t115, t116⟩ : S47)⟩ : S65)] : List (S65))) := ⟨_, rfl⟩
 replace H : ((tensilelaw05_between.f 220 250).bind fun bt120 => ((tensilelaw05_between.f 20 30).bind fun bt122 => ((tensilelaw05_between.f 90 100).bind fun bt127 => (some (([(⟨y117, (⟨bt120.1, bt120.2⟩ : S47)⟩ : S67), (⟨(([(⟨1, (⟨bt122.1, bt122.2⟩ : S47)⟩ : S65)] : List (S65))), (⟨bt127.1, bt127.2⟩ : S47)⟩ : S67)] : List (S67))))))) = some r := by first | (rw [hy117]; with_reducible exact H) | (have H2_ := (Option.bind_some _ _).symm.trans H; rw [hy117]; with_reducible exact H2_) | (have H2_ := (Option.bind_some _ _).symm.trans H; with_reducible exact H2_) | with_reducible exact H | (rw [hy117]; exact H) | exact H
 have Ny117 := Aside0.mk hy117
 clear hy117
 replace H := Option.bind_eq_some_iff.mp H
 obtain ⟨⟨t120, t121⟩, A30, H⟩ := H
 replace H : ((tensilelaw05_between.f 20 30).bind fun bt122 => ((tensilelaw05_between.f 90 100).bind fun bt127 => (some (([(⟨y117, (⟨t120, t121⟩ : S47)⟩ : S67), (⟨(([(⟨1, (⟨bt122.1, bt122.2⟩ : S47)⟩ : S65)] : List (S65))), (⟨bt127.1, bt127.2⟩ : S47)⟩ : S67)] : List (S67)))))) = some r := H
 have A3 := Aside0.mk A30
 clear A30
 replace H := Option.bind_eq_some_iff.mp H
 obtain ⟨⟨t122, t123⟩, A40, H⟩ := H
 replace H : ((tensilelaw05_between.f 90 100).bind fun bt127 => (some (([(⟨y117, (⟨t120, t121⟩ : S47)⟩ : S67), (⟨(([(⟨1, (⟨t122, t123⟩ : S47)⟩ : S65)] : List (S65))), (⟨bt127.1, bt127.2⟩ : S47)⟩ : S67)] : List (S67))))) = some r := H
 have A4 := Aside0.mk A40
 clear A40
 obtain ⟨y124, hy124⟩ : ∃ y_ : List (S65), y_ = (([(⟨1, (⟨t122, t123⟩ : S47)⟩ : S65)] : List (S65))) := ⟨_, rfl⟩
 replace H : ((tensilelaw05_between.f 90 100).bind fun bt127 => (some (([(⟨y117, (⟨t120, t121⟩ : S47)⟩ : S67), (⟨y124, (⟨bt127.1, bt127.2⟩ : S47)⟩ : S67)] : List (S67))))) = some r := by first | (rw [hy124]; with_reducible exact H) | (have H2_ := (Option.bind_some _ _).symm.trans H; rw [hy124]; with_reducible exact H2_) | (have H2_ := (Option.bind_some _ _).symm.trans H; with_reducible exact H2_) | with_reducible exact H | (rw [hy124]; exact H) | exact H
 have Ny124 := Aside0.mk hy124
 clear hy124
 replace H := Option.bind_eq_some_iff.mp H
 obtain ⟨⟨t127, t128⟩, A50, H⟩ := H
 replace H : (some (([(⟨y117, (⟨t120, t121⟩ : S47)⟩ : S67), (⟨y124, (⟨t127, t128⟩ : S47)⟩ : S67)] : List (S67)))) = some r := H
 have A5 := Aside0.mk A50
 clear A50
 obtain ⟨y129, hy129⟩ : ∃ y_ : List (S67), y_ = (([(⟨y117, (⟨t120, t121⟩ : S47)⟩ : S67), (⟨y124, (⟨t127, t128⟩ : S47)⟩ : S67)] : List (S67))) := ⟨_, rfl⟩
 replace H : (some y129) = some r := by first | (rw [hy129]; with_reducible exact H) | (have H2_ := (Option.bind_some _ _).symm.trans H; rw [hy129]; with_reducible exact H2_) | (have H2_ := (Option.bind_some _ _).symm.trans H; with_reducible exact H2_) | with_reducible exact H | (rw [hy129]; exact H) | exact H
 have Ny129 := Aside0.mk hy129
 clear hy129
 obtain rfl := Option.some.inj H
 go_enter Try.func32, Try.ntmps32
 go_wp2_with (first | ((with_reducible refine gate_callee (f := 33) rfl ?_); refine goesL_ (some 1) rfl rfl Try.func33 (by kernel_rfl) rfl #[.int .i64 100, .int .i64 100] rfl (by (try simp only [List.map_toArray, List.map_cons, List.map_nil]); first | done | rfl | (simp only [List.length_drop, List.length_take]; rfl)) ?_; (with_reducible refine (tensilelaw05_between.calls 100 100 t113 t114 _ A1.out).mono ?_); rintro e w6 ⟨rfl, hb⟩; refine ⟨_, rfl, ?_⟩; have n0_ := Aside0.mk (b13 (by repeat (first | (with_reducible first | exact HB.out | apply b8 | apply b6 | apply b7) | exact HB.out)) hb); clear HB; have HB := n0_; clear n0_; (try clear hb); (try clear hb2); (try clear hk); (try clear hi)) | ((with_reducible refine gate_callee (f := 33) rfl ?_); refine goesL_ (some 3) rfl rfl Try.func33 (by kernel_rfl) rfl #[.int .i64 10, .int .i64 10] rfl (by (try simp only [List.map_toArray, List.map_cons, List.map_nil]); first | done | rfl | (simp only [List.length_drop, List.length_take]; rfl)) ?_; (with_reducible refine (tensilelaw05_between.calls 10 10 t115 t116 _ A2.out).mono ?_); rintro e w7 ⟨rfl, hb⟩; refine ⟨_, rfl, ?_⟩; have n0_ := Aside0.mk (b13 (by repeat (first | (with_reducible first | exact HB.out | apply b8 | apply b6 | apply b7) | exact HB.out)) hb); clear HB; have HB := n0_; clear n0_; (try clear hb); (try clear hb2); (try clear hk); (try clear hi)) | ((with_reducible refine gate_dst (N := 5) rfl ?_); refine Kd.R_lit k65 _ 65 ?hg (N := 5) ?hd (xs := ([(⟨0, (⟨t113, t114⟩ : S47)⟩ : S65), (⟨1, (⟨t115, t116⟩ : S47)⟩ : S65)] : List (S65))) (inner := [.int .i64 0, .int .i64 t113, .int .i64 t114, .int .i64 1, .int .i64 t115, .int .i64 t116]) (ok := fun _ => True) (okp := fun _ => True) ?hr ?hp (fun _ hk => hk) trivial (Below.refl _ _) (Nat.le_refl _) (by simp) ?_; (case hd => rfl); (case hg => rfl); (case hr => first | (go_simp; done) | (go_simp; rfl)); (case hp => exact (Reps.c3 (show Kd.M k65 _ _ _ (⟨0, (⟨t113, t114⟩ : S47)⟩ : S65) [.int .i64 0, .int .i64 t113, .int .i64 t114] from (k65_mkM _ _ _ (⟨0, (⟨t113, t114⟩ : S47)⟩ : S65) )) (Reps.c3 (show Kd.M k65 _ _ _ (⟨1, (⟨t115, t116⟩ : S47)⟩ : S65) [.int .i64 1, .int .i64 t115, .int .i64 t116] from (k65_mkM _ _ _ (⟨1, (⟨t115, t116⟩ : S47)⟩ : S65) )) (Reps.none _ _)))); intro v118 w8 ho9 hb hg_ hnew_; clear hg_ hnew_; (first | rw [← Ny117.out] at ho9 | (simp only [Int.reduceToNat] at ho9; rw [← Ny117.out] at ho9)); have n0_ := Aside0.mk (k12 (Kd.R_newM (M := fun k_ => (w.heap.size ≤ k_)) ho9 (b12 (by repeat (first | (with_reducible first | exact HB.out | apply b8 | apply b6 | apply b7) | exact HB.out))) (fun k_ h_ => h_)) (b12 (by repeat (first | (with_reducible first | exact HB.out | apply b8 | apply b6 | apply b7) | exact HB.out)))); have n1_ := Aside0.mk (b13 (by repeat (first | (with_reducible first | exact HB.out | apply b8 | apply b6 | apply b7) | exact HB.out)) hb); clear HB; have HO119 := n0_; have HB := n1_; clear n0_ n1_; clear hb ho9) | ((with_reducible refine gate_callee (f := 33) rfl ?_); refine goesL_ (some 6) rfl rfl Try.func33 (by kernel_rfl) rfl #[.int .i64 220, .int .i64 250] rfl (by (try simp only [List.map_toArray, List.map_cons, List.map_nil]); first | done | rfl | (simp only [List.length_drop, List.length_take]; rfl)) ?_; (with_reducible refine (tensilelaw05_between.calls 220 250 t120 t121 _ A3.out).mono ?_); rintro e w10 ⟨rfl, hb⟩; refine ⟨_, rfl, ?_⟩; have n0_ := Aside0.mk (k3 (by (with_reducible repeat (first | apply k0 | apply k1 | apply k2)); exact HO119.out) hb); have n1_ := Aside0.mk (b13 (by repeat (first | (with_reducible first | exact HB.out | apply b8 | apply b6 | apply b7) | exact HB.out)) hb); clear HO119; clear HB; have HO119 := n0_; have HB := n1_; clear n0_ n1_; (try clear hb); (try clear hb2); (try clear hk); (try clear hi); obtain ⟨Ao11, co11, eo11⟩ := Kd.R_slice HO119.out; subst eo11) | ((with_reducible refine gate_callee (f := 33) rfl ?_); refine goesL_ (some 8) rfl rfl Try.func33 (by kernel_rfl) rfl #[.int .i64 20, .int .i64 30] rfl (by (try simp only [List.map_toArray, List.map_cons, List.map_nil]); first | done | rfl | (simp only [List.length_drop, List.length_take]; rfl)) ?_; (with_reducible refine (tensilelaw05_between.calls 20 30 t122 t123 _ A4.out).mono ?_); rintro e w12 ⟨rfl, hb⟩; refine ⟨_, rfl, ?_⟩; have n0_ := Aside0.mk (k3 (by (with_reducible repeat (first | apply k0 | apply k1 | apply k2)); exact HO119.out) hb); have n1_ := Aside0.mk (b13 (by repeat (first | (with_reducible first | exact HB.out | apply b8 | apply b6 | apply b7) | exact HB.out)) hb); clear HO119; clear HB; have HO119 := n0_; have HB := n1_; clear n0_ n1_; (try clear hb); (try clear hb2); (try clear hk); (try clear hi)) | ((with_reducible refine gate_dst (N := 10) rfl ?_); refine Kd.R_lit k65 _ 65 ?hg (N := 10) ?hd (xs := ([(⟨1, (⟨t122, t123⟩ : S47)⟩ : S65)] : List (S65))) (inner := [.int .i64 1, .int .i64 t122, .int .i64 t123]) (ok := fun _ => True) (okp := fun _ => True) ?hr ?hp (fun _ hk => hk) trivial (Below.refl _ _) (Nat.le_refl _) (by simp) ?_; (case hd => rfl); (case hg => rfl); (case hr => first | (go_simp; done) | (go_simp; rfl)); (case hp => exact (Reps.c3 (show Kd.M k65 _ _ _ (⟨1, (⟨t122, t123⟩ : S47)⟩ : S65) [.int .i64 1, .int .i64 t122, .int .i64 t123] from (k65_mkM _ _ _ (⟨1, (⟨t122, t123⟩ : S47)⟩ : S65) )) (Reps.none _ _))); intro v125 w13 ho14 hb hg_ hnew_; clear hg_ hnew_; (first | rw [← Ny124.out] at ho14 | (simp only [Int.reduceToNat] at ho14; rw [← Ny124.out] at ho14)); have n0_ := Aside0.mk (k6 (by (with_reducible repeat (first | apply k0 | apply k1 | apply k2)); exact HO119.out) (k7 ho14) hb); have n1_ := Aside0.mk (k12 (k4 (Kd.R_newM (M := fun k_ => (w.heap.size ≤ k_)) ho14 (b12 (by repeat (first | (with_reducible first | exact HB.out | apply b8 | apply b6 | apply b7) | exact HB.out))) (fun k_ h_ => h_)) (k5 (by (with_reducible repeat (first | apply k0 | apply k1 | apply k2)); exact HO119.out))) (b12 (by repeat (first | (with_reducible first | exact HB.out | apply b8 | apply b6 | apply b7) | exact HB.out)))); have n2_ := Aside0.mk (b13 (by repeat (first | (with_reducible first | exact HB.out | apply b8 | apply b6 | apply b7) | exact HB.out)) hb); clear HO119; clear HB; have HO119 := n0_; have HO126 := n1_; have HB := n2_; clear n0_ n1_ n2_; clear hb ho14) | ((with_reducible refine gate_callee (f := 33) rfl ?_); refine goesL_ (some 11) rfl rfl Try.func33 (by kernel_rfl) rfl #[.int .i64 90, .int .i64 100] rfl (by (try simp only [List.map_toArray, List.map_cons, List.map_nil]); first | done | rfl | (simp only [List.length_drop, List.length_take]; rfl)) ?_; (with_reducible refine (tensilelaw05_between.calls 90 100 t127 t128 _ A5.out).mono ?_); rintro e w15 ⟨rfl, hb⟩; refine ⟨_, rfl, ?_⟩; have n0_ := Aside0.mk (k3 (by (with_reducible repeat (first | apply k0 | apply k1 | apply k2)); exact HO119.out) hb); have n1_ := Aside0.mk (k3 (by (with_reducible repeat (first | apply k0 | apply k1 | apply k2)); exact HO126.out) hb); have n2_ := Aside0.mk (b13 (by repeat (first | (with_reducible first | exact HB.out | apply b8 | apply b6 | apply b7) | exact HB.out)) hb); clear HO119; clear HO126; clear HB; have HO119 := n0_; have HO126 := n1_; have HB := n2_; clear n0_ n1_ n2_; (try clear hb); (try clear hb2); (try clear hk); (try clear hi); obtain ⟨Ao16, co16, eo16⟩ := Kd.R_slice HO126.out; subst eo16) | ((with_reducible refine gate_dst (N := 13) rfl ?_); refine Kd.N_lit k67 _ 67 ?hg (N' := 13) ?hd (xs := ([(⟨y117, (⟨t120, t121⟩ : S47)⟩ : S67), (⟨y124, (⟨t127, t128⟩ : S47)⟩ : S67)] : List (S67))) (inner := [.slice Ao11 y117.length co11, .int .i64 t120, .int .i64 t121, .slice Ao16 y124.length co16, .int .i64 t127, .int .i64 t128]) (ok := (fun k_ => (w.heap.size ≤ k_))) (okp := (fun k_ => (w.heap.size ≤ k_))) ?hr ?hp (fun _ hk => hk) ((show ∀ k_, w15.heap.size ≤ k_ → (fun k_ => (w.heap.size ≤ k_)) k_ from fun k_ hk => (Nat.le_trans (b12 (by repeat (first | (with_reducible first | exact HB.out | apply b8 | apply b6 | apply b7) | exact HB.out))) hk)) _ (Nat.le_refl _)) (Below.refl _ _) (Nat.le_refl _) (by simp) ?_; (case hd => rfl); (case hg => rfl); (case hr => first | (go_simp; done) | (go_simp; rfl)); (case hp => exact (Reps.c3 (show Kd.FK k67 _ _ (⟨y117, (⟨t120, t121⟩ : S47)⟩ : S67) [.slice Ao11 y117.length co11, .int .i64 t120, .int .i64 t121] from (k67_mkF _ _ (⟨y117, (⟨t120, t121⟩ : S47)⟩ : S67) (k9 (k10 (ok' := (fun k_ => (w.heap.size ≤ k_))) (HO119.out) (fun k_ hk => hk.1.1))).2.1 (Kd.R_F (k10 (ok' := (fun k_ => (w.heap.size ≤ k_))) (HO119.out) (fun k_ hk => hk.1.1))))) (Reps.c3 (show Kd.FK k67 _ _ (⟨y124, (⟨t127, t128⟩ : S47)⟩ : S67) [.slice Ao16 y124.length co16, .int .i64 t127, .int .i64 t128] from (k67_mkF _ _ (⟨y124, (⟨t127, t128⟩ : S47)⟩ : S67) (k9 (k10 (ok' := (fun k_ => (w.heap.size ≤ k_))) (HO126.out) (fun k_ hk => hk.1.1))).2.1 (Kd.R_F (k10 (ok' := (fun k_ => (w.heap.size ≤ k_))) (HO126.out) (fun k_ hk => hk.1.1))))) (Reps.none _ _)))); intro v130 w17 ho18 hb hg_ hnew_; clear hg_ hnew_; (first | rw [← Ny129.out] at ho18 | (simp only [Int.reduceToNat] at ho18; rw [← Ny129.out] at ho18)); have n0_ := Aside0.mk (Kd.N_lower ho18 (b12 (by repeat (first | (with_reducible first | exact HB.out | apply b8 | apply b6 | apply b7) | exact HB.out)))); have n1_ := Aside0.mk (b13 (by repeat (first | (with_reducible first | exact HB.out | apply b8 | apply b6 | apply b7) | exact HB.out)) hb); clear HB; clear HO119; clear HO126; have HO131 := n0_; have HB := n1_; clear n0_ n1_; clear hb ho18))
 go_ret
 exact ⟨_, by first | rfl | (simp [errW_none, errW_some] <;> rfl) | (simp [*, errW_none, errW_some] <;> rfl), by (with_reducible repeat (first | apply Kd.N_alloc | apply Kd.N_drewN | apply Kd.N_drew)); exact HO131.out, by repeat (first | (with_reducible first | exact HB.out | apply b8 | apply b6 | apply b7) | exact HB.out)⟩
end Go.Proofs.Ytdagijgoegkphaa.P

namespace Go.Proofs.Ytdagijgoegkphaa.P
open Go.RowKit Go.Proofs.YtdagijgoegkphaaW.PrintWords Go.Proofs.YtdagijgoegkphaaW.PrintLast Go.Proofs.YtdagijgoegkphaaW.PrintMore
attribute [local go_sem] max2_int min2_int max_two min_two max_three min_three max_four min_four   -- for this text's walks alone
def creep_Shows.f (l0 : List (S47)) (l1 : List (S67)) (l2 : List S65) (a3 : Bool) : Option (List Int × Int) := some (Hand.showsV (toRg l0) (toRn l1) (toSg l2) a3)
theorem creep_Shows.calls (A0 : Option Addr) (c0 : Nat) (l0 : List (S47)) (A1 : Option Addr) (c1 : Nat) (l1 : List (S67)) (A2 : Option Addr) (c2 : Nat) (l2 : List S65) (a3 : Bool) (r1 : List Int) (r2 : Int) (w : World) (hr0 : Kd.C k47 w A0 l0.length l0) (hc0 : l0.length ≤ c0) (hr1 : Kd.C k67 w A1 l1.length l1) (hc1 : l1.length ≤ c1) (hr2 : Kd.C k65 w A2 l2.length l2) (hc2 : l2.length ≤ c2) (h : creep_Shows.f l0 l1 l2 a3 = some (r1, r2)) :
  Calls Try.prog 35 #[.agg #[.slice A0 l0.length c0], .slice A1 l1.length c1, .slice A2 l2.length c2, .bool a3] w fun e w' => ∃ v1_ : Value, e = .returned (.tuple #[v1_, .int .i64 r2]) ∧ Kd.R (Kd.int .i64) 3 w' w.heap.size (fun _ => True) v1_ r1 ∧ Below w.heap.size w w' := by
 have hv := Option.some.inj h
 obtain ⟨rs, hb, hl, hr⟩ := runsAt_of_C hr1
 have := Hand.Shows_any A0 c0 (toRg l0) A1 c1 rs A2 c2 (toSg l2) a3 w (rgAt_of_C hr0) hr (sgAt_of_C hr2) (by rw [toRg_length]; exact hr0.2.1) (by rw [hl]; exact hr1.2.1) (by rw [toSg_length]; exact hr2.2.1)
 rw [← Hand.bare_shows, hb, hv, toRg_length, hl, toSg_length] at this
 refine this.mono ?_
 rintro e w' ⟨v, rfl, hrow, hbel⟩
 exact ⟨v, rfl, Kd.R_of_own hrow (fun _ _ => trivial), hbel⟩
end Go.Proofs.Ytdagijgoegkphaa.P

namespace Go.Proofs.Ytdagijgoegkphaa.P
open Go.RowKit Go.Proofs.YtdagijgoegkphaaW.PrintWords Go.Proofs.YtdagijgoegkphaaW.PrintLast Go.Proofs.YtdagijgoegkphaaW.PrintMore
open Go.Proofs.YtdagijgoegkphaaW.PrintWords.Kd renaming C_below → k16
attribute [local go_sem] max2_int min2_int max_two min_two max_three min_three max_four min_four   -- for this text's walks alone
def exM : List S47 := [⟨1, 3⟩, ⟨2, 8⟩]
def exR : List S67 := [⟨[⟨0, ⟨100, 100⟩⟩, ⟨1, ⟨10, 10⟩⟩], ⟨220, 250⟩⟩, ⟨[⟨1, ⟨20, 30⟩⟩], ⟨90, 100⟩⟩]
def exP : List S65 := [⟨0, ⟨1000, 1000⟩⟩, ⟨1, ⟨10, 20⟩⟩]
theorem wakesHot : tensilelaw05_hot.f = some exM := by kernel_rfl
theorem wakesMade : tensilelaw05_made.f = some exR := by kernel_rfl
theorem wakesRates : creep_Rates.f exM exR = some ([⟨2, 2⟩, ⟨3, 5⟩], 3, 0) := by kernel_rfl
theorem wakesStretch : creep_Stretch.f exM exR exP = some (2030, 2100, 0) := by kernel_rfl
theorem wakesLife : creep_Life.f exM exR 1 1000 = some (200, 334, 0) := by kernel_rfl
theorem hotC (W : World) : Calls Try.prog 31 #[] W fun e w' => ∃ A c, e = .returned (.agg #[.slice A 2 c]) ∧ 2 ≤ c ∧ Kd.C k47 w' A 2 exM ∧ Below W.heap.size W w' := by
 refine (tensilelaw05_hot.calls exM W wakesHot).mono ?_
 rintro e w' ⟨v, rfl, hR, hb⟩
 obtain ⟨A, c, rfl, hc, hC⟩ := Kd.R_reads hR
 exact ⟨A, c, rfl, hc, hC, hb⟩
theorem madeC (W : World) : Calls Try.prog 32 #[] W fun e w' => ∃ A c, e = .returned (.slice A 2 c) ∧ 2 ≤ c ∧ Kd.C k67 w' A 2 exR ∧ Below W.heap.size W w' := by
 refine (tensilelaw05_made.calls exR W wakesMade).mono ?_
 rintro e w' ⟨v, rfl, hR, hb⟩
 obtain ⟨A, c, rfl, hc, hC⟩ := Kd.N_reads hR
 exact ⟨A, c, rfl, hc, hC, hb⟩
theorem planC {W : World} {b : Nat} (h : Hand.Blk W b #[.int .i64 0, .int .i64 1000, .int .i64 1000, .int .i64 1, .int .i64 10, .int .i64 20] 65) : Kd.C k65 W (some ⟨b, 0, none⟩) 2 exP := by
 refine ⟨rfl, by decide, fun _ => ⟨_, rfl, fun j p hp => ?_⟩⟩
 match j, hp with
 | 0, hp =>
  obtain rfl := Option.some.inj hp
  refine ⟨_, rfl, k65_mk W _, fun i u hu => ?_⟩
  show W.cell? ((⟨b, 0, none⟩ : Addr).add (0 * 3 + i)) = some u
  rw [add_plain]
  refine (h.cell _).trans ?_
  match i, hu with
  | 0, hu | 1, hu | 2, hu => exact hu
 | 1, hp =>
  obtain rfl := Option.some.inj hp
  refine ⟨_, rfl, k65_mk W _, fun i u hu => ?_⟩
  show W.cell? ((⟨b, 0, none⟩ : Addr).add (1 * 3 + i)) = some u
  rw [add_plain]
  refine (h.cell _).trans ?_
  match i, hu with
  | 0, hu | 1, hu | 2, hu => exact hu
def tensilelaw05_awake.f : Option Bool := some true
set_option maxHeartbeats 8000000 in
set_option maxRecDepth 100000 in
theorem tensilelaw05_awake.calls (r : Bool) (w : World) (h : tensilelaw05_awake.f = some r) : Calls Try.prog 17 #[] w fun e w' => e = .returned (.bool r) ∧ Below w.heap.size w w' := by
 obtain rfl : true = r := Option.some.inj h
 have HB := Hand.Aw.mk (Below.refl w.heap.size w)
 go_enter Try.func17, Try.ntmps17
 go_wp2_with fail
 refine (hotC _).mono ?_
 rintro e w1 ⟨A1, c1, rfl, hc, hC, hb⟩
 have HC1 := Hand.Aw.mk hC
 have HK1 := Hand.Aw.mk hc
 have HB1 := Hand.Aw.mk (HB.out.trans (hb.mono HB.out.size))
 clear hC hc hb
 go_wp2_with fail
 refine (madeC _).mono ?_
 rintro e w2 ⟨A2, c2, rfl, hc, hC, hb⟩
 have HC2 := Hand.Aw.mk hC
 have HK2 := Hand.Aw.mk hc
 have HM2 := Hand.Aw.mk (k16 HC1.out hb)
 have HB2 := Hand.Aw.mk (HB1.out.trans (hb.mono HB1.out.size))
 clear hC hc hb
 go_wp2_with fail
 refine (creep_Rates.calls A1 c1 exM A2 c2 exR [⟨2, 2⟩, ⟨3, 5⟩] 3 0 _ HM2.out HK1.out HC2.out HK2.out wakesRates).mono ?_
 rintro e w3 ⟨v3, rfl, hR, hb⟩
 obtain ⟨A3, c3, rfl, hc3, hC3⟩ := Kd.R_reads hR
 have HC3 := Hand.Aw.mk hC3
 have HB3 := Hand.Aw.mk (HB2.out.trans (hb.mono HB2.out.size))
 clear hR hb hC3
 go_wp2_with fail
 refine (hotC _).mono ?_
 rintro e w4 ⟨A4, c4, rfl, hc, hC, hb⟩
 have HC4 := Hand.Aw.mk hC
 have HK4 := Hand.Aw.mk hc
 have HR4 := Hand.Aw.mk (k16 HC3.out hb)
 have HB4 := Hand.Aw.mk (HB3.out.trans (hb.mono HB3.out.size))
 clear hC hc hb
 go_wp2_with fail
 refine (madeC _).mono ?_
 rintro e w5 ⟨A5, c5, rfl, hc, hC, hb⟩
 have HC5 := Hand.Aw.mk hC
 have HK5 := Hand.Aw.mk hc
 have HM5 := Hand.Aw.mk (k16 HC4.out hb)
 have HR5 := Hand.Aw.mk (k16 HR4.out hb)
 have HB5 := Hand.Aw.mk (HB4.out.trans (hb.mono HB4.out.size))
 clear hC hc hb
 go_wp2_with fail
 refine (tensilelaw05_between.calls 1000 1000 1000 1000 _ rfl).mono ?_
 rintro e w6 ⟨rfl, hb⟩
 have HC6 := Hand.Aw.mk (k16 HC5.out hb)
 have HM6 := Hand.Aw.mk (k16 HM5.out hb)
 have HR6 := Hand.Aw.mk (k16 HR5.out hb)
 have HB6 := Hand.Aw.mk (HB5.out.trans (hb.mono HB5.out.size))
 clear hb
 go_wp2_with fail
 refine (tensilelaw05_between.calls 10 20 10 20 _ rfl).mono ?_
 rintro e w7 ⟨rfl, hb⟩
 have HC7 := Hand.Aw.mk (k16 HC6.out hb)
 have HM7 := Hand.Aw.mk (k16 HM6.out hb)
 have HR7 := Hand.Aw.mk (k16 HR6.out hb)
 have HB7 := Hand.Aw.mk (HB6.out.trans (hb.mono HB6.out.size))
 clear hb
 go_wp2_with fail
 have HA8 := Hand.Aw.mk ((Below.refl w7.heap.size w7).alloc (Nat.le_refl _) (.cells #[.int .i64 0, .int .i64 1000, .int .i64 1000, .int .i64 1, .int .i64 10, .int .i64 20] 65))
 have HP8 := Hand.Aw.mk (planC (Hand.Blk.new w7 #[.int .i64 0, .int .i64 1000, .int .i64 1000, .int .i64 1, .int .i64 10, .int .i64 20] 65))
 refine (creep_Stretch.calls A4 c4 exM A5 c5 exR (some ⟨w7.heap.size, 0, none⟩) 2 exP 2030 2100 0 _ (k16 HM7.out HA8.out) HK4.out (k16 HC7.out HA8.out) HK5.out HP8.out (by decide) wakesStretch).mono ?_
 rintro e w8 ⟨rfl, hb⟩
 have HR8 := Hand.Aw.mk (k16 (k16 HR7.out HA8.out) hb)
 have HB8 := Hand.Aw.mk ((HB7.out.trans (HA8.out.mono HB7.out.size)).trans (hb.mono (HB7.out.trans (HA8.out.mono HB7.out.size)).size))
 clear hb
 go_wp2_with fail
 have HX9 := Hand.Aw.mk (Hand.Blk.new w8 #[.int .i64 2030, .int .i64 2100] 47)
 have HA9 := Hand.Aw.mk ((Below.refl w8.heap.size w8).alloc (Nat.le_refl _) (.cells #[.int .i64 2030, .int .i64 2100] 47))
 have HR9 := Hand.Aw.mk (k16 HR8.out HA9.out)
 have HB9 := Hand.Aw.mk (HB8.out.trans (HA9.out.mono HB8.out.size))
 obtain ⟨b1, hb1⟩ : ∃ b1, b1 = w8.heap.size := ⟨_, rfl⟩
 obtain ⟨w9, hw9⟩ : ∃ w9, w9 = w8.alloc (.cells #[.int .i64 2030, .int .i64 2100] 47) := ⟨_, rfl⟩
 rw [← hb1, ← hw9] at HX9
 rw [← hw9] at HR9 HB9
 rw [← hb1, ← hw9]
 clear hb1 hw9
 refine (hotC _).mono ?_
 rintro e w10 ⟨A6, c6, rfl, hc, hC, hb⟩
 have HC10 := Hand.Aw.mk hC
 have HK10 := Hand.Aw.mk hc
 have HR10 := Hand.Aw.mk (k16 HR9.out hb)
 have HX10 := Hand.Aw.mk (HX9.out.below hb HX9.out.lt)
 have HB10 := Hand.Aw.mk (HB9.out.trans (hb.mono HB9.out.size))
 clear hC hc hb
 go_wp2_with fail
 refine (madeC _).mono ?_
 rintro e w11 ⟨A7, c7, rfl, hc, hC, hb⟩
 have HC11 := Hand.Aw.mk hC
 have HK11 := Hand.Aw.mk hc
 have HM11 := Hand.Aw.mk (k16 HC10.out hb)
 have HR11 := Hand.Aw.mk (k16 HR10.out hb)
 have HX11 := Hand.Aw.mk (HX10.out.below hb HX10.out.lt)
 have HB11 := Hand.Aw.mk (HB10.out.trans (hb.mono HB10.out.size))
 clear hC hc hb
 go_wp2_with fail
 refine (creep_Life.calls A6 c6 exM A7 c7 exR 1 1000 200 334 0 _ HM11.out HK10.out HC11.out HK11.out wakesLife).mono ?_
 rintro e w12 ⟨rfl, hb⟩
 have HR12 := Hand.Aw.mk (k16 HR11.out hb)
 have HX12 := Hand.Aw.mk (HX11.out.below hb HX11.out.lt)
 have HB12 := Hand.Aw.mk (HB11.out.trans (hb.mono HB11.out.size))
 clear hb
 go_wp2_with fail
 have HY13 := Hand.Aw.mk (Hand.Blk.new w12 #[.int .i64 200, .int .i64 334] 47)
 have HA13 := Hand.Aw.mk ((Below.refl w12.heap.size w12).alloc (Nat.le_refl _) (.cells #[.int .i64 200, .int .i64 334] 47))
 have HR13 := Hand.Aw.mk (k16 HR12.out HA13.out)
 have HX13 := Hand.Aw.mk (HX12.out.below HA13.out HX12.out.lt)
 have HB13 := Hand.Aw.mk (HB12.out.trans (HA13.out.mono HB12.out.size))
 obtain ⟨b2, hb2⟩ : ∃ b2, b2 = w12.heap.size := ⟨_, rfl⟩
 obtain ⟨w13, hw13⟩ : ∃ w13, w13 = w12.alloc (.cells #[.int .i64 200, .int .i64 334] 47) := ⟨_, rfl⟩
 rw [← hb2, ← hw13] at HY13
 rw [← hw13] at HR13 HB13 HX13
 rw [← hb2, ← hw13]
 clear hb2 hw13
 obtain ⟨ad, hA, h0, h1⟩ := at_T47 HR13.out 0 (by decide) (by decide)
 obtain ⟨ad', hA', h2, h3⟩ := at_T47 HR13.out 1 (by decide) (by decide)
 subst hA
 cases hA'
 have hs : ad.spot = none := by have := plain_of_cell h0; simpa [Addr.add] using this
 obtain ⟨b3, o3, sp⟩ := ad
 simp only at hs
 subst hs
 rw [add_plain] at h0 h1 h2 h3
 have k0 : w13.cell? ⟨b3, o3, none⟩ = some (.int .i64 2) := h0
 have k1 : w13.cell? ⟨b3, o3 + 1, none⟩ = some (.int .i64 2) := h1
 have k2 : w13.cell? ⟨b3, o3 + 2, none⟩ = some (.int .i64 3) := h2
 have k3 : w13.cell? ⟨b3, o3 + 2 + 1, none⟩ = some (.int .i64 5) := h3
 have x0 : w13.cell? ⟨b1, 0, none⟩ = some (.int .i64 2030) := HX13.out.cell 0
 have x1 : w13.cell? ⟨b1, 1, none⟩ = some (.int .i64 2100) := HX13.out.cell 1
 have y0 : w13.cell? ⟨b2, 0, none⟩ = some (.int .i64 200) := HY13.out.cell 0
 have y1 : w13.cell? ⟨b2, 1, none⟩ = some (.int .i64 334) := HY13.out.cell 1
 clear h0 h1 h2 h3
 have hbb : Below w.heap.size w w13 := HB13.out
 have hq : ∀ (V : World) (v : Value), V = V := fun _ _ => rfl
 clear hq
 go_region_held3 (fun V => V.cell? ⟨b3, o3, none⟩ = some (.int .i64 2) ∧ V.cell? ⟨b3, o3 + 1, none⟩ = some (.int .i64 2) ∧ V.cell? ⟨b3, o3 + 2, none⟩ = some (.int .i64 3) ∧ V.cell? ⟨b3, o3 + 2 + 1, none⟩ = some (.int .i64 5) ∧ V.cell? ⟨b1, 0, none⟩ = some (.int .i64 2030) ∧ V.cell? ⟨b1, 1, none⟩ = some (.int .i64 2100) ∧ V.cell? ⟨b2, 0, none⟩ = some (.int .i64 200) ∧ V.cell? ⟨b2, 1, none⟩ = some (.int .i64 334) ∧ Below w.heap.size w V)
  (first
   | (go_split_ands; exact ⟨by assumption, by assumption, by assumption, by assumption, by assumption, by assumption, by assumption, by assumption, by assumption⟩)
   | (go_split_ands; refine ⟨?_, ?_, ?_, ?_, ?_, ?_, ?_, ?_, ?_⟩ <;> first | (refine Hand.held_cell ?_ hb; assumption) | (refine Below.trans (by assumption) (hb.mono (by first | exact Below.size (by assumption)))) )
   | (go_split_ands; exact ⟨by assumption, by assumption, by assumption, by assumption, by assumption, by assumption, by assumption, by assumption, Below.drew (by assumption)⟩))
  (first
   | (go_at_call 33; with_reducible refine (tensilelaw05_between.calls 2 2 2 2 _ rfl).mono ?_; rintro e w' ⟨rfl, hb⟩)
   | (go_at_call 33; with_reducible refine (tensilelaw05_between.calls 3 5 3 5 _ rfl).mono ?_; rintro e w' ⟨rfl, hb⟩)
   | (go_at_call 33; with_reducible refine (tensilelaw05_between.calls 2030 2100 2030 2100 _ rfl).mono ?_; rintro e w' ⟨rfl, hb⟩)
   | (go_at_call 33; with_reducible refine (tensilelaw05_between.calls 200 334 200 334 _ rfl).mono ?_; rintro e w' ⟨rfl, hb⟩))
 all_goals (go_split_ands; dsimp only [Exit.then]; go_wp2_with fail; go_ret; exact ⟨rfl, by assumption⟩)
end Go.Proofs.Ytdagijgoegkphaa.P

namespace Go.Proofs.Ytdagijgoegkphaa.P
open Go.RowKit Go.Proofs.YtdagijgoegkphaaW.PrintWords Go.Proofs.YtdagijgoegkphaaW.PrintLast Go.Proofs.YtdagijgoegkphaaW.PrintMore
attribute [local go_sem] max2_int min2_int max_two min_two max_three min_three max_four min_four   -- for this text's walks alone
def tensilelaw05_list.f (l0 : List Int) : Option (List Int) := if l0.length ≤ 1000 then some l0 else none
theorem tensilelaw05_list.calls (A0 : Option Addr) (c0 : Nat) (l0 : List Int) (r : List Int) (w : World) (hr0 : Kd.C (Kd.int .i64) w A0 l0.length l0) (hc0 : l0.length ≤ c0) (h : tensilelaw05_list.f l0 = some r) :
  Calls Try.prog 23 #[.slice A0 l0.length c0] w fun e w' => ∃ v0_ : Value, e = .returned (v0_) ∧ Kd.R (Kd.int .i64) 3 w' w.heap.size (fun _ => True) v0_ r ∧ Below w.heap.size w w' := by
 unfold tensilelaw05_list.f at h
 split at h
 ·
  rename_i hl
  obtain rfl := Option.some.inj h
  have key : Calls Try.prog 23 #[.slice A0 l0.length c0] w (Hand.ClonePost l0 w) := by
   cases A0 with
   | some ad =>
    refine Hand.list_any l0 hl ad c0 w fun j u hj => ?_
    have hjl : j < l0.length := by
     rcases Nat.lt_or_ge j l0.length with h | h
     ·
      exact h
     ·
      unfold Hand.ivs at hj; rw [List.getElem?_eq_none (by simpa using h)] at hj; cases hj
    obtain ⟨ad', c, e, _, hK, hc⟩ := Kd.C_get hr0 0 (j : Int) (by omega) (by omega)
    cases e
    rw [Int.toNat_natCast] at hK
    have hcc : c = [.int .i64 (l0.getD j 0)] := hK
    subst hcc
    have h1 := hc 0 _ rfl
    rw [Int.toNat_natCast] at h1
    have hu : u = .int .i64 (l0.getD j 0) := by
     unfold Hand.ivs at hj
     rw [List.getElem?_map, List.getElem?_eq_getElem hjl] at hj
     rw [List.getD_eq_getElem?_getD, List.getElem?_eq_getElem hjl]
     exact (Option.some.inj hj).symm
    rw [hu]
    simpa [Kd.int, Kd.scalar] using h1
   | none =>
    cases l0 with
    | nil => exact Hand.list_nil c0 w
    | cons x l =>
     obtain ⟨ad, e, _⟩ := hr0.2.2 (by simp)
     cases e
  refine key.mono ?_
  rintro e w' ⟨v, rfl, hrow, hbel⟩
  exact ⟨v, rfl, Kd.R_of_own hrow (fun _ _ => trivial), hbel⟩
 ·
  cases h
end Go.Proofs.Ytdagijgoegkphaa.P

namespace Go.Proofs.Ytdagijgoegkphaa.P
open Go.RowKit Go.Proofs.YtdagijgoegkphaaW.PrintWords Go.Proofs.YtdagijgoegkphaaW.PrintLast Go.Proofs.YtdagijgoegkphaaW.PrintMore
open Go.Proofs.YtdagijgoegkphaaW.PrintWords renaming blk_drewN → b0, blk_drew → b1, blk_alloc → b2, below_set → b3, blk_cell → b4, pw_below_drewN → b6, below_drew1 → b7, below_alloc → b8, blk_frozen → b9, below_size → b12, below_step → b13
attribute [local go_sem] max2_int min2_int max_two min_two max_three min_three max_four min_four   -- for this text's walks alone
mutual
def tensilelaw05_Thin.l0 : Nat → List (S81) → List (S56) → Int → List (S54) → Option (Bool)
 | 0, _, _, _, _ => none
 | k + 1, x1, x2, x7, x161000 => if x7 < (x1.length : Int) then (tensilelaw05_Thin.j1 k x1 x2 x7 (decide (x7 < 10)) x161000) else (tensilelaw05_Thin.j1 k x1 x2 x7 false x161000)
def tensilelaw05_Thin.j1 : Nat → List (S81) → List (S56) → Int → Bool → List (S54) → Option (Bool)
 | 0, _, _, _, _, _ => none
 | k + 1, x1, x2, x7, x15, x161000 => if x15 = true then (if 0 ≤ x7 then (if x7 < (x1.length : Int) then (if (((rd_T81 x1 x7).f0).length : Int) > 12 then (some false) else (tensilelaw05_Thin.l0 k x1 x2 (wrap64 (x7 + 1)) x161000)) else (none)) else (none)) else (if (x161000.length : Int) ≤ 6 then (if (x1.length : Int) ≤ 9 then (some (decide ((x2.length : Int) ≤ 12))) else (some false)) else (some false))
end
def tensilelaw05_Thin.f (k : Nat) (l0_0 : List (S54)) (l1 : List (S81)) (l2 : List (S56)) : Option (Bool) := tensilelaw05_Thin.l0 k l1 l2 0 l0_0
set_option maxHeartbeats 8000000 in
set_option maxRecDepth 100000 in
theorem tensilelaw05_Thin.calls (k : Nat) (A0_0 : Option Addr) (c0_0 : Nat) (l0_0 : List (S54)) (A1 : Option Addr) (c1 : Nat) (l1 : List (S81)) (A2 : Option Addr) (c2 : Nat) (l2 : List (S56)) (r : Bool) (w : World) (hr0_0 : Kd.C k54 w A0_0 l0_0.length l0_0) (hc0_0 : l0_0.length ≤ c0_0) (hr1 : Kd.C k81 w A1 l1.length l1) (hc1 : l1.length ≤ c1) (hr2 : Kd.C k56 w A2 l2.length l2) (hc2 : l2.length ≤ c2) (h : tensilelaw05_Thin.f k l0_0 l1 l2 = some r) :
  Calls Try.prog 37 #[.agg #[.slice A0_0 l0_0.length c0_0], .slice A1 l1.length c1, .slice A2 l2.length c2] w fun e w' => e = .returned (.bool r) ∧ Below w.heap.size w w' := by
 have hu24 := Try.underlying24
 have HR0_0 := Aside0.mk hr0_0
 have HC0_0 := Aside0.mk hc0_0
 clear hr0_0 hc0_0
 have HR1 := Aside0.mk hr1
 have HC1 := Aside0.mk hc1
 clear hr1 hc1
 have HR2 := Aside0.mk hr2
 have HC2 := Aside0.mk hc2
 clear hr2 hc2
 have HB := Aside0.mk (Below.refl w.heap.size w)
 have H : (tensilelaw05_Thin.l0 k l1 l2 0 l0_0) = some r := h
 clear h
 have H' := Aside0.mk H
 clear H
 go_enter Try.func37, Try.ntmps37
 go_wp2_with (first | ((with_reducible refine gate_dst (N := 3) rfl ?_); (try (refine gate_guard (by rfl) ?_; dsimp only)); refine box_event ?hg (N := 3) ?hd (cs := #[.slice A0_0 l0_0.length c0_0]) (t := 24) ?hr ?_; (case hd => rfl); (case hg => rfl); (case hr => first | (go_simp; done) | (go_simp; rfl)); intro gb160 hg w4 hbox hb; have n0_ := Aside0.mk (b13 (by repeat (first | (with_reducible first | exact HB.out | apply b8 | apply b6 | apply b7) | exact HB.out)) hb); have n1_ := Aside0.mk (hbox); have n2_ := Aside0.mk ((by rw [hg]; exact (b12 (by repeat (first | (with_reducible first | exact HB.out | apply b8 | apply b6 | apply b7) | exact HB.out))) : w.heap.size ≤ gb160)); have n3_ := Aside0.mk ((by rw [hg]; exact (b12 (by repeat (first | (with_reducible first | exact HB.out | apply b8 | apply b6 | apply b7) | exact HB.out))) : w.heap.size ≤ gb160)); clear HB; have HB := n0_; have BK160 := n1_; have GW160 := n2_; have GE160 := n3_; clear n0_ n1_ n2_ n3_; clear hb hbox hg))
 go_loopg [7] k (fun kq v7 w' => ∃ (x7_1 : Int), v7 = .int .i64 x7_1 ∧ Aside0 (tensilelaw05_Thin.l0 kq l1 l2 x7_1 l0_0 = some r) ∧ Aside0 (kq ≤ k) ∧ Aside0 (w'.heap[gb160]? = some (.cells #[(.slice A0_0 l0_0.length c0_0)] 24 (0, 0))) ∧ Aside0 (Below w.heap.size w w'))
 case atStart => exact ⟨(0), (by first | rfl | (simp; done) | (simp [*]; done)), H', ⟨Nat.le_refl _⟩, ⟨by (with_reducible repeat (first | refine b0 ?_ _ | refine b1 ?_ | refine b2 ?_ _)); exact BK160.out⟩, ⟨by repeat (first | (with_reducible first | exact HB.out | apply b8 | apply b6 | apply b7 | refine b3 ?_ GE160.out) | exact HB.out)⟩⟩
 case round =>
  clear H'
  try clear c1
  try clear c2
  try clear p2
  try clear c3
  obtain ⟨x7_1, rfl, HA, HK1, BK160, HB⟩ := hrel
  cases gk with
  | zero => exact absurd HA.out (by simp [tensilelaw05_Thin.l0])
  | succ k1 =>
   have H := HA.out
   clear HA
   simp only [tensilelaw05_Thin.l0] at H
   have HC5 := Aside0.mk H
   clear H
   go_upto_region 2 with (fail)
   go_cut [15] (fun v15 wc => ∃ (kq : Nat) (x15_4 : Bool), v15 = .bool x15_4 ∧ Aside0 (tensilelaw05_Thin.j1 kq l1 l2 x7_1 x15_4 l0_0 = some r) ∧ Aside0 (kq ≤ k1) ∧ Aside0 (wc.heap[gb160]? = some (.cells #[(.slice A0_0 l0_0.length c0_0)] 24 (0, 0))) ∧ Aside0 (Below w.heap.size w wc))
   case first =>
    have H := HC5.out
    clear HC5
    by_cases c6 : x7_1 < (l1.length : Int)
    ·
     rw [if_pos c6] at H
     have c6b0 : decide (x7_1 < (l1.length : Int)) = true := decide_eq_true c6
     clear c6
     (first | rw [c6b0] | (simp only [i64_w, i32_w]; rw [c6b0]) | skip)
     have H' := Aside0.mk H
     clear H
     go_wp2
     go_meet
     case rel => exact ⟨_, (decide (x7_1 < 10)), (by first | rfl | (simp; done) | (simp [*]; done)), H', ⟨by have := HK1.out; first | omega | exact Nat.le_refl _⟩, ⟨by (with_reducible repeat (first | refine b0 ?_ _ | refine b1 ?_ | refine b2 ?_ _)); exact BK160.out⟩, ⟨by repeat (first | (with_reducible first | exact HB.out | apply b8 | apply b6 | apply b7 | refine b3 ?_ GE160.out) | exact HB.out)⟩⟩
    ·
     rw [if_neg c6] at H
     have c6b0 : decide (x7_1 < (l1.length : Int)) = false := decide_eq_false c6
     clear c6
     (first | rw [c6b0] | (simp only [i64_w, i32_w]; rw [c6b0]) | skip)
     have H' := Aside0.mk H
     clear H
     go_wp2
     go_meet
     case rel => exact ⟨_, (false), (by first | rfl | (simp; done) | (simp [*]; done)), H', ⟨by have := HK1.out; first | omega | exact Nat.le_refl _⟩, ⟨by (with_reducible repeat (first | refine b0 ?_ _ | refine b1 ?_ | refine b2 ?_ _)); exact BK160.out⟩, ⟨by repeat (first | (with_reducible first | exact HB.out | apply b8 | apply b6 | apply b7 | refine b3 ?_ GE160.out) | exact HB.out)⟩⟩
   case rest =>
    clear HC5
    try clear c1
    try clear c2
    try clear p2
    try clear c3
    try clear c6
    try clear c6b0
    try clear p2
    obtain ⟨kq, x15_4, rfl, HA, HJ4, BK160, HB⟩ := hcut
    cases kq with
    | zero => exact absurd HA.out (by simp [tensilelaw05_Thin.j1])
    | succ kj4 =>
     have H := HA.out
     clear HA
     simp only [tensilelaw05_Thin.j1] at H
     by_cases c7 : x15_4 = true
     ·
      subst c7
      have H1 : (if 0 ≤ x7_1 then (if x7_1 < (l1.length : Int) then (if (((rd_T81 l1 x7_1).f0).length : Int) > 12 then (some false) else (tensilelaw05_Thin.l0 kj4 l1 l2 (wrap64 (x7_1 + 1)) l0_0)) else (none)) else (none)) = some r := by rw [if_pos rfl] at H; exact H
      clear H
      have H := H1
      clear H1
      by_cases c8 : 0 ≤ x7_1
      ·
       rw [if_pos c8] at H
       have c8b0 : decide (0 ≤ x7_1) = true := decide_eq_true c8
       clear c8
       by_cases c9 : x7_1 < (l1.length : Int)
       ·
        rw [if_pos c9] at H
        have c9b0 : decide (x7_1 < (l1.length : Int)) = true := decide_eq_true c9
        clear c9
        by_cases c10 : (((rd_T81 l1 x7_1).f0).length : Int) > 12
        ·
         rw [if_pos c10] at H
         have c10b0 : decide (12 < (((rd_T81 l1 x7_1).f0).length : Int)) = true := decide_eq_true c10
         have c10b1 : decide (12 < ((rd_T81 l1 x7_1).f0).length) = true := decide_eq_true (by omega)
         clear c10
         obtain rfl := Option.some.inj H
         have p161 : 0 ≤ (x7_1 : Int) := of_decide_eq_true (by first | (with_reducible assumption) | assumption)
         have q161 : x7_1 < (l1.length : Int) := of_decide_eq_true (by first | (with_reducible assumption) | assumption)
         obtain ⟨ad161, A161_0, c161_0, e161, hx161_0, hx161_1, hx161_2, hl161_0, hi161_0⟩ := at_T81 HR1.out x7_1 p161 q161
         cases e161
         replace hx161_0 := (HB.out.cell (World.block_lt_of_cell? w _ hx161_0)).trans hx161_0
         replace hx161_1 := (HB.out.cell (World.block_lt_of_cell? w _ hx161_1)).trans hx161_1
         replace hx161_2 := (HB.out.cell (World.block_lt_of_cell? w _ hx161_2)).trans hx161_2
         have HR161_0 := Aside0.mk hi161_0
         have HC161_0 := Aside0.mk hl161_0
         clear hi161_0 hl161_0
         replace p161 := eq_true p161
         replace q161 := eq_true q161
         go_wp2
         go_ret
         exact ⟨by first | rfl | (simp [errW_none, errW_some] <;> rfl) | (simp [*, errW_none, errW_some] <;> rfl), by repeat (first | (with_reducible first | exact HB.out | apply b8 | apply b6 | apply b7 | refine b3 ?_ GE160.out) | exact HB.out)⟩
        ·
         rw [if_neg c10] at H
         have c10b0 : decide (12 < (((rd_T81 l1 x7_1).f0).length : Int)) = false := decide_eq_false c10
         have c10b1 : decide (12 < ((rd_T81 l1 x7_1).f0).length) = false := decide_eq_false (by omega)
         clear c10
         have H' := Aside0.mk H
         clear H
         have p161 : 0 ≤ (x7_1 : Int) := of_decide_eq_true (by first | (with_reducible assumption) | assumption)
         have q161 : x7_1 < (l1.length : Int) := of_decide_eq_true (by first | (with_reducible assumption) | assumption)
         obtain ⟨ad161, A161_0, c161_0, e161, hx161_0, hx161_1, hx161_2, hl161_0, hi161_0⟩ := at_T81 HR1.out x7_1 p161 q161
         cases e161
         replace hx161_0 := (HB.out.cell (World.block_lt_of_cell? w _ hx161_0)).trans hx161_0
         replace hx161_1 := (HB.out.cell (World.block_lt_of_cell? w _ hx161_1)).trans hx161_1
         replace hx161_2 := (HB.out.cell (World.block_lt_of_cell? w _ hx161_2)).trans hx161_2
         have HR161_0 := Aside0.mk hi161_0
         have HC161_0 := Aside0.mk hl161_0
         clear hi161_0 hl161_0
         replace p161 := eq_true p161
         replace q161 := eq_true q161
         go_wp2
         go_roundg kj4
         case measure => have := HK1.out; have := HJ4.out; omega
         case rel => exact ⟨(wrap64 (x7_1 + 1)), (by first | rfl | (simp; done) | (simp [*]; done)), H', ⟨by have := HK1.out; have := HJ4.out; omega⟩, ⟨by (with_reducible repeat (first | refine b0 ?_ _ | refine b1 ?_ | refine b2 ?_ _)); exact BK160.out⟩, ⟨by repeat (first | (with_reducible first | exact HB.out | apply b8 | apply b6 | apply b7 | refine b3 ?_ GE160.out) | exact HB.out)⟩⟩
       ·
        rw [if_neg c9] at H
        exact absurd H (by simp)
      ·
       rw [if_neg c8] at H
       exact absurd H (by simp)
     ·
      replace c7 := Bool.eq_false_iff.mpr c7
      subst c7
      have H1 : (if (l0_0.length : Int) ≤ 6 then (if (l1.length : Int) ≤ 9 then (some (decide ((l2.length : Int) ≤ 12))) else (some false)) else (some false)) = some r := by rw [if_neg (show ¬ (false = true) by decide)] at H; exact H
      clear H
      have H := H1
      clear H1
      by_cases c11 : (l0_0.length : Int) ≤ 6
      ·
       rw [if_pos c11] at H
       have c11b0 : decide ((l0_0.length : Int) ≤ 6) = true := decide_eq_true c11
       have c11b1 : decide (l0_0.length ≤ 6) = true := decide_eq_true (by omega)
       clear c11
       by_cases c12 : (l1.length : Int) ≤ 9
       ·
        rw [if_pos c12] at H
        have c12b0 : decide ((l1.length : Int) ≤ 9) = true := decide_eq_true c12
        have c12b1 : decide (l1.length ≤ 9) = true := decide_eq_true (by omega)
        clear c12
        obtain rfl := Option.some.inj H
        have hcz13_0 : wc.cell? ⟨gb160, 0, none⟩ = some (.slice A0_0 l0_0.length c0_0) := (b4 BK160.out 0).trans rfl
        have hfz13_0 := b9 BK160.out 0
        go_wp2
        go_ret
        exact ⟨by first | rfl | (simp [errW_none, errW_some] <;> rfl) | (simp [*, errW_none, errW_some] <;> rfl), by repeat (first | (with_reducible first | exact HB.out | apply b8 | apply b6 | apply b7 | refine b3 ?_ GE160.out) | exact HB.out)⟩
       ·
        rw [if_neg c12] at H
        have c12b0 : decide ((l1.length : Int) ≤ 9) = false := decide_eq_false c12
        have c12b1 : decide (l1.length ≤ 9) = false := decide_eq_false (by omega)
        clear c12
        obtain rfl := Option.some.inj H
        have hcz14_0 : wc.cell? ⟨gb160, 0, none⟩ = some (.slice A0_0 l0_0.length c0_0) := (b4 BK160.out 0).trans rfl
        have hfz14_0 := b9 BK160.out 0
        go_wp2
        go_ret
        exact ⟨by first | rfl | (simp [errW_none, errW_some] <;> rfl) | (simp [*, errW_none, errW_some] <;> rfl), by repeat (first | (with_reducible first | exact HB.out | apply b8 | apply b6 | apply b7 | refine b3 ?_ GE160.out) | exact HB.out)⟩
      ·
       rw [if_neg c11] at H
       have c11b0 : decide ((l0_0.length : Int) ≤ 6) = false := decide_eq_false c11
       have c11b1 : decide (l0_0.length ≤ 6) = false := decide_eq_false (by omega)
       clear c11
       obtain rfl := Option.some.inj H
       have hcz15_0 : wc.cell? ⟨gb160, 0, none⟩ = some (.slice A0_0 l0_0.length c0_0) := (b4 BK160.out 0).trans rfl
       have hfz15_0 := b9 BK160.out 0
       go_wp2
       go_ret
       exact ⟨by first | rfl | (simp [errW_none, errW_some] <;> rfl) | (simp [*, errW_none, errW_some] <;> rfl), by repeat (first | (with_reducible first | exact HB.out | apply b8 | apply b6 | apply b7 | refine b3 ?_ GE160.out) | exact HB.out)⟩
end Go.Proofs.Ytdagijgoegkphaa.P

namespace Go.Proofs.Ytdagijgoegkphaa.P
open Go.RowKit Go.Proofs.YtdagijgoegkphaaW.PrintWords Go.Proofs.YtdagijgoegkphaaW.PrintLast Go.Proofs.YtdagijgoegkphaaW.PrintMore
attribute [local go_sem] max2_int min2_int max_two min_two max_three min_three max_four min_four   -- for this text's walks alone
def tensileref05_In.f (a0 : Int) (a1 : Int) (a2 : Int) : Option (Bool) := if a0 ≥ a1 then (some (decide (a0 ≤ a2))) else (some false)
set_option maxHeartbeats 8000000 in
set_option maxRecDepth 100000 in
theorem tensileref05_In.calls (a0 : Int) (a1 : Int) (a2 : Int) (r : Bool) (w : World) (h : tensileref05_In.f a0 a1 a2 = some r) :
  Calls Try.prog 40 #[.int .i64 a0, .int .i64 a1, .int .i64 a2] w fun e w' => e = .returned (.bool r) ∧ Drawn0 w w' := by
 have H : (if a0 ≥ a1 then (some (decide (a0 ≤ a2))) else (some false)) = some r := h
 clear h
 by_cases c4 : a0 ≥ a1
 ·
  rw [if_pos c4] at H
  have c4b0 : decide (a1 ≤ a0) = true := decide_eq_true c4
  clear c4
  obtain rfl := Option.some.inj H
  go_enter Try.func40, Try.ntmps40
  go_wp2
  go_ret
  exact ⟨by first | rfl | (simp; done) | (simp [*]; done), by repeat (first | exact Drawn0.refl _ | apply Drawn0.step)⟩
 ·
  rw [if_neg c4] at H
  have c4b0 : decide (a1 ≤ a0) = false := decide_eq_false c4
  clear c4
  obtain rfl := Option.some.inj H
  go_enter Try.func40, Try.ntmps40
  go_wp2
  go_ret
  exact ⟨by first | rfl | (simp; done) | (simp [*]; done), by repeat (first | exact Drawn0.refl _ | apply Drawn0.step)⟩
end Go.Proofs.Ytdagijgoegkphaa.P

namespace Go.Proofs.Ytdagijgoegkphaa.P
open Go.RowKit Go.Proofs.YtdagijgoegkphaaW.PrintWords Go.Proofs.YtdagijgoegkphaaW.PrintLast Go.Proofs.YtdagijgoegkphaaW.PrintMore
open Go.Proofs.YtdagijgoegkphaaW.PrintWords renaming blk_drewN → b0, blk_drew → b1, blk_alloc → b2, below_set → b3, blk_cell → b4, blk_below → b5, pw_below_drewN → b6, below_drew1 → b7, below_alloc → b8, blk_frozen → b9, blk_lt → b10, below_size → b12, below_step → b13
attribute [local go_sem] max2_int min2_int max_two min_two max_three min_three max_four min_four   -- for this text's walks alone
def tensileref05_IsSegment.f (l0_0 : List (S54)) (a1_0 : Int) (a1_1 : Int) (a1_2 : Int) : Option (Bool) := (tensileref05_In.f a1_0 0 (wrap64 ((l0_0.length : Int) - 1))).bind fun t188 => (if t188 = true then ((tensileref05_In.f a1_1 0 a1_2).bind fun t189 => (if t189 = true then (some (decide (a1_2 ≤ 1000000))) else (some false))) else (some false))
set_option maxHeartbeats 8000000 in
set_option maxRecDepth 100000 in
theorem tensileref05_IsSegment.calls (A0_0 : Option Addr) (c0_0 : Nat) (l0_0 : List (S54)) (a1_0 : Int) (a1_1 : Int) (a1_2 : Int) (r : Bool) (w : World) (hr0_0 : Kd.C k54 w A0_0 l0_0.length l0_0) (hc0_0 : l0_0.length ≤ c0_0) (h : tensileref05_IsSegment.f l0_0 a1_0 a1_1 a1_2 = some r) :
  Calls Try.prog 75 #[.agg #[.slice A0_0 l0_0.length c0_0], .agg #[.int .i64 a1_0, .int .i64 a1_1, .int .i64 a1_2]] w fun e w' => e = .returned (.bool r) ∧ Below w.heap.size w w' := by
 have hu24 := Try.underlying24
 have hu56 := Try.underlying56
 have HR0_0 := Aside0.mk hr0_0
 have HC0_0 := Aside0.mk hc0_0
 clear hr0_0 hc0_0
 have HB := Aside0.mk (Below.refl w.heap.size w)
 have H : ((tensileref05_In.f a1_0 0 (wrap64 ((l0_0.length : Int) - 1))).bind fun t188 => (if t188 = true then ((tensileref05_In.f a1_1 0 a1_2).bind fun t189 => (if t189 = true then (some (decide (a1_2 ≤ 1000000))) else (some false))) else (some false))) = some r := h
 clear h
 replace H := Option.bind_eq_some_iff.mp H
 obtain ⟨t188, A30, H⟩ := H
 replace H : (if t188 = true then ((tensileref05_In.f a1_1 0 a1_2).bind fun t189 => (if t189 = true then (some (decide (a1_2 ≤ 1000000))) else (some false))) else (some false)) = some r := H
 have A3 := Aside0.mk A30
 clear A30
 by_cases c4 : t188 = true
 ·
  subst c4
  have H1 : ((tensileref05_In.f a1_1 0 a1_2).bind fun t189 => (if t189 = true then (some (decide (a1_2 ≤ 1000000))) else (some false))) = some r := by rw [if_pos rfl] at H; exact H
  clear H
  have H := H1
  clear H1
  replace H := Option.bind_eq_some_iff.mp H
  obtain ⟨t189, A50, H⟩ := H
  replace H : (if t189 = true then (some (decide (a1_2 ≤ 1000000))) else (some false)) = some r := H
  have A5 := Aside0.mk A50
  clear A50
  by_cases c6 : t189 = true
  ·
   subst c6
   have H1 : (some (decide (a1_2 ≤ 1000000))) = some r := by rw [if_pos rfl] at H; exact H
   clear H
   have H := H1
   clear H1
   obtain rfl := Option.some.inj H
   go_enter Try.func75, Try.ntmps75
   go_wp2_with (first | ((with_reducible refine gate_dst (N := 2) rfl ?_); refine box_event ?hg (N := 2) ?hd (cs := #[.slice A0_0 l0_0.length c0_0]) (t := 24) ?hr ?_; (case hd => rfl); (case hg => rfl); (case hr => first | (go_simp; done) | (go_simp; rfl)); intro gb186 hg w7 hbox hb; have n0_ := Aside0.mk (b13 (by repeat (first | (with_reducible first | exact HB.out | apply b8 | apply b6 | apply b7) | exact HB.out)) hb); have n1_ := Aside0.mk (hbox); have n2_ := Aside0.mk ((by rw [hg]; exact (b12 (by repeat (first | (with_reducible first | exact HB.out | apply b8 | apply b6 | apply b7) | exact HB.out))) : w.heap.size ≤ gb186)); have n3_ := Aside0.mk ((by rw [hg]; exact (b12 (by repeat (first | (with_reducible first | exact HB.out | apply b8 | apply b6 | apply b7) | exact HB.out))) : w.heap.size ≤ gb186)); clear HB; have HB := n0_; have BK186 := n1_; have GW186 := n2_; have GE186 := n3_; clear n0_ n1_ n2_ n3_; clear hb hbox hg) | ((with_reducible refine gate_dst (N := 3) rfl ?_); refine box_event ?hg (N := 3) ?hd (cs := #[.int .i64 a1_0, .int .i64 a1_1, .int .i64 a1_2]) (t := 56) ?hr ?_; (case hd => rfl); (case hg => rfl); (case hr => first | (go_simp; done) | (go_simp; rfl)); intro gb187 hg w8 hbox hb; have n0_ := Aside0.mk (b5 (g := gb186) (o := .cells #[.slice A0_0 l0_0.length c0_0] 24 (0, 0)) (by (with_reducible repeat (first | refine b0 ?_ _ | refine b1 ?_ | refine b2 ?_ _)); exact BK186.out) hb); have n1_ := Aside0.mk (b13 (by repeat (first | (with_reducible first | exact HB.out | apply b8 | apply b6 | apply b7 | refine b3 ?_ GE186.out) | exact HB.out)) hb); have n2_ := Aside0.mk (hbox); have n3_ := Aside0.mk ((by rw [hg]; exact (b12 (by repeat (first | (with_reducible first | exact HB.out | apply b8 | apply b6 | apply b7 | refine b3 ?_ GE186.out) | exact HB.out))) : w.heap.size ≤ gb187)); have n4_ := Aside0.mk ((by rw [hg]; exact (b12 (by repeat (first | (with_reducible first | exact HB.out | apply b8 | apply b6 | apply b7 | refine b3 ?_ GE186.out) | exact HB.out))) : w.heap.size ≤ gb187)); have n5_ := Aside0.mk ((by rw [hg]; exact Nat.ne_of_lt (b10 (g := gb186) (o := .cells #[.slice A0_0 l0_0.length c0_0] 24 (0, 0)) (by (with_reducible repeat (first | refine b0 ?_ _ | refine b1 ?_ | refine b2 ?_ _)); exact BK186.out)) : gb186 ≠ gb187)); have n6_ := Aside0.mk ((by rw [hg]; exact Nat.ne_of_gt (b10 (g := gb186) (o := .cells #[.slice A0_0 l0_0.length c0_0] 24 (0, 0)) (by (with_reducible repeat (first | refine b0 ?_ _ | refine b1 ?_ | refine b2 ?_ _)); exact BK186.out)) : gb187 ≠ gb186)); clear BK186; clear HB; have BK186 := n0_; have HB := n1_; have BK187 := n2_; have GW187 := n3_; have GE187 := n4_; have NB186_187 := n5_; have NB187_186 := n6_; clear n0_ n1_ n2_ n3_ n4_ n5_ n6_; clear hb hbox hg; have hnb9 := NB187_186.out; have hnc9 := NB186_187.out; have hcz10_0 : w8.cell? ⟨gb187, 0, none⟩ = some (.int .i64 a1_0) := (b4 BK187.out 0).trans rfl; have hcz10_1 : w8.cell? ⟨gb187, 1, none⟩ = some (.int .i64 a1_1) := (b4 BK187.out 1).trans rfl; have hcz10_2 : w8.cell? ⟨gb187, 2, none⟩ = some (.int .i64 a1_2) := (b4 BK187.out 2).trans rfl; have hfz10_0 := b9 BK187.out 0; have hfz10_1 := b9 BK187.out 1; have hfz10_2 := b9 BK187.out 2; have hcz11_0 : w8.cell? ⟨gb186, 0, none⟩ = some (.slice A0_0 l0_0.length c0_0) := (b4 BK186.out 0).trans rfl; have hfz11_0 := b9 BK186.out 0) | ((with_reducible refine gate_callee (f := 40) rfl ?_); refine goesL_ (some 11) rfl rfl Try.func40 (by kernel_rfl) rfl #[.int .i64 a1_0, .int .i64 0, .int .i64 (wrap64 ((l0_0.length : Int) - 1))] rfl (by (try simp only [List.map_toArray, List.map_cons, List.map_nil]); first | done | rfl | (simp only [List.length_drop, List.length_take]; rfl)) ?_; (with_reducible refine (tensileref05_In.calls a1_0 0 (wrap64 ((l0_0.length : Int) - 1)) true _ A3.out).mono ?_); rintro e w' ⟨rfl, ⟨nd, rfl⟩⟩; refine ⟨_, rfl, ?_⟩) | (go_at_call 40; (with_reducible refine (tensileref05_In.calls a1_1 0 a1_2 true _ A5.out).mono ?_); rintro e w' ⟨rfl, ⟨nd, rfl⟩⟩))
   go_ret
   exact ⟨by first | rfl | (simp [errW_none, errW_some] <;> rfl) | (simp [*, errW_none, errW_some] <;> rfl), by repeat (first | (with_reducible first | exact HB.out | apply b8 | apply b6 | apply b7 | refine b3 ?_ GE186.out | refine b3 ?_ GE187.out) | exact HB.out)⟩
  ·
   replace c6 := Bool.eq_false_iff.mpr c6
   subst c6
   have H1 : (some false) = some r := by rw [if_neg (show ¬ (false = true) by decide)] at H; exact H
   clear H
   have H := H1
   clear H1
   obtain rfl := Option.some.inj H
   go_enter Try.func75, Try.ntmps75
   go_wp2_with (first | ((with_reducible refine gate_dst (N := 2) rfl ?_); refine box_event ?hg (N := 2) ?hd (cs := #[.slice A0_0 l0_0.length c0_0]) (t := 24) ?hr ?_; (case hd => rfl); (case hg => rfl); (case hr => first | (go_simp; done) | (go_simp; rfl)); intro gb186 hg w12 hbox hb; have n0_ := Aside0.mk (b13 (by repeat (first | (with_reducible first | exact HB.out | apply b8 | apply b6 | apply b7) | exact HB.out)) hb); have n1_ := Aside0.mk (hbox); have n2_ := Aside0.mk ((by rw [hg]; exact (b12 (by repeat (first | (with_reducible first | exact HB.out | apply b8 | apply b6 | apply b7) | exact HB.out))) : w.heap.size ≤ gb186)); have n3_ := Aside0.mk ((by rw [hg]; exact (b12 (by repeat (first | (with_reducible first | exact HB.out | apply b8 | apply b6 | apply b7) | exact HB.out))) : w.heap.size ≤ gb186)); clear HB; have HB := n0_; have BK186 := n1_; have GW186 := n2_; have GE186 := n3_; clear n0_ n1_ n2_ n3_; clear hb hbox hg) | ((with_reducible refine gate_dst (N := 3) rfl ?_); refine box_event ?hg (N := 3) ?hd (cs := #[.int .i64 a1_0, .int .i64 a1_1, .int .i64 a1_2]) (t := 56) ?hr ?_; (case hd => rfl); (case hg => rfl); (case hr => first | (go_simp; done) | (go_simp; rfl)); intro gb187 hg w13 hbox hb; have n0_ := Aside0.mk (b5 (g := gb186) (o := .cells #[.slice A0_0 l0_0.length c0_0] 24 (0, 0)) (by (with_reducible repeat (first | refine b0 ?_ _ | refine b1 ?_ | refine b2 ?_ _)); exact BK186.out) hb); have n1_ := Aside0.mk (b13 (by repeat (first | (with_reducible first | exact HB.out | apply b8 | apply b6 | apply b7 | refine b3 ?_ GE186.out) | exact HB.out)) hb); have n2_ := Aside0.mk (hbox); have n3_ := Aside0.mk ((by rw [hg]; exact (b12 (by repeat (first | (with_reducible first | exact HB.out | apply b8 | apply b6 | apply b7 | refine b3 ?_ GE186.out) | exact HB.out))) : w.heap.size ≤ gb187)); have n4_ := Aside0.mk ((by rw [hg]; exact (b12 (by repeat (first | (with_reducible first | exact HB.out | apply b8 | apply b6 | apply b7 | refine b3 ?_ GE186.out) | exact HB.out))) : w.heap.size ≤ gb187)); have n5_ := Aside0.mk ((by rw [hg]; exact Nat.ne_of_lt (b10 (g := gb186) (o := .cells #[.slice A0_0 l0_0.length c0_0] 24 (0, 0)) (by (with_reducible repeat (first | refine b0 ?_ _ | refine b1 ?_ | refine b2 ?_ _)); exact BK186.out)) : gb186 ≠ gb187)); have n6_ := Aside0.mk ((by rw [hg]; exact Nat.ne_of_gt (b10 (g := gb186) (o := .cells #[.slice A0_0 l0_0.length c0_0] 24 (0, 0)) (by (with_reducible repeat (first | refine b0 ?_ _ | refine b1 ?_ | refine b2 ?_ _)); exact BK186.out)) : gb187 ≠ gb186)); clear BK186; clear HB; have BK186 := n0_; have HB := n1_; have BK187 := n2_; have GW187 := n3_; have GE187 := n4_; have NB186_187 := n5_; have NB187_186 := n6_; clear n0_ n1_ n2_ n3_ n4_ n5_ n6_; clear hb hbox hg; have hnb14 := NB187_186.out; have hnc14 := NB186_187.out; have hcz15_0 : w13.cell? ⟨gb187, 0, none⟩ = some (.int .i64 a1_0) := (b4 BK187.out 0).trans rfl; have hcz15_1 : w13.cell? ⟨gb187, 1, none⟩ = some (.int .i64 a1_1) := (b4 BK187.out 1).trans rfl; have hcz15_2 : w13.cell? ⟨gb187, 2, none⟩ = some (.int .i64 a1_2) := (b4 BK187.out 2).trans rfl; have hfz15_0 := b9 BK187.out 0; have hfz15_1 := b9 BK187.out 1; have hfz15_2 := b9 BK187.out 2; have hcz16_0 : w13.cell? ⟨gb186, 0, none⟩ = some (.slice A0_0 l0_0.length c0_0) := (b4 BK186.out 0).trans rfl; have hfz16_0 := b9 BK186.out 0) | ((with_reducible refine gate_callee (f := 40) rfl ?_); refine goesL_ (some 11) rfl rfl Try.func40 (by kernel_rfl) rfl #[.int .i64 a1_0, .int .i64 0, .int .i64 (wrap64 ((l0_0.length : Int) - 1))] rfl (by (try simp only [List.map_toArray, List.map_cons, List.map_nil]); first | done | rfl | (simp only [List.length_drop, List.length_take]; rfl)) ?_; (with_reducible refine (tensileref05_In.calls a1_0 0 (wrap64 ((l0_0.length : Int) - 1)) true _ A3.out).mono ?_); rintro e w' ⟨rfl, ⟨nd, rfl⟩⟩; refine ⟨_, rfl, ?_⟩) | (go_at_call 40; (with_reducible refine (tensileref05_In.calls a1_1 0 a1_2 false _ A5.out).mono ?_); rintro e w' ⟨rfl, ⟨nd, rfl⟩⟩))
   go_ret
   exact ⟨by first | rfl | (simp [errW_none, errW_some] <;> rfl) | (simp [*, errW_none, errW_some] <;> rfl), by repeat (first | (with_reducible first | exact HB.out | apply b8 | apply b6 | apply b7 | refine b3 ?_ GE186.out | refine b3 ?_ GE187.out) | exact HB.out)⟩
 ·
  replace c4 := Bool.eq_false_iff.mpr c4
  subst c4
  have H1 : (some false) = some r := by rw [if_neg (show ¬ (false = true) by decide)] at H; exact H
  clear H
  have H := H1
  clear H1
  obtain rfl := Option.some.inj H
  go_enter Try.func75, Try.ntmps75
  go_wp2_with (first | ((with_reducible refine gate_dst (N := 2) rfl ?_); refine box_event ?hg (N := 2) ?hd (cs := #[.slice A0_0 l0_0.length c0_0]) (t := 24) ?hr ?_; (case hd => rfl); (case hg => rfl); (case hr => first | (go_simp; done) | (go_simp; rfl)); intro gb186 hg w17 hbox hb; have n0_ := Aside0.mk (b13 (by repeat (first | (with_reducible first | exact HB.out | apply b8 | apply b6 | apply b7) | exact HB.out)) hb); have n1_ := Aside0.mk (hbox); have n2_ := Aside0.mk ((by rw [hg]; exact (b12 (by repeat (first | (with_reducible first | exact HB.out | apply b8 | apply b6 | apply b7) | exact HB.out))) : w.heap.size ≤ gb186)); have n3_ := Aside0.mk ((by rw [hg]; exact (b12 (by repeat (first | (with_reducible first | exact HB.out | apply b8 | apply b6 | apply b7) | exact HB.out))) : w.heap.size ≤ gb186)); clear HB; have HB := n0_; have BK186 := n1_; have GW186 := n2_; have GE186 := n3_; clear n0_ n1_ n2_ n3_; clear hb hbox hg) | ((with_reducible refine gate_dst (N := 3) rfl ?_); refine box_event ?hg (N := 3) ?hd (cs := #[.int .i64 a1_0, .int .i64 a1_1, .int .i64 a1_2]) (t := 56) ?hr ?_; (case hd => rfl); (case hg => rfl); (case hr => first | (go_simp; done) | (go_simp; rfl)); intro gb187 hg w18 hbox hb; have n0_ := Aside0.mk (b5 (g := gb186) (o := .cells #[.slice A0_0 l0_0.length c0_0] 24 (0, 0)) (by (with_reducible repeat (first | refine b0 ?_ _ | refine b1 ?_ | refine b2 ?_ _)); exact BK186.out) hb); have n1_ := Aside0.mk (b13 (by repeat (first | (with_reducible first | exact HB.out | apply b8 | apply b6 | apply b7 | refine b3 ?_ GE186.out) | exact HB.out)) hb); have n2_ := Aside0.mk (hbox); have n3_ := Aside0.mk ((by rw [hg]; exact (b12 (by repeat (first | (with_reducible first | exact HB.out | apply b8 | apply b6 | apply b7 | refine b3 ?_ GE186.out) | exact HB.out))) : w.heap.size ≤ gb187)); have n4_ := Aside0.mk ((by rw [hg]; exact (b12 (by repeat (first | (with_reducible first | exact HB.out | apply b8 | apply b6 | apply b7 | refine b3 ?_ GE186.out) | exact HB.out))) : w.heap.size ≤ gb187)); have n5_ := Aside0.mk ((by rw [hg]; exact Nat.ne_of_lt (b10 (g := gb186) (o := .cells #[.slice A0_0 l0_0.length c0_0] 24 (0, 0)) (by (with_reducible repeat (first | refine b0 ?_ _ | refine b1 ?_ | refine b2 ?_ _)); exact BK186.out)) : gb186 ≠ gb187)); have n6_ := Aside0.mk ((by rw [hg]; exact Nat.ne_of_gt (b10 (g := gb186) (o := .cells #[.slice A0_0 l0_0.length c0_0] 24 (0, 0)) (by (with_reducible repeat (first | refine b0 ?_ _ | refine b1 ?_ | refine b2 ?_ _)); exact BK186.out)) : gb187 ≠ gb186)); clear BK186; clear HB; have BK186 := n0_; have HB := n1_; have BK187 := n2_; have GW187 := n3_; have GE187 := n4_; have NB186_187 := n5_; have NB187_186 := n6_; clear n0_ n1_ n2_ n3_ n4_ n5_ n6_; clear hb hbox hg; have hnb19 := NB187_186.out; have hnc19 := NB186_187.out; have hcz20_0 : w18.cell? ⟨gb187, 0, none⟩ = some (.int .i64 a1_0) := (b4 BK187.out 0).trans rfl; have hcz20_1 : w18.cell? ⟨gb187, 1, none⟩ = some (.int .i64 a1_1) := (b4 BK187.out 1).trans rfl; have hcz20_2 : w18.cell? ⟨gb187, 2, none⟩ = some (.int .i64 a1_2) := (b4 BK187.out 2).trans rfl; have hfz20_0 := b9 BK187.out 0; have hfz20_1 := b9 BK187.out 1; have hfz20_2 := b9 BK187.out 2; have hcz21_0 : w18.cell? ⟨gb186, 0, none⟩ = some (.slice A0_0 l0_0.length c0_0) := (b4 BK186.out 0).trans rfl; have hfz21_0 := b9 BK186.out 0) | ((with_reducible refine gate_callee (f := 40) rfl ?_); refine goesL_ (some 11) rfl rfl Try.func40 (by kernel_rfl) rfl #[.int .i64 a1_0, .int .i64 0, .int .i64 (wrap64 ((l0_0.length : Int) - 1))] rfl (by (try simp only [List.map_toArray, List.map_cons, List.map_nil]); first | done | rfl | (simp only [List.length_drop, List.length_take]; rfl)) ?_; (with_reducible refine (tensileref05_In.calls a1_0 0 (wrap64 ((l0_0.length : Int) - 1)) false _ A3.out).mono ?_); rintro e w' ⟨rfl, ⟨nd, rfl⟩⟩; refine ⟨_, rfl, ?_⟩))
  go_ret
  exact ⟨by first | rfl | (simp [errW_none, errW_some] <;> rfl) | (simp [*, errW_none, errW_some] <;> rfl), by repeat (first | (with_reducible first | exact HB.out | apply b8 | apply b6 | apply b7 | refine b3 ?_ GE186.out | refine b3 ?_ GE187.out) | exact HB.out)⟩
end Go.Proofs.Ytdagijgoegkphaa.P

namespace Go.Proofs.Ytdagijgoegkphaa.P
open Go.RowKit Go.Proofs.YtdagijgoegkphaaW.PrintWords Go.Proofs.YtdagijgoegkphaaW.PrintLast Go.Proofs.YtdagijgoegkphaaW.PrintMore
open Bool renaming true → tt, false → ff
open List renaming setIfInBounds_toArray → l1, set_cons_zero → l2, set_cons_succ → l3
open Go.Proofs.YtdagijgoegkphaaW.PrintWords renaming blk_drewN → b0, blk_drew → b1, blk_alloc → b2, below_set → b3, blk_cell → b4, blk_below → b5, pw_below_drewN → b6, below_drew1 → b7, below_alloc → b8, below_size → b12, below_step → b13
open Go.Proofs.YtdagijgoegkphaaW.PrintWords.Kd renaming C_alloc → k13, C_drewN → k14, C_drew → k15, C_below → k16
attribute [local go_sem] max2_int min2_int max_two min_two max_three min_three max_four min_four   -- for this text's walks alone
def tensileref05_IsPlan.l0 : Nat → List (S56) → Int → List (S54) → Option (Bool)
 | 0, _, _, _ => none
 | k + 1, x1, x5, x297000 => if x5 < (x1.length : Int) then (if 0 ≤ x5 then ((tensileref05_IsSegment.f x297000 ((rd_T56 x1 x5).f0) ((rd_T56 x1 x5).f1.f0) ((rd_T56 x1 x5).f1.f1)).bind fun t298 => (if t298 = true then (tensileref05_IsPlan.l0 k x1 (wrap64 (x5 + 1)) x297000) else (some false))) else (none)) else (some (decide ((x1.length : Int) ≤ 8)))
def tensileref05_IsPlan.f (k : Nat) (l0_0 : List (S54)) (l1 : List (S56)) : Option (Bool) := tensileref05_IsPlan.l0 k l1 0 l0_0
set_option maxHeartbeats 8000000 in
set_option maxRecDepth 100000 in
theorem tensileref05_IsPlan.calls (k : Nat) (A0_0 : Option Addr) (c0_0 : Nat) (l0_0 : List (S54)) (A1 : Option Addr) (c1 : Nat) (l1 : List (S56)) (r : Bool) (w : World) (hr0_0 : Kd.C k54 w A0_0 l0_0.length l0_0) (hc0_0 : l0_0.length ≤ c0_0) (hr1 : Kd.C k56 w A1 l1.length l1) (hc1 : l1.length ≤ c1) (h : tensileref05_IsPlan.f k l0_0 l1 = some r) :
  Calls Try.prog 44 #[.agg #[.slice A0_0 l0_0.length c0_0], .slice A1 l1.length c1] w fun e w' => e = .returned (.bool r) ∧ Below w.heap.size w w' := by
 have hu24 := Try.underlying24
 have hu56 := Try.underlying56
 have HR0_0 := Aside0.mk hr0_0
 have HC0_0 := Aside0.mk hc0_0
 clear hr0_0 hc0_0
 have HR1 := Aside0.mk hr1
 have HC1 := Aside0.mk hc1
 clear hr1 hc1
 have HB := Aside0.mk (Below.refl w.heap.size w)
 have H : (tensileref05_IsPlan.l0 k l1 0 l0_0) = some r := h
 clear h
 have H' := Aside0.mk H
 clear H
 go_enter Try.func44, Try.ntmps44
 go_wp2_with (first | ((with_reducible refine gate_dst (N := 2) rfl ?_); refine box_event ?hg (N := 2) ?hd (cs := #[.slice A0_0 l0_0.length c0_0]) (t := 24) ?hr ?_; (case hd => rfl); (case hg => rfl); (case hr => first | (go_simp; done) | (go_simp; rfl)); intro gb296 hg w3 hbox hb; have n0_ := Aside0.mk (b13 (by repeat (first | (with_reducible first | exact HB.out | apply b8 | apply b6 | apply b7) | exact HB.out)) hb); have n1_ := Aside0.mk (hbox); have n2_ := Aside0.mk ((by rw [hg]; exact (b12 (by repeat (first | (with_reducible first | exact HB.out | apply b8 | apply b6 | apply b7) | exact HB.out))) : w.heap.size ≤ gb296)); have n3_ := Aside0.mk ((by rw [hg]; exact (b12 (by repeat (first | (with_reducible first | exact HB.out | apply b8 | apply b6 | apply b7) | exact HB.out))) : w.heap.size ≤ gb296)); clear HB; have HB := n0_; have BK296 := n1_; have GW296 := n2_; have GE296 := n3_; clear n0_ n1_ n2_ n3_; clear hb hbox hg))
 go_loopg [5] k (fun kq v5 w' => ∃ (x5_1 : Int), v5 = .int .i64 x5_1 ∧ Aside0 (tensileref05_IsPlan.l0 kq l1 x5_1 l0_0 = some r) ∧ Aside0 (kq ≤ k) ∧ Aside0 (w'.heap[gb296]? = some (.cells #[(.slice A0_0 l0_0.length c0_0)] 24 (0, 0))) ∧ Aside0 (Below w.heap.size w w'))
 case atStart => exact ⟨(0), (by first | rfl | (simp; done) | (simp [*]; done)), H', ⟨Nat.le_refl _⟩, ⟨by (with_reducible repeat (first | refine b0 ?_ _ | refine b1 ?_ | refine b2 ?_ _)); exact BK296.out⟩, ⟨by repeat (first | (with_reducible first | exact HB.out | apply b8 | apply b6 | apply b7 | refine b3 ?_ GE296.out) | exact HB.out)⟩⟩
 case round =>
  clear H'
  try clear c1
  try clear p2
  obtain ⟨x5_1, rfl, HA, HK1, BK296, HB⟩ := hrel
  cases gk with
  | zero => exact absurd HA.out (by simp [tensileref05_IsPlan.l0])
  | succ k1 =>
   have H := HA.out
   clear HA
   simp only [tensileref05_IsPlan.l0] at H
   by_cases c4 : x5_1 < (l1.length : Int)
   ·
    rw [if_pos c4] at H
    have c4b0 : decide (x5_1 < (l1.length : Int)) = true := decide_eq_true c4
    clear c4
    by_cases c5 : 0 ≤ x5_1
    ·
     rw [if_pos c5] at H
     have c5b0 : decide (0 ≤ x5_1) = true := decide_eq_true c5
     clear c5
     replace H := Option.bind_eq_some_iff.mp H
     obtain ⟨t298, A60, H⟩ := H
     replace H : (if t298 = true then (tensileref05_IsPlan.l0 k1 l1 (wrap64 (x5_1 + 1)) l0_0) else (some false)) = some r := H
     have A6 := Aside0.mk A60
     clear A60
     by_cases c7 : t298 = true
     ·
      subst c7
      have H1 : (tensileref05_IsPlan.l0 k1 l1 (wrap64 (x5_1 + 1)) l0_0) = some r := by rw [if_pos rfl] at H; exact H
      clear H
      have H := H1
      clear H1
      have H' := Aside0.mk H
      clear H
      try go_wp2
      have n0_ := Aside0.mk (b1 BK296.out)
      have n1_ := Aside0.mk (b7 HB.out)
      clear BK296
      clear HB
      have BK296 := n0_
      have HB := n1_
      clear n0_ n1_
      have p297 : 0 ≤ (x5_1 : Int) := of_decide_eq_true (by first | (with_reducible assumption) | assumption)
      have q297 : x5_1 < (l1.length : Int) := of_decide_eq_true (by first | (with_reducible assumption) | assumption)
      obtain ⟨ad297, e297, hx297_0, hx297_1, hx297_2⟩ := at_T56 HR1.out x5_1 p297 q297
      have hw297_2 := hx297_2
      have hw297_1 := hx297_1
      have hw297_0 := hx297_0
      cases e297
      replace hx297_0 := (HB.out.cell (World.block_lt_of_cell? w _ hx297_0)).trans hx297_0
      replace hx297_1 := (HB.out.cell (World.block_lt_of_cell? w _ hx297_1)).trans hx297_1
      replace hx297_2 := (HB.out.cell (World.block_lt_of_cell? w _ hx297_2)).trans hx297_2
      replace p297 := eq_true p297
      replace q297 := eq_true q297
      refine start_ (n := 7) (S := fun w' => w'.cell? ⟨gb296, 0, none⟩ = some (.slice A0_0 l0_0.length c0_0) ∧ w'.cell? (ad297.add ((x5_1).toNat * 3)) = some (.int .i64 ((rd_T56 l1 x5_1).f0)) ∧ w'.cell? ⟨(ad297.add ((x5_1).toNat * 3)).block, (ad297.add ((x5_1).toNat * 3)).off + 1, none⟩ = some (.int .i64 ((rd_T56 l1 x5_1).f1.f0)) ∧ w'.cell? ⟨(ad297.add ((x5_1).toNat * 3)).block, (ad297.add ((x5_1).toNat * 3)).off + 2, none⟩ = some (.int .i64 ((rd_T56 l1 x5_1).f1.f1))) (ds := []) #[ff,ff,ff,ff,ff,ff,ff] (by kernel_rfl) rfl rfl ⟨(b4 BK296.out 0).trans rfl, ((HB.out.cell (World.block_lt_of_cell? w _ hw297_0)).trans hw297_0), ((HB.out.cell (World.block_lt_of_cell? w _ hw297_1)).trans hw297_1), ((HB.out.cell (World.block_lt_of_cell? w _ hw297_2)).trans hw297_2)⟩ (fun hHeld => ?_)
      generalize wr.drew = w8 at BK296 HB hx297_0 hx297_1 hx297_2 hHeld ⊢
      refine pure_ (i := 1) (N := some 13) (v := ?_) (a' := ?_) #[ff,tt,ff,ff,ff,ff,ff] rfl rfl (by kernel_rfl) (fun _ _ _ h => h) (Or.inl ⟨by rfl, ?_⟩) ?_ ?_
      rotate_left
      ·
       intro w'
       go_simp
       with_reducible rfl
      rotate_left
      ·
       simp only [Act.put, l1, l2, l3, i64_w, i32_w]
       rfl
      refine pure_ (i := 2) (N := some 14) (v := ?_) (a' := ?_) #[ff,tt,tt,ff,ff,ff,ff] rfl rfl (by kernel_rfl) (fun _ _ _ h => h) (Or.inl ⟨by rfl, ?_⟩) ?_ ?_
      rotate_left
      ·
       intro w'
       go_simp
       with_reducible rfl
      rotate_left
      ·
       simp only [Act.put, l1, l2, l3, i64_w, i32_w]
       rfl
      refine pure_ (i := 3) (N := some 15) (v := ?_) (a' := ?_) #[ff,tt,tt,tt,ff,ff,ff] rfl rfl (by kernel_rfl) (fun _ _ _ h => h) (Or.inl ⟨by rfl, ?_⟩) ?_ ?_
      rotate_left
      ·
       intro w'
       go_simp
       with_reducible rfl
      rotate_left
      ·
       simp only [Act.put, l1, l2, l3, i64_w, i32_w]
       rfl
      refine take_ (i := 0) (N := some 12) (v := ?_) (a' := ?_) #[tt,tt,tt,tt,ff,ff,ff] rfl rfl (by kernel_rfl) (fun _ _ _ h => h) (Or.inl ⟨by rfl, ?_⟩) hHeld ?_ ?_
      rotate_left
      ·
       rintro w' ⟨s0, s1, s2, s3⟩
       go_simp
       with_reducible rfl
      rotate_left
      ·
       simp only [Act.put, l1, l2, l3, i64_w, i32_w]
       rfl
      refine take_ (i := 4) (N := some 16) (v := ?_) (a' := ?_) #[tt,tt,tt,tt,tt,ff,ff] rfl rfl (by kernel_rfl) (fun _ _ _ h => h) (Or.inl ⟨by rfl, ?_⟩) hHeld ?_ ?_
      rotate_left
      ·
       rintro w' ⟨s0, s1, s2, s3⟩
       go_simp
       with_reducible rfl
      rotate_left
      ·
       simp only [Act.put, l1, l2, l3, i64_w, i32_w]
       rfl
      refine one_ (i := 5) (N := some 17) #[tt,tt,tt,tt,tt,tt,ff] rfl rfl (by kernel_rfl) (by decide) (fun K hK => ?_)
      refine goes_ Try.func75 (by kernel_rfl) rfl #[.agg #[.slice A0_0 l0_0.length c0_0], .agg #[.int .i64 ((rd_T56 l1 x5_1).f0), .int .i64 ((rd_T56 l1 x5_1).f1.f0), .int .i64 ((rd_T56 l1 x5_1).f1.f1)]] (by rfl) rfl rfl (by (try simp only [List.map_toArray, List.map_cons, List.map_nil]); first | done | rfl | (simp only [List.length_drop, List.length_take]; rfl)) ?_
      with_reducible refine (tensileref05_IsSegment.calls _ _ l0_0 ((rd_T56 l1 x5_1).f0) ((rd_T56 l1 x5_1).f1.f0) ((rd_T56 l1 x5_1).f1.f1) true _ ?side1 ?side2 A6.out).mono ?_
      (case side1 => repeat (first | exact (k16 HR0_0.out HB.out) | (with_reducible refine k13 ?_ _) | (with_reducible refine k14 ?_ _) | (with_reducible refine k15 ?_)))
      (case side2 => exact HC0_0.out)
      rintro e w9 ⟨rfl, hb⟩
      refine ⟨_, rfl, ?_⟩
      have n0_ := Aside0.mk (b5 (g := gb296) (o := .cells #[.slice A0_0 l0_0.length c0_0] 24 (0, 0)) (by (with_reducible repeat (first | refine b0 ?_ _ | refine b1 ?_ | refine b2 ?_ _)); exact BK296.out) hb)
      have n1_ := Aside0.mk (b13 (by repeat (first | (with_reducible first | exact HB.out | apply b8 | apply b6 | apply b7 | refine b3 ?_ GE296.out) | exact HB.out)) hb)
      clear BK296
      clear HB
      have BK296 := n0_
      have HB := n1_
      clear n0_ n1_
      (try clear hb)
      (try clear hb2)
      (try clear hk)
      (try clear hi)
      refine hK.out _ _ ⟨(b4 BK296.out 0).trans rfl, ((HB.out.cell (World.block_lt_of_cell? w _ hw297_0)).trans hw297_0), ((HB.out.cell (World.block_lt_of_cell? w _ hw297_1)).trans hw297_1), ((HB.out.cell (World.block_lt_of_cell? w _ hw297_2)).trans hw297_2)⟩ (fun hHeld => ?_)
      clear hK K
      refine norm_ (a' := ?_) ?_ ?_
      rotate_left
      ·
       show Act.put _ (some 17) _ = _
       simp only [Act.put, l1, l2, l3, i64_w, i32_w]
       rfl
      refine pure_ (i := 6) (N := some 18) (v := ?_) (a' := ?_) #[tt,tt,tt,tt,tt,tt,tt] rfl rfl (by kernel_rfl) (fun _ _ _ h => h) (Or.inl ⟨by rfl, ?_⟩) ?_ ?_
      rotate_left
      ·
       intro w'
       go_simp
       with_reducible rfl
      rotate_left
      ·
       simp only [Act.put, l1, l2, l3, i64_w, i32_w]
       rfl
      refine done_ (by kernel_rfl) ?_
      try go_wp2
      go_roundg k1
      case measure => have := HK1.out; omega
      case rel => exact ⟨(wrap64 (x5_1 + 1)), (by first | rfl | (simp; done) | (simp [*]; done)), H', ⟨by have := HK1.out; omega⟩, ⟨by (with_reducible repeat (first | refine b0 ?_ _ | refine b1 ?_ | refine b2 ?_ _)); exact BK296.out⟩, ⟨by repeat (first | (with_reducible first | exact HB.out | apply b8 | apply b6 | apply b7 | refine b3 ?_ GE296.out) | exact HB.out)⟩⟩
     ·
      replace c7 := Bool.eq_false_iff.mpr c7
      subst c7
      have H1 : (some false) = some r := by rw [if_neg (show ¬ (false = true) by decide)] at H; exact H
      clear H
      have H := H1
      clear H1
      obtain rfl := Option.some.inj H
      try go_wp2
      have n0_ := Aside0.mk (b1 BK296.out)
      have n1_ := Aside0.mk (b7 HB.out)
      clear BK296
      clear HB
      have BK296 := n0_
      have HB := n1_
      clear n0_ n1_
      have p297 : 0 ≤ (x5_1 : Int) := of_decide_eq_true (by first | (with_reducible assumption) | assumption)
      have q297 : x5_1 < (l1.length : Int) := of_decide_eq_true (by first | (with_reducible assumption) | assumption)
      obtain ⟨ad297, e297, hx297_0, hx297_1, hx297_2⟩ := at_T56 HR1.out x5_1 p297 q297
      have hw297_2 := hx297_2
      have hw297_1 := hx297_1
      have hw297_0 := hx297_0
      cases e297
      replace hx297_0 := (HB.out.cell (World.block_lt_of_cell? w _ hx297_0)).trans hx297_0
      replace hx297_1 := (HB.out.cell (World.block_lt_of_cell? w _ hx297_1)).trans hx297_1
      replace hx297_2 := (HB.out.cell (World.block_lt_of_cell? w _ hx297_2)).trans hx297_2
      replace p297 := eq_true p297
      replace q297 := eq_true q297
      refine start_ (n := 7) (S := fun w' => w'.cell? ⟨gb296, 0, none⟩ = some (.slice A0_0 l0_0.length c0_0) ∧ w'.cell? (ad297.add ((x5_1).toNat * 3)) = some (.int .i64 ((rd_T56 l1 x5_1).f0)) ∧ w'.cell? ⟨(ad297.add ((x5_1).toNat * 3)).block, (ad297.add ((x5_1).toNat * 3)).off + 1, none⟩ = some (.int .i64 ((rd_T56 l1 x5_1).f1.f0)) ∧ w'.cell? ⟨(ad297.add ((x5_1).toNat * 3)).block, (ad297.add ((x5_1).toNat * 3)).off + 2, none⟩ = some (.int .i64 ((rd_T56 l1 x5_1).f1.f1))) (ds := []) #[ff,ff,ff,ff,ff,ff,ff] (by kernel_rfl) rfl rfl ⟨(b4 BK296.out 0).trans rfl, ((HB.out.cell (World.block_lt_of_cell? w _ hw297_0)).trans hw297_0), ((HB.out.cell (World.block_lt_of_cell? w _ hw297_1)).trans hw297_1), ((HB.out.cell (World.block_lt_of_cell? w _ hw297_2)).trans hw297_2)⟩ (fun hHeld => ?_)
      generalize wr.drew = w10 at BK296 HB hx297_0 hx297_1 hx297_2 hHeld ⊢
      refine pure_ (i := 1) (N := some 13) (v := ?_) (a' := ?_) #[ff,tt,ff,ff,ff,ff,ff] rfl rfl (by kernel_rfl) (fun _ _ _ h => h) (Or.inl ⟨by rfl, ?_⟩) ?_ ?_
      rotate_left
      ·
       intro w'
       go_simp
       with_reducible rfl
      rotate_left
      ·
       simp only [Act.put, l1, l2, l3, i64_w, i32_w]
       rfl
      refine pure_ (i := 2) (N := some 14) (v := ?_) (a' := ?_) #[ff,tt,tt,ff,ff,ff,ff] rfl rfl (by kernel_rfl) (fun _ _ _ h => h) (Or.inl ⟨by rfl, ?_⟩) ?_ ?_
      rotate_left
      ·
       intro w'
       go_simp
       with_reducible rfl
      rotate_left
      ·
       simp only [Act.put, l1, l2, l3, i64_w, i32_w]
       rfl
      refine pure_ (i := 3) (N := some 15) (v := ?_) (a' := ?_) #[ff,tt,tt,tt,ff,ff,ff] rfl rfl (by kernel_rfl) (fun _ _ _ h => h) (Or.inl ⟨by rfl, ?_⟩) ?_ ?_
      rotate_left
      ·
       intro w'
       go_simp
       with_reducible rfl
      rotate_left
      ·
       simp only [Act.put, l1, l2, l3, i64_w, i32_w]
       rfl
      refine take_ (i := 0) (N := some 12) (v := ?_) (a' := ?_) #[tt,tt,tt,tt,ff,ff,ff] rfl rfl (by kernel_rfl) (fun _ _ _ h => h) (Or.inl ⟨by rfl, ?_⟩) hHeld ?_ ?_
      rotate_left
      ·
       rintro w' ⟨s0, s1, s2, s3⟩
       go_simp
       with_reducible rfl
      rotate_left
      ·
       simp only [Act.put, l1, l2, l3, i64_w, i32_w]
       rfl
      refine take_ (i := 4) (N := some 16) (v := ?_) (a' := ?_) #[tt,tt,tt,tt,tt,ff,ff] rfl rfl (by kernel_rfl) (fun _ _ _ h => h) (Or.inl ⟨by rfl, ?_⟩) hHeld ?_ ?_
      rotate_left
      ·
       rintro w' ⟨s0, s1, s2, s3⟩
       go_simp
       with_reducible rfl
      rotate_left
      ·
       simp only [Act.put, l1, l2, l3, i64_w, i32_w]
       rfl
      refine one_ (i := 5) (N := some 17) #[tt,tt,tt,tt,tt,tt,ff] rfl rfl (by kernel_rfl) (by decide) (fun K hK => ?_)
      refine goes_ Try.func75 (by kernel_rfl) rfl #[.agg #[.slice A0_0 l0_0.length c0_0], .agg #[.int .i64 ((rd_T56 l1 x5_1).f0), .int .i64 ((rd_T56 l1 x5_1).f1.f0), .int .i64 ((rd_T56 l1 x5_1).f1.f1)]] (by rfl) rfl rfl (by (try simp only [List.map_toArray, List.map_cons, List.map_nil]); first | done | rfl | (simp only [List.length_drop, List.length_take]; rfl)) ?_
      with_reducible refine (tensileref05_IsSegment.calls _ _ l0_0 ((rd_T56 l1 x5_1).f0) ((rd_T56 l1 x5_1).f1.f0) ((rd_T56 l1 x5_1).f1.f1) false _ ?side1 ?side2 A6.out).mono ?_
      (case side1 => repeat (first | exact (k16 HR0_0.out HB.out) | (with_reducible refine k13 ?_ _) | (with_reducible refine k14 ?_ _) | (with_reducible refine k15 ?_)))
      (case side2 => exact HC0_0.out)
      rintro e w11 ⟨rfl, hb⟩
      refine ⟨_, rfl, ?_⟩
      have n0_ := Aside0.mk (b5 (g := gb296) (o := .cells #[.slice A0_0 l0_0.length c0_0] 24 (0, 0)) (by (with_reducible repeat (first | refine b0 ?_ _ | refine b1 ?_ | refine b2 ?_ _)); exact BK296.out) hb)
      have n1_ := Aside0.mk (b13 (by repeat (first | (with_reducible first | exact HB.out | apply b8 | apply b6 | apply b7 | refine b3 ?_ GE296.out) | exact HB.out)) hb)
      clear BK296
      clear HB
      have BK296 := n0_
      have HB := n1_
      clear n0_ n1_
      (try clear hb)
      (try clear hb2)
      (try clear hk)
      (try clear hi)
      refine hK.out _ _ ⟨(b4 BK296.out 0).trans rfl, ((HB.out.cell (World.block_lt_of_cell? w _ hw297_0)).trans hw297_0), ((HB.out.cell (World.block_lt_of_cell? w _ hw297_1)).trans hw297_1), ((HB.out.cell (World.block_lt_of_cell? w _ hw297_2)).trans hw297_2)⟩ (fun hHeld => ?_)
      clear hK K
      refine norm_ (a' := ?_) ?_ ?_
      rotate_left
      ·
       show Act.put _ (some 17) _ = _
       simp only [Act.put, l1, l2, l3, i64_w, i32_w]
       rfl
      refine pure_ (i := 6) (N := some 18) (v := ?_) (a' := ?_) #[tt,tt,tt,tt,tt,tt,tt] rfl rfl (by kernel_rfl) (fun _ _ _ h => h) (Or.inl ⟨by rfl, ?_⟩) ?_ ?_
      rotate_left
      ·
       intro w'
       go_simp
       with_reducible rfl
      rotate_left
      ·
       simp only [Act.put, l1, l2, l3, i64_w, i32_w]
       rfl
      refine done_ (by kernel_rfl) ?_
      try go_wp2
      go_ret
      exact ⟨by first | rfl | (simp [errW_none, errW_some] <;> rfl) | (simp [*, errW_none, errW_some] <;> rfl), by repeat (first | (with_reducible first | exact HB.out | apply b8 | apply b6 | apply b7 | refine b3 ?_ GE296.out) | exact HB.out)⟩
    ·
     rw [if_neg c5] at H
     exact absurd H (by simp)
   ·
    rw [if_neg c4] at H
    have c4b0 : decide (x5_1 < (l1.length : Int)) = false := decide_eq_false c4
    clear c4
    obtain rfl := Option.some.inj H
    go_wp2
    go_ret
    exact ⟨by first | rfl | (simp [errW_none, errW_some] <;> rfl) | (simp [*, errW_none, errW_some] <;> rfl), by repeat (first | (with_reducible first | exact HB.out | apply b8 | apply b6 | apply b7 | refine b3 ?_ GE296.out) | exact HB.out)⟩
end Go.Proofs.Ytdagijgoegkphaa.P

namespace Go.Proofs.Ytdagijgoegkphaa.P
open Go.RowKit Go.Proofs.YtdagijgoegkphaaW.PrintWords Go.Proofs.YtdagijgoegkphaaW.PrintLast Go.Proofs.YtdagijgoegkphaaW.PrintMore
open List renaming setIfInBounds_toArray → l1, set_cons_zero → l2, set_cons_succ → l3
open Go.Proofs.YtdagijgoegkphaaW.PrintWords renaming blk_drewN → b0, blk_drew → b1, blk_alloc → b2, below_set → b3, blk_cell → b4, blk_below → b5, pw_below_drewN → b6, below_drew1 → b7, below_alloc → b8, blk_frozen → b9, blk_lt → b10, blk_far → b11, below_size → b12, below_step → b13
attribute [local go_sem] max2_int min2_int max_two min_two max_three min_three max_four min_four   -- for this text's walks alone
mutual
def tensileref05_MaterialFault.l0 : Nat → Int → Int → List (S54) → Option (Int)
 | 0, _, _, _ => none
 | k + 1, x3, x4, x182000 => if x4 < (x182000.length : Int) then (if 0 ≤ x4 then ((tensileref05_In.f ((rd_T54 x182000 x4).f0) 0 ((rd_T54 x182000 x4).f1)).bind fun t185 => (if t185 = true then (if ((rd_T54 x182000 x4).f1) > 1000 then (tensileref05_MaterialFault.j1 k x3 x4 true x182000 ((rd_T54 x182000 x4).f0) ((rd_T54 x182000 x4).f1)) else (tensileref05_MaterialFault.j1 k x3 x4 (decide ((wrap64 (((rd_T54 x182000 x4).f1) - ((rd_T54 x182000 x4).f0))) > 20)) x182000 ((rd_T54 x182000 x4).f0) ((rd_T54 x182000 x4).f1))) else (tensileref05_MaterialFault.j1 k x3 x4 true x182000 ((rd_T54 x182000 x4).f0) ((rd_T54 x182000 x4).f1)))) else (none)) else (some 0)
def tensileref05_MaterialFault.j1 : Nat → Int → Int → Bool → List (S54) → Int → Int → Option (Int)
 | 0, _, _, _, _, _, _ => none
 | k + 1, x3, x4, x41, x182000, x185000, x185001 => if x41 = true then (some 1) else (if (mx x3 x185000) > x185001 then (some 1) else (tensileref05_MaterialFault.l0 k (mx x3 x185000) (wrap64 (x4 + 1)) x182000))
end
def tensileref05_MaterialFault.f (k : Nat) (l0_0 : List (S54)) : Option (Int) := (tensileref05_In.f (l0_0.length : Int) 1 3).bind fun t182 => (if t182 = true then (tensileref05_MaterialFault.l0 k 0 0 l0_0) else (some 1))
set_option maxHeartbeats 8000000 in
set_option maxRecDepth 100000 in
theorem tensileref05_MaterialFault.calls (k : Nat) (A0_0 : Option Addr) (c0_0 : Nat) (l0_0 : List (S54)) (r : Int) (w : World) (hr0_0 : Kd.C k54 w A0_0 l0_0.length l0_0) (hc0_0 : l0_0.length ≤ c0_0) (h : tensileref05_MaterialFault.f k l0_0 = some r) :
  Calls Try.prog 48 #[.agg #[.slice A0_0 l0_0.length c0_0]] w fun e w' => e = .returned (.int .i64 r) ∧ Below w.heap.size w w' := by
 have hu24 := Try.underlying24
 have hu54 := Try.underlying54
 have HR0_0 := Aside0.mk hr0_0
 have HC0_0 := Aside0.mk hc0_0
 clear hr0_0 hc0_0
 have HB := Aside0.mk (Below.refl w.heap.size w)
 have H : ((tensileref05_In.f (l0_0.length : Int) 1 3).bind fun t182 => (if t182 = true then (tensileref05_MaterialFault.l0 k 0 0 l0_0) else (some 1))) = some r := h
 clear h
 replace H := Option.bind_eq_some_iff.mp H
 obtain ⟨t182, A20, H⟩ := H
 replace H : (if t182 = true then (tensileref05_MaterialFault.l0 k 0 0 l0_0) else (some 1)) = some r := H
 have A2 := Aside0.mk A20
 clear A20
 by_cases c3 : t182 = true
 ·
  subst c3
  have H1 : (tensileref05_MaterialFault.l0 k 0 0 l0_0) = some r := by rw [if_pos rfl] at H; exact H
  clear H
  have H := H1
  clear H1
  have H' := Aside0.mk H
  clear H
  go_enter Try.func48, Try.ntmps48
  go_wp2_with (first | ((with_reducible refine gate_dst (N := 1) rfl ?_); refine box_event ?hg (N := 1) ?hd (cs := #[.slice A0_0 l0_0.length c0_0]) (t := 24) ?hr ?_; (case hd => rfl); (case hg => rfl); (case hr => first | (go_simp; done) | (go_simp; rfl)); intro gb181 hg w4 hbox hb; have n0_ := Aside0.mk (b13 (by repeat (first | (with_reducible first | exact HB.out | apply b8 | apply b6 | apply b7) | exact HB.out)) hb); have n1_ := Aside0.mk (hbox); have n2_ := Aside0.mk ((by rw [hg]; exact (b12 (by repeat (first | (with_reducible first | exact HB.out | apply b8 | apply b6 | apply b7) | exact HB.out))) : w.heap.size ≤ gb181)); have n3_ := Aside0.mk ((by rw [hg]; exact (b12 (by repeat (first | (with_reducible first | exact HB.out | apply b8 | apply b6 | apply b7) | exact HB.out))) : w.heap.size ≤ gb181)); clear HB; have HB := n0_; have BK181 := n1_; have GW181 := n2_; have GE181 := n3_; clear n0_ n1_ n2_ n3_; clear hb hbox hg; have hcz5_0 : w4.cell? ⟨gb181, 0, none⟩ = some (.slice A0_0 l0_0.length c0_0) := (b4 BK181.out 0).trans rfl; have hfz5_0 := b9 BK181.out 0) | ((with_reducible refine gate_callee (f := 40) rfl ?_); refine goesL_ (some 9) rfl rfl Try.func40 (by kernel_rfl) rfl #[.int .i64 (l0_0.length : Int), .int .i64 1, .int .i64 3] rfl (by (try simp only [List.map_toArray, List.map_cons, List.map_nil]); first | done | rfl | (simp only [List.length_drop, List.length_take]; rfl)) ?_; (with_reducible refine (tensileref05_In.calls (l0_0.length : Int) 1 3 true _ A2.out).mono ?_); rintro e w' ⟨rfl, ⟨nd, rfl⟩⟩; refine ⟨_, rfl, ?_⟩))
  go_loopg [3, 4] k (fun kq v3 v4 w' => ∃ (x3_1 : Int) (x4_1 : Int), v3 = .int .i64 x3_1 ∧ v4 = .int .i64 x4_1 ∧ Aside0 (tensileref05_MaterialFault.l0 kq x3_1 x4_1 l0_0 = some r) ∧ Aside0 (kq ≤ k) ∧ Aside0 (w'.heap[gb181]? = some (.cells #[(.slice A0_0 l0_0.length c0_0)] 24 (0, 0))) ∧ Aside0 (Below w.heap.size w w'))
  case atStart => exact ⟨(0), (0), (by first | rfl | (simp; done) | (simp [*]; done)), (by first | rfl | (simp; done) | (simp [*]; done)), H', ⟨Nat.le_refl _⟩, ⟨by (with_reducible repeat (first | refine b0 ?_ _ | refine b1 ?_ | refine b2 ?_ _)); exact BK181.out⟩, ⟨by repeat (first | (with_reducible first | exact HB.out | apply b8 | apply b6 | apply b7 | refine b3 ?_ GE181.out) | exact HB.out)⟩⟩
  case round =>
   clear H'
   try clear p2
   try clear c3
   try clear c4
   try clear hcz5_0
   try clear hfz5_0
   obtain ⟨x3_1, x4_1, rfl, rfl, HA, HK1, BK181, HB⟩ := hrel
   cases gk with
   | zero => exact absurd HA.out (by simp [tensileref05_MaterialFault.l0])
   | succ k1 =>
    have H := HA.out
    clear HA
    simp only [tensileref05_MaterialFault.l0] at H
    by_cases c6 : x4_1 < (l0_0.length : Int)
    ·
     rw [if_pos c6] at H
     have c6b0 : decide (x4_1 < (l0_0.length : Int)) = true := decide_eq_true c6
     clear c6
     by_cases c7 : 0 ≤ x4_1
     ·
      rw [if_pos c7] at H
      have c7b0 : decide (0 ≤ x4_1) = true := decide_eq_true c7
      clear c7
      have HC8 := Aside0.mk H
      clear H
      have hcz9_0 : wr.cell? ⟨gb181, 0, none⟩ = some (.slice A0_0 l0_0.length c0_0) := (b4 BK181.out 0).trans rfl
      have hfz9_0 := b9 BK181.out 0
      have p183 : 0 ≤ (x4_1 : Int) := of_decide_eq_true (by first | (with_reducible assumption) | assumption)
      have q183 : x4_1 < (l0_0.length : Int) := of_decide_eq_true (by first | (with_reducible assumption) | assumption)
      obtain ⟨ad183, e183, hx183_0, hx183_1⟩ := at_T54 HR0_0.out x4_1 p183 q183
      cases e183
      replace hx183_0 := (HB.out.cell (World.block_lt_of_cell? w _ hx183_0)).trans hx183_0
      replace hx183_1 := (HB.out.cell (World.block_lt_of_cell? w _ hx183_1)).trans hx183_1
      replace p183 := eq_true p183
      replace q183 := eq_true q183
      go_upto_region 8 with (first | ((with_reducible refine gate_dst (N := 5) rfl ?_); refine box_event ?hg (N := 5) ?hd (cs := #[.int .i64 0, .int .i64 0]) (t := 54) ?hr ?_; (case hd => rfl); (case hg => rfl); (case hr => first | (go_simp; done) | (go_simp; rfl)); intro gb184 hg w10 hbox hb; have n0_ := Aside0.mk (b5 (g := gb181) (o := .cells #[.slice (some ad183) l0_0.length c0_0] 24 (0, 0)) (by (with_reducible repeat (first | refine b0 ?_ _ | refine b1 ?_ | refine b2 ?_ _)); exact BK181.out) hb); have n1_ := Aside0.mk (b13 (by repeat (first | (with_reducible first | exact HB.out | apply b8 | apply b6 | apply b7 | refine b3 ?_ GE181.out) | exact HB.out)) hb); have n2_ := Aside0.mk (hbox); have n3_ := Aside0.mk ((by rw [hg]; exact (b12 (by repeat (first | (with_reducible first | exact HB.out | apply b8 | apply b6 | apply b7 | refine b3 ?_ GE181.out) | exact HB.out))) : w.heap.size ≤ gb184)); have n4_ := Aside0.mk ((by rw [hg]; exact (b12 (by repeat (first | (with_reducible first | exact HB.out | apply b8 | apply b6 | apply b7 | refine b3 ?_ GE181.out) | exact HB.out))) : w.heap.size ≤ gb184)); have n5_ := Aside0.mk ((by rw [hg]; exact Nat.ne_of_lt (b10 (g := gb181) (o := .cells #[.slice (some ad183) l0_0.length c0_0] 24 (0, 0)) (by (with_reducible repeat (first | refine b0 ?_ _ | refine b1 ?_ | refine b2 ?_ _)); exact BK181.out)) : gb181 ≠ gb184)); have n6_ := Aside0.mk ((by rw [hg]; exact Nat.ne_of_gt (b10 (g := gb181) (o := .cells #[.slice (some ad183) l0_0.length c0_0] 24 (0, 0)) (by (with_reducible repeat (first | refine b0 ?_ _ | refine b1 ?_ | refine b2 ?_ _)); exact BK181.out)) : gb184 ≠ gb181)); clear BK181; clear HB; have BK181 := n0_; have HB := n1_; have BK184 := n2_; have GW184 := n3_; have GE184 := n4_; have NB181_184 := n5_; have NB184_181 := n6_; clear n0_ n1_ n2_ n3_ n4_ n5_ n6_; clear hb hbox hg; have hnb11 := NB184_181.out; have hnc11 := NB181_184.out; have hcz12_0 : w10.cell? ⟨gb184, 0, none⟩ = some (.int .i64 0) := (b4 BK184.out 0).trans rfl; have hcz12_1 : w10.cell? ⟨gb184, 1, none⟩ = some (.int .i64 0) := (b4 BK184.out 1).trans rfl; have hfz12_0 := b9 BK184.out 0; have hfz12_1 := b9 BK184.out 1))
      (try simp only [Act.put, l1, l2, l3])
      go_cut [41] (fun v41 wc => ∃ (kq : Nat) (x41_7 : Bool), v41 = .bool x41_7 ∧ Aside0 (tensileref05_MaterialFault.j1 kq x3_1 x4_1 x41_7 l0_0 ((rd_T54 l0_0 x4_1).f0) ((rd_T54 l0_0 x4_1).f1) = some r) ∧ Aside0 (kq ≤ k1) ∧ Aside0 (wc.heap[gb181]? = some (.cells #[(.slice (some ad183) l0_0.length c0_0)] 24 (0, 0))) ∧ Aside0 (wc.heap[gb184]? = some (.cells #[.int .i64 ((rd_T54 l0_0 x4_1).f0), .int .i64 ((rd_T54 l0_0 x4_1).f1)] 54 (0, 0))) ∧ Aside0 (Below w.heap.size w wc))
      case first =>
       have H := HC8.out
       clear HC8
       replace H := Option.bind_eq_some_iff.mp H
       obtain ⟨t185, A130, H⟩ := H
       replace H : (if t185 = true then (if ((rd_T54 l0_0 x4_1).f1) > 1000 then (tensileref05_MaterialFault.j1 k1 x3_1 x4_1 true l0_0 ((rd_T54 l0_0 x4_1).f0) ((rd_T54 l0_0 x4_1).f1)) else (tensileref05_MaterialFault.j1 k1 x3_1 x4_1 (decide ((wrap64 (((rd_T54 l0_0 x4_1).f1) - ((rd_T54 l0_0 x4_1).f0))) > 20)) l0_0 ((rd_T54 l0_0 x4_1).f0) ((rd_T54 l0_0 x4_1).f1))) else (tensileref05_MaterialFault.j1 k1 x3_1 x4_1 true l0_0 ((rd_T54 l0_0 x4_1).f0) ((rd_T54 l0_0 x4_1).f1))) = some r := H
       have A13 := Aside0.mk A130
       clear A130
       by_cases c14 : t185 = true
       ·
        subst c14
        have H1 : (if ((rd_T54 l0_0 x4_1).f1) > 1000 then (tensileref05_MaterialFault.j1 k1 x3_1 x4_1 true l0_0 ((rd_T54 l0_0 x4_1).f0) ((rd_T54 l0_0 x4_1).f1)) else (tensileref05_MaterialFault.j1 k1 x3_1 x4_1 (decide ((wrap64 (((rd_T54 l0_0 x4_1).f1) - ((rd_T54 l0_0 x4_1).f0))) > 20)) l0_0 ((rd_T54 l0_0 x4_1).f0) ((rd_T54 l0_0 x4_1).f1))) = some r := by rw [if_pos rfl] at H; exact H
        clear H
        have H := H1
        clear H1
        by_cases c15 : ((rd_T54 l0_0 x4_1).f1) > 1000
        ·
         rw [if_pos c15] at H
         have c15b0 : decide (1000 < ((rd_T54 l0_0 x4_1).f1)) = true := decide_eq_true c15
         clear c15
         (first | rw [c15b0] | (simp only [i64_w, i32_w]; rw [c15b0]) | skip)
         have H' := Aside0.mk H
         clear H
         have hnb16 := NB184_181.out
         have hnc16 := NB181_184.out
         have hcz17_0 : w10.cell? ⟨gb184, 0, none⟩ = some (.int .i64 0) := (b4 BK184.out 0).trans rfl
         have hcz17_1 : w10.cell? ⟨gb184, 1, none⟩ = some (.int .i64 0) := (b4 BK184.out 1).trans rfl
         have hfz17_0 := b9 BK184.out 0
         have hfz17_1 := b9 BK184.out 1
         go_wp2_with (first | ((with_reducible refine gate_callee (f := 40) rfl ?_); refine goesL_ (some 27) rfl rfl Try.func40 (by kernel_rfl) rfl #[.int .i64 ((rd_T54 l0_0 x4_1).f0), .int .i64 0, .int .i64 ((rd_T54 l0_0 x4_1).f1)] rfl (by (try simp only [List.map_toArray, List.map_cons, List.map_nil]); first | done | rfl | (simp only [List.length_drop, List.length_take]; rfl)) ?_; (with_reducible refine (tensileref05_In.calls ((rd_T54 l0_0 x4_1).f0) 0 ((rd_T54 l0_0 x4_1).f1) true _ A13.out).mono ?_); rintro e w' ⟨rfl, ⟨nd, rfl⟩⟩; refine ⟨_, rfl, ?_⟩))
         go_meet
         case rel => exact ⟨_, (true), (by first | rfl | (simp; done) | (simp [*]; done)), H', ⟨by have := HK1.out; first | omega | exact Nat.le_refl _⟩, ⟨by (with_reducible repeat (first | refine b0 ?_ _ | refine b1 ?_ | refine b2 ?_ _)); refine b11 ?_ NB181_184.out _; (with_reducible repeat (first | refine b0 ?_ _ | refine b1 ?_ | refine b2 ?_ _)); refine b11 ?_ NB181_184.out _; (with_reducible repeat (first | refine b0 ?_ _ | refine b1 ?_ | refine b2 ?_ _)); exact BK181.out⟩, ⟨by (with_reducible repeat (first | refine b0 ?_ _ | refine b1 ?_ | refine b2 ?_ _)); refine blk_put (cs := #[.int .i64 ((rd_T54 l0_0 x4_1).f0), .int .i64 0]) ?_ 1 _ rfl; (with_reducible repeat (first | refine b0 ?_ _ | refine b1 ?_ | refine b2 ?_ _)); refine blk_put (cs := #[.int .i64 0, .int .i64 0]) ?_ 0 _ rfl; (with_reducible repeat (first | refine b0 ?_ _ | refine b1 ?_ | refine b2 ?_ _)); exact BK184.out⟩, ⟨by repeat (first | (with_reducible first | exact HB.out | apply b8 | apply b6 | apply b7 | refine b3 ?_ GE181.out | refine b3 ?_ GE184.out) | exact HB.out)⟩⟩
        ·
         rw [if_neg c15] at H
         have c15b0 : decide (1000 < ((rd_T54 l0_0 x4_1).f1)) = false := decide_eq_false c15
         clear c15
         (first | rw [c15b0] | (simp only [i64_w, i32_w]; rw [c15b0]) | skip)
         have H' := Aside0.mk H
         clear H
         have hnb18 := NB184_181.out
         have hnc18 := NB181_184.out
         have hcz19_0 : w10.cell? ⟨gb184, 0, none⟩ = some (.int .i64 0) := (b4 BK184.out 0).trans rfl
         have hcz19_1 : w10.cell? ⟨gb184, 1, none⟩ = some (.int .i64 0) := (b4 BK184.out 1).trans rfl
         have hfz19_0 := b9 BK184.out 0
         have hfz19_1 := b9 BK184.out 1
         go_wp2_with (first | ((with_reducible refine gate_callee (f := 40) rfl ?_); refine goesL_ (some 27) rfl rfl Try.func40 (by kernel_rfl) rfl #[.int .i64 ((rd_T54 l0_0 x4_1).f0), .int .i64 0, .int .i64 ((rd_T54 l0_0 x4_1).f1)] rfl (by (try simp only [List.map_toArray, List.map_cons, List.map_nil]); first | done | rfl | (simp only [List.length_drop, List.length_take]; rfl)) ?_; (with_reducible refine (tensileref05_In.calls ((rd_T54 l0_0 x4_1).f0) 0 ((rd_T54 l0_0 x4_1).f1) true _ A13.out).mono ?_); rintro e w' ⟨rfl, ⟨nd, rfl⟩⟩; refine ⟨_, rfl, ?_⟩))
         go_meet
         case rel => exact ⟨_, (decide ((wrap64 (((rd_T54 l0_0 x4_1).f1) - ((rd_T54 l0_0 x4_1).f0))) > 20)), (by first | rfl | (simp; done) | (simp [*]; done)), H', ⟨by have := HK1.out; first | omega | exact Nat.le_refl _⟩, ⟨by (with_reducible repeat (first | refine b0 ?_ _ | refine b1 ?_ | refine b2 ?_ _)); refine b11 ?_ NB181_184.out _; (with_reducible repeat (first | refine b0 ?_ _ | refine b1 ?_ | refine b2 ?_ _)); refine b11 ?_ NB181_184.out _; (with_reducible repeat (first | refine b0 ?_ _ | refine b1 ?_ | refine b2 ?_ _)); exact BK181.out⟩, ⟨by (with_reducible repeat (first | refine b0 ?_ _ | refine b1 ?_ | refine b2 ?_ _)); refine blk_put (cs := #[.int .i64 ((rd_T54 l0_0 x4_1).f0), .int .i64 0]) ?_ 1 _ rfl; (with_reducible repeat (first | refine b0 ?_ _ | refine b1 ?_ | refine b2 ?_ _)); refine blk_put (cs := #[.int .i64 0, .int .i64 0]) ?_ 0 _ rfl; (with_reducible repeat (first | refine b0 ?_ _ | refine b1 ?_ | refine b2 ?_ _)); exact BK184.out⟩, ⟨by repeat (first | (with_reducible first | exact HB.out | apply b8 | apply b6 | apply b7 | refine b3 ?_ GE181.out | refine b3 ?_ GE184.out) | exact HB.out)⟩⟩
       ·
        replace c14 := Bool.eq_false_iff.mpr c14
        subst c14
        have H1 : (tensileref05_MaterialFault.j1 k1 x3_1 x4_1 true l0_0 ((rd_T54 l0_0 x4_1).f0) ((rd_T54 l0_0 x4_1).f1)) = some r := by rw [if_neg (show ¬ (false = true) by decide)] at H; exact H
        clear H
        have H := H1
        clear H1
        have H' := Aside0.mk H
        clear H
        have hnb20 := NB184_181.out
        have hnc20 := NB181_184.out
        have hcz21_0 : w10.cell? ⟨gb184, 0, none⟩ = some (.int .i64 0) := (b4 BK184.out 0).trans rfl
        have hcz21_1 : w10.cell? ⟨gb184, 1, none⟩ = some (.int .i64 0) := (b4 BK184.out 1).trans rfl
        have hfz21_0 := b9 BK184.out 0
        have hfz21_1 := b9 BK184.out 1
        go_wp2_with (first | ((with_reducible refine gate_callee (f := 40) rfl ?_); refine goesL_ (some 27) rfl rfl Try.func40 (by kernel_rfl) rfl #[.int .i64 ((rd_T54 l0_0 x4_1).f0), .int .i64 0, .int .i64 ((rd_T54 l0_0 x4_1).f1)] rfl (by (try simp only [List.map_toArray, List.map_cons, List.map_nil]); first | done | rfl | (simp only [List.length_drop, List.length_take]; rfl)) ?_; (with_reducible refine (tensileref05_In.calls ((rd_T54 l0_0 x4_1).f0) 0 ((rd_T54 l0_0 x4_1).f1) false _ A13.out).mono ?_); rintro e w' ⟨rfl, ⟨nd, rfl⟩⟩; refine ⟨_, rfl, ?_⟩))
        go_meet
        case rel => exact ⟨_, (true), (by first | rfl | (simp; done) | (simp [*]; done)), H', ⟨by have := HK1.out; first | omega | exact Nat.le_refl _⟩, ⟨by (with_reducible repeat (first | refine b0 ?_ _ | refine b1 ?_ | refine b2 ?_ _)); refine b11 ?_ NB181_184.out _; (with_reducible repeat (first | refine b0 ?_ _ | refine b1 ?_ | refine b2 ?_ _)); refine b11 ?_ NB181_184.out _; (with_reducible repeat (first | refine b0 ?_ _ | refine b1 ?_ | refine b2 ?_ _)); exact BK181.out⟩, ⟨by (with_reducible repeat (first | refine b0 ?_ _ | refine b1 ?_ | refine b2 ?_ _)); refine blk_put (cs := #[.int .i64 ((rd_T54 l0_0 x4_1).f0), .int .i64 0]) ?_ 1 _ rfl; (with_reducible repeat (first | refine b0 ?_ _ | refine b1 ?_ | refine b2 ?_ _)); refine blk_put (cs := #[.int .i64 0, .int .i64 0]) ?_ 0 _ rfl; (with_reducible repeat (first | refine b0 ?_ _ | refine b1 ?_ | refine b2 ?_ _)); exact BK184.out⟩, ⟨by repeat (first | (with_reducible first | exact HB.out | apply b8 | apply b6 | apply b7 | refine b3 ?_ GE181.out | refine b3 ?_ GE184.out) | exact HB.out)⟩⟩
      case rest =>
       clear HC8
       try clear c1
       try clear p1
       try clear q1
       try clear hx1
       try clear c2
       try clear p2
       try clear c3
       try clear c4
       try clear c6
       try clear c6b0
       try clear p6
       try clear c7
       try clear c7b0
       try clear c11
       try clear c14
       try clear c15
       try clear c15b0
       try clear c16
       try clear c18
       try clear p18
       try clear q18
       try clear hx18
       try clear c20
       try clear hcz12_0
       try clear hcz12_1
       try clear hcz17_0
       try clear hcz17_1
       try clear hcz19_0
       try clear hcz19_1
       try clear hcz21_0
       try clear hcz21_1
       try clear hcz5_0
       try clear hcz9_0
       try clear hfz12_0
       try clear hfz12_1
       try clear hfz17_0
       try clear hfz17_1
       try clear hfz19_0
       try clear hfz19_1
       try clear hfz21_0
       try clear hfz21_1
       try clear hfz5_0
       try clear hfz9_0
       try clear hx183_0
       try clear hx183_1
       try clear p183
       try clear p2
       try clear q183
       obtain ⟨kq, x41_7, rfl, HA, HJ7, BK181, BK184, HB⟩ := hcut
       cases kq with
       | zero => exact absurd HA.out (by simp [tensileref05_MaterialFault.j1])
       | succ kj7 =>
        have H := HA.out
        clear HA
        simp only [tensileref05_MaterialFault.j1] at H
        by_cases c22 : x41_7 = true
        ·
         subst c22
         have H1 : (some 1) = some r := by rw [if_pos rfl] at H; exact H
         clear H
         have H := H1
         clear H1
         obtain rfl := Option.some.inj H
         go_wp2
         go_ret
         exact ⟨by first | rfl | (simp [errW_none, errW_some] <;> rfl) | (simp [*, errW_none, errW_some] <;> rfl), by repeat (first | (with_reducible first | exact HB.out | apply b8 | apply b6 | apply b7 | refine b3 ?_ GE181.out | refine b3 ?_ GE184.out) | exact HB.out)⟩
        ·
         replace c22 := Bool.eq_false_iff.mpr c22
         subst c22
         have H1 : (if (mx x3_1 ((rd_T54 l0_0 x4_1).f0)) > ((rd_T54 l0_0 x4_1).f1) then (some 1) else (tensileref05_MaterialFault.l0 kj7 (mx x3_1 ((rd_T54 l0_0 x4_1).f0)) (wrap64 (x4_1 + 1)) l0_0)) = some r := by rw [if_neg (show ¬ (false = true) by decide)] at H; exact H
         clear H
         have H := H1
         clear H1
         obtain ⟨ji23, hji23⟩ : ∃ j_ : Int, (mx x3_1 ((rd_T54 l0_0 x4_1).f0)) = j_ := ⟨_, rfl⟩
         replace H : (if (ji23) > ((rd_T54 l0_0 x4_1).f1) then (some 1) else (tensileref05_MaterialFault.l0 kj7 ji23 (wrap64 (x4_1 + 1)) l0_0)) = some r := by first | (rw [hji23] at H; exact H) | (simp only [hji23] at H ⊢; exact H)
         have hji23_ : (if x3_1 < ((rd_T54 l0_0 x4_1).f0) then ((rd_T54 l0_0 x4_1).f0) else x3_1) = ji23 := hji23
         by_cases c24 : (ji23) > ((rd_T54 l0_0 x4_1).f1)
         ·
          rw [if_pos c24] at H
          have c24b0 : decide (((rd_T54 l0_0 x4_1).f1) < (ji23)) = true := decide_eq_true c24
          clear c24
          obtain rfl := Option.some.inj H
          have hnb25 := NB184_181.out
          have hnc25 := NB181_184.out
          have hcz26_0 : wc.cell? ⟨gb184, 0, none⟩ = some (.int .i64 ((rd_T54 l0_0 x4_1).f0)) := (b4 BK184.out 0).trans rfl
          have hcz26_1 : wc.cell? ⟨gb184, 1, none⟩ = some (.int .i64 ((rd_T54 l0_0 x4_1).f1)) := (b4 BK184.out 1).trans rfl
          have hfz26_0 := b9 BK184.out 0
          have hfz26_1 := b9 BK184.out 1
          go_wp2
          go_ret
          exact ⟨by first | rfl | (simp [errW_none, errW_some] <;> rfl) | (simp only [← hji23]; first | rfl | (simp [errW_none, errW_some] <;> rfl)) | (simp [*, errW_none, errW_some] <;> rfl), by repeat (first | (with_reducible first | exact HB.out | apply b8 | apply b6 | apply b7 | refine b3 ?_ GE181.out | refine b3 ?_ GE184.out) | exact HB.out)⟩
         ·
          rw [if_neg c24] at H
          have c24b0 : decide (((rd_T54 l0_0 x4_1).f1) < (ji23)) = false := decide_eq_false c24
          clear c24
          have H' := Aside0.mk H
          clear H
          have hnb27 := NB184_181.out
          have hnc27 := NB181_184.out
          have hcz28_0 : wc.cell? ⟨gb184, 0, none⟩ = some (.int .i64 ((rd_T54 l0_0 x4_1).f0)) := (b4 BK184.out 0).trans rfl
          have hcz28_1 : wc.cell? ⟨gb184, 1, none⟩ = some (.int .i64 ((rd_T54 l0_0 x4_1).f1)) := (b4 BK184.out 1).trans rfl
          have hfz28_0 := b9 BK184.out 0
          have hfz28_1 := b9 BK184.out 1
          go_wp2
          go_roundg kj7
          case measure => have := HK1.out; have := HJ7.out; omega
          case rel => exact ⟨(ji23), (wrap64 (x4_1 + 1)), (by first | rfl | (simp; done) | (simp only [← hji23] <;> (first | rfl | simp)) | (simp [*]; done)), (by first | rfl | (simp; done) | (simp [*]; done)), H', ⟨by have := HK1.out; have := HJ7.out; omega⟩, ⟨by (with_reducible repeat (first | refine b0 ?_ _ | refine b1 ?_ | refine b2 ?_ _)); exact BK181.out⟩, ⟨by repeat (first | (with_reducible first | exact HB.out | apply b8 | apply b6 | apply b7 | refine b3 ?_ GE181.out | refine b3 ?_ GE184.out) | exact HB.out)⟩⟩
     ·
      rw [if_neg c7] at H
      exact absurd H (by simp)
    ·
     rw [if_neg c6] at H
     have c6b0 : decide (x4_1 < (l0_0.length : Int)) = false := decide_eq_false c6
     clear c6
     obtain rfl := Option.some.inj H
     have hcz29_0 : wr.cell? ⟨gb181, 0, none⟩ = some (.slice A0_0 l0_0.length c0_0) := (b4 BK181.out 0).trans rfl
     have hfz29_0 := b9 BK181.out 0
     go_wp2
     go_ret
     exact ⟨by first | rfl | (simp [errW_none, errW_some] <;> rfl) | (simp [*, errW_none, errW_some] <;> rfl), by repeat (first | (with_reducible first | exact HB.out | apply b8 | apply b6 | apply b7 | refine b3 ?_ GE181.out) | exact HB.out)⟩
 ·
  replace c3 := Bool.eq_false_iff.mpr c3
  subst c3
  have H1 : (some 1) = some r := by rw [if_neg (show ¬ (false = true) by decide)] at H; exact H
  clear H
  have H := H1
  clear H1
  obtain rfl := Option.some.inj H
  go_enter Try.func48, Try.ntmps48
  go_wp2_with (first | ((with_reducible refine gate_dst (N := 1) rfl ?_); refine box_event ?hg (N := 1) ?hd (cs := #[.slice A0_0 l0_0.length c0_0]) (t := 24) ?hr ?_; (case hd => rfl); (case hg => rfl); (case hr => first | (go_simp; done) | (go_simp; rfl)); intro gb181 hg w30 hbox hb; have n0_ := Aside0.mk (b13 (by repeat (first | (with_reducible first | exact HB.out | apply b8 | apply b6 | apply b7) | exact HB.out)) hb); have n1_ := Aside0.mk (hbox); have n2_ := Aside0.mk ((by rw [hg]; exact (b12 (by repeat (first | (with_reducible first | exact HB.out | apply b8 | apply b6 | apply b7) | exact HB.out))) : w.heap.size ≤ gb181)); have n3_ := Aside0.mk ((by rw [hg]; exact (b12 (by repeat (first | (with_reducible first | exact HB.out | apply b8 | apply b6 | apply b7) | exact HB.out))) : w.heap.size ≤ gb181)); clear HB; have HB := n0_; have BK181 := n1_; have GW181 := n2_; have GE181 := n3_; clear n0_ n1_ n2_ n3_; clear hb hbox hg; have hcz31_0 : w30.cell? ⟨gb181, 0, none⟩ = some (.slice A0_0 l0_0.length c0_0) := (b4 BK181.out 0).trans rfl; have hfz31_0 := b9 BK181.out 0) | ((with_reducible refine gate_callee (f := 40) rfl ?_); refine goesL_ (some 9) rfl rfl Try.func40 (by kernel_rfl) rfl #[.int .i64 (l0_0.length : Int), .int .i64 1, .int .i64 3] rfl (by (try simp only [List.map_toArray, List.map_cons, List.map_nil]); first | done | rfl | (simp only [List.length_drop, List.length_take]; rfl)) ?_; (with_reducible refine (tensileref05_In.calls (l0_0.length : Int) 1 3 false _ A2.out).mono ?_); rintro e w' ⟨rfl, ⟨nd, rfl⟩⟩; refine ⟨_, rfl, ?_⟩))
  go_ret
  exact ⟨by first | rfl | (simp [errW_none, errW_some] <;> rfl) | (simp [*, errW_none, errW_some] <;> rfl), by repeat (first | (with_reducible first | exact HB.out | apply b8 | apply b6 | apply b7 | refine b3 ?_ GE181.out) | exact HB.out)⟩
end Go.Proofs.Ytdagijgoegkphaa.P

namespace Go.Proofs.Ytdagijgoegkphaa.P
open Go.RowKit Go.Proofs.YtdagijgoegkphaaW.PrintWords Go.Proofs.YtdagijgoegkphaaW.PrintLast Go.Proofs.YtdagijgoegkphaaW.PrintMore
open Go.Proofs.YtdagijgoegkphaaW.PrintWords renaming blk_drewN → b0, blk_drew → b1, blk_alloc → b2, below_set → b3, blk_cell → b4, blk_below → b5, pw_below_drewN → b6, below_drew1 → b7, below_alloc → b8, blk_frozen → b9, blk_lt → b10, below_size → b12, below_step → b13
attribute [local go_sem] max2_int min2_int max_two min_two max_three min_three max_four min_four   -- for this text's walks alone
def tensilelaw05_to.f (a0_0 : Int) (a0_1 : Int) : Option (Int × Int) := some (a0_0, a0_1)
set_option maxHeartbeats 8000000 in
set_option maxRecDepth 100000 in
theorem tensilelaw05_to.calls (a0_0 : Int) (a0_1 : Int) (r1 : Int) (r2 : Int) (w : World) (h : tensilelaw05_to.f a0_0 a0_1 = some (r1, r2)) :
  Calls Try.prog 41 #[.agg #[.int .i64 a0_0, .int .i64 a0_1]] w fun e w' => e = .returned (.agg #[.int .i64 r1, .int .i64 r2]) ∧ Below w.heap.size w w' := by
 have hu54 := Try.underlying54
 have hu47 := Try.underlying47
 have HB := Aside0.mk (Below.refl w.heap.size w)
 have H : (some (a0_0, a0_1)) = some (r1, r2) := h
 clear h
 simp only [Option.some.injEq, Prod.mk.injEq] at H
 obtain ⟨rfl, rfl⟩ := H
 go_enter Try.func41, Try.ntmps41
 go_wp2_with (first | ((with_reducible refine gate_dst (N := 1) rfl ?_); refine box_event ?hg (N := 1) ?hd (cs := #[.int .i64 a0_0, .int .i64 a0_1]) (t := 54) ?hr ?_; (case hd => rfl); (case hg => rfl); (case hr => first | (go_simp; done) | (go_simp; rfl)); intro gb132 hg w2 hbox hb; have n0_ := Aside0.mk (b13 (by repeat (first | (with_reducible first | exact HB.out | apply b8 | apply b6 | apply b7) | exact HB.out)) hb); have n1_ := Aside0.mk (hbox); have n2_ := Aside0.mk ((by rw [hg]; exact (b12 (by repeat (first | (with_reducible first | exact HB.out | apply b8 | apply b6 | apply b7) | exact HB.out))) : w.heap.size ≤ gb132)); have n3_ := Aside0.mk ((by rw [hg]; exact (b12 (by repeat (first | (with_reducible first | exact HB.out | apply b8 | apply b6 | apply b7) | exact HB.out))) : w.heap.size ≤ gb132)); clear HB; have HB := n0_; have BK132 := n1_; have GW132 := n2_; have GE132 := n3_; clear n0_ n1_ n2_ n3_; clear hb hbox hg) | ((with_reducible refine gate_dst (N := 2) rfl ?_); refine box_event ?hg (N := 2) ?hd (cs := #[.int .i64 0, .int .i64 0]) (t := 47) ?hr ?_; (case hd => rfl); (case hg => rfl); (case hr => first | (go_simp; done) | (go_simp; rfl)); intro gb133 hg w3 hbox hb; have n0_ := Aside0.mk (b5 (g := gb132) (o := .cells #[.int .i64 a0_0, .int .i64 a0_1] 54 (0, 0)) (by (with_reducible repeat (first | refine b0 ?_ _ | refine b1 ?_ | refine b2 ?_ _)); exact BK132.out) hb); have n1_ := Aside0.mk (b13 (by repeat (first | (with_reducible first | exact HB.out | apply b8 | apply b6 | apply b7 | refine b3 ?_ GE132.out) | exact HB.out)) hb); have n2_ := Aside0.mk (hbox); have n3_ := Aside0.mk ((by rw [hg]; exact (b12 (by repeat (first | (with_reducible first | exact HB.out | apply b8 | apply b6 | apply b7 | refine b3 ?_ GE132.out) | exact HB.out))) : w.heap.size ≤ gb133)); have n4_ := Aside0.mk ((by rw [hg]; exact (b12 (by repeat (first | (with_reducible first | exact HB.out | apply b8 | apply b6 | apply b7 | refine b3 ?_ GE132.out) | exact HB.out))) : w.heap.size ≤ gb133)); have n5_ := Aside0.mk ((by rw [hg]; exact Nat.ne_of_lt (b10 (g := gb132) (o := .cells #[.int .i64 a0_0, .int .i64 a0_1] 54 (0, 0)) (by (with_reducible repeat (first | refine b0 ?_ _ | refine b1 ?_ | refine b2 ?_ _)); exact BK132.out)) : gb132 ≠ gb133)); have n6_ := Aside0.mk ((by rw [hg]; exact Nat.ne_of_gt (b10 (g := gb132) (o := .cells #[.int .i64 a0_0, .int .i64 a0_1] 54 (0, 0)) (by (with_reducible repeat (first | refine b0 ?_ _ | refine b1 ?_ | refine b2 ?_ _)); exact BK132.out)) : gb133 ≠ gb132)); clear BK132; clear HB; have BK132 := n0_; have HB := n1_; have BK133 := n2_; have GW133 := n3_; have GE133 := n4_; have NB132_133 := n5_; have NB133_132 := n6_; clear n0_ n1_ n2_ n3_ n4_ n5_ n6_; clear hb hbox hg; have hnb4 := NB132_133.out; have hnc4 := NB133_132.out; have hcz5_0 : w3.cell? ⟨gb132, 0, none⟩ = some (.int .i64 a0_0) := (b4 BK132.out 0).trans rfl; have hcz5_1 : w3.cell? ⟨gb132, 1, none⟩ = some (.int .i64 a0_1) := (b4 BK132.out 1).trans rfl; have hfz5_0 := b9 BK132.out 0; have hfz5_1 := b9 BK132.out 1; have hcz6_0 : w3.cell? ⟨gb133, 0, none⟩ = some (.int .i64 0) := (b4 BK133.out 0).trans rfl; have hcz6_1 : w3.cell? ⟨gb133, 1, none⟩ = some (.int .i64 0) := (b4 BK133.out 1).trans rfl; have hfz6_0 := b9 BK133.out 0; have hfz6_1 := b9 BK133.out 1))
 refine bodyPost_ret (results_cell_row rfl _ _ gb133 47 #[.int .i64 a0_0, .int .i64 a0_1] (0, 0) _ rfl (by (with_reducible repeat (first | refine b0 ?_ _ | refine b1 ?_ | refine b2 ?_ _)); refine blk_put (cs := #[.int .i64 a0_0, .int .i64 0]) ?_ 1 _ rfl; (with_reducible repeat (first | refine b0 ?_ _ | refine b1 ?_ | refine b2 ?_ _)); refine blk_put (cs := #[.int .i64 0, .int .i64 0]) ?_ 0 _ rfl; (with_reducible repeat (first | refine b0 ?_ _ | refine b1 ?_ | refine b2 ?_ _)); exact BK133.out) Try.underlying47 rfl (by kernel_rfl)) rfl ?_
 exact ⟨by first | rfl | (simp [errW_none, errW_some] <;> rfl) | (simp [*, errW_none, errW_some] <;> rfl), by repeat (first | (with_reducible first | exact HB.out | apply b8 | apply b6 | apply b7 | refine b3 ?_ GE132.out | refine b3 ?_ GE133.out) | exact HB.out)⟩
end Go.Proofs.Ytdagijgoegkphaa.P

namespace Go.Proofs.Ytdagijgoegkphaa.P
open Go.RowKit Go.Proofs.YtdagijgoegkphaaW.PrintWords Go.Proofs.YtdagijgoegkphaaW.PrintLast Go.Proofs.YtdagijgoegkphaaW.PrintMore
open Bool renaming true → tt, false → ff
open List renaming setIfInBounds_toArray → l1, set_cons_zero → l2, set_cons_succ → l3
open Go.Proofs.YtdagijgoegkphaaW.PrintWords renaming blk_drewN → b0, blk_drew → b1, blk_alloc → b2, below_set → b3, blk_cell → b4, blk_below → b5, pw_below_drewN → b6, below_drew1 → b7, below_alloc → b8, blk_frozen → b9, blk_lt → b10, blk_far → b11, below_size → b12, below_step → b13
open Go.Proofs.YtdagijgoegkphaaW.PrintWords.Kd renaming R_alloc → k0, R_drewN → k1, R_drew → k2, R_below → k3, R_far → k8, R_mono → k10, R_types → k11
attribute [local go_sem] max2_int min2_int max_two min_two max_three min_three max_four min_four   -- for this text's walks alone
def tensilelaw05_Material.l0 : Nat → Int → List (S54) → List (S47) → Option ((List (S47)))
 | 0, _, _, _ => none
 | k + 1, x4, x135000, x137000 => if x4 < (x135000.length : Int) then (if 0 ≤ x4 then ((tensilelaw05_to.f ((rd_T54 x135000 x4).f0) ((rd_T54 x135000 x4).f1)).bind fun bt138 => (if x137000.length < 8796093022208 then (tensilelaw05_Material.l0 k (wrap64 (x4 + 1)) x135000 (x137000 ++ [(⟨bt138.1, bt138.2⟩ : S47)])) else (none))) else (none)) else (some x137000)
def tensilelaw05_Material.f (k : Nat) (l0_0 : List (S54)) : Option ((List (S47))) := tensilelaw05_Material.l0 k 0 l0_0 ([] : List (S47))
def tensilelaw05_Material.T5 : Bool × List (List Nat × List Nat) := (true, [([], []), ([0], [0]), ([], []), ([2], [2]), ([], []), ([3, 4], [3, 4]), ([5], [5]), ([6], [6]), ([7], [7]), ([1, 8, 7], [1, 8]), ([0, 1, 2, 3, 4, 5, 6, 7, 8, 9], []), ([10, 9, 9, 0, 1, 2, 3, 4, 5, 6, 7, 8, 9], [9, 10])])
def tensilelaw05_Material.B5 : List Nat := [0, 1, 0, 4, 0, 28, 60, 124, 252, 511, 1023, 2047]
theorem tensilelaw05_Material.tab5 : rtab .any (opsOf Try.f21 5) = tensilelaw05_Material.T5 := by kernel_rfl
theorem tensilelaw05_Material.bits5 : waitsOk tensilelaw05_Material.T5.2 tensilelaw05_Material.B5 = true := by kernel_rfl
set_option maxHeartbeats 8000000 in
set_option maxRecDepth 100000 in
theorem tensilelaw05_Material.calls (k : Nat) (A0_0 : Option Addr) (c0_0 : Nat) (l0_0 : List (S54)) (r : List (S47)) (w : World) (hr0_0 : Kd.C k54 w A0_0 l0_0.length l0_0) (hc0_0 : l0_0.length ≤ c0_0) (h : tensilelaw05_Material.f k l0_0 = some r) :
  Calls Try.prog 21 #[.agg #[.slice A0_0 l0_0.length c0_0]] w fun e w' => ∃ v0_ : Value, e = .returned (.agg #[v0_]) ∧ Kd.R k47 47 w' w.heap.size (fun _ => True) v0_ r ∧ Below w.heap.size w w' := by
 have hu24 := Try.underlying24
 have hu39 := Try.underlying39
 have hu54 := Try.underlying54
 have HR0_0 := Aside0.mk hr0_0
 have HC0_0 := Aside0.mk hc0_0
 clear hr0_0 hc0_0
 have HB := Aside0.mk (Below.refl w.heap.size w)
 have H : (tensilelaw05_Material.l0 k 0 l0_0 ([] : List (S47))) = some r := h
 clear h
 have H' := Aside0.mk H
 clear H
 go_enter Try.func21, Try.ntmps21
 go_wp2_with (first | ((with_reducible refine gate_dst (N := 1) rfl ?_); refine box_event ?hg (N := 1) ?hd (cs := #[.slice A0_0 l0_0.length c0_0]) (t := 24) ?hr ?_; (case hd => rfl); (case hg => rfl); (case hr => first | (go_simp; done) | (go_simp; rfl)); intro gb134 hg w2 hbox hb; have n0_ := Aside0.mk (b13 (by repeat (first | (with_reducible first | exact HB.out | apply b8 | apply b6 | apply b7) | exact HB.out)) hb); have n1_ := Aside0.mk (hbox); have n2_ := Aside0.mk ((by rw [hg]; exact (b12 (by repeat (first | (with_reducible first | exact HB.out | apply b8 | apply b6 | apply b7) | exact HB.out))) : w.heap.size ≤ gb134)); have n3_ := Aside0.mk ((by rw [hg]; exact (b12 (by repeat (first | (with_reducible first | exact HB.out | apply b8 | apply b6 | apply b7) | exact HB.out))) : w.heap.size ≤ gb134)); clear HB; have HB := n0_; have BK134 := n1_; have GW134 := n2_; have GE134 := n3_; clear n0_ n1_ n2_ n3_; clear hb hbox hg) | ((with_reducible refine gate_dst (N := 2) rfl ?_); refine box_event ?hg (N := 2) ?hd (cs := #[.slice none 0 0]) (t := 39) ?hr ?_; (case hd => rfl); (case hg => rfl); (case hr => first | (go_simp; done) | (go_simp; rfl)); intro gb135 hg w3 hbox hb; have n0_ := Aside0.mk (b5 (g := gb134) (o := .cells #[.slice A0_0 l0_0.length c0_0] 24 (0, 0)) (by (with_reducible repeat (first | refine b0 ?_ _ | refine b1 ?_ | refine b2 ?_ _)); exact BK134.out) hb); have n1_ := Aside0.mk (b13 (by repeat (first | (with_reducible first | exact HB.out | apply b8 | apply b6 | apply b7 | refine b3 ?_ GE134.out) | exact HB.out)) hb); have n2_ := Aside0.mk (hbox); have n3_ := Aside0.mk ((by rw [hg]; exact (b12 (by repeat (first | (with_reducible first | exact HB.out | apply b8 | apply b6 | apply b7 | refine b3 ?_ GE134.out) | exact HB.out))) : w.heap.size ≤ gb135)); have n4_ := Aside0.mk ((by rw [hg]; exact (b12 (by repeat (first | (with_reducible first | exact HB.out | apply b8 | apply b6 | apply b7 | refine b3 ?_ GE134.out) | exact HB.out))) : w.heap.size ≤ gb135)); have n5_ := Aside0.mk ((by rw [hg]; exact Nat.ne_of_lt (b10 (g := gb134) (o := .cells #[.slice A0_0 l0_0.length c0_0] 24 (0, 0)) (by (with_reducible repeat (first | refine b0 ?_ _ | refine b1 ?_ | refine b2 ?_ _)); exact BK134.out)) : gb134 ≠ gb135)); have n6_ := Aside0.mk ((by rw [hg]; exact Nat.ne_of_gt (b10 (g := gb134) (o := .cells #[.slice A0_0 l0_0.length c0_0] 24 (0, 0)) (by (with_reducible repeat (first | refine b0 ?_ _ | refine b1 ?_ | refine b2 ?_ _)); exact BK134.out)) : gb135 ≠ gb134)); clear BK134; clear HB; have BK134 := n0_; have HB := n1_; have BK135 := n2_; have GW135 := n3_; have GE135 := n4_; have NB134_135 := n5_; have NB135_134 := n6_; clear n0_ n1_ n2_ n3_ n4_ n5_ n6_; clear hb hbox hg) | ((with_reducible refine gate_dst (N := 3) rfl ?_); refine box_event ?hg (N := 3) ?hd (cs := #[.slice none 0 0]) (t := 39) ?hr ?_; (case hd => rfl); (case hg => rfl); (case hr => first | (go_simp; done) | (go_simp; rfl)); intro gb136 hg w4 hbox hb; have n0_ := Aside0.mk (b5 (g := gb134) (o := .cells #[.slice A0_0 l0_0.length c0_0] 24 (0, 0)) (by (with_reducible repeat (first | refine b0 ?_ _ | refine b1 ?_ | refine b2 ?_ _)); exact BK134.out) hb); have n1_ := Aside0.mk (b5 (g := gb135) (o := .cells #[.slice none 0 0] 39 (0, 0)) (by (with_reducible repeat (first | refine b0 ?_ _ | refine b1 ?_ | refine b2 ?_ _)); exact BK135.out) hb); have n2_ := Aside0.mk (b13 (by repeat (first | (with_reducible first | exact HB.out | apply b8 | apply b6 | apply b7 | refine b3 ?_ GE134.out | refine b3 ?_ GE135.out) | exact HB.out)) hb); have n3_ := Aside0.mk (hbox); have n4_ := Aside0.mk ((by rw [hg]; exact (b12 (by repeat (first | (with_reducible first | exact HB.out | apply b8 | apply b6 | apply b7 | refine b3 ?_ GE134.out | refine b3 ?_ GE135.out) | exact HB.out))) : w.heap.size ≤ gb136)); have n5_ := Aside0.mk ((by rw [hg]; exact (b12 (by repeat (first | (with_reducible first | exact HB.out | apply b8 | apply b6 | apply b7 | refine b3 ?_ GE134.out | refine b3 ?_ GE135.out) | exact HB.out))) : w.heap.size ≤ gb136)); have n6_ := Aside0.mk ((by rw [hg]; exact Nat.ne_of_lt (b10 (g := gb134) (o := .cells #[.slice A0_0 l0_0.length c0_0] 24 (0, 0)) (by (with_reducible repeat (first | refine b0 ?_ _ | refine b1 ?_ | refine b2 ?_ _)); exact BK134.out)) : gb134 ≠ gb136)); have n7_ := Aside0.mk ((by rw [hg]; exact Nat.ne_of_gt (b10 (g := gb134) (o := .cells #[.slice A0_0 l0_0.length c0_0] 24 (0, 0)) (by (with_reducible repeat (first | refine b0 ?_ _ | refine b1 ?_ | refine b2 ?_ _)); exact BK134.out)) : gb136 ≠ gb134)); have n8_ := Aside0.mk ((by rw [hg]; exact Nat.ne_of_lt (b10 (g := gb135) (o := .cells #[.slice none 0 0] 39 (0, 0)) (by (with_reducible repeat (first | refine b0 ?_ _ | refine b1 ?_ | refine b2 ?_ _)); exact BK135.out)) : gb135 ≠ gb136)); have n9_ := Aside0.mk ((by rw [hg]; exact Nat.ne_of_gt (b10 (g := gb135) (o := .cells #[.slice none 0 0] 39 (0, 0)) (by (with_reducible repeat (first | refine b0 ?_ _ | refine b1 ?_ | refine b2 ?_ _)); exact BK135.out)) : gb136 ≠ gb135)); clear BK134; clear BK135; clear HB; have BK134 := n0_; have BK135 := n1_; have HB := n2_; have BK136 := n3_; have GW136 := n4_; have GE136 := n5_; have NB134_136 := n6_; have NB136_134 := n7_; have NB135_136 := n8_; have NB136_135 := n9_; clear n0_ n1_ n2_ n3_ n4_ n5_ n6_ n7_ n8_ n9_; clear hb hbox hg))
 go_loopg [4] k (fun kq v4 w' => ∃ (x4_1 : Int) (x137000_1 : List (S47)) (u137000 : Value), v4 = .int .i64 x4_1 ∧ Aside0 (tensilelaw05_Material.l0 kq x4_1 l0_0 x137000_1 = some r) ∧ Aside0 (kq ≤ k) ∧ Aside0 (Kd.R k47 47 w' w.heap.size (fun _ => True) u137000 x137000_1) ∧ Aside0 (w'.heap[gb134]? = some (.cells #[(.slice A0_0 l0_0.length c0_0)] 24 (0, 0))) ∧ Aside0 (w'.heap[gb135]? = some (.cells #[(.slice none 0 0)] 39 (0, 0))) ∧ Aside0 (w'.heap[gb136]? = some (.cells #[u137000] 39 (0, 0))) ∧ Aside0 (Below w.heap.size w w'))
 case atStart => exact ⟨(0), (([] : List (S47))), (.slice none 0 0), (by first | rfl | (simp; done) | (simp [*]; done)), H', ⟨Nat.le_refl _⟩, ⟨by first | exact Kd.R_nil _ _ _ _ _ | exact Kd.N_nil _ _ _ _ _ | exact Kd.V_nil _ _ _ _ _ | exact Kd.Q_nil _ _ _ _ _ | exact Kd.S_nil _ _ _ _ _⟩, ⟨by (with_reducible repeat (first | refine b0 ?_ _ | refine b1 ?_ | refine b2 ?_ _)); exact BK134.out⟩, ⟨by (with_reducible repeat (first | refine b0 ?_ _ | refine b1 ?_ | refine b2 ?_ _)); exact BK135.out⟩, ⟨by (with_reducible repeat (first | refine b0 ?_ _ | refine b1 ?_ | refine b2 ?_ _)); exact BK136.out⟩, ⟨by repeat (first | (with_reducible first | exact HB.out | apply b8 | apply b6 | apply b7 | refine b3 ?_ GE134.out | refine b3 ?_ GE135.out | refine b3 ?_ GE136.out) | exact HB.out)⟩⟩
 case round =>
  clear H'
  try clear c2
  try clear p2
  obtain ⟨x4_1, x137000_1, u137000, rfl, HA, HK1, HO_137000, BK134, BK135, BK136, HB⟩ := hrel
  cases gk with
  | zero => exact absurd HA.out (by simp [tensilelaw05_Material.l0])
  | succ k1 =>
   have H := HA.out
   clear HA
   simp only [tensilelaw05_Material.l0] at H
   by_cases c5 : x4_1 < (l0_0.length : Int)
   ·
    rw [if_pos c5] at H
    have c5b0 : decide (x4_1 < (l0_0.length : Int)) = true := decide_eq_true c5
    clear c5
    by_cases c6 : 0 ≤ x4_1
    ·
     rw [if_pos c6] at H
     have c6b0 : decide (0 ≤ x4_1) = true := decide_eq_true c6
     clear c6
     replace H := Option.bind_eq_some_iff.mp H
     obtain ⟨⟨t138, t139⟩, A70, H⟩ := H
     replace H : (if x137000_1.length < 8796093022208 then (tensilelaw05_Material.l0 k1 (wrap64 (x4_1 + 1)) l0_0 (x137000_1 ++ [(⟨t138, t139⟩ : S47)])) else (none)) = some r := H
     have A7 := Aside0.mk A70
     clear A70
     by_cases c8 : x137000_1.length < 8796093022208
     ·
      rw [if_pos c8] at H
      have LMc8 := Aside0.mk c8
      clear c8
      obtain ⟨y140, hy140⟩ : ∃ y_ : List (S47), y_ = (x137000_1 ++ [(⟨t138, t139⟩ : S47)]) := ⟨_, rfl⟩
      replace H : (tensilelaw05_Material.l0 k1 (wrap64 (x4_1 + 1)) l0_0 y140) = some r := by first | (rw [hy140]; with_reducible exact H) | (have H2_ := (Option.bind_some _ _).symm.trans H; rw [hy140]; with_reducible exact H2_) | (have H2_ := (Option.bind_some _ _).symm.trans H; with_reducible exact H2_) | with_reducible exact H | (rw [hy140]; exact H) | exact H
      have Ny140 := Aside0.mk hy140
      clear hy140
      have H' := Aside0.mk H
      clear H
      have hnb9 := NB134_135.out
      have hnc9 := NB135_134.out
      have hnb10 := NB134_136.out
      have hnc10 := NB136_134.out
      have hcz11_0 : wr.cell? ⟨gb134, 0, none⟩ = some (.slice A0_0 l0_0.length c0_0) := (b4 BK134.out 0).trans rfl
      have hfz11_0 := b9 BK134.out 0
      try go_wp2
      have n0_ := Aside0.mk (k2 HO_137000.out)
      have n1_ := Aside0.mk (b1 BK134.out)
      have n2_ := Aside0.mk (b1 BK135.out)
      have n3_ := Aside0.mk (b1 BK136.out)
      have n4_ := Aside0.mk (b7 HB.out)
      clear HO_137000
      clear BK134
      clear BK135
      clear BK136
      clear HB
      have HO_137000 := n0_
      have BK134 := n1_
      have BK135 := n2_
      have BK136 := n3_
      have HB := n4_
      clear n0_ n1_ n2_ n3_ n4_
      have p137 : 0 ≤ (x4_1 : Int) := of_decide_eq_true (by first | (with_reducible assumption) | assumption)
      have q137 : x4_1 < (l0_0.length : Int) := of_decide_eq_true (by first | (with_reducible assumption) | assumption)
      obtain ⟨ad137, e137, hx137_0, hx137_1⟩ := at_T54 HR0_0.out x4_1 p137 q137
      have hw137_1 := hx137_1
      have hw137_0 := hx137_0
      cases e137
      replace hx137_0 := (HB.out.cell (World.block_lt_of_cell? w _ hx137_0)).trans hx137_0
      replace hx137_1 := (HB.out.cell (World.block_lt_of_cell? w _ hx137_1)).trans hx137_1
      replace p137 := eq_true p137
      replace q137 := eq_true q137
      refine start_ (n := 12) (S := fun w' => w'.cell? ⟨gb136, 0, none⟩ = some (u137000) ∧ w'.cell? ⟨gb134, 0, none⟩ = some (.slice (some ad137) l0_0.length c0_0) ∧ w'.cell? (ad137.add ((x4_1).toNat * 2)) = some (.int .i64 ((rd_T54 l0_0 x4_1).f0)) ∧ w'.cell? ⟨(ad137.add ((x4_1).toNat * 2)).block, (ad137.add ((x4_1).toNat * 2)).off + 1, none⟩ = some (.int .i64 ((rd_T54 l0_0 x4_1).f1))) (ds := [11]) #[ff,ff,ff,ff,ff,ff,ff,ff,ff,ff,ff,ff] (by kernel_rfl) rfl rfl ⟨(b4 BK136.out 0).trans rfl, (b4 BK134.out 0).trans rfl, ((HB.out.cell (World.block_lt_of_cell? w _ hw137_0)).trans hw137_0), ((HB.out.cell (World.block_lt_of_cell? w _ hw137_1)).trans hw137_1)⟩ (fun hHeld => ?_); refine with_tabW tensilelaw05_Material.tab5 tensilelaw05_Material.bits5 (fun HT_ HW_ => ?_)
      generalize wr.drew = w12 at HO_137000 BK134 BK135 BK136 HB hx137_0 hx137_1 hHeld ⊢
      refine pure_ (i := 0) (N := some 12) (v := ?_) (a' := ?_) #[tt,ff,ff,ff,ff,ff,ff,ff,ff,ff,ff,ff] rfl rfl (any_of HT_.out (by kernel_rfl)) (fun _ _ _ h => h) (Or.inl ⟨by rfl, ?_⟩) ?_ ?_
      rotate_left
      ·
       intro w'
       go_simp
       with_reducible rfl
      rotate_left
      ·
       simp only [Act.put, l1, l2, l3, i64_w, i32_w]
       rfl
      refine pure_ (i := 2) (N := some 14) (v := ?_) (a' := ?_) #[tt,ff,tt,ff,ff,ff,ff,ff,ff,ff,ff,ff] rfl rfl (any_of HT_.out (by kernel_rfl)) (fun _ _ _ h => h) (Or.inl ⟨by rfl, ?_⟩) ?_ ?_
      rotate_left
      ·
       intro w'
       go_simp
       with_reducible rfl
      rotate_left
      ·
       simp only [Act.put, l1, l2, l3, i64_w, i32_w]
       rfl
      refine pure_ (i := 4) (N := some 16) (v := ?_) (a' := ?_) #[tt,ff,tt,ff,tt,ff,ff,ff,ff,ff,ff,ff] rfl rfl (any_of HT_.out (by kernel_rfl)) (fun _ _ _ h => h) (Or.inl ⟨by rfl, ?_⟩) ?_ ?_
      rotate_left
      ·
       intro w'
       go_simp
       with_reducible rfl
      rotate_left
      ·
       simp only [Act.put, l1, l2, l3, i64_w, i32_w]
       rfl
      refine take_ (i := 1) (N := some 13) (v := ?_) (a' := ?_) #[tt,tt,tt,ff,tt,ff,ff,ff,ff,ff,ff,ff] rfl rfl (take_ofW HT_.out HW_.out (by kernel_rfl)) (fun _ _ _ h => h) (Or.inl ⟨by rfl, ?_⟩) hHeld ?_ ?_
      rotate_left
      ·
       rintro w' ⟨s0, s1, s2, s3⟩
       go_simp
       with_reducible rfl
      rotate_left
      ·
       simp only [Act.put, l1, l2, l3, i64_w, i32_w]
       rfl
      refine take_ (i := 3) (N := some 15) (v := ?_) (a' := ?_) #[tt,tt,tt,tt,tt,ff,ff,ff,ff,ff,ff,ff] rfl rfl (take_ofW HT_.out HW_.out (by kernel_rfl)) (fun _ _ _ h => h) (Or.inl ⟨by rfl, ?_⟩) hHeld ?_ ?_
      rotate_left
      ·
       rintro w' ⟨s0, s1, s2, s3⟩
       go_simp
       with_reducible rfl
      rotate_left
      ·
       simp only [Act.put, l1, l2, l3, i64_w, i32_w]
       rfl
      refine pure_ (i := 5) (N := some 17) (v := ?_) (a' := ?_) #[tt,tt,tt,tt,tt,tt,ff,ff,ff,ff,ff,ff] rfl rfl (any_of HT_.out (by kernel_rfl)) (fun _ _ _ h => h) (Or.inl ⟨by rfl, ?_⟩) ?_ ?_
      rotate_left
      ·
       intro w'
       go_simp
       with_reducible rfl
      rotate_left
      ·
       simp only [Act.put, l1, l2, l3, i64_w, i32_w]
       rfl
      refine take_ (i := 6) (N := some 18) (v := ?_) (a' := ?_) #[tt,tt,tt,tt,tt,tt,tt,ff,ff,ff,ff,ff] rfl rfl (take_ofW HT_.out HW_.out (by kernel_rfl)) (fun _ _ _ h => h) (Or.inl ⟨by rfl, ?_⟩) hHeld ?_ ?_
      rotate_left
      ·
       rintro w' ⟨s0, s1, s2, s3⟩
       go_simp
       with_reducible rfl
      rotate_left
      ·
       simp only [Act.put, l1, l2, l3, i64_w, i32_w]
       rfl
      refine one_ (i := 7) (N := some 19) #[tt,tt,tt,tt,tt,tt,tt,tt,ff,ff,ff,ff] rfl rfl (one_of HT_.out (by kernel_rfl)) (by decide) (fun K hK => ?_)
      refine goes_ Try.func41 (by kernel_rfl) rfl #[.agg #[.int .i64 ((rd_T54 l0_0 x4_1).f0), .int .i64 ((rd_T54 l0_0 x4_1).f1)]] (by rfl) rfl rfl (by (try simp only [List.map_toArray, List.map_cons, List.map_nil]); first | done | rfl | (simp only [List.length_drop, List.length_take]; rfl)) ?_
      with_reducible refine (tensilelaw05_to.calls ((rd_T54 l0_0 x4_1).f0) ((rd_T54 l0_0 x4_1).f1) t138 t139 _ A7.out).mono ?_
      rintro e w13 ⟨rfl, hb⟩
      refine ⟨_, rfl, ?_⟩
      have n0_ := Aside0.mk (k3 (by (with_reducible repeat (first | apply k0 | apply k1 | apply k2)); exact HO_137000.out) hb)
      have n1_ := Aside0.mk (b5 (g := gb134) (o := .cells #[.slice (some ad137) l0_0.length c0_0] 24 (0, 0)) (by (with_reducible repeat (first | refine b0 ?_ _ | refine b1 ?_ | refine b2 ?_ _)); exact BK134.out) hb)
      have n2_ := Aside0.mk (b5 (g := gb135) (o := .cells #[.slice none 0 0] 39 (0, 0)) (by (with_reducible repeat (first | refine b0 ?_ _ | refine b1 ?_ | refine b2 ?_ _)); exact BK135.out) hb)
      have n3_ := Aside0.mk (b5 (g := gb136) (o := .cells #[u137000] 39 (0, 0)) (by (with_reducible repeat (first | refine b0 ?_ _ | refine b1 ?_ | refine b2 ?_ _)); exact BK136.out) hb)
      have n4_ := Aside0.mk (b13 (by repeat (first | (with_reducible first | exact HB.out | apply b8 | apply b6 | apply b7 | refine b3 ?_ GE134.out | refine b3 ?_ GE135.out | refine b3 ?_ GE136.out) | exact HB.out)) hb)
      clear HO_137000
      clear BK134
      clear BK135
      clear BK136
      clear HB
      have HO_137000 := n0_
      have BK134 := n1_
      have BK135 := n2_
      have BK136 := n3_
      have HB := n4_
      clear n0_ n1_ n2_ n3_ n4_
      (try clear hb)
      (try clear hb2)
      (try clear hk)
      (try clear hi)
      refine hK.out _ _ ⟨(b4 BK136.out 0).trans rfl, (b4 BK134.out 0).trans rfl, ((HB.out.cell (World.block_lt_of_cell? w _ hw137_0)).trans hw137_0), ((HB.out.cell (World.block_lt_of_cell? w _ hw137_1)).trans hw137_1)⟩ (fun hHeld => ?_)
      clear hK K
      refine norm_ (a' := ?_) ?_ ?_
      rotate_left
      ·
       show Act.put _ (some 19) _ = _
       simp only [Act.put, l1, l2, l3, i64_w, i32_w]
       rfl
      refine one_ (i := 8) (N := some 20) #[tt,tt,tt,tt,tt,tt,tt,tt,tt,ff,ff,ff] rfl rfl (one_of HT_.out (by kernel_rfl)) (by decide) (fun K hK => ?_)
      refine value_ (w1 := ?_) (v := ?_) (by rfl) rfl ?_ ?_
      rotate_left 2
      ·
       go_simp
       constructor
       ·
        rfl
       ·
        rfl
      refine hK.out _ _ ⟨(b4 (b2 BK136.out _) 0).trans rfl, (b4 (b2 BK134.out _) 0).trans rfl, (World.cell?_alloc_lt _ _ _ (World.block_lt_of_cell? _ _ (((HB.out.cell (World.block_lt_of_cell? w _ hw137_0)).trans hw137_0)))).trans (((HB.out.cell (World.block_lt_of_cell? w _ hw137_0)).trans hw137_0)), (World.cell?_alloc_lt _ _ _ (World.block_lt_of_cell? _ _ (((HB.out.cell (World.block_lt_of_cell? w _ hw137_1)).trans hw137_1)))).trans (((HB.out.cell (World.block_lt_of_cell? w _ hw137_1)).trans hw137_1))⟩ (fun hHeld => ?_)
      clear hK K
      refine norm_ (a' := ?_) ?_ ?_
      rotate_left
      ·
       show Act.put _ (some 20) _ = _
       simp only [Act.put, l1, l2, l3, i64_w, i32_w]
       rfl
      refine one_ (i := 9) (N := some 21) #[tt,tt,tt,tt,tt,tt,tt,tt,tt,tt,ff,ff] rfl rfl (one_of HT_.out (by kernel_rfl)) (by decide) (fun K hK => ?_)
      refine Kd.R_append_step k47 (w0 := w) w.heap.size (by rfl) (.tmp 13) (.tmp 20) 37 47 (.agg #[(.int .i64 0), (.int .i64 0)]) 16 rfl Try.underlying37 info47 rfl (by decide) (by omega) u137000 x137000_1 (⟨t138, t139⟩ : S47) [.int .i64 t138, .int .i64 t139] (fun _ => True) (fun _ => False) rfl rfl ?aP (fun _ hk => hk.elim) ?aF ?aO ?aB ?aS ?aL ?_
      (case aP => exact k47_mkM _ _ _ (⟨t138, t139⟩ : S47))
      (case aB => exact (by repeat (first | (with_reducible first | exact HB.out | apply b8 | apply b6 | apply b7 | refine b3 ?_ GE134.out | refine b3 ?_ GE135.out | refine b3 ?_ GE136.out) | exact HB.out)))
      (case aF => exact (fun _ _ => trivial))
      (case aO => exact (by (with_reducible repeat (first | apply k0 | apply k1 | apply k2)); exact HO_137000.out))
      (case aS => exact (b12 (by repeat (first | (with_reducible first | exact HB.out | apply b8 | apply b6 | apply b7 | refine b3 ?_ GE134.out | refine b3 ?_ GE135.out | refine b3 ?_ GE136.out) | exact HB.out))))
      (case aL => have := LMc8.out; omega)
      intro v141 w14 ho hb hg hat
      rw [← Ny140.out] at ho
      have n0_ := Aside0.mk (blk_grown (g := gb134) (o := .cells #[.slice (some ad137) l0_0.length c0_0] 24 (0, 0)) (by (with_reducible repeat (first | refine b0 ?_ _ | refine b1 ?_ | refine b2 ?_ _)); exact BK134.out) hg (Kd.R_ne HO_137000.out BK134.out (by decide)))
      have n1_ := Aside0.mk (blk_grown (g := gb135) (o := .cells #[.slice none 0 0] 39 (0, 0)) (by (with_reducible repeat (first | refine b0 ?_ _ | refine b1 ?_ | refine b2 ?_ _)); exact BK135.out) hg (Kd.R_ne HO_137000.out BK135.out (by decide)))
      have n2_ := Aside0.mk (blk_grown (g := gb136) (o := .cells #[u137000] 39 (0, 0)) (by (with_reducible repeat (first | refine b0 ?_ _ | refine b1 ?_ | refine b2 ?_ _)); exact BK136.out) hg (Kd.R_ne HO_137000.out BK136.out (by decide)))
      have n3_ := Aside0.mk (hb)
      have n4_ := Aside0.mk (ho)
      clear BK134
      clear BK135
      clear BK136
      clear HB
      clear HO_137000
      have BK134 := n0_
      have BK135 := n1_
      have BK136 := n2_
      have HB := n3_
      have HO142 := n4_
      clear n0_ n1_ n2_ n3_ n4_
      clear ho hb hg hat
      obtain ⟨Ao15, co15, eo15⟩ := Kd.R_slice HO142.out
      (first | subst eo15 | (injection eo15 with f1_ f2_ f3_; have f4_ := f1_.symm; have f5_ := f3_.symm; clear f1_ f2_ f3_; subst f4_; subst f5_))
      refine hK.out _ _ ⟨(b4 BK136.out 0).trans rfl, (b4 BK134.out 0).trans rfl, ((HB.out.cell (World.block_lt_of_cell? w _ hw137_0)).trans hw137_0), ((HB.out.cell (World.block_lt_of_cell? w _ hw137_1)).trans hw137_1)⟩ (fun hHeld => ?_)
      clear hK K
      refine norm_ (a' := ?_) ?_ ?_
      rotate_left
      ·
       show Act.put _ (some 21) _ = _
       simp only [Act.put, l1, l2, l3, i64_w, i32_w]
       rfl
      refine pure_ (i := 10) (N := some 22) (v := ?_) (a' := ?_) #[tt,tt,tt,tt,tt,tt,tt,tt,tt,tt,tt,ff] rfl rfl (any_of HT_.out (by kernel_rfl)) (fun _ _ _ h => h) (Or.inl ⟨by rfl, ?_⟩) ?_ ?_
      rotate_left
      ·
       intro w'
       go_simp
       with_reducible rfl
      rotate_left
      ·
       simp only [Act.put, l1, l2, l3, i64_w, i32_w]
       rfl
      refine last_ (i := 11) (N := none) #[tt,tt,tt,tt,tt,tt,tt,tt,tt,tt,tt,tt] rfl rfl (one_of HT_.out (by kernel_rfl)) (by decide) (fun K hK => ?_)
      have hs16 : w14.cell? ⟨gb136, 0, none⟩ = some (u137000) := (b4 BK136.out 0).trans rfl
      have hfs16 := b9 BK136.out 0
      have hns16_0 := NB134_136.out
      have hns16_1 := NB135_136.out
      have hms16_0 := NB136_134.out
      have hms16_1 := NB136_135.out
      refine skip_ (w1 := ?_) (by rfl) rfl ?_ ?_
      rotate_left
      ·
       go_simp
       rfl
      refine hK.out _ _ ?_
      clear hK K
      refine done_ (done_of HT_.out (by kernel_rfl)) ?_
      try go_wp2
      go_roundg k1
      case measure => have := HK1.out; omega
      case rel => exact ⟨(wrap64 (x4_1 + 1)), (y140), (.slice Ao15 y140.length co15), (by first | rfl | (simp; done) | (simp [*]; done)), H', ⟨by have := HK1.out; omega⟩, ⟨by (with_reducible repeat (first | apply k0 | apply k1 | apply k2)); exact k10 (k8 (p := ⟨gb136, 0, none⟩) (k11 HO142.out BK136.out (by decide)) (fun _ hk => hk.2) (.slice Ao15 y140.length co15)) (fun _ hk => trivial)⟩, ⟨by (with_reducible repeat (first | refine b0 ?_ _ | refine b1 ?_ | refine b2 ?_ _)); refine b11 ?_ NB134_136.out _; (with_reducible repeat (first | refine b0 ?_ _ | refine b1 ?_ | refine b2 ?_ _)); exact BK134.out⟩, ⟨by (with_reducible repeat (first | refine b0 ?_ _ | refine b1 ?_ | refine b2 ?_ _)); refine b11 ?_ NB135_136.out _; (with_reducible repeat (first | refine b0 ?_ _ | refine b1 ?_ | refine b2 ?_ _)); exact BK135.out⟩, ⟨by (with_reducible repeat (first | refine b0 ?_ _ | refine b1 ?_ | refine b2 ?_ _)); refine blk_put (cs := #[u137000]) ?_ 0 _ rfl; (with_reducible repeat (first | refine b0 ?_ _ | refine b1 ?_ | refine b2 ?_ _)); exact BK136.out⟩, ⟨by repeat (first | (with_reducible first | exact HB.out | apply b8 | apply b6 | apply b7 | refine b3 ?_ GE134.out | refine b3 ?_ GE135.out | refine b3 ?_ GE136.out) | exact HB.out)⟩⟩
     ·
      rw [if_neg c8] at H
      exact absurd H (by simp)
    ·
     rw [if_neg c6] at H
     exact absurd H (by simp)
   ·
    rw [if_neg c5] at H
    have c5b0 : decide (x4_1 < (l0_0.length : Int)) = false := decide_eq_false c5
    clear c5
    obtain rfl := Option.some.inj H
    have hnb17 := NB134_135.out
    have hnc17 := NB135_134.out
    have hnb18 := NB134_136.out
    have hnc18 := NB136_134.out
    have hcz19_0 : wr.cell? ⟨gb134, 0, none⟩ = some (.slice A0_0 l0_0.length c0_0) := (b4 BK134.out 0).trans rfl
    have hfz19_0 := b9 BK134.out 0
    have hnb20 := NB136_135.out
    have hnc20 := NB135_136.out
    have hcz21_0 : wr.cell? ⟨gb136, 0, none⟩ = some (u137000) := (b4 BK136.out 0).trans rfl
    have hfz21_0 := b9 BK136.out 0
    obtain ⟨Ao22, co22, eo22⟩ := Kd.R_slice HO_137000.out
    subst eo22
    have hcz23_0 : wr.cell? ⟨gb135, 0, none⟩ = some (.slice none 0 0) := (b4 BK135.out 0).trans rfl
    have hfz23_0 := b9 BK135.out 0
    go_wp2
    refine bodyPost_ret (results_cell_row rfl _ _ gb135 39 #[.slice Ao22 x137000_1.length co22] (0, 0) _ rfl (by (with_reducible repeat (first | refine b0 ?_ _ | refine b1 ?_ | refine b2 ?_ _)); refine blk_put (cs := #[.slice none 0 0]) ?_ 0 _ rfl; (with_reducible repeat (first | refine b0 ?_ _ | refine b1 ?_ | refine b2 ?_ _)); exact BK135.out) Try.underlying39 rfl (by kernel_rfl)) rfl ?_
    exact ⟨_, by first | rfl | (simp [errW_none, errW_some] <;> rfl) | (simp [*, errW_none, errW_some] <;> rfl), by (with_reducible repeat (first | apply k0 | apply k1 | apply k2)); exact k10 (k8 (p := ⟨gb135, 0, none⟩) (k11 HO_137000.out BK135.out (by decide)) (fun _ hk => hk.2) (.slice Ao22 x137000_1.length co22)) (fun _ hk => trivial), by repeat (first | (with_reducible first | exact HB.out | apply b8 | apply b6 | apply b7 | refine b3 ?_ GE134.out | refine b3 ?_ GE135.out | refine b3 ?_ GE136.out) | exact HB.out)⟩
end Go.Proofs.Ytdagijgoegkphaa.P

namespace Go.Proofs.Ytdagijgoegkphaa.P
open Go.RowKit Go.Proofs.YtdagijgoegkphaaW.PrintWords Go.Proofs.YtdagijgoegkphaaW.PrintLast Go.Proofs.YtdagijgoegkphaaW.PrintMore
open Bool renaming true → tt, false → ff
open List renaming setIfInBounds_toArray → l1, set_cons_zero → l2, set_cons_succ → l3
open Go.Proofs.YtdagijgoegkphaaW.PrintWords renaming pw_below_drewN → b6, below_drew1 → b7, below_alloc → b8, below_size → b12, below_step → b13
open Go.Proofs.YtdagijgoegkphaaW.PrintWords.Kd renaming R_alloc → k0, R_drewN → k1, R_drew → k2, R_below → k3
attribute [local go_sem] max2_int min2_int max_two min_two max_three min_three max_four min_four   -- for this text's walks alone
def tensilelaw05_Plan.l0 : Nat → List (S56) → List (S65) → Int → Option ((List (S65)))
 | 0, _, _, _ => none
 | k + 1, x0, x3, x4 => if x4 < (x0.length : Int) then (if 0 ≤ x4 then ((tensilelaw05_to.f ((rd_T56 x0 x4).f1.f0) ((rd_T56 x0 x4).f1.f1)).bind fun bt145 => (if x3.length < 5864062014805 then (tensilelaw05_Plan.l0 k x0 (x3 ++ [(⟨(rd_T56 x0 x4).f0, (⟨bt145.1, bt145.2⟩ : S47)⟩ : S65)]) (wrap64 (x4 + 1))) else (none))) else (none)) else (some x3)
def tensilelaw05_Plan.f (k : Nat) (l0 : List (S56)) : Option ((List (S65))) := tensilelaw05_Plan.l0 k l0 ([] : List (S65)) 0
def tensilelaw05_Plan.T5 : Bool × List (List Nat × List Nat) := (true, [([], []), ([], []), ([], []), ([1, 2], [1, 2]), ([3], [3]), ([4], [4]), ([], []), ([], []), ([6, 7], [6, 7]), ([8], [8]), ([9], [9]), ([10], [10]), ([5, 11], [5, 11]), ([12], [12]), ([0, 13, 11], [0, 13]), ([14, 14, 0, 1, 2, 3, 4, 5, 6, 7, 8, 9, 10, 11, 12, 13, 14], [0, 14])])
def tensilelaw05_Plan.B5 : List Nat := [0, 0, 0, 6, 14, 30, 0, 0, 192, 448, 960, 1984, 4094, 8190, 16383, 32767]
theorem tensilelaw05_Plan.tab5 : rtab .any (opsOf Try.f26 5) = tensilelaw05_Plan.T5 := by kernel_rfl
theorem tensilelaw05_Plan.bits5 : waitsOk tensilelaw05_Plan.T5.2 tensilelaw05_Plan.B5 = true := by kernel_rfl
set_option maxHeartbeats 8000000 in
set_option maxRecDepth 100000 in
theorem tensilelaw05_Plan.calls (k : Nat) (A0 : Option Addr) (c0 : Nat) (l0 : List (S56)) (r : List (S65)) (w : World) (hr0 : Kd.C k56 w A0 l0.length l0) (hc0 : l0.length ≤ c0) (h : tensilelaw05_Plan.f k l0 = some r) :
  Calls Try.prog 26 #[.slice A0 l0.length c0] w fun e w' => ∃ v0_ : Value, e = .returned (v0_) ∧ Kd.R k65 65 w' w.heap.size (fun _ => True) v0_ r ∧ Below w.heap.size w w' := by
 have hu54 := Try.underlying54
 have hu65 := Try.underlying65
 have HR0 := Aside0.mk hr0
 have HC0 := Aside0.mk hc0
 clear hr0 hc0
 have HB := Aside0.mk (Below.refl w.heap.size w)
 have H : (tensilelaw05_Plan.l0 k l0 ([] : List (S65)) 0) = some r := h
 clear h
 have H' := Aside0.mk H
 clear H
 go_enter Try.func26, Try.ntmps26
 go_wp2
 go_loopg [3, 4] k (fun kq v3 v4 w' => ∃ (x3_1 : List (S65)) (x4_1 : Int), v4 = .int .i64 x4_1 ∧ Aside0 (tensilelaw05_Plan.l0 kq l0 x3_1 x4_1 = some r) ∧ Aside0 (kq ≤ k) ∧ Aside0 (Kd.R k65 65 w' w.heap.size (fun _ => True) v3 x3_1) ∧ Aside0 (Below w.heap.size w w'))
 case atStart => exact ⟨(([] : List (S65))), (0), (by first | rfl | (simp; done) | (simp [*]; done)), H', ⟨Nat.le_refl _⟩, ⟨by first | exact Kd.R_nil _ _ _ _ _ | exact Kd.N_nil _ _ _ _ _ | exact Kd.V_nil _ _ _ _ _ | exact Kd.Q_nil _ _ _ _ _ | exact Kd.S_nil _ _ _ _ _⟩, ⟨by repeat (first | (with_reducible first | exact HB.out | apply b8 | apply b6 | apply b7) | exact HB.out)⟩⟩
 case round =>
  clear H'
  obtain ⟨x3_1, x4_1, rfl, HA, HK1, HO_3, HB⟩ := hrel
  cases gk with
  | zero => exact absurd HA.out (by simp [tensilelaw05_Plan.l0])
  | succ k1 =>
   have H := HA.out
   clear HA
   simp only [tensilelaw05_Plan.l0] at H
   by_cases c2 : x4_1 < (l0.length : Int)
   ·
    rw [if_pos c2] at H
    have c2b0 : decide (x4_1 < (l0.length : Int)) = true := decide_eq_true c2
    clear c2
    by_cases c3 : 0 ≤ x4_1
    ·
     rw [if_pos c3] at H
     have c3b0 : decide (0 ≤ x4_1) = true := decide_eq_true c3
     clear c3
     replace H := Option.bind_eq_some_iff.mp H
     obtain ⟨⟨t145, t146⟩, A40, H⟩ := H
     replace H : (if x3_1.length < 5864062014805 then (tensilelaw05_Plan.l0 k1 l0 (x3_1 ++ [(⟨(rd_T56 l0 x4_1).f0, (⟨t145, t146⟩ : S47)⟩ : S65)]) (wrap64 (x4_1 + 1))) else (none)) = some r := H
     have A4 := Aside0.mk A40
     clear A40
     by_cases c5 : x3_1.length < 5864062014805
     ·
      rw [if_pos c5] at H
      have LMc5 := Aside0.mk c5
      clear c5
      obtain ⟨y147, hy147⟩ : ∃ y_ : List (S65), y_ = (x3_1 ++ [(⟨(rd_T56 l0 x4_1).f0, (⟨t145, t146⟩ : S47)⟩ : S65)]) := ⟨_, rfl⟩
      replace H : (tensilelaw05_Plan.l0 k1 l0 y147 (wrap64 (x4_1 + 1))) = some r := by first | (rw [hy147]; with_reducible exact H) | (have H2_ := (Option.bind_some _ _).symm.trans H; rw [hy147]; with_reducible exact H2_) | (have H2_ := (Option.bind_some _ _).symm.trans H; with_reducible exact H2_) | with_reducible exact H | (rw [hy147]; exact H) | exact H
      have Ny147 := Aside0.mk hy147
      clear hy147
      have H' := Aside0.mk H
      clear H
      try go_wp2
      have n0_ := Aside0.mk (k2 HO_3.out)
      have n1_ := Aside0.mk (b7 HB.out)
      clear HO_3
      clear HB
      have HO_3 := n0_
      have HB := n1_
      clear n0_ n1_
      have p143 : 0 ≤ (x4_1 : Int) := of_decide_eq_true (by first | (with_reducible assumption) | assumption)
      have q143 : x4_1 < (l0.length : Int) := of_decide_eq_true (by first | (with_reducible assumption) | assumption)
      obtain ⟨ad143, e143, hx143_0, hx143_1, hx143_2⟩ := at_T56 HR0.out x4_1 p143 q143
      have hw143_2 := hx143_2
      have hw143_1 := hx143_1
      have hw143_0 := hx143_0
      cases e143
      replace hx143_0 := (HB.out.cell (World.block_lt_of_cell? w _ hx143_0)).trans hx143_0
      replace hx143_1 := (HB.out.cell (World.block_lt_of_cell? w _ hx143_1)).trans hx143_1
      replace hx143_2 := (HB.out.cell (World.block_lt_of_cell? w _ hx143_2)).trans hx143_2
      replace p143 := eq_true p143
      replace q143 := eq_true q143
      have p144 : 0 ≤ (x4_1 : Int) := of_decide_eq_true (by first | (with_reducible assumption) | assumption)
      have q144 : x4_1 < (l0.length : Int) := of_decide_eq_true (by first | (with_reducible assumption) | assumption)
      obtain ⟨ad144, e144, hx144_0, hx144_1, hx144_2⟩ := at_T56 HR0.out x4_1 p144 q144
      have hw144_2 := hx144_2
      have hw144_1 := hx144_1
      have hw144_0 := hx144_0
      obtain rfl : ad143 = ad144 := (by injection e144)
      replace hx144_0 := (HB.out.cell (World.block_lt_of_cell? w _ hx144_0)).trans hx144_0
      replace hx144_1 := (HB.out.cell (World.block_lt_of_cell? w _ hx144_1)).trans hx144_1
      replace hx144_2 := (HB.out.cell (World.block_lt_of_cell? w _ hx144_2)).trans hx144_2
      replace p144 := eq_true p144
      replace q144 := eq_true q144
      refine start_ (n := 16) (S := fun w' => w'.cell? (ad143.add ((x4_1).toNat * 3)) = some (.int .i64 ((rd_T56 l0 x4_1).f0)) ∧ w'.cell? ⟨(ad143.add ((x4_1).toNat * 3)).block, (ad143.add ((x4_1).toNat * 3)).off + 1, none⟩ = some (.int .i64 ((rd_T56 l0 x4_1).f1.f0)) ∧ w'.cell? ⟨(ad143.add ((x4_1).toNat * 3)).block, (ad143.add ((x4_1).toNat * 3)).off + 2, none⟩ = some (.int .i64 ((rd_T56 l0 x4_1).f1.f1)) ∧ w'.cell? (ad143.add ((x4_1).toNat * 3)) = some (.int .i64 ((rd_T56 l0 x4_1).f0)) ∧ w'.cell? ⟨(ad143.add ((x4_1).toNat * 3)).block, (ad143.add ((x4_1).toNat * 3)).off + 1, none⟩ = some (.int .i64 ((rd_T56 l0 x4_1).f1.f0)) ∧ w'.cell? ⟨(ad143.add ((x4_1).toNat * 3)).block, (ad143.add ((x4_1).toNat * 3)).off + 2, none⟩ = some (.int .i64 ((rd_T56 l0 x4_1).f1.f1))) (ds := []) #[ff,ff,ff,ff,ff,ff,ff,ff,ff,ff,ff,ff,ff,ff,ff,ff] (by kernel_rfl) rfl rfl ⟨((HB.out.cell (World.block_lt_of_cell? w _ hw143_0)).trans hw143_0), ((HB.out.cell (World.block_lt_of_cell? w _ hw143_1)).trans hw143_1), ((HB.out.cell (World.block_lt_of_cell? w _ hw143_2)).trans hw143_2), ((HB.out.cell (World.block_lt_of_cell? w _ hw144_0)).trans hw144_0), ((HB.out.cell (World.block_lt_of_cell? w _ hw144_1)).trans hw144_1), ((HB.out.cell (World.block_lt_of_cell? w _ hw144_2)).trans hw144_2)⟩ (fun hHeld => ?_); refine with_tabW tensilelaw05_Plan.tab5 tensilelaw05_Plan.bits5 (fun HT_ HW_ => ?_)
      generalize wr.drew = w6 at HO_3 HB hx143_0 hx143_1 hx143_2 hx144_0 hx144_1 hx144_2 hHeld ⊢
      refine pure_ (i := 0) (N := some 11) (v := ?_) (a' := ?_) #[tt,ff,ff,ff,ff,ff,ff,ff,ff,ff,ff,ff,ff,ff,ff,ff] rfl rfl (any_of HT_.out (by kernel_rfl)) (fun _ _ _ h => h) (Or.inl ⟨by rfl, ?_⟩) ?_ ?_
      rotate_left
      ·
       intro w'
       go_simp
       with_reducible rfl
      rotate_left
      ·
       simp only [Act.put, l1, l2, l3, i64_w, i32_w]
       rfl
      refine pure_ (i := 1) (N := some 12) (v := ?_) (a' := ?_) #[tt,tt,ff,ff,ff,ff,ff,ff,ff,ff,ff,ff,ff,ff,ff,ff] rfl rfl (any_of HT_.out (by kernel_rfl)) (fun _ _ _ h => h) (Or.inl ⟨by rfl, ?_⟩) ?_ ?_
      rotate_left
      ·
       intro w'
       go_simp
       with_reducible rfl
      rotate_left
      ·
       simp only [Act.put, l1, l2, l3, i64_w, i32_w]
       rfl
      refine pure_ (i := 2) (N := some 13) (v := ?_) (a' := ?_) #[tt,tt,tt,ff,ff,ff,ff,ff,ff,ff,ff,ff,ff,ff,ff,ff] rfl rfl (any_of HT_.out (by kernel_rfl)) (fun _ _ _ h => h) (Or.inl ⟨by rfl, ?_⟩) ?_ ?_
      rotate_left
      ·
       intro w'
       go_simp
       with_reducible rfl
      rotate_left
      ·
       simp only [Act.put, l1, l2, l3, i64_w, i32_w]
       rfl
      refine pure_ (i := 3) (N := some 14) (v := ?_) (a' := ?_) #[tt,tt,tt,tt,ff,ff,ff,ff,ff,ff,ff,ff,ff,ff,ff,ff] rfl rfl (any_of HT_.out (by kernel_rfl)) (fun _ _ _ h => h) (Or.inl ⟨by rfl, ?_⟩) ?_ ?_
      rotate_left
      ·
       intro w'
       go_simp
       with_reducible rfl
      rotate_left
      ·
       simp only [Act.put, l1, l2, l3, i64_w, i32_w]
       rfl
      refine pure_ (i := 4) (N := some 15) (v := ?_) (a' := ?_) #[tt,tt,tt,tt,tt,ff,ff,ff,ff,ff,ff,ff,ff,ff,ff,ff] rfl rfl (any_of HT_.out (by kernel_rfl)) (fun _ _ _ h => h) (Or.inl ⟨by rfl, ?_⟩) ?_ ?_
      rotate_left
      ·
       intro w'
       go_simp
       with_reducible rfl
      rotate_left
      ·
       simp only [Act.put, l1, l2, l3, i64_w, i32_w]
       rfl
      refine pure_ (i := 6) (N := some 17) (v := ?_) (a' := ?_) #[tt,tt,tt,tt,tt,ff,tt,ff,ff,ff,ff,ff,ff,ff,ff,ff] rfl rfl (any_of HT_.out (by kernel_rfl)) (fun _ _ _ h => h) (Or.inl ⟨by rfl, ?_⟩) ?_ ?_
      rotate_left
      ·
       intro w'
       go_simp
       with_reducible rfl
      rotate_left
      ·
       simp only [Act.put, l1, l2, l3, i64_w, i32_w]
       rfl
      refine pure_ (i := 7) (N := some 18) (v := ?_) (a' := ?_) #[tt,tt,tt,tt,tt,ff,tt,tt,ff,ff,ff,ff,ff,ff,ff,ff] rfl rfl (any_of HT_.out (by kernel_rfl)) (fun _ _ _ h => h) (Or.inl ⟨by rfl, ?_⟩) ?_ ?_
      rotate_left
      ·
       intro w'
       go_simp
       with_reducible rfl
      rotate_left
      ·
       simp only [Act.put, l1, l2, l3, i64_w, i32_w]
       rfl
      refine pure_ (i := 8) (N := some 19) (v := ?_) (a' := ?_) #[tt,tt,tt,tt,tt,ff,tt,tt,tt,ff,ff,ff,ff,ff,ff,ff] rfl rfl (any_of HT_.out (by kernel_rfl)) (fun _ _ _ h => h) (Or.inl ⟨by rfl, ?_⟩) ?_ ?_
      rotate_left
      ·
       intro w'
       go_simp
       with_reducible rfl
      rotate_left
      ·
       simp only [Act.put, l1, l2, l3, i64_w, i32_w]
       rfl
      refine pure_ (i := 9) (N := some 20) (v := ?_) (a' := ?_) #[tt,tt,tt,tt,tt,ff,tt,tt,tt,tt,ff,ff,ff,ff,ff,ff] rfl rfl (any_of HT_.out (by kernel_rfl)) (fun _ _ _ h => h) (Or.inl ⟨by rfl, ?_⟩) ?_ ?_
      rotate_left
      ·
       intro w'
       go_simp
       with_reducible rfl
      rotate_left
      ·
       simp only [Act.put, l1, l2, l3, i64_w, i32_w]
       rfl
      refine take_ (i := 5) (N := some 16) (v := ?_) (a' := ?_) #[tt,tt,tt,tt,tt,tt,tt,tt,tt,tt,ff,ff,ff,ff,ff,ff] rfl rfl (take_ofW HT_.out HW_.out (by kernel_rfl)) (fun _ _ _ h => h) (Or.inl ⟨by rfl, ?_⟩) hHeld ?_ ?_
      rotate_left
      ·
       rintro w' ⟨s0, s1, s2, s3, s4, s5⟩
       go_simp
       with_reducible rfl
      rotate_left
      ·
       simp only [Act.put, l1, l2, l3, i64_w, i32_w]
       rfl
      refine take_ (i := 10) (N := some 21) (v := ?_) (a' := ?_) #[tt,tt,tt,tt,tt,tt,tt,tt,tt,tt,tt,ff,ff,ff,ff,ff] rfl rfl (take_ofW HT_.out HW_.out (by kernel_rfl)) (fun _ _ _ h => h) (Or.inl ⟨by rfl, ?_⟩) hHeld ?_ ?_
      rotate_left
      ·
       rintro w' ⟨s0, s1, s2, s3, s4, s5⟩
       go_simp
       with_reducible rfl
      rotate_left
      ·
       simp only [Act.put, l1, l2, l3, i64_w, i32_w]
       rfl
      refine one_ (i := 11) (N := some 22) #[tt,tt,tt,tt,tt,tt,tt,tt,tt,tt,tt,tt,ff,ff,ff,ff] rfl rfl (one_of HT_.out (by kernel_rfl)) (by decide) (fun K hK => ?_)
      refine goes_ Try.func41 (by kernel_rfl) rfl #[.agg #[.int .i64 ((rd_T56 l0 x4_1).f1.f0), .int .i64 ((rd_T56 l0 x4_1).f1.f1)]] (by rfl) rfl rfl (by (try simp only [List.map_toArray, List.map_cons, List.map_nil]); first | done | rfl | (simp only [List.length_drop, List.length_take]; rfl)) ?_
      with_reducible refine (tensilelaw05_to.calls ((rd_T56 l0 x4_1).f1.f0) ((rd_T56 l0 x4_1).f1.f1) t145 t146 _ A4.out).mono ?_
      rintro e w7 ⟨rfl, hb⟩
      refine ⟨_, rfl, ?_⟩
      have n0_ := Aside0.mk (k3 (by (with_reducible repeat (first | apply k0 | apply k1 | apply k2)); exact HO_3.out) hb)
      have n1_ := Aside0.mk (b13 (by repeat (first | (with_reducible first | exact HB.out | apply b8 | apply b6 | apply b7) | exact HB.out)) hb)
      clear HO_3
      clear HB
      have HO_3 := n0_
      have HB := n1_
      clear n0_ n1_
      (try clear hb)
      (try clear hb2)
      (try clear hk)
      (try clear hi)
      refine hK.out _ _ ⟨((HB.out.cell (World.block_lt_of_cell? w _ hw143_0)).trans hw143_0), ((HB.out.cell (World.block_lt_of_cell? w _ hw143_1)).trans hw143_1), ((HB.out.cell (World.block_lt_of_cell? w _ hw143_2)).trans hw143_2), ((HB.out.cell (World.block_lt_of_cell? w _ hw144_0)).trans hw144_0), ((HB.out.cell (World.block_lt_of_cell? w _ hw144_1)).trans hw144_1), ((HB.out.cell (World.block_lt_of_cell? w _ hw144_2)).trans hw144_2)⟩ (fun hHeld => ?_)
      clear hK K
      refine norm_ (a' := ?_) ?_ ?_
      rotate_left
      ·
       show Act.put _ (some 22) _ = _
       simp only [Act.put, l1, l2, l3, i64_w, i32_w]
       rfl
      refine pure_ (i := 12) (N := some 23) (v := ?_) (a' := ?_) #[tt,tt,tt,tt,tt,tt,tt,tt,tt,tt,tt,tt,tt,ff,ff,ff] rfl rfl (any_of HT_.out (by kernel_rfl)) (fun _ _ _ h => h) (Or.inl ⟨by rfl, ?_⟩) ?_ ?_
      rotate_left
      ·
       intro w'
       go_simp
       with_reducible rfl
      rotate_left
      ·
       simp only [Act.put, l1, l2, l3, i64_w, i32_w]
       rfl
      refine one_ (i := 13) (N := some 24) #[tt,tt,tt,tt,tt,tt,tt,tt,tt,tt,tt,tt,tt,tt,ff,ff] rfl rfl (one_of HT_.out (by kernel_rfl)) (by decide) (fun K hK => ?_)
      refine value_ (w1 := ?_) (v := ?_) (by rfl) rfl ?_ ?_
      rotate_left 2
      ·
       go_simp
       constructor
       ·
        rfl
       ·
        rfl
      refine hK.out _ _ ⟨(World.cell?_alloc_lt _ _ _ (World.block_lt_of_cell? _ _ (((HB.out.cell (World.block_lt_of_cell? w _ hw143_0)).trans hw143_0)))).trans (((HB.out.cell (World.block_lt_of_cell? w _ hw143_0)).trans hw143_0)), (World.cell?_alloc_lt _ _ _ (World.block_lt_of_cell? _ _ (((HB.out.cell (World.block_lt_of_cell? w _ hw143_1)).trans hw143_1)))).trans (((HB.out.cell (World.block_lt_of_cell? w _ hw143_1)).trans hw143_1)), (World.cell?_alloc_lt _ _ _ (World.block_lt_of_cell? _ _ (((HB.out.cell (World.block_lt_of_cell? w _ hw143_2)).trans hw143_2)))).trans (((HB.out.cell (World.block_lt_of_cell? w _ hw143_2)).trans hw143_2)), (World.cell?_alloc_lt _ _ _ (World.block_lt_of_cell? _ _ (((HB.out.cell (World.block_lt_of_cell? w _ hw144_0)).trans hw144_0)))).trans (((HB.out.cell (World.block_lt_of_cell? w _ hw144_0)).trans hw144_0)), (World.cell?_alloc_lt _ _ _ (World.block_lt_of_cell? _ _ (((HB.out.cell (World.block_lt_of_cell? w _ hw144_1)).trans hw144_1)))).trans (((HB.out.cell (World.block_lt_of_cell? w _ hw144_1)).trans hw144_1)), (World.cell?_alloc_lt _ _ _ (World.block_lt_of_cell? _ _ (((HB.out.cell (World.block_lt_of_cell? w _ hw144_2)).trans hw144_2)))).trans (((HB.out.cell (World.block_lt_of_cell? w _ hw144_2)).trans hw144_2))⟩ (fun hHeld => ?_)
      clear hK K
      refine norm_ (a' := ?_) ?_ ?_
      rotate_left
      ·
       show Act.put _ (some 24) _ = _
       simp only [Act.put, l1, l2, l3, i64_w, i32_w]
       rfl
      refine one_ (i := 14) (N := some 25) #[tt,tt,tt,tt,tt,tt,tt,tt,tt,tt,tt,tt,tt,tt,tt,ff] rfl rfl (one_of HT_.out (by kernel_rfl)) (by decide) (fun K hK => ?_)
      refine Kd.R_append_step k65 (w0 := w) w.heap.size (by rfl) (.tmp 11) (.tmp 24) 50 65 (.agg #[(.int .i64 0), (.int .i64 0), (.int .i64 0)]) 24 rfl Try.underlying50 info65 rfl (by decide) (by omega) u3 x3_1 (⟨(rd_T56 l0 x4_1).f0, (⟨t145, t146⟩ : S47)⟩ : S65) [.int .i64 ((rd_T56 l0 x4_1).f0), .int .i64 t145, .int .i64 t146] (fun _ => True) (fun _ => False) rfl rfl ?aP (fun _ hk => hk.elim) ?aF ?aO ?aB ?aS ?aL ?_
      (case aP => exact k65_mkM _ _ _ (⟨(rd_T56 l0 x4_1).f0, (⟨t145, t146⟩ : S47)⟩ : S65))
      (case aB => exact (by repeat (first | (with_reducible first | exact HB.out | apply b8 | apply b6 | apply b7) | exact HB.out)))
      (case aF => exact (fun _ _ => trivial))
      (case aO => exact (by (with_reducible repeat (first | apply k0 | apply k1 | apply k2)); exact HO_3.out))
      (case aS => exact (b12 (by repeat (first | (with_reducible first | exact HB.out | apply b8 | apply b6 | apply b7) | exact HB.out))))
      (case aL => have := LMc5.out; omega)
      intro v148 w8 ho hb hg hat
      rw [← Ny147.out] at ho
      have n0_ := Aside0.mk (hb)
      have n1_ := Aside0.mk (ho)
      clear HB
      clear HO_3
      have HB := n0_
      have HO149 := n1_
      clear n0_ n1_
      clear ho hb hg hat
      refine hK.out _ _ ⟨((HB.out.cell (World.block_lt_of_cell? w _ hw143_0)).trans hw143_0), ((HB.out.cell (World.block_lt_of_cell? w _ hw143_1)).trans hw143_1), ((HB.out.cell (World.block_lt_of_cell? w _ hw143_2)).trans hw143_2), ((HB.out.cell (World.block_lt_of_cell? w _ hw144_0)).trans hw144_0), ((HB.out.cell (World.block_lt_of_cell? w _ hw144_1)).trans hw144_1), ((HB.out.cell (World.block_lt_of_cell? w _ hw144_2)).trans hw144_2)⟩ (fun hHeld => ?_)
      clear hK K
      refine norm_ (a' := ?_) ?_ ?_
      rotate_left
      ·
       show Act.put _ (some 25) _ = _
       simp only [Act.put, l1, l2, l3, i64_w, i32_w]
       rfl
      refine pure_ (i := 15) (N := some 3) (v := ?_) (a' := ?_) #[tt,tt,tt,tt,tt,tt,tt,tt,tt,tt,tt,tt,tt,tt,tt,tt] rfl rfl (any_of HT_.out (by kernel_rfl)) (fun _ _ _ h => h) (Or.inl ⟨by rfl, ?_⟩) ?_ ?_
      rotate_left
      ·
       intro w'
       go_simp
       with_reducible rfl
      rotate_left
      ·
       simp only [Act.put, l1, l2, l3, i64_w, i32_w]
       rfl
      refine done_ (done_of HT_.out (by kernel_rfl)) ?_
      try go_wp2
      go_roundg k1
      case measure => have := HK1.out; omega
      case rel => exact ⟨(y147), (wrap64 (x4_1 + 1)), (by first | rfl | (simp; done) | (simp [*]; done)), H', ⟨by have := HK1.out; omega⟩, ⟨by (with_reducible repeat (first | apply k0 | apply k1 | apply k2)); exact HO149.out⟩, ⟨by repeat (first | (with_reducible first | exact HB.out | apply b8 | apply b6 | apply b7) | exact HB.out)⟩⟩
     ·
      rw [if_neg c5] at H
      exact absurd H (by simp)
    ·
     rw [if_neg c3] at H
     exact absurd H (by simp)
   ·
    rw [if_neg c2] at H
    have c2b0 : decide (x4_1 < (l0.length : Int)) = false := decide_eq_false c2
    clear c2
    obtain rfl := Option.some.inj H
    go_wp2
    go_ret
    exact ⟨_, by first | rfl | (simp [errW_none, errW_some] <;> rfl) | (simp [*, errW_none, errW_some] <;> rfl), by (with_reducible repeat (first | apply k0 | apply k1 | apply k2)); exact HO_3.out, by repeat (first | (with_reducible first | exact HB.out | apply b8 | apply b6 | apply b7) | exact HB.out)⟩
end Go.Proofs.Ytdagijgoegkphaa.P

namespace Go.Proofs.Ytdagijgoegkphaa.P
open Go.RowKit Go.Proofs.YtdagijgoegkphaaW.PrintWords Go.Proofs.YtdagijgoegkphaaW.PrintLast Go.Proofs.YtdagijgoegkphaaW.PrintMore
open Bool renaming true → tt, false → ff
open List renaming setIfInBounds_toArray → l1, set_cons_zero → l2, set_cons_succ → l3
open Go.Proofs.YtdagijgoegkphaaW.PrintWords renaming pw_below_drewN → b6, below_drew1 → b7, below_alloc → b8, below_size → b12, below_step → b13
open Go.Proofs.YtdagijgoegkphaaW.PrintWords.Kd renaming R_alloc → k0, R_drewN → k1, R_drew → k2, R_below → k3, R_base → k7, R_mono → k10, R_lower → k12, C_alloc → k13, C_drewN → k14, C_drew → k15, C_below → k16
attribute [local go_sem] max2_int min2_int max_two min_two max_three min_three max_four min_four   -- for this text's walks alone
def tensilelaw05_Runs.l0 : Nat → List (S81) → List (S67) → Int → Option ((List (S67)))
 | 0, _, _, _ => none
 | k + 1, x0, x3, x4 => if x4 < (x0.length : Int) then (if 0 ≤ x4 then ((tensilelaw05_Plan.f k ((rd_T81 x0 x4).f0)).bind fun t151 => ((tensilelaw05_to.f ((rd_T81 x0 x4).f1.f0) ((rd_T81 x0 x4).f1.f1)).bind fun bt155 => (if x3.length < 3518437208883 then (tensilelaw05_Runs.l0 k x0 (x3 ++ [(⟨t151, (⟨bt155.1, bt155.2⟩ : S47)⟩ : S67)]) (wrap64 (x4 + 1))) else (none)))) else (none)) else (some x3)
def tensilelaw05_Runs.f (k : Nat) (l0 : List (S81)) : Option ((List (S67))) := tensilelaw05_Runs.l0 k l0 ([] : List (S67)) 0
def tensilelaw05_Runs.T5 : Bool × List (List Nat × List Nat) := (true, [([], []), ([], []), ([], []), ([1, 2], [1, 2]), ([3], [3]), ([4], [4]), ([5], [5]), ([], []), ([], []), ([7, 8], [7, 8]), ([9], [9]), ([10], [10]), ([11, 6], [11]), ([6, 12], [6, 12]), ([13], [13]), ([0, 14, 12], [0, 14]), ([15, 15, 0, 1, 2, 3, 4, 5, 6, 7, 8, 9, 10, 11, 12, 13, 14, 15], [0, 15])])
def tensilelaw05_Runs.B5 : List Nat := [0, 0, 0, 6, 14, 30, 62, 0, 0, 384, 896, 1920, 4094, 8190, 16382, 32767, 65535]
theorem tensilelaw05_Runs.tab5 : rtab .any (opsOf Try.f22 5) = tensilelaw05_Runs.T5 := by kernel_rfl
theorem tensilelaw05_Runs.bits5 : waitsOk tensilelaw05_Runs.T5.2 tensilelaw05_Runs.B5 = true := by kernel_rfl
set_option maxHeartbeats 8000000 in
set_option maxRecDepth 100000 in
theorem tensilelaw05_Runs.calls (k : Nat) (A0 : Option Addr) (c0 : Nat) (l0 : List (S81)) (r : List (S67)) (w : World) (hr0 : Kd.C k81 w A0 l0.length l0) (hc0 : l0.length ≤ c0) (h : tensilelaw05_Runs.f k l0 = some r) :
  Calls Try.prog 22 #[.slice A0 l0.length c0] w fun e w' => ∃ v0_ : Value, e = .returned (v0_) ∧ Kd.S k67 67 w' w.heap.size (fun _ => True) v0_ r ∧ Below w.heap.size w w' := by
 have hu54 := Try.underlying54
 have hu67 := Try.underlying67
 have HR0 := Aside0.mk hr0
 have HC0 := Aside0.mk hc0
 clear hr0 hc0
 have HB := Aside0.mk (Below.refl w.heap.size w)
 have H : (tensilelaw05_Runs.l0 k l0 ([] : List (S67)) 0) = some r := h
 clear h
 have H' := Aside0.mk H
 clear H
 go_enter Try.func22, Try.ntmps22
 go_wp2
 go_loopg [3, 4] k (fun kq v3 v4 w' => ∃ (x3_1 : List (S67)) (x4_1 : Int), v4 = .int .i64 x4_1 ∧ Aside0 (tensilelaw05_Runs.l0 kq l0 x3_1 x4_1 = some r) ∧ Aside0 (kq ≤ k) ∧ Aside0 (Kd.S k67 67 w' w.heap.size (fun _ => True) v3 x3_1) ∧ Aside0 (Below w.heap.size w w'))
 case atStart => exact ⟨(([] : List (S67))), (0), (by first | rfl | (simp; done) | (simp [*]; done)), H', ⟨Nat.le_refl _⟩, ⟨by first | exact Kd.S_nil _ _ _ _ _ | exact Kd.N_nil _ _ _ _ _ | exact Kd.V_nil _ _ _ _ _ | exact Kd.Q_nil _ _ _ _ _ | exact Kd.R_nil _ _ _ _ _⟩, ⟨by repeat (first | (with_reducible first | exact HB.out | apply b8 | apply b6 | apply b7) | exact HB.out)⟩⟩
 case round =>
  clear H'
  obtain ⟨x3_1, x4_1, rfl, HA, HK1, HO_3, HB⟩ := hrel
  cases gk with
  | zero => exact absurd HA.out (by simp [tensilelaw05_Runs.l0])
  | succ k1 =>
   have H := HA.out
   clear HA
   simp only [tensilelaw05_Runs.l0] at H
   by_cases c2 : x4_1 < (l0.length : Int)
   ·
    rw [if_pos c2] at H
    have c2b0 : decide (x4_1 < (l0.length : Int)) = true := decide_eq_true c2
    clear c2
    by_cases c3 : 0 ≤ x4_1
    ·
     rw [if_pos c3] at H
     have c3b0 : decide (0 ≤ x4_1) = true := decide_eq_true c3
     clear c3
     replace H := Option.bind_eq_some_iff.mp H
     obtain ⟨t151, A40, H⟩ := H
     replace H : ((tensilelaw05_to.f ((rd_T81 l0 x4_1).f1.f0) ((rd_T81 l0 x4_1).f1.f1)).bind fun bt155 => (if x3_1.length < 3518437208883 then (tensilelaw05_Runs.l0 k1 l0 (x3_1 ++ [(⟨t151, (⟨bt155.1, bt155.2⟩ : S47)⟩ : S67)]) (wrap64 (x4_1 + 1))) else (none))) = some r := H
     have A4 := Aside0.mk A40
     clear A40
     replace H := Option.bind_eq_some_iff.mp H
     obtain ⟨⟨t155, t156⟩, A50, H⟩ := H
     replace H : (if x3_1.length < 3518437208883 then (tensilelaw05_Runs.l0 k1 l0 (x3_1 ++ [(⟨t151, (⟨t155, t156⟩ : S47)⟩ : S67)]) (wrap64 (x4_1 + 1))) else (none)) = some r := H
     have A5 := Aside0.mk A50
     clear A50
     by_cases c6 : x3_1.length < 3518437208883
     ·
      rw [if_pos c6] at H
      have LMc6 := Aside0.mk c6
      clear c6
      obtain ⟨y157, hy157⟩ : ∃ y_ : List (S67), y_ = (x3_1 ++ [(⟨t151, (⟨t155, t156⟩ : S47)⟩ : S67)]) := ⟨_, rfl⟩
      replace H : (tensilelaw05_Runs.l0 k1 l0 y157 (wrap64 (x4_1 + 1))) = some r := by first | (rw [hy157]; with_reducible exact H) | (have H2_ := (Option.bind_some _ _).symm.trans H; rw [hy157]; with_reducible exact H2_) | (have H2_ := (Option.bind_some _ _).symm.trans H; with_reducible exact H2_) | with_reducible exact H | (rw [hy157]; exact H) | exact H
      have Ny157 := Aside0.mk hy157
      clear hy157
      have H' := Aside0.mk H
      clear H
      try go_wp2
      have n0_ := Aside0.mk (Kd.S_drew HO_3.out)
      have n1_ := Aside0.mk (b7 HB.out)
      clear HO_3
      clear HB
      have HO_3 := n0_
      have HB := n1_
      clear n0_ n1_
      have p150 : 0 ≤ (x4_1 : Int) := of_decide_eq_true (by first | (with_reducible assumption) | assumption)
      have q150 : x4_1 < (l0.length : Int) := of_decide_eq_true (by first | (with_reducible assumption) | assumption)
      obtain ⟨ad150, A150_0, c150_0, e150, hx150_0, hx150_1, hx150_2, hl150_0, hi150_0⟩ := at_T81 HR0.out x4_1 p150 q150
      have hw150_2 := hx150_2
      have hw150_1 := hx150_1
      have hw150_0 := hx150_0
      cases e150
      replace hx150_0 := (HB.out.cell (World.block_lt_of_cell? w _ hx150_0)).trans hx150_0
      replace hx150_1 := (HB.out.cell (World.block_lt_of_cell? w _ hx150_1)).trans hx150_1
      replace hx150_2 := (HB.out.cell (World.block_lt_of_cell? w _ hx150_2)).trans hx150_2
      have HR150_0 := Aside0.mk hi150_0
      have HC150_0 := Aside0.mk hl150_0
      clear hi150_0 hl150_0
      replace p150 := eq_true p150
      replace q150 := eq_true q150
      have p154 : 0 ≤ (x4_1 : Int) := of_decide_eq_true (by first | (with_reducible assumption) | assumption)
      have q154 : x4_1 < (l0.length : Int) := of_decide_eq_true (by first | (with_reducible assumption) | assumption)
      obtain ⟨ad154, A154_0, c154_0, e154, hx154_0, hx154_1, hx154_2, hl154_0, hi154_0⟩ := at_T81 HR0.out x4_1 p154 q154
      have hw154_2 := hx154_2
      have hw154_1 := hx154_1
      have hw154_0 := hx154_0
      obtain rfl : ad150 = ad154 := (by injection e154)
      replace hx154_0 := (HB.out.cell (World.block_lt_of_cell? w _ hx154_0)).trans hx154_0
      replace hx154_1 := (HB.out.cell (World.block_lt_of_cell? w _ hx154_1)).trans hx154_1
      replace hx154_2 := (HB.out.cell (World.block_lt_of_cell? w _ hx154_2)).trans hx154_2
      have HR154_0 := Aside0.mk hi154_0
      have HC154_0 := Aside0.mk hl154_0
      clear hi154_0 hl154_0
      replace p154 := eq_true p154
      replace q154 := eq_true q154
      have ea_ := Option.some.inj (hx150_0.symm.trans hx154_0)
      injection ea_ with ea_ en_ ec_
      subst ea_
      subst ec_
      clear en_
      refine start_ (n := 17) (S := fun w' => w'.cell? (ad150.add ((x4_1).toNat * 3)) = some (.slice A150_0 ((rd_T81 l0 x4_1).f0).length c150_0) ∧ w'.cell? ⟨(ad150.add ((x4_1).toNat * 3)).block, (ad150.add ((x4_1).toNat * 3)).off + 1, none⟩ = some (.int .i64 ((rd_T81 l0 x4_1).f1.f0)) ∧ w'.cell? ⟨(ad150.add ((x4_1).toNat * 3)).block, (ad150.add ((x4_1).toNat * 3)).off + 2, none⟩ = some (.int .i64 ((rd_T81 l0 x4_1).f1.f1)) ∧ w'.cell? (ad150.add ((x4_1).toNat * 3)) = some (.slice A150_0 ((rd_T81 l0 x4_1).f0).length c150_0) ∧ w'.cell? ⟨(ad150.add ((x4_1).toNat * 3)).block, (ad150.add ((x4_1).toNat * 3)).off + 1, none⟩ = some (.int .i64 ((rd_T81 l0 x4_1).f1.f0)) ∧ w'.cell? ⟨(ad150.add ((x4_1).toNat * 3)).block, (ad150.add ((x4_1).toNat * 3)).off + 2, none⟩ = some (.int .i64 ((rd_T81 l0 x4_1).f1.f1))) (ds := []) #[ff,ff,ff,ff,ff,ff,ff,ff,ff,ff,ff,ff,ff,ff,ff,ff,ff] (by kernel_rfl) rfl rfl ⟨((HB.out.cell (World.block_lt_of_cell? w _ hw150_0)).trans hw150_0), ((HB.out.cell (World.block_lt_of_cell? w _ hw150_1)).trans hw150_1), ((HB.out.cell (World.block_lt_of_cell? w _ hw150_2)).trans hw150_2), ((HB.out.cell (World.block_lt_of_cell? w _ hw154_0)).trans hw154_0), ((HB.out.cell (World.block_lt_of_cell? w _ hw154_1)).trans hw154_1), ((HB.out.cell (World.block_lt_of_cell? w _ hw154_2)).trans hw154_2)⟩ (fun hHeld => ?_); refine with_tabW tensilelaw05_Runs.tab5 tensilelaw05_Runs.bits5 (fun HT_ HW_ => ?_)
      generalize wr.drew = w7 at HO_3 HB HR150_0 HR154_0 hx150_0 hx150_1 hx150_2 hx154_0 hx154_1 hx154_2 hHeld ⊢
      refine pure_ (i := 0) (N := some 11) (v := ?_) (a' := ?_) #[tt,ff,ff,ff,ff,ff,ff,ff,ff,ff,ff,ff,ff,ff,ff,ff,ff] rfl rfl (any_of HT_.out (by kernel_rfl)) (fun _ _ _ h => h) (Or.inl ⟨by rfl, ?_⟩) ?_ ?_
      rotate_left
      ·
       intro w'
       go_simp
       with_reducible rfl
      rotate_left
      ·
       simp only [Act.put, l1, l2, l3, i64_w, i32_w]
       rfl
      refine pure_ (i := 1) (N := some 12) (v := ?_) (a' := ?_) #[tt,tt,ff,ff,ff,ff,ff,ff,ff,ff,ff,ff,ff,ff,ff,ff,ff] rfl rfl (any_of HT_.out (by kernel_rfl)) (fun _ _ _ h => h) (Or.inl ⟨by rfl, ?_⟩) ?_ ?_
      rotate_left
      ·
       intro w'
       go_simp
       with_reducible rfl
      rotate_left
      ·
       simp only [Act.put, l1, l2, l3, i64_w, i32_w]
       rfl
      refine pure_ (i := 2) (N := some 13) (v := ?_) (a' := ?_) #[tt,tt,tt,ff,ff,ff,ff,ff,ff,ff,ff,ff,ff,ff,ff,ff,ff] rfl rfl (any_of HT_.out (by kernel_rfl)) (fun _ _ _ h => h) (Or.inl ⟨by rfl, ?_⟩) ?_ ?_
      rotate_left
      ·
       intro w'
       go_simp
       with_reducible rfl
      rotate_left
      ·
       simp only [Act.put, l1, l2, l3, i64_w, i32_w]
       rfl
      refine pure_ (i := 3) (N := some 14) (v := ?_) (a' := ?_) #[tt,tt,tt,tt,ff,ff,ff,ff,ff,ff,ff,ff,ff,ff,ff,ff,ff] rfl rfl (any_of HT_.out (by kernel_rfl)) (fun _ _ _ h => h) (Or.inl ⟨by rfl, ?_⟩) ?_ ?_
      rotate_left
      ·
       intro w'
       go_simp
       with_reducible rfl
      rotate_left
      ·
       simp only [Act.put, l1, l2, l3, i64_w, i32_w]
       rfl
      refine pure_ (i := 4) (N := some 15) (v := ?_) (a' := ?_) #[tt,tt,tt,tt,tt,ff,ff,ff,ff,ff,ff,ff,ff,ff,ff,ff,ff] rfl rfl (any_of HT_.out (by kernel_rfl)) (fun _ _ _ h => h) (Or.inl ⟨by rfl, ?_⟩) ?_ ?_
      rotate_left
      ·
       intro w'
       go_simp
       with_reducible rfl
      rotate_left
      ·
       simp only [Act.put, l1, l2, l3, i64_w, i32_w]
       rfl
      refine pure_ (i := 7) (N := some 18) (v := ?_) (a' := ?_) #[tt,tt,tt,tt,tt,ff,ff,tt,ff,ff,ff,ff,ff,ff,ff,ff,ff] rfl rfl (any_of HT_.out (by kernel_rfl)) (fun _ _ _ h => h) (Or.inl ⟨by rfl, ?_⟩) ?_ ?_
      rotate_left
      ·
       intro w'
       go_simp
       with_reducible rfl
      rotate_left
      ·
       simp only [Act.put, l1, l2, l3, i64_w, i32_w]
       rfl
      refine pure_ (i := 8) (N := some 19) (v := ?_) (a' := ?_) #[tt,tt,tt,tt,tt,ff,ff,tt,tt,ff,ff,ff,ff,ff,ff,ff,ff] rfl rfl (any_of HT_.out (by kernel_rfl)) (fun _ _ _ h => h) (Or.inl ⟨by rfl, ?_⟩) ?_ ?_
      rotate_left
      ·
       intro w'
       go_simp
       with_reducible rfl
      rotate_left
      ·
       simp only [Act.put, l1, l2, l3, i64_w, i32_w]
       rfl
      refine pure_ (i := 9) (N := some 20) (v := ?_) (a' := ?_) #[tt,tt,tt,tt,tt,ff,ff,tt,tt,tt,ff,ff,ff,ff,ff,ff,ff] rfl rfl (any_of HT_.out (by kernel_rfl)) (fun _ _ _ h => h) (Or.inl ⟨by rfl, ?_⟩) ?_ ?_
      rotate_left
      ·
       intro w'
       go_simp
       with_reducible rfl
      rotate_left
      ·
       simp only [Act.put, l1, l2, l3, i64_w, i32_w]
       rfl
      refine pure_ (i := 10) (N := some 21) (v := ?_) (a' := ?_) #[tt,tt,tt,tt,tt,ff,ff,tt,tt,tt,tt,ff,ff,ff,ff,ff,ff] rfl rfl (any_of HT_.out (by kernel_rfl)) (fun _ _ _ h => h) (Or.inl ⟨by rfl, ?_⟩) ?_ ?_
      rotate_left
      ·
       intro w'
       go_simp
       with_reducible rfl
      rotate_left
      ·
       simp only [Act.put, l1, l2, l3, i64_w, i32_w]
       rfl
      refine take_ (i := 5) (N := some 16) (v := ?_) (a' := ?_) #[tt,tt,tt,tt,tt,tt,ff,tt,tt,tt,tt,ff,ff,ff,ff,ff,ff] rfl rfl (take_ofW HT_.out HW_.out (by kernel_rfl)) (fun _ _ _ h => h) (Or.inl ⟨by rfl, ?_⟩) hHeld ?_ ?_
      rotate_left
      ·
       rintro w' ⟨s0, s1, s2, s3, s4, s5⟩
       go_simp
       with_reducible rfl
      rotate_left
      ·
       simp only [Act.put, l1, l2, l3, i64_w, i32_w]
       rfl
      refine take_ (i := 11) (N := some 22) (v := ?_) (a' := ?_) #[tt,tt,tt,tt,tt,tt,ff,tt,tt,tt,tt,tt,ff,ff,ff,ff,ff] rfl rfl (take_ofW HT_.out HW_.out (by kernel_rfl)) (fun _ _ _ h => h) (Or.inl ⟨by rfl, ?_⟩) hHeld ?_ ?_
      rotate_left
      ·
       rintro w' ⟨s0, s1, s2, s3, s4, s5⟩
       go_simp
       with_reducible rfl
      rotate_left
      ·
       simp only [Act.put, l1, l2, l3, i64_w, i32_w]
       rfl
      refine one_ (i := 6) (N := some 17) #[tt,tt,tt,tt,tt,tt,tt,tt,tt,tt,tt,tt,ff,ff,ff,ff,ff] rfl rfl (one_of HT_.out (by kernel_rfl)) (by decide) (fun K hK => ?_)
      refine goes_ Try.func26 (by kernel_rfl) rfl #[.slice A150_0 ((rd_T81 l0 x4_1).f0).length c150_0] (by rfl) rfl rfl (by (try simp only [List.map_toArray, List.map_cons, List.map_nil]); first | done | rfl | (simp only [List.length_drop, List.length_take]; rfl)) ?_
      with_reducible refine (tensilelaw05_Plan.calls k1 _ _ ((rd_T81 l0 x4_1).f0) t151 _ ?side1 ?side2 A4.out).mono ?_
      (case side1 => repeat (first | exact (k16 HR150_0.out HB.out) | (with_reducible refine k13 ?_ _) | (with_reducible refine k14 ?_ _) | (with_reducible refine k15 ?_)))
      (case side2 => exact HC150_0.out)
      rintro e w8 ⟨v152, rfl, ho0, hb⟩
      refine ⟨_, rfl, ?_⟩
      have n0_ := Aside0.mk (Kd.S_elder' (by (with_reducible repeat (first | apply Kd.S_alloc | apply Kd.S_drewN | apply Kd.S_drew)); exact HO_3.out) (k7 ho0) hb)
      have n1_ := Aside0.mk (k12 ho0 (b12 (by repeat (first | (with_reducible first | exact HB.out | apply b8 | apply b6 | apply b7) | exact HB.out))))
      have n2_ := Aside0.mk (b13 (by repeat (first | (with_reducible first | exact HB.out | apply b8 | apply b6 | apply b7) | exact HB.out)) hb)
      clear HO_3
      clear HB
      have HO_3 := n0_
      have HO153 := n1_
      have HB := n2_
      clear n0_ n1_ n2_
      (try clear hb)
      (try clear hb2)
      (try clear hk)
      (try clear hi)
      (try clear ho0)
      refine hK.out _ _ ⟨((HB.out.cell (World.block_lt_of_cell? w _ hw150_0)).trans hw150_0), ((HB.out.cell (World.block_lt_of_cell? w _ hw150_1)).trans hw150_1), ((HB.out.cell (World.block_lt_of_cell? w _ hw150_2)).trans hw150_2), ((HB.out.cell (World.block_lt_of_cell? w _ hw154_0)).trans hw154_0), ((HB.out.cell (World.block_lt_of_cell? w _ hw154_1)).trans hw154_1), ((HB.out.cell (World.block_lt_of_cell? w _ hw154_2)).trans hw154_2)⟩ (fun hHeld => ?_)
      clear hK K
      refine norm_ (a' := ?_) ?_ ?_
      rotate_left
      ·
       show Act.put _ (some 17) _ = _
       simp only [Act.put, l1, l2, l3, i64_w, i32_w]
       rfl
      refine one_ (i := 12) (N := some 23) #[tt,tt,tt,tt,tt,tt,tt,tt,tt,tt,tt,tt,tt,ff,ff,ff,ff] rfl rfl (one_of HT_.out (by kernel_rfl)) (by decide) (fun K hK => ?_)
      refine goes_ Try.func41 (by kernel_rfl) rfl #[.agg #[.int .i64 ((rd_T81 l0 x4_1).f1.f0), .int .i64 ((rd_T81 l0 x4_1).f1.f1)]] (by rfl) rfl rfl (by (try simp only [List.map_toArray, List.map_cons, List.map_nil]); first | done | rfl | (simp only [List.length_drop, List.length_take]; rfl)) ?_
      with_reducible refine (tensilelaw05_to.calls ((rd_T81 l0 x4_1).f1.f0) ((rd_T81 l0 x4_1).f1.f1) t155 t156 _ A5.out).mono ?_
      rintro e w9 ⟨rfl, hb⟩
      refine ⟨_, rfl, ?_⟩
      have n0_ := Aside0.mk (Kd.S_below (by (with_reducible repeat (first | apply Kd.S_alloc | apply Kd.S_drewN | apply Kd.S_drew)); exact HO_3.out) hb)
      have n1_ := Aside0.mk (k3 (by (with_reducible repeat (first | apply k0 | apply k1 | apply k2)); exact HO153.out) hb)
      have n2_ := Aside0.mk (b13 (by repeat (first | (with_reducible first | exact HB.out | apply b8 | apply b6 | apply b7) | exact HB.out)) hb)
      clear HO_3
      clear HO153
      clear HB
      have HO_3 := n0_
      have HO153 := n1_
      have HB := n2_
      clear n0_ n1_ n2_
      (try clear hb)
      (try clear hb2)
      (try clear hk)
      (try clear hi)
      obtain ⟨Ao10, co10, eo10⟩ := Kd.R_slice HO153.out
      (first | subst eo10 | (injection eo10 with f1_ f2_ f3_; have f4_ := f1_.symm; have f5_ := f3_.symm; clear f1_ f2_ f3_; subst f4_; subst f5_))
      refine hK.out _ _ ⟨((HB.out.cell (World.block_lt_of_cell? w _ hw150_0)).trans hw150_0), ((HB.out.cell (World.block_lt_of_cell? w _ hw150_1)).trans hw150_1), ((HB.out.cell (World.block_lt_of_cell? w _ hw150_2)).trans hw150_2), ((HB.out.cell (World.block_lt_of_cell? w _ hw154_0)).trans hw154_0), ((HB.out.cell (World.block_lt_of_cell? w _ hw154_1)).trans hw154_1), ((HB.out.cell (World.block_lt_of_cell? w _ hw154_2)).trans hw154_2)⟩ (fun hHeld => ?_)
      clear hK K
      refine norm_ (a' := ?_) ?_ ?_
      rotate_left
      ·
       show Act.put _ (some 23) _ = _
       simp only [Act.put, l1, l2, l3, i64_w, i32_w]
       rfl
      refine pure_ (i := 13) (N := some 24) (v := ?_) (a' := ?_) #[tt,tt,tt,tt,tt,tt,tt,tt,tt,tt,tt,tt,tt,tt,ff,ff,ff] rfl rfl (any_of HT_.out (by kernel_rfl)) (fun _ _ _ h => h) (Or.inl ⟨by rfl, ?_⟩) ?_ ?_
      rotate_left
      ·
       intro w'
       go_simp
       with_reducible rfl
      rotate_left
      ·
       simp only [Act.put, l1, l2, l3, i64_w, i32_w]
       rfl
      refine one_ (i := 14) (N := some 25) #[tt,tt,tt,tt,tt,tt,tt,tt,tt,tt,tt,tt,tt,tt,tt,ff,ff] rfl rfl (one_of HT_.out (by kernel_rfl)) (by decide) (fun K hK => ?_)
      refine value_ (w1 := ?_) (v := ?_) (by rfl) rfl ?_ ?_
      rotate_left 2
      ·
       go_simp
       constructor
       ·
        rfl
       ·
        rfl
      refine hK.out _ _ ⟨(World.cell?_alloc_lt _ _ _ (World.block_lt_of_cell? _ _ (((HB.out.cell (World.block_lt_of_cell? w _ hw150_0)).trans hw150_0)))).trans (((HB.out.cell (World.block_lt_of_cell? w _ hw150_0)).trans hw150_0)), (World.cell?_alloc_lt _ _ _ (World.block_lt_of_cell? _ _ (((HB.out.cell (World.block_lt_of_cell? w _ hw150_1)).trans hw150_1)))).trans (((HB.out.cell (World.block_lt_of_cell? w _ hw150_1)).trans hw150_1)), (World.cell?_alloc_lt _ _ _ (World.block_lt_of_cell? _ _ (((HB.out.cell (World.block_lt_of_cell? w _ hw150_2)).trans hw150_2)))).trans (((HB.out.cell (World.block_lt_of_cell? w _ hw150_2)).trans hw150_2)), (World.cell?_alloc_lt _ _ _ (World.block_lt_of_cell? _ _ (((HB.out.cell (World.block_lt_of_cell? w _ hw154_0)).trans hw154_0)))).trans (((HB.out.cell (World.block_lt_of_cell? w _ hw154_0)).trans hw154_0)), (World.cell?_alloc_lt _ _ _ (World.block_lt_of_cell? _ _ (((HB.out.cell (World.block_lt_of_cell? w _ hw154_1)).trans hw154_1)))).trans (((HB.out.cell (World.block_lt_of_cell? w _ hw154_1)).trans hw154_1)), (World.cell?_alloc_lt _ _ _ (World.block_lt_of_cell? _ _ (((HB.out.cell (World.block_lt_of_cell? w _ hw154_2)).trans hw154_2)))).trans (((HB.out.cell (World.block_lt_of_cell? w _ hw154_2)).trans hw154_2))⟩ (fun hHeld => ?_)
      clear hK K
      refine norm_ (a' := ?_) ?_ ?_
      rotate_left
      ·
       show Act.put _ (some 25) _ = _
       simp only [Act.put, l1, l2, l3, i64_w, i32_w]
       rfl
      refine one_ (i := 15) (N := some 26) #[tt,tt,tt,tt,tt,tt,tt,tt,tt,tt,tt,tt,tt,tt,tt,tt,ff] rfl rfl (one_of HT_.out (by kernel_rfl)) (by decide) (fun K hK => ?_)
      refine Kd.S_append_step k67 (w0 := w) w.heap.size (by rfl) (.tmp 11) (.tmp 25) 41 67 (.agg #[(.slice none 0 0), (.int .i64 0), (.int .i64 0)]) 40 rfl Try.underlying41 info67 rfl (by decide) (by omega) u3 x3_1 (⟨t151, (⟨t155, t156⟩ : S47)⟩ : S67) [.slice Ao10 t151.length co10, .int .i64 t155, .int .i64 t156] (fun _ => True) (fun k_ => some k_ = (.slice Ao10 t151.length co10 : Value).ownBlock) rfl rfl ?aP (fun k_ hk_ => ((k10 (ok' := fun k_ => ((fun _ => True)) k_ ∧ some k_ ≠ (u3 : Value).ownBlock) (Kd.R_apart' (HO153.out) (Kd.S_typed HO_3.out) (by decide)) (fun k_ hk => ⟨trivial, hk.2⟩))).1 k_ hk_.symm) ?aF ?aO ?aB ?aS ?aL ?_
      (case aP => exact k67_mkM _ _ _ (⟨t151, (⟨t155, t156⟩ : S47)⟩ : S67) (k10 (Kd.R_tight rfl (k10 (ok' := fun k_ => ((fun _ => True)) k_ ∧ some k_ ≠ (u3 : Value).ownBlock) (Kd.R_apart' (HO153.out) (Kd.S_typed HO_3.out) (by decide)) (fun k_ hk => ⟨trivial, hk.2⟩))) (fun _ h_ => h_)))
      (case aB => exact (by repeat (first | (with_reducible first | exact HB.out | apply b8 | apply b6 | apply b7) | exact HB.out)))
      (case aF => exact (fun _ _ => trivial))
      (case aO => exact (by (with_reducible repeat (first | apply Kd.S_alloc | apply Kd.S_drewN | apply Kd.S_drew)); exact Kd.S_mono HO_3.out (fun k_ hk => ⟨trivial, fun e_ => hk.2 e_⟩)))
      (case aS => exact (b12 (by repeat (first | (with_reducible first | exact HB.out | apply b8 | apply b6 | apply b7) | exact HB.out))))
      (case aL => have := LMc6.out; omega)
      intro v158 w11 ho hb hg hat
      rw [← Ny157.out] at ho
      have n0_ := Aside0.mk (hb)
      have n1_ := Aside0.mk (ho)
      clear HB
      clear HO_3
      clear HO153
      have HB := n0_
      have HO159 := n1_
      clear n0_ n1_
      clear ho hb hg hat
      refine hK.out _ _ ⟨((HB.out.cell (World.block_lt_of_cell? w _ hw150_0)).trans hw150_0), ((HB.out.cell (World.block_lt_of_cell? w _ hw150_1)).trans hw150_1), ((HB.out.cell (World.block_lt_of_cell? w _ hw150_2)).trans hw150_2), ((HB.out.cell (World.block_lt_of_cell? w _ hw154_0)).trans hw154_0), ((HB.out.cell (World.block_lt_of_cell? w _ hw154_1)).trans hw154_1), ((HB.out.cell (World.block_lt_of_cell? w _ hw154_2)).trans hw154_2)⟩ (fun hHeld => ?_)
      clear hK K
      refine norm_ (a' := ?_) ?_ ?_
      rotate_left
      ·
       show Act.put _ (some 26) _ = _
       simp only [Act.put, l1, l2, l3, i64_w, i32_w]
       rfl
      refine pure_ (i := 16) (N := some 3) (v := ?_) (a' := ?_) #[tt,tt,tt,tt,tt,tt,tt,tt,tt,tt,tt,tt,tt,tt,tt,tt,tt] rfl rfl (any_of HT_.out (by kernel_rfl)) (fun _ _ _ h => h) (Or.inl ⟨by rfl, ?_⟩) ?_ ?_
      rotate_left
      ·
       intro w'
       go_simp
       with_reducible rfl
      rotate_left
      ·
       simp only [Act.put, l1, l2, l3, i64_w, i32_w]
       rfl
      refine done_ (done_of HT_.out (by kernel_rfl)) ?_
      try go_wp2
      go_roundg k1
      case measure => have := HK1.out; omega
      case rel => exact ⟨(y157), (wrap64 (x4_1 + 1)), (by first | rfl | (simp; done) | (simp [*]; done)), H', ⟨by have := HK1.out; omega⟩, ⟨by (with_reducible repeat (first | apply Kd.S_alloc | apply Kd.S_drewN | apply Kd.S_drew)); exact HO159.out⟩, ⟨by repeat (first | (with_reducible first | exact HB.out | apply b8 | apply b6 | apply b7) | exact HB.out)⟩⟩
     ·
      rw [if_neg c6] at H
      exact absurd H (by simp)
    ·
     rw [if_neg c3] at H
     exact absurd H (by simp)
   ·
    rw [if_neg c2] at H
    have c2b0 : decide (x4_1 < (l0.length : Int)) = false := decide_eq_false c2
    clear c2
    obtain rfl := Option.some.inj H
    go_wp2
    go_ret
    exact ⟨_, by first | rfl | (simp [errW_none, errW_some] <;> rfl) | (simp [*, errW_none, errW_some] <;> rfl), by (with_reducible repeat (first | apply Kd.S_alloc | apply Kd.S_drewN | apply Kd.S_drew)); exact HO_3.out, by repeat (first | (with_reducible first | exact HB.out | apply b8 | apply b6 | apply b7) | exact HB.out)⟩
end Go.Proofs.Ytdagijgoegkphaa.P

namespace Go.Proofs.Ytdagijgoegkphaa.P
open Go.ChangeShapes Go.WideShapes Go.RowKit Go.Proofs.YtdagijgoegkphaaW.PrintWords
section
variable {H : Type} {enc : TypeId × Value → H} {W : World}
def Fits (n : Int) : Prop := (Lit.int .i64 n).wf = true
def Fits54 (s : S54) : Prop := Fits s.f0 ∧ Fits s.f1
def Fits56 (s : S56) : Prop := Fits s.f0 ∧ Fits54 s.f1
def Fits81 (s : S81) : Prop := (∀ x ∈ s.f0, Fits56 x) ∧ Fits54 s.f1
theorem c3 : Try.prog.cellsOf 3 = 1 := by kernel_rfl
theorem c22 : Try.prog.cellsOf 22 = 1 := by kernel_rfl
theorem c26 : Try.prog.cellsOf 26 = 1 := by kernel_rfl
theorem c54 : Try.prog.cellsOf 54 = 2 := by kernel_rfl
theorem c56 : Try.prog.cellsOf 56 = 3 := by kernel_rfl
theorem c81 : Try.prog.cellsOf 81 = 3 := by kernel_rfl
theorem c24 : Try.prog.cellsOf 24 = 1 := by kernel_rfl
theorem open_row {α : Type} [Inhabited α] (d : Kd α) (Fit : α → Prop) {t e sz : Nat} (ht : Try.prog.underlying t = some (.slice e)) (hc : Try.prog.cellsOf e = sz) (hd : d.sz = sz)
    (hel : ∀ (m : Nat) (cs : List Value) (x : DataW H × List MemPlace), DataW.trod enc Try.prog W 0 (fun _ => true) true m e cs = some x → ∃ s : α, d.K W s cs ∧ Fit s)
    {m : Nat} {cs : List Value} {x : DataW H × List MemPlace} (h : DataW.trod enc Try.prog W 0 (fun _ => true) true m t cs = some x) :
    ∃ (A : Option Addr) (cap : Nat) (l : List α), cs = [.slice A l.length cap] ∧ l.length ≤ cap ∧ Kd.C d W A l.length l ∧ ∀ s ∈ l, Fit s := by
  rcases Go.Deep.open_slice ht h with ⟨e1, _⟩ | ⟨ad, len, cap, m', n', D, Pl, e1, hb, hle, hcap, hm, hx, each⟩
  · exact ⟨none, 0, [], e1, Nat.le_refl _, ⟨rfl, Nat.zero_le _, fun h => absurd h (Nat.lt_irrefl 0)⟩, fun s hs => by cases hs⟩
  · have hm' : m' = cap := by rw [hm]; rfl
    rw [hc] at each
    have each' : ∀ i, i < len → ∃ p : α × List Value, (d.K W p.1 p.2 ∧ Fit p.1) ∧ ∀ j, j < sz → W.cell? (ad.add (i * sz + j)) = p.2[j]? := by
      intro i hi
      obtain ⟨cs', h1, h2⟩ := each i (by omega)
      obtain ⟨s, h3, h4⟩ := hel _ _ _ h2
      obtain ⟨_, _, hcell⟩ := World.cells?_some h1
      exact ⟨(s, cs'), ⟨h3, h4⟩, fun j hj => by have := hcell j hj; rwa [Go.Deep.add_add] at this⟩
    have each2 : ∀ i, i < len → ∃ p : α × List Value, (d.K W p.1 p.2 ∧ Fit p.1) ∧ ∀ j, j < sz → W.cell? (ad.add (i * sz + j)) = p.2[j]? := each'
    haveI : Inhabited (α × List Value) := ⟨(default, [])⟩
    obtain ⟨S, hS⟩ := Go.Deep.choose_lt each2
    have hlen : ((List.range len).map fun i => (S i).1).length = len := by simp
    refine ⟨some ad, cap, (List.range len).map fun i => (S i).1, by rw [hlen]; exact e1, by rw [hlen]; exact hle, ⟨rfl, by rw [hlen]; exact Nat.le_trans hle hcap, fun _ => ⟨ad, rfl, fun j p hj => ?_⟩⟩, fun s hs => ?_⟩
    · have hjl : j < len := by
        rw [List.getElem?_map] at hj
        rcases Nat.lt_or_ge j len with h | h
        · exact h
        · rw [List.getElem?_eq_none (by simpa using h)] at hj; cases hj
      have hp : p = (S j).1 := by
        rw [List.getElem?_map, List.getElem?_range hjl] at hj
        exact (Option.some.inj hj).symm
      subst hp
      have hK := (hS j hjl).1.1
      refine ⟨(S j).2, d.K_len hK, hK, fun i u hu => ?_⟩
      have hi3 : i < sz := by rw [← hd, ← d.K_len hK]; exact (List.getElem?_eq_some_iff.1 hu).1
      rw [hd]
      exact ((hS j hjl).2 i hi3).trans hu
    · obtain ⟨i, hi, rfl⟩ := List.mem_map.1 hs
      exact (hS i (List.mem_range.1 hi)).1.2
set_option maxRecDepth 10000 in
theorem open54 {m : Nat} {cs : List Value} {x : DataW H × List MemPlace} (h : DataW.trod enc Try.prog W 0 (fun _ => true) true m 54 cs = some x) :
    ∃ s : S54, cs = [.int .i64 s.f0, .int .i64 s.f1] ∧ Fits54 s := by
  obtain ⟨xs, n, _, _, hl, hxl, hf⟩ := DataW.trod_struct Try.underlying54 h
  rw [c54] at hl
  have hx2 : xs.length = 2 := hxl
  match cs, hl, xs, hx2 with
  | [v0, v1], _, [y0, y1], _ =>
    have g0 := hf 0 _ rfl
    have g1 := hf 1 _ rfl
    simp [c3] at g0 g1
    obtain ⟨a0, e0, _, w0⟩ := DataW.trod_int Try.underlying3 g0
    obtain ⟨a1, e1, _, w1⟩ := DataW.trod_int Try.underlying3 g1
    cases e0; cases e1
    exact ⟨⟨a0, a1⟩, rfl, w0, w1⟩
set_option maxRecDepth 10000 in
theorem open56 {m : Nat} {cs : List Value} {x : DataW H × List MemPlace} (h : DataW.trod enc Try.prog W 0 (fun _ => true) true m 56 cs = some x) :
    ∃ s : S56, cs = [.int .i64 s.f0, .int .i64 s.f1.f0, .int .i64 s.f1.f1] ∧ Fits56 s := by
  obtain ⟨xs, n, _, _, hl, hxl, hf⟩ := DataW.trod_struct Try.underlying56 h
  rw [c56] at hl
  have hx2 : xs.length = 2 := hxl
  match cs, hl, xs, hx2 with
  | [v0, v1, v2], _, [y0, y1], _ =>
    have g0 := hf 0 _ rfl
    have g1 := hf 1 _ rfl
    simp [c3, c54] at g0 g1
    obtain ⟨a0, e0, _, w0⟩ := DataW.trod_int Try.underlying3 g0
    obtain ⟨s, e1, w1⟩ := open54 g1
    cases e0; cases e1
    exact ⟨⟨a0, s⟩, rfl, w0, w1⟩
instance : Inhabited S54 := ⟨z54⟩
instance : Inhabited S56 := ⟨z56⟩
instance : Inhabited S81 := ⟨z81⟩
theorem open26 {m : Nat} {cs : List Value} {x : DataW H × List MemPlace} (h : DataW.trod enc Try.prog W 0 (fun _ => true) true m 26 cs = some x) :
    ∃ (A : Option Addr) (cap : Nat) (l : List S56), cs = [.slice A l.length cap] ∧ l.length ≤ cap ∧ Kd.C k56 W A l.length l ∧ ∀ s ∈ l, Fits56 s :=
  open_row k56 Fits56 Try.underlying26 c56 rfl (fun m cs x h => by
    obtain ⟨s, rfl, w⟩ := open56 h
    exact ⟨s, k56_mk W s, w⟩) h
set_option maxRecDepth 10000 in
theorem open81 {m : Nat} {cs : List Value} {x : DataW H × List MemPlace} (h : DataW.trod enc Try.prog W 0 (fun _ => true) true m 81 cs = some x) :
    ∃ (s : S81) (A : Option Addr) (cap : Nat), cs = [.slice A s.f0.length cap, .int .i64 s.f1.f0, .int .i64 s.f1.f1] ∧ s.f0.length ≤ cap ∧ Kd.C k56 W A s.f0.length s.f0 ∧ Fits81 s := by
  obtain ⟨xs, n, _, _, hl, hxl, hf⟩ := DataW.trod_struct Try.underlying81 h
  rw [c81] at hl
  have hx2 : xs.length = 2 := hxl
  match cs, hl, xs, hx2 with
  | [v0, v1, v2], _, [y0, y1], _ =>
    have g0 := hf 0 _ rfl
    have g1 := hf 1 _ rfl
    simp [c26, c54] at g0 g1
    obtain ⟨A, cap, l, e0, w0, w1, w2⟩ := open26 g0
    obtain ⟨s, e1, w3⟩ := open54 g1
    cases e0; cases e1
    exact ⟨⟨l, s⟩, A, cap, rfl, w0, w1, w2, w3⟩
theorem open25 {m : Nat} {cs : List Value} {x : DataW H × List MemPlace} (h : DataW.trod enc Try.prog W 0 (fun _ => true) true m 25 cs = some x) :
    ∃ (A : Option Addr) (cap : Nat) (l : List S81), cs = [.slice A l.length cap] ∧ l.length ≤ cap ∧ Kd.C k81 W A l.length l ∧ ∀ s ∈ l, Fits81 s :=
  open_row k81 Fits81 Try.underlying25 c81 rfl (fun m cs x h => by
    obtain ⟨s, A, cap, rfl, w0, w1, w2⟩ := open81 h
    exact ⟨s, k81_mk W s w0 w1, w2⟩) h
set_option maxRecDepth 10000 in
theorem open24 {m : Nat} {cs : List Value} {x : DataW H × List MemPlace} (h : DataW.trod enc Try.prog W 0 (fun _ => true) true m 24 cs = some x) :
    ∃ (A : Option Addr) (cap : Nat) (l : List S54), cs = [.slice A l.length cap] ∧ l.length ≤ cap ∧ Kd.C k54 W A l.length l ∧ ∀ s ∈ l, Fits54 s := by
  obtain ⟨xs, n, _, _, hl, hxl, hf⟩ := DataW.trod_struct Try.underlying24 h
  rw [c24] at hl
  have hx1 : xs.length = 1 := hxl
  match cs, hl, xs, hx1 with
  | [v0], _, [y0], _ =>
    have g0 := hf 0 _ rfl
    simp [c22] at g0
    exact open_row k54 Fits54 Try.underlying22 c54 rfl (fun m cs x h => by
      obtain ⟨s, rfl, w⟩ := open54 h
      exact ⟨s, k54_mk W s, w⟩) g0
theorem open31 {m : Nat} {cs : List Value} {x : DataW H × List MemPlace} (h : DataW.trod enc Try.prog W 0 (fun _ => true) true m 31 cs = some x) :
    ∃ (A : Option Addr) (cap : Nat) (l : List Int), cs = [.slice A l.length cap] ∧ l.length ≤ cap ∧ Kd.C (Kd.int .i64) W A l.length l ∧ ∀ s ∈ l, Fits s :=
  open_row (Kd.int .i64) Fits Try.underlying31 c3 rfl (fun m cs x h => by
    obtain ⟨a, rfl, _, w⟩ := DataW.trod_int Try.underlying3 h
    exact ⟨a, rfl, w⟩) h
end
end Go.Proofs.Ytdagijgoegkphaa.P

namespace Go.Proofs.Ytdagijgoegkphaa.Pure
open Go.RowKit Go.Proofs.YtdagijgoegkphaaW.PrintWords Go.Proofs.YtdagijgoegkphaaW.PrintLast Go.Proofs.YtdagijgoegkphaaW.PrintMore Go.Proofs.Ytdagijgoegkphaa.P
open Hand (Rg Sg Rn Nm Rt)
theorem fits_in {n : Int} (h : Fits n) : -9223372036854775808 ≤ n ∧ n ≤ 9223372036854775807 := by
  unfold Fits Lit.wf at h
  rw [Bool.and_eq_true, decide_eq_true_eq, decide_eq_true_eq] at h
  exact h
theorem w_id {n : Int} (h0 : -9223372036854775808 ≤ n) (h1 : n ≤ 9223372036854775807) : wrap64 n = n := by unfold wrap64; omega
def c47 (s : S54) : S47 := ⟨s.f0, s.f1⟩
def c65 (s : S56) : S65 := ⟨s.f0, c47 s.f1⟩
def c67 (s : S81) : S67 := ⟨s.f0.map c65, c47 s.f1⟩
def cRg (s : S54) : Rg := ⟨s.f0, s.f1⟩
def cSg (s : S56) : Sg := ⟨s.f0, s.f1.f0, s.f1.f1⟩
def cRn (s : S81) : Rn := ⟨none, 0, s.f0.map cSg, s.f1.f0, s.f1.f1⟩
theorem toRg_c (l : List S54) : toRg (l.map c47) = l.map cRg := by unfold toRg; rw [List.map_map]; rfl
theorem toSg_c (l : List S56) : toSg (l.map c65) = l.map cSg := by unfold toSg; rw [List.map_map]; rfl
theorem toRn_c (l : List S81) : toRn (l.map c67) = l.map cRn := by
  unfold toRn
  rw [List.map_map]
  apply List.map_congr_left
  intro s _
  show toRn1 (c67 s) = cRn s
  unfold toRn1 cRn c67
  simp only [toSg_c]
  rfl
theorem getD_pre {α : Type} (z : α) (pre : List α) (s : α) (suf : List α) : (pre ++ s :: suf).getD ((pre.length : Int).toNat) z = s := by
  rw [Int.toNat_natCast, List.getD_eq_getElem?_getD, List.getElem?_append_right (Nat.le_refl _), Nat.sub_self]
  rfl
theorem rd54 (pre : List S54) (s : S54) (suf : List S54) : rd_T54 (pre ++ s :: suf) (pre.length : Int) = s := getD_pre z54 pre s suf
theorem rd56 (pre : List S56) (s : S56) (suf : List S56) : rd_T56 (pre ++ s :: suf) (pre.length : Int) = s := getD_pre z56 pre s suf
theorem rd81 (pre : List S81) (s : S81) (suf : List S81) : rd_T81 (pre ++ s :: suf) (pre.length : Int) = s := getD_pre z81 pre s suf
theorem rdL8 (pre : List (List Int)) (s : List Int) (suf : List (List Int)) : rd_L8 (pre ++ s :: suf) (pre.length : Int) = s := getD_pre [] pre s suf
theorem len_lt {α : Type} (pre : List α) (s : α) (suf : List α) : (pre.length : Int) < ((pre ++ s :: suf).length : Int) := by simp; omega
theorem len_nlt {α : Type} (pre : List α) : ¬ (pre.length : Int) < ((pre ++ []).length : Int) := by simp
theorem w_succ (n : Nat) (h : n ≤ 1000000000000) : wrap64 ((n : Int) + 1) = (n : Int) + 1 := by unfold wrap64; omega
theorem snoc_len {α : Type} (pre : List α) (s : α) : (((pre ++ [s]).length : Nat) : Int) = (pre.length : Int) + 1 := by simp
theorem material_l0 : ∀ (suf pre : List S54) (k : Nat), suf.length + 1 ≤ k → (pre ++ suf).length ≤ 1000000 →
    tensilelaw05_Material.l0 k (pre.length : Int) (pre ++ suf) (pre.map c47) = some ((pre ++ suf).map c47) := by
  intro suf
  induction suf with
  | nil =>
    intro pre k hk hl
    obtain ⟨k, rfl⟩ : ∃ m, k = m + 1 := ⟨k - 1, by omega⟩
    rw [tensilelaw05_Material.l0, if_neg (len_nlt pre), List.append_nil]
  | cons s suf ih =>
    intro pre k hk hl
    obtain ⟨k, rfl⟩ : ∃ m, k = m + 1 := ⟨k - 1, by omega⟩
    have hl2 : pre.length + suf.length + 1 ≤ 1000000 := by simpa [Nat.add_assoc] using hl
    rw [tensilelaw05_Material.l0, if_pos (len_lt pre s suf), if_pos (by omega), rd54]
    unfold tensilelaw05_to.f
    rw [Option.bind_some, if_pos (by rw [List.length_map]; omega), w_succ _ (by omega)]
    have := ih (pre ++ [s]) k (by simp at hk; omega) (by simpa using hl)
    rw [snoc_len, List.append_assoc, List.map_append] at this
    exact this
theorem material_f (l : List S54) (hl : l.length ≤ 1000000) (k : Nat) (hk : l.length + 1 ≤ k) : tensilelaw05_Material.f k l = some (l.map c47) := material_l0 l [] k hk hl
theorem plan_l0 : ∀ (suf pre : List S56) (k : Nat), suf.length + 1 ≤ k → (pre ++ suf).length ≤ 1000000 →
    tensilelaw05_Plan.l0 k (pre ++ suf) (pre.map c65) (pre.length : Int) = some ((pre ++ suf).map c65) := by
  intro suf
  induction suf with
  | nil =>
    intro pre k hk hl
    obtain ⟨k, rfl⟩ : ∃ m, k = m + 1 := ⟨k - 1, by omega⟩
    rw [tensilelaw05_Plan.l0, if_neg (len_nlt pre), List.append_nil]
  | cons s suf ih =>
    intro pre k hk hl
    obtain ⟨k, rfl⟩ : ∃ m, k = m + 1 := ⟨k - 1, by omega⟩
    have hl2 : pre.length + suf.length + 1 ≤ 1000000 := by simpa [Nat.add_assoc] using hl
    rw [tensilelaw05_Plan.l0, if_pos (len_lt pre s suf), if_pos (by omega), rd56]
    unfold tensilelaw05_to.f
    rw [Option.bind_some, if_pos (by rw [List.length_map]; omega), w_succ _ (by omega)]
    have := ih (pre ++ [s]) k (by simp at hk; omega) (by simpa using hl)
    rw [snoc_len, List.append_assoc, List.map_append] at this
    exact this
theorem plan_f (l : List S56) (hl : l.length ≤ 1000000) (k : Nat) (hk : l.length + 1 ≤ k) : tensilelaw05_Plan.f k l = some (l.map c65) := plan_l0 l [] k hk hl
theorem runs_l0 : ∀ (suf pre : List S81) (k : Nat), suf.length + 21 ≤ k → (pre ++ suf).length ≤ 1000000 → (∀ x ∈ suf, x.f0.length ≤ 12) →
    tensilelaw05_Runs.l0 k (pre ++ suf) (pre.map c67) (pre.length : Int) = some ((pre ++ suf).map c67) := by
  intro suf
  induction suf with
  | nil =>
    intro pre k hk hl _
    obtain ⟨k, rfl⟩ : ∃ m, k = m + 1 := ⟨k - 1, by omega⟩
    rw [tensilelaw05_Runs.l0, if_neg (len_nlt pre), List.append_nil]
  | cons s suf ih =>
    intro pre k hk hl hx
    obtain ⟨k, rfl⟩ : ∃ m, k = m + 1 := ⟨k - 1, by omega⟩
    have hl2 : pre.length + suf.length + 1 ≤ 1000000 := by simpa [Nat.add_assoc] using hl
    have hs := hx s (by simp)
    rw [tensilelaw05_Runs.l0, if_pos (len_lt pre s suf), if_pos (by omega), rd81, plan_f _ (by omega) k (by simp at hk; omega)]
    unfold tensilelaw05_to.f
    rw [Option.bind_some, Option.bind_some, if_pos (by rw [List.length_map]; omega), w_succ _ (by omega)]
    have := ih (pre ++ [s]) k (by simp at hk; omega) (by simpa using hl) (fun x h => hx x (by simp [h]))
    rw [snoc_len, List.append_assoc, List.map_append] at this
    exact this
theorem runs_f (l : List S81) (hl : l.length ≤ 1000000) (hx : ∀ x ∈ l, x.f0.length ≤ 12) (k : Nat) (hk : l.length + 21 ≤ k) : tensilelaw05_Runs.f k l = some (l.map c67) := runs_l0 l [] k hk hl hx
def Small (m : List S54) (r : List S81) (p : List S56) : Prop := m.length ≤ 6 ∧ r.length ≤ 9 ∧ p.length ≤ 12 ∧ ∀ x ∈ r, x.f0.length ≤ 12
theorem thin_l0 (m : List S54) (p : List S56) : ∀ (suf pre : List S81) (k : Nat), 2 * (10 - pre.length) + 2 ≤ k → pre.length ≤ 10 → (∀ x ∈ pre, x.f0.length ≤ 12) →
    ∃ b, tensilelaw05_Thin.l0 k (pre ++ suf) p (pre.length : Int) m = some b ∧ (b = true → Small m (pre ++ suf) p) := by
  intro suf
  induction suf with
  | nil =>
    intro pre k hk hp hx
    obtain ⟨k, rfl⟩ : ∃ m, k = m + 2 := ⟨k - 2, by omega⟩
    rw [tensilelaw05_Thin.l0, if_neg (len_nlt pre), tensilelaw05_Thin.j1, if_neg (by decide)]
    by_cases h1 : (m.length : Int) ≤ 6
    case neg => rw [if_neg h1]; exact ⟨false, rfl, fun h => by cases h⟩
    rw [if_pos h1]
    by_cases h2 : ((pre ++ []).length : Int) ≤ 9
    case neg => rw [if_neg h2]; exact ⟨false, rfl, fun h => by cases h⟩
    rw [if_pos h2]
    exact ⟨_, rfl, fun h => ⟨by omega, by omega, by have := of_decide_eq_true h; omega, by simpa using hx⟩⟩
  | cons s suf ih =>
    intro pre k hk hp hx
    obtain ⟨k, rfl⟩ : ∃ m, k = m + 2 := ⟨k - 2, by omega⟩
    rw [tensilelaw05_Thin.l0, if_pos (len_lt pre s suf), tensilelaw05_Thin.j1]
    by_cases h10 : (pre.length : Int) < 10
    · rw [if_pos (by simpa using h10), if_pos (by omega), if_pos (len_lt pre s suf), rd81]
      by_cases h12 : (s.f0.length : Int) > 12
      · rw [if_pos h12]; exact ⟨false, rfl, fun h => by cases h⟩
      · rw [if_neg h12, w_succ _ (by omega)]
        obtain ⟨b, hb, hb2⟩ := ih (pre ++ [s]) k (by simp; omega) (by simp; omega) (fun x hx' => by
          rcases List.mem_append.1 hx' with h | h
          · exact hx x h
          · rcases List.mem_singleton.1 h with rfl; omega)
        rw [snoc_len, List.append_assoc] at hb
        rw [List.append_assoc] at hb2
        exact ⟨b, hb, hb2⟩
    · rw [if_neg (by simpa using h10)]
      by_cases h1 : (m.length : Int) ≤ 6
      case neg => rw [if_neg h1]; exact ⟨false, rfl, fun h => by cases h⟩
      rw [if_pos h1, if_neg (by simp; omega)]
      exact ⟨false, rfl, fun h => by cases h⟩
theorem thin_f (m : List S54) (r : List S81) (p : List S56) (k : Nat) (hk : 22 ≤ k) : ∃ b, tensilelaw05_Thin.f k m r p = some b ∧ (b = true → Small m r p) := by
  exact thin_l0 m p r [] k (by simpa using hk) (by simp) (fun x h => by cases h)
theorem In_f (a b c : Int) : tensileref05_In.f a b c = some (decide (b ≤ a ∧ a ≤ c)) := by
  unfold tensileref05_In.f
  split
  · rename_i h; simp [show b ≤ a from h]
  · rename_i h; simp [show ¬ b ≤ a from h]
theorem isSegment_f (m : List S54) (hm : m.length ≤ 6) (s : S56) : tensileref05_IsSegment.f m s.f0 s.f1.f0 s.f1.f1 = some (Hand.segB m.length (cSg s)) := by
  unfold tensileref05_IsSegment.f
  rw [In_f, Option.bind_some, w_id (by omega) (by omega), In_f]
  unfold Hand.segB Hand.uptoB cSg
  dsimp only
  by_cases h1 : 0 ≤ s.f0 ∧ s.f0 ≤ (m.length : Int) - 1
  case neg => rw [decide_eq_false h1, if_neg (by decide)]; simp
  rw [decide_eq_true h1, if_pos rfl, Option.bind_some]
  by_cases h2 : 0 ≤ s.f1.f0
  case neg => rw [decide_eq_false (fun h => h2 h.1), if_neg (by decide), decide_eq_false h2]; simp
  by_cases h3 : s.f1.f0 ≤ s.f1.f1
  case neg => rw [decide_eq_false (fun h => h3 h.2), if_neg (by decide), decide_eq_false h3]; simp
  rw [decide_eq_true ⟨h2, h3⟩, if_pos rfl, decide_eq_true h2, decide_eq_true h3]
  simp
theorem isPlan_l0 (m : List S54) (hm : m.length ≤ 6) : ∀ (suf pre : List S56) (k : Nat), suf.length + 1 ≤ k → (pre ++ suf).length ≤ 1000000 →
    tensileref05_IsPlan.l0 k (pre ++ suf) (pre.length : Int) m = some ((suf.map cSg).all (Hand.segB m.length) && decide ((pre ++ suf).length ≤ 8)) := by
  intro suf
  induction suf with
  | nil =>
    intro pre k hk hl
    obtain ⟨k, rfl⟩ : ∃ m, k = m + 1 := ⟨k - 1, by omega⟩
    rw [tensileref05_IsPlan.l0, if_neg (len_nlt pre)]
    simp
    omega
  | cons s suf ih =>
    intro pre k hk hl
    obtain ⟨k, rfl⟩ : ∃ m, k = m + 1 := ⟨k - 1, by omega⟩
    have hl2 : pre.length + suf.length + 1 ≤ 1000000 := by simpa [Nat.add_assoc] using hl
    rw [tensileref05_IsPlan.l0, if_pos (len_lt pre s suf), if_pos (by omega), rd56, isSegment_f m hm, Option.bind_some, List.map_cons, List.all_cons]
    cases hb : Hand.segB m.length (cSg s) with
    | false => rw [if_neg (by decide)]; simp
    | true =>
      rw [if_pos rfl, w_succ _ (by omega)]
      have := ih (pre ++ [s]) k (by simp at hk; omega) (by simpa using hl)
      rw [snoc_len, List.append_assoc] at this
      rw [show pre ++ s :: suf = pre ++ ([s] ++ suf) from rfl, this, Bool.true_and]
theorem isPlan_f (m : List S54) (hm : m.length ≤ 6) (p : List S56) (hp : p.length ≤ 1000000) (k : Nat) (hk : p.length + 1 ≤ k) : tensileref05_IsPlan.f k m p = some ((p.map cSg).all (Hand.segB m.length) && decide (p.length ≤ 8)) := isPlan_l0 m hm p [] k hk hp
end Go.Proofs.Ytdagijgoegkphaa.Pure
