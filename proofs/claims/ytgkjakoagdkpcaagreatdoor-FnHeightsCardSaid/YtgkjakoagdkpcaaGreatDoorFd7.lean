
/- spec.known: its blocks, and what they are as functions. No condition. -/
import Derived.Test.YtgkjakoagdkpcaaGreatDoorFd3
import Derived.Deep.DeepCutAuto
import Derived.Deep.RegionHeld3
set_option linter.unusedSimpArgs false
set_option linter.unusedVariables false
set_option maxRecDepth 100000
namespace Go.Proofs.YtgkjakoagdkpcaaGreatDoor
open Go.RowKit

theorem own_of_bk {W : World} {q lo n size : Nat} {t : TypeId} {cs : Array Value} (h : Bk W q t cs) (hq : lo ≤ q) (hs : cs.size = n * size) (hm : n ≤ maxLen) : W.ownsRow lo t size (.slice (some ⟨q, 0, none⟩) n n) n cs.toList :=
  ⟨by simpa using hs, .inr ⟨q, n, cs, rfl, hq, h, Nat.le_refl _, hm, hs, List.take_of_length_le (by rw [Array.length_toList, hs]; exact Nat.le_refl _)⟩⟩
/-- a statement with an expression of one token -/
theorem sc_one {g : Nat} {W : World} {q : Nat} {k o n : Int} (h : Bk W q 142 #[.int .i64 o, .int .i64 n]) (hq : g < q) : SC NoX g W [.int .i64 k, .int .i64 0, .slice (some ⟨q, 0, none⟩) 1 1, .slice none 0 0, .slice none 0 0] ⟨k, 0, [⟨o, n⟩], [], []⟩ :=
  ⟨_, _, _, rfl, ⟨own_of_bk h hq rfl (by decide), fun _ _ h => h⟩, Rk.nil _ _ _ _ _, Rk.nil _ _ _ _ _⟩
theorem sc_none {g : Nat} {W : World} {k n : Int} : SC NoX g W [.int .i64 k, .int .i64 n, .slice none 0 0, .slice none 0 0, .slice none 0 0] ⟨k, n, [], [], []⟩ :=
  ⟨_, _, _, rfl, Rk.nil _ _ _ _ _, Rk.nil _ _ _ _ _, Rk.nil _ _ _ _ _⟩
/-- a function of one statement -/
theorem fn_one {g : Nat} {W : World} {a b k o n : Int} {q1 q2 q3 : Nat} (h1 : Bk W q1 142 #[.int .i64 o, .int .i64 n]) (h2 : Bk W q2 140 #[.int .i64 k, .int .i64 0, .slice (some ⟨q1, 0, none⟩) 1 1, .slice none 0 0, .slice none 0 0]) (h3 : Bk W q3 3 #[.int .i64 0]) (l1 : g < q1) (l2 : g < q2) (l3 : g < q3) :
    FnC g W [.int .i64 a, .int .i64 b, .slice (some ⟨q3, 0, none⟩) 1 1, .slice (some ⟨q2, 0, none⟩) 1 1] ⟨a, b, [0], [⟨k, 0, [⟨o, n⟩], [], []⟩]⟩ :=
  ⟨_, _, rfl, own_of_bk h3 l3 rfl (by decide), [[.int .i64 k, .int .i64 0, .slice (some ⟨q1, 0, none⟩) 1 1, .slice none 0 0, .slice none 0 0]], rfl, own_of_bk (n := 1) h2 l2 rfl (by decide), fun i hi hi' => by
    obtain rfl : i = 0 := by simp at hi; omega
    exact sc_one h1 l1⟩
end Go.Proofs.YtgkjakoagdkpcaaGreatDoor
set_option linter.unusedSimpArgs false
set_option linter.unusedVariables false
set_option maxRecDepth 100000
namespace Go.Proofs.YtgkjakoagdkpcaaGreatDoor
open Go.RowKit

/-- the twelve blocks, from h on; kk, ss: the third statement's kind and expression -/
structure KnS (g : Nat) (A : Option Addr) (c : Nat) (zs : List Int) (w : World) (K h : Nat) (v : Int) (kk ss bb sv : Value) (W : World) : Prop where
  cur : Cur g A c zs K W
  dw : Dw g w W
  res : Bk W w.heap.size 103 #[.slice none 0 0]
  lt : w.heap.size < h
  b0 : Bk W (h) 142 #[.int .i64 10, .int .i64 0]
  b1 : Bk W (h + 1) 140 #[.int .i64 2, .int .i64 0, .slice (some ⟨h, 0, none⟩) 1 1, .slice none 0 0, .slice none 0 0]
  b2 : Bk W (h + 1 + 1) 3 #[.int .i64 0]
  b3 : Bk W (h + 1 + 1 + 1) 135 #[.int .i64 0, .int .i64 0, .slice (some ⟨h + 1 + 1, 0, none⟩) 1 1, .slice (some ⟨h + 1, 0, none⟩) 1 1]
  b7 : Bk W (h + 1 + 1 + 1 + 1 + 1 + 1 + 1) 135 #[.int .i64 0, .int .i64 0, bb, sv]
  b8 : Bk W (h + 1 + 1 + 1 + 1 + 1 + 1 + 1 + 1) 3 #[.int .i64 0, .int .i64 1, .int .i64 2]
  b9 : Bk W (h + 1 + 1 + 1 + 1 + 1 + 1 + 1 + 1 + 1) 142 #[.int .i64 1, .int .i64 (40 + v)]
  b10 : Bk W (h + 1 + 1 + 1 + 1 + 1 + 1 + 1 + 1 + 1 + 1) 140 #[.int .i64 3, .int .i64 1, .slice none 0 0, .slice none 0 0, .slice none 0 0, .int .i64 3, .int .i64 2, .slice none 0 0, .slice none 0 0, .slice none 0 0, kk, .int .i64 0, ss, .slice none 0 0, .slice none 0 0]
  b11 : Bk W (h + 1 + 1 + 1 + 1 + 1 + 1 + 1 + 1 + 1 + 1 + 1) 135 #[.int .i64 0, .int .i64 0, .slice (some ⟨h + 1 + 1 + 1 + 1 + 1 + 1 + 1 + 1, 0, none⟩) 3 3, .slice (some ⟨h + 1 + 1 + 1 + 1 + 1 + 1 + 1 + 1 + 1 + 1, 0, none⟩) 3 3]
/-- the second function, as it is made -/
structure KnT (h : Nat) (v : Int) (W : World) : Prop where
  b4 : Bk W (h + 1 + 1 + 1 + 1) 142 #[.int .i64 1, .int .i64 v]
  b5 : Bk W (h + 1 + 1 + 1 + 1 + 1) 140 #[.int .i64 2, .int .i64 0, .slice (some ⟨h + 1 + 1 + 1 + 1, 0, none⟩) 1 1, .slice none 0 0, .slice none 0 0]
  b6 : Bk W (h + 1 + 1 + 1 + 1 + 1 + 1) 3 #[.int .i64 0]
section
variable {g : Nat} {A : Option Addr} {c : Nat} {zs : List Int} {w : World} {K K' h : Nat} {v : Int} {kk ss bb sv : Value} {W W' : World}
theorem KnS.step (H : KnS g A c zs w K h v kk ss bb sv W) (hg : g < w.heap.size) (hc : Cur g A c zs K' W') (hd : Dw g W W') : KnS g A c zs w K' h v kk ss bb sv W' := by
  have := H.lt
  exact ⟨hc, H.dw.trans hd, hd.bk H.res (by omega), H.lt, hd.bk H.b0 (by omega), hd.bk H.b1 (by omega), hd.bk H.b2 (by omega), hd.bk H.b3 (by omega), hd.bk H.b7 (by omega), hd.bk H.b8 (by omega), hd.bk H.b9 (by omega), hd.bk H.b10 (by omega), hd.bk H.b11 (by omega)⟩
theorem KnT.step (H : KnT h v W) (hg : g < h) (hd : Dw g W W') : KnT h v W' := ⟨hd.bk H.b4 (by omega), hd.bk H.b5 (by omega), hd.bk H.b6 (by omega)⟩
theorem kn_start {w1 : World} (hc : Cur g A c zs K w1) (hd : Dw g w w1) (hr : Bk w1 w.heap.size 103 #[.slice none 0 0]) (hl : w.heap.size < w1.heap.size) (hg : g < w.heap.size) :
    KnS g A c zs w K w1.heap.size v (.int .i64 4) (.slice (some ⟨w1.heap.size + 1 + 1 + 1 + 1 + 1 + 1 + 1 + 1 + 1, 0, none⟩) 1 1) (.slice (some ⟨w1.heap.size + 1 + 1 + 1 + 1 + 1 + 1, 0, none⟩) 1 1) (.slice (some ⟨w1.heap.size + 1 + 1 + 1 + 1 + 1, 0, none⟩) 1 1) ((((((((((((w1.alloc (.cells #[.int .i64 10, .int .i64 0] 142)).alloc (.cells #[.int .i64 2, .int .i64 0, .slice (some ⟨w1.heap.size, 0, none⟩) 1 1, .slice none 0 0, .slice none 0 0] 140)).alloc (.cells #[.int .i64 0] 3)).alloc (.cells #[.int .i64 0, .int .i64 0, .slice (some ⟨w1.heap.size + 1 + 1, 0, none⟩) 1 1, .slice (some ⟨w1.heap.size + 1, 0, none⟩) 1 1] 135)).alloc (.cells #[.int .i64 1, .int .i64 v] 142)).alloc (.cells #[.int .i64 2, .int .i64 0, .slice (some ⟨w1.heap.size + 1 + 1 + 1 + 1, 0, none⟩) 1 1, .slice none 0 0, .slice none 0 0] 140)).alloc (.cells #[.int .i64 0] 3)).alloc (.cells #[.int .i64 0, .int .i64 0, .slice (some ⟨w1.heap.size + 1 + 1 + 1 + 1 + 1 + 1, 0, none⟩) 1 1, .slice (some ⟨w1.heap.size + 1 + 1 + 1 + 1 + 1, 0, none⟩) 1 1] 135)).alloc (.cells #[.int .i64 0, .int .i64 1, .int .i64 2] 3)).alloc (.cells #[.int .i64 1, .int .i64 (40 + v)] 142)).alloc (.cells #[.int .i64 3, .int .i64 1, .slice none 0 0, .slice none 0 0, .slice none 0 0, .int .i64 3, .int .i64 2, .slice none 0 0, .slice none 0 0, .slice none 0 0, .int .i64 4, .int .i64 0, .slice (some ⟨w1.heap.size + 1 + 1 + 1 + 1 + 1 + 1 + 1 + 1 + 1, 0, none⟩) 1 1, .slice none 0 0, .slice none 0 0] 140)).alloc (.cells #[.int .i64 0, .int .i64 0, .slice (some ⟨w1.heap.size + 1 + 1 + 1 + 1 + 1 + 1 + 1 + 1, 0, none⟩) 3 3, .slice (some ⟨w1.heap.size + 1 + 1 + 1 + 1 + 1 + 1 + 1 + 1 + 1 + 1, 0, none⟩) 3 3] 135)) ∧ KnT w1.heap.size v ((((((((((((w1.alloc (.cells #[.int .i64 10, .int .i64 0] 142)).alloc (.cells #[.int .i64 2, .int .i64 0, .slice (some ⟨w1.heap.size, 0, none⟩) 1 1, .slice none 0 0, .slice none 0 0] 140)).alloc (.cells #[.int .i64 0] 3)).alloc (.cells #[.int .i64 0, .int .i64 0, .slice (some ⟨w1.heap.size + 1 + 1, 0, none⟩) 1 1, .slice (some ⟨w1.heap.size + 1, 0, none⟩) 1 1] 135)).alloc (.cells #[.int .i64 1, .int .i64 v] 142)).alloc (.cells #[.int .i64 2, .int .i64 0, .slice (some ⟨w1.heap.size + 1 + 1 + 1 + 1, 0, none⟩) 1 1, .slice none 0 0, .slice none 0 0] 140)).alloc (.cells #[.int .i64 0] 3)).alloc (.cells #[.int .i64 0, .int .i64 0, .slice (some ⟨w1.heap.size + 1 + 1 + 1 + 1 + 1 + 1, 0, none⟩) 1 1, .slice (some ⟨w1.heap.size + 1 + 1 + 1 + 1 + 1, 0, none⟩) 1 1] 135)).alloc (.cells #[.int .i64 0, .int .i64 1, .int .i64 2] 3)).alloc (.cells #[.int .i64 1, .int .i64 (40 + v)] 142)).alloc (.cells #[.int .i64 3, .int .i64 1, .slice none 0 0, .slice none 0 0, .slice none 0 0, .int .i64 3, .int .i64 2, .slice none 0 0, .slice none 0 0, .slice none 0 0, .int .i64 4, .int .i64 0, .slice (some ⟨w1.heap.size + 1 + 1 + 1 + 1 + 1 + 1 + 1 + 1 + 1, 0, none⟩) 1 1, .slice none 0 0, .slice none 0 0] 140)).alloc (.cells #[.int .i64 0, .int .i64 0, .slice (some ⟨w1.heap.size + 1 + 1 + 1 + 1 + 1 + 1 + 1 + 1, 0, none⟩) 3 3, .slice (some ⟨w1.heap.size + 1 + 1 + 1 + 1 + 1 + 1 + 1 + 1 + 1 + 1, 0, none⟩) 3 3] 135)) := by
  have hbb : Below w1.heap.size w1 ((((((((((((w1.alloc (.cells #[.int .i64 10, .int .i64 0] 142)).alloc (.cells #[.int .i64 2, .int .i64 0, .slice (some ⟨w1.heap.size, 0, none⟩) 1 1, .slice none 0 0, .slice none 0 0] 140)).alloc (.cells #[.int .i64 0] 3)).alloc (.cells #[.int .i64 0, .int .i64 0, .slice (some ⟨w1.heap.size + 1 + 1, 0, none⟩) 1 1, .slice (some ⟨w1.heap.size + 1, 0, none⟩) 1 1] 135)).alloc (.cells #[.int .i64 1, .int .i64 v] 142)).alloc (.cells #[.int .i64 2, .int .i64 0, .slice (some ⟨w1.heap.size + 1 + 1 + 1 + 1, 0, none⟩) 1 1, .slice none 0 0, .slice none 0 0] 140)).alloc (.cells #[.int .i64 0] 3)).alloc (.cells #[.int .i64 0, .int .i64 0, .slice (some ⟨w1.heap.size + 1 + 1 + 1 + 1 + 1 + 1, 0, none⟩) 1 1, .slice (some ⟨w1.heap.size + 1 + 1 + 1 + 1 + 1, 0, none⟩) 1 1] 135)).alloc (.cells #[.int .i64 0, .int .i64 1, .int .i64 2] 3)).alloc (.cells #[.int .i64 1, .int .i64 (40 + v)] 142)).alloc (.cells #[.int .i64 3, .int .i64 1, .slice none 0 0, .slice none 0 0, .slice none 0 0, .int .i64 3, .int .i64 2, .slice none 0 0, .slice none 0 0, .slice none 0 0, .int .i64 4, .int .i64 0, .slice (some ⟨w1.heap.size + 1 + 1 + 1 + 1 + 1 + 1 + 1 + 1 + 1, 0, none⟩) 1 1, .slice none 0 0, .slice none 0 0] 140)).alloc (.cells #[.int .i64 0, .int .i64 0, .slice (some ⟨w1.heap.size + 1 + 1 + 1 + 1 + 1 + 1 + 1 + 1, 0, none⟩) 3 3, .slice (some ⟨w1.heap.size + 1 + 1 + 1 + 1 + 1 + 1 + 1 + 1 + 1 + 1, 0, none⟩) 3 3] 135)) := by
    repeat (first | exact Below.refl _ _ | refine Below.alloc ?_ (by first | exact Nat.le_refl _ | (simp only [World.size_alloc]; omega)) _)
  have s0 : w1.heap.size = w1.heap.size := by simp only [World.size_alloc]
  have n0 := Bk.new w1 142 #[.int .i64 10, .int .i64 0]
  rw [s0] at n0
  have s1 : (w1.alloc (.cells #[.int .i64 10, .int .i64 0] 142)).heap.size = w1.heap.size + 1 := by simp only [World.size_alloc]
  have n1 := Bk.new (w1.alloc (.cells #[.int .i64 10, .int .i64 0] 142)) 140 #[.int .i64 2, .int .i64 0, .slice (some ⟨w1.heap.size, 0, none⟩) 1 1, .slice none 0 0, .slice none 0 0]
  rw [s1] at n1
  have s2 : ((w1.alloc (.cells #[.int .i64 10, .int .i64 0] 142)).alloc (.cells #[.int .i64 2, .int .i64 0, .slice (some ⟨w1.heap.size, 0, none⟩) 1 1, .slice none 0 0, .slice none 0 0] 140)).heap.size = w1.heap.size + 1 + 1 := by simp only [World.size_alloc]
  have n2 := Bk.new ((w1.alloc (.cells #[.int .i64 10, .int .i64 0] 142)).alloc (.cells #[.int .i64 2, .int .i64 0, .slice (some ⟨w1.heap.size, 0, none⟩) 1 1, .slice none 0 0, .slice none 0 0] 140)) 3 #[.int .i64 0]
  rw [s2] at n2
  have s3 : (((w1.alloc (.cells #[.int .i64 10, .int .i64 0] 142)).alloc (.cells #[.int .i64 2, .int .i64 0, .slice (some ⟨w1.heap.size, 0, none⟩) 1 1, .slice none 0 0, .slice none 0 0] 140)).alloc (.cells #[.int .i64 0] 3)).heap.size = w1.heap.size + 1 + 1 + 1 := by simp only [World.size_alloc]
  have n3 := Bk.new (((w1.alloc (.cells #[.int .i64 10, .int .i64 0] 142)).alloc (.cells #[.int .i64 2, .int .i64 0, .slice (some ⟨w1.heap.size, 0, none⟩) 1 1, .slice none 0 0, .slice none 0 0] 140)).alloc (.cells #[.int .i64 0] 3)) 135 #[.int .i64 0, .int .i64 0, .slice (some ⟨w1.heap.size + 1 + 1, 0, none⟩) 1 1, .slice (some ⟨w1.heap.size + 1, 0, none⟩) 1 1]
  rw [s3] at n3
  have s4 : ((((w1.alloc (.cells #[.int .i64 10, .int .i64 0] 142)).alloc (.cells #[.int .i64 2, .int .i64 0, .slice (some ⟨w1.heap.size, 0, none⟩) 1 1, .slice none 0 0, .slice none 0 0] 140)).alloc (.cells #[.int .i64 0] 3)).alloc (.cells #[.int .i64 0, .int .i64 0, .slice (some ⟨w1.heap.size + 1 + 1, 0, none⟩) 1 1, .slice (some ⟨w1.heap.size + 1, 0, none⟩) 1 1] 135)).heap.size = w1.heap.size + 1 + 1 + 1 + 1 := by simp only [World.size_alloc]
  have n4 := Bk.new ((((w1.alloc (.cells #[.int .i64 10, .int .i64 0] 142)).alloc (.cells #[.int .i64 2, .int .i64 0, .slice (some ⟨w1.heap.size, 0, none⟩) 1 1, .slice none 0 0, .slice none 0 0] 140)).alloc (.cells #[.int .i64 0] 3)).alloc (.cells #[.int .i64 0, .int .i64 0, .slice (some ⟨w1.heap.size + 1 + 1, 0, none⟩) 1 1, .slice (some ⟨w1.heap.size + 1, 0, none⟩) 1 1] 135)) 142 #[.int .i64 1, .int .i64 v]
  rw [s4] at n4
  have s5 : (((((w1.alloc (.cells #[.int .i64 10, .int .i64 0] 142)).alloc (.cells #[.int .i64 2, .int .i64 0, .slice (some ⟨w1.heap.size, 0, none⟩) 1 1, .slice none 0 0, .slice none 0 0] 140)).alloc (.cells #[.int .i64 0] 3)).alloc (.cells #[.int .i64 0, .int .i64 0, .slice (some ⟨w1.heap.size + 1 + 1, 0, none⟩) 1 1, .slice (some ⟨w1.heap.size + 1, 0, none⟩) 1 1] 135)).alloc (.cells #[.int .i64 1, .int .i64 v] 142)).heap.size = w1.heap.size + 1 + 1 + 1 + 1 + 1 := by simp only [World.size_alloc]
  have n5 := Bk.new (((((w1.alloc (.cells #[.int .i64 10, .int .i64 0] 142)).alloc (.cells #[.int .i64 2, .int .i64 0, .slice (some ⟨w1.heap.size, 0, none⟩) 1 1, .slice none 0 0, .slice none 0 0] 140)).alloc (.cells #[.int .i64 0] 3)).alloc (.cells #[.int .i64 0, .int .i64 0, .slice (some ⟨w1.heap.size + 1 + 1, 0, none⟩) 1 1, .slice (some ⟨w1.heap.size + 1, 0, none⟩) 1 1] 135)).alloc (.cells #[.int .i64 1, .int .i64 v] 142)) 140 #[.int .i64 2, .int .i64 0, .slice (some ⟨w1.heap.size + 1 + 1 + 1 + 1, 0, none⟩) 1 1, .slice none 0 0, .slice none 0 0]
  rw [s5] at n5
  have s6 : ((((((w1.alloc (.cells #[.int .i64 10, .int .i64 0] 142)).alloc (.cells #[.int .i64 2, .int .i64 0, .slice (some ⟨w1.heap.size, 0, none⟩) 1 1, .slice none 0 0, .slice none 0 0] 140)).alloc (.cells #[.int .i64 0] 3)).alloc (.cells #[.int .i64 0, .int .i64 0, .slice (some ⟨w1.heap.size + 1 + 1, 0, none⟩) 1 1, .slice (some ⟨w1.heap.size + 1, 0, none⟩) 1 1] 135)).alloc (.cells #[.int .i64 1, .int .i64 v] 142)).alloc (.cells #[.int .i64 2, .int .i64 0, .slice (some ⟨w1.heap.size + 1 + 1 + 1 + 1, 0, none⟩) 1 1, .slice none 0 0, .slice none 0 0] 140)).heap.size = w1.heap.size + 1 + 1 + 1 + 1 + 1 + 1 := by simp only [World.size_alloc]
  have n6 := Bk.new ((((((w1.alloc (.cells #[.int .i64 10, .int .i64 0] 142)).alloc (.cells #[.int .i64 2, .int .i64 0, .slice (some ⟨w1.heap.size, 0, none⟩) 1 1, .slice none 0 0, .slice none 0 0] 140)).alloc (.cells #[.int .i64 0] 3)).alloc (.cells #[.int .i64 0, .int .i64 0, .slice (some ⟨w1.heap.size + 1 + 1, 0, none⟩) 1 1, .slice (some ⟨w1.heap.size + 1, 0, none⟩) 1 1] 135)).alloc (.cells #[.int .i64 1, .int .i64 v] 142)).alloc (.cells #[.int .i64 2, .int .i64 0, .slice (some ⟨w1.heap.size + 1 + 1 + 1 + 1, 0, none⟩) 1 1, .slice none 0 0, .slice none 0 0] 140)) 3 #[.int .i64 0]
  rw [s6] at n6
  have s7 : (((((((w1.alloc (.cells #[.int .i64 10, .int .i64 0] 142)).alloc (.cells #[.int .i64 2, .int .i64 0, .slice (some ⟨w1.heap.size, 0, none⟩) 1 1, .slice none 0 0, .slice none 0 0] 140)).alloc (.cells #[.int .i64 0] 3)).alloc (.cells #[.int .i64 0, .int .i64 0, .slice (some ⟨w1.heap.size + 1 + 1, 0, none⟩) 1 1, .slice (some ⟨w1.heap.size + 1, 0, none⟩) 1 1] 135)).alloc (.cells #[.int .i64 1, .int .i64 v] 142)).alloc (.cells #[.int .i64 2, .int .i64 0, .slice (some ⟨w1.heap.size + 1 + 1 + 1 + 1, 0, none⟩) 1 1, .slice none 0 0, .slice none 0 0] 140)).alloc (.cells #[.int .i64 0] 3)).heap.size = w1.heap.size + 1 + 1 + 1 + 1 + 1 + 1 + 1 := by simp only [World.size_alloc]
  have n7 := Bk.new (((((((w1.alloc (.cells #[.int .i64 10, .int .i64 0] 142)).alloc (.cells #[.int .i64 2, .int .i64 0, .slice (some ⟨w1.heap.size, 0, none⟩) 1 1, .slice none 0 0, .slice none 0 0] 140)).alloc (.cells #[.int .i64 0] 3)).alloc (.cells #[.int .i64 0, .int .i64 0, .slice (some ⟨w1.heap.size + 1 + 1, 0, none⟩) 1 1, .slice (some ⟨w1.heap.size + 1, 0, none⟩) 1 1] 135)).alloc (.cells #[.int .i64 1, .int .i64 v] 142)).alloc (.cells #[.int .i64 2, .int .i64 0, .slice (some ⟨w1.heap.size + 1 + 1 + 1 + 1, 0, none⟩) 1 1, .slice none 0 0, .slice none 0 0] 140)).alloc (.cells #[.int .i64 0] 3)) 135 #[.int .i64 0, .int .i64 0, .slice (some ⟨w1.heap.size + 1 + 1 + 1 + 1 + 1 + 1, 0, none⟩) 1 1, .slice (some ⟨w1.heap.size + 1 + 1 + 1 + 1 + 1, 0, none⟩) 1 1]
  rw [s7] at n7
  have s8 : ((((((((w1.alloc (.cells #[.int .i64 10, .int .i64 0] 142)).alloc (.cells #[.int .i64 2, .int .i64 0, .slice (some ⟨w1.heap.size, 0, none⟩) 1 1, .slice none 0 0, .slice none 0 0] 140)).alloc (.cells #[.int .i64 0] 3)).alloc (.cells #[.int .i64 0, .int .i64 0, .slice (some ⟨w1.heap.size + 1 + 1, 0, none⟩) 1 1, .slice (some ⟨w1.heap.size + 1, 0, none⟩) 1 1] 135)).alloc (.cells #[.int .i64 1, .int .i64 v] 142)).alloc (.cells #[.int .i64 2, .int .i64 0, .slice (some ⟨w1.heap.size + 1 + 1 + 1 + 1, 0, none⟩) 1 1, .slice none 0 0, .slice none 0 0] 140)).alloc (.cells #[.int .i64 0] 3)).alloc (.cells #[.int .i64 0, .int .i64 0, .slice (some ⟨w1.heap.size + 1 + 1 + 1 + 1 + 1 + 1, 0, none⟩) 1 1, .slice (some ⟨w1.heap.size + 1 + 1 + 1 + 1 + 1, 0, none⟩) 1 1] 135)).heap.size = w1.heap.size + 1 + 1 + 1 + 1 + 1 + 1 + 1 + 1 := by simp only [World.size_alloc]
  have n8 := Bk.new ((((((((w1.alloc (.cells #[.int .i64 10, .int .i64 0] 142)).alloc (.cells #[.int .i64 2, .int .i64 0, .slice (some ⟨w1.heap.size, 0, none⟩) 1 1, .slice none 0 0, .slice none 0 0] 140)).alloc (.cells #[.int .i64 0] 3)).alloc (.cells #[.int .i64 0, .int .i64 0, .slice (some ⟨w1.heap.size + 1 + 1, 0, none⟩) 1 1, .slice (some ⟨w1.heap.size + 1, 0, none⟩) 1 1] 135)).alloc (.cells #[.int .i64 1, .int .i64 v] 142)).alloc (.cells #[.int .i64 2, .int .i64 0, .slice (some ⟨w1.heap.size + 1 + 1 + 1 + 1, 0, none⟩) 1 1, .slice none 0 0, .slice none 0 0] 140)).alloc (.cells #[.int .i64 0] 3)).alloc (.cells #[.int .i64 0, .int .i64 0, .slice (some ⟨w1.heap.size + 1 + 1 + 1 + 1 + 1 + 1, 0, none⟩) 1 1, .slice (some ⟨w1.heap.size + 1 + 1 + 1 + 1 + 1, 0, none⟩) 1 1] 135)) 3 #[.int .i64 0, .int .i64 1, .int .i64 2]
  rw [s8] at n8
  have s9 : (((((((((w1.alloc (.cells #[.int .i64 10, .int .i64 0] 142)).alloc (.cells #[.int .i64 2, .int .i64 0, .slice (some ⟨w1.heap.size, 0, none⟩) 1 1, .slice none 0 0, .slice none 0 0] 140)).alloc (.cells #[.int .i64 0] 3)).alloc (.cells #[.int .i64 0, .int .i64 0, .slice (some ⟨w1.heap.size + 1 + 1, 0, none⟩) 1 1, .slice (some ⟨w1.heap.size + 1, 0, none⟩) 1 1] 135)).alloc (.cells #[.int .i64 1, .int .i64 v] 142)).alloc (.cells #[.int .i64 2, .int .i64 0, .slice (some ⟨w1.heap.size + 1 + 1 + 1 + 1, 0, none⟩) 1 1, .slice none 0 0, .slice none 0 0] 140)).alloc (.cells #[.int .i64 0] 3)).alloc (.cells #[.int .i64 0, .int .i64 0, .slice (some ⟨w1.heap.size + 1 + 1 + 1 + 1 + 1 + 1, 0, none⟩) 1 1, .slice (some ⟨w1.heap.size + 1 + 1 + 1 + 1 + 1, 0, none⟩) 1 1] 135)).alloc (.cells #[.int .i64 0, .int .i64 1, .int .i64 2] 3)).heap.size = w1.heap.size + 1 + 1 + 1 + 1 + 1 + 1 + 1 + 1 + 1 := by simp only [World.size_alloc]
  have n9 := Bk.new (((((((((w1.alloc (.cells #[.int .i64 10, .int .i64 0] 142)).alloc (.cells #[.int .i64 2, .int .i64 0, .slice (some ⟨w1.heap.size, 0, none⟩) 1 1, .slice none 0 0, .slice none 0 0] 140)).alloc (.cells #[.int .i64 0] 3)).alloc (.cells #[.int .i64 0, .int .i64 0, .slice (some ⟨w1.heap.size + 1 + 1, 0, none⟩) 1 1, .slice (some ⟨w1.heap.size + 1, 0, none⟩) 1 1] 135)).alloc (.cells #[.int .i64 1, .int .i64 v] 142)).alloc (.cells #[.int .i64 2, .int .i64 0, .slice (some ⟨w1.heap.size + 1 + 1 + 1 + 1, 0, none⟩) 1 1, .slice none 0 0, .slice none 0 0] 140)).alloc (.cells #[.int .i64 0] 3)).alloc (.cells #[.int .i64 0, .int .i64 0, .slice (some ⟨w1.heap.size + 1 + 1 + 1 + 1 + 1 + 1, 0, none⟩) 1 1, .slice (some ⟨w1.heap.size + 1 + 1 + 1 + 1 + 1, 0, none⟩) 1 1] 135)).alloc (.cells #[.int .i64 0, .int .i64 1, .int .i64 2] 3)) 142 #[.int .i64 1, .int .i64 (40 + v)]
  rw [s9] at n9
  have s10 : ((((((((((w1.alloc (.cells #[.int .i64 10, .int .i64 0] 142)).alloc (.cells #[.int .i64 2, .int .i64 0, .slice (some ⟨w1.heap.size, 0, none⟩) 1 1, .slice none 0 0, .slice none 0 0] 140)).alloc (.cells #[.int .i64 0] 3)).alloc (.cells #[.int .i64 0, .int .i64 0, .slice (some ⟨w1.heap.size + 1 + 1, 0, none⟩) 1 1, .slice (some ⟨w1.heap.size + 1, 0, none⟩) 1 1] 135)).alloc (.cells #[.int .i64 1, .int .i64 v] 142)).alloc (.cells #[.int .i64 2, .int .i64 0, .slice (some ⟨w1.heap.size + 1 + 1 + 1 + 1, 0, none⟩) 1 1, .slice none 0 0, .slice none 0 0] 140)).alloc (.cells #[.int .i64 0] 3)).alloc (.cells #[.int .i64 0, .int .i64 0, .slice (some ⟨w1.heap.size + 1 + 1 + 1 + 1 + 1 + 1, 0, none⟩) 1 1, .slice (some ⟨w1.heap.size + 1 + 1 + 1 + 1 + 1, 0, none⟩) 1 1] 135)).alloc (.cells #[.int .i64 0, .int .i64 1, .int .i64 2] 3)).alloc (.cells #[.int .i64 1, .int .i64 (40 + v)] 142)).heap.size = w1.heap.size + 1 + 1 + 1 + 1 + 1 + 1 + 1 + 1 + 1 + 1 := by simp only [World.size_alloc]
  have n10 := Bk.new ((((((((((w1.alloc (.cells #[.int .i64 10, .int .i64 0] 142)).alloc (.cells #[.int .i64 2, .int .i64 0, .slice (some ⟨w1.heap.size, 0, none⟩) 1 1, .slice none 0 0, .slice none 0 0] 140)).alloc (.cells #[.int .i64 0] 3)).alloc (.cells #[.int .i64 0, .int .i64 0, .slice (some ⟨w1.heap.size + 1 + 1, 0, none⟩) 1 1, .slice (some ⟨w1.heap.size + 1, 0, none⟩) 1 1] 135)).alloc (.cells #[.int .i64 1, .int .i64 v] 142)).alloc (.cells #[.int .i64 2, .int .i64 0, .slice (some ⟨w1.heap.size + 1 + 1 + 1 + 1, 0, none⟩) 1 1, .slice none 0 0, .slice none 0 0] 140)).alloc (.cells #[.int .i64 0] 3)).alloc (.cells #[.int .i64 0, .int .i64 0, .slice (some ⟨w1.heap.size + 1 + 1 + 1 + 1 + 1 + 1, 0, none⟩) 1 1, .slice (some ⟨w1.heap.size + 1 + 1 + 1 + 1 + 1, 0, none⟩) 1 1] 135)).alloc (.cells #[.int .i64 0, .int .i64 1, .int .i64 2] 3)).alloc (.cells #[.int .i64 1, .int .i64 (40 + v)] 142)) 140 #[.int .i64 3, .int .i64 1, .slice none 0 0, .slice none 0 0, .slice none 0 0, .int .i64 3, .int .i64 2, .slice none 0 0, .slice none 0 0, .slice none 0 0, .int .i64 4, .int .i64 0, .slice (some ⟨w1.heap.size + 1 + 1 + 1 + 1 + 1 + 1 + 1 + 1 + 1, 0, none⟩) 1 1, .slice none 0 0, .slice none 0 0]
  rw [s10] at n10
  have s11 : (((((((((((w1.alloc (.cells #[.int .i64 10, .int .i64 0] 142)).alloc (.cells #[.int .i64 2, .int .i64 0, .slice (some ⟨w1.heap.size, 0, none⟩) 1 1, .slice none 0 0, .slice none 0 0] 140)).alloc (.cells #[.int .i64 0] 3)).alloc (.cells #[.int .i64 0, .int .i64 0, .slice (some ⟨w1.heap.size + 1 + 1, 0, none⟩) 1 1, .slice (some ⟨w1.heap.size + 1, 0, none⟩) 1 1] 135)).alloc (.cells #[.int .i64 1, .int .i64 v] 142)).alloc (.cells #[.int .i64 2, .int .i64 0, .slice (some ⟨w1.heap.size + 1 + 1 + 1 + 1, 0, none⟩) 1 1, .slice none 0 0, .slice none 0 0] 140)).alloc (.cells #[.int .i64 0] 3)).alloc (.cells #[.int .i64 0, .int .i64 0, .slice (some ⟨w1.heap.size + 1 + 1 + 1 + 1 + 1 + 1, 0, none⟩) 1 1, .slice (some ⟨w1.heap.size + 1 + 1 + 1 + 1 + 1, 0, none⟩) 1 1] 135)).alloc (.cells #[.int .i64 0, .int .i64 1, .int .i64 2] 3)).alloc (.cells #[.int .i64 1, .int .i64 (40 + v)] 142)).alloc (.cells #[.int .i64 3, .int .i64 1, .slice none 0 0, .slice none 0 0, .slice none 0 0, .int .i64 3, .int .i64 2, .slice none 0 0, .slice none 0 0, .slice none 0 0, .int .i64 4, .int .i64 0, .slice (some ⟨w1.heap.size + 1 + 1 + 1 + 1 + 1 + 1 + 1 + 1 + 1, 0, none⟩) 1 1, .slice none 0 0, .slice none 0 0] 140)).heap.size = w1.heap.size + 1 + 1 + 1 + 1 + 1 + 1 + 1 + 1 + 1 + 1 + 1 := by simp only [World.size_alloc]
  have n11 := Bk.new (((((((((((w1.alloc (.cells #[.int .i64 10, .int .i64 0] 142)).alloc (.cells #[.int .i64 2, .int .i64 0, .slice (some ⟨w1.heap.size, 0, none⟩) 1 1, .slice none 0 0, .slice none 0 0] 140)).alloc (.cells #[.int .i64 0] 3)).alloc (.cells #[.int .i64 0, .int .i64 0, .slice (some ⟨w1.heap.size + 1 + 1, 0, none⟩) 1 1, .slice (some ⟨w1.heap.size + 1, 0, none⟩) 1 1] 135)).alloc (.cells #[.int .i64 1, .int .i64 v] 142)).alloc (.cells #[.int .i64 2, .int .i64 0, .slice (some ⟨w1.heap.size + 1 + 1 + 1 + 1, 0, none⟩) 1 1, .slice none 0 0, .slice none 0 0] 140)).alloc (.cells #[.int .i64 0] 3)).alloc (.cells #[.int .i64 0, .int .i64 0, .slice (some ⟨w1.heap.size + 1 + 1 + 1 + 1 + 1 + 1, 0, none⟩) 1 1, .slice (some ⟨w1.heap.size + 1 + 1 + 1 + 1 + 1, 0, none⟩) 1 1] 135)).alloc (.cells #[.int .i64 0, .int .i64 1, .int .i64 2] 3)).alloc (.cells #[.int .i64 1, .int .i64 (40 + v)] 142)).alloc (.cells #[.int .i64 3, .int .i64 1, .slice none 0 0, .slice none 0 0, .slice none 0 0, .int .i64 3, .int .i64 2, .slice none 0 0, .slice none 0 0, .slice none 0 0, .int .i64 4, .int .i64 0, .slice (some ⟨w1.heap.size + 1 + 1 + 1 + 1 + 1 + 1 + 1 + 1 + 1, 0, none⟩) 1 1, .slice none 0 0, .slice none 0 0] 140)) 135 #[.int .i64 0, .int .i64 0, .slice (some ⟨w1.heap.size + 1 + 1 + 1 + 1 + 1 + 1 + 1 + 1, 0, none⟩) 3 3, .slice (some ⟨w1.heap.size + 1 + 1 + 1 + 1 + 1 + 1 + 1 + 1 + 1 + 1, 0, none⟩) 3 3]
  rw [s11] at n11
  exact ⟨⟨hc.below hbb, hd.then hbb, hr.below hbb, hl, (((((((((((n0).alloc _).alloc _).alloc _).alloc _).alloc _).alloc _).alloc _).alloc _).alloc _).alloc _).alloc _, ((((((((((n1).alloc _).alloc _).alloc _).alloc _).alloc _).alloc _).alloc _).alloc _).alloc _).alloc _, (((((((((n2).alloc _).alloc _).alloc _).alloc _).alloc _).alloc _).alloc _).alloc _).alloc _, ((((((((n3).alloc _).alloc _).alloc _).alloc _).alloc _).alloc _).alloc _).alloc _, ((((n7).alloc _).alloc _).alloc _).alloc _, (((n8).alloc _).alloc _).alloc _, ((n9).alloc _).alloc _, (n10).alloc _, n11⟩, (((((((n4).alloc _).alloc _).alloc _).alloc _).alloc _).alloc _).alloc _, ((((((n5).alloc _).alloc _).alloc _).alloc _).alloc _).alloc _, (((((n6).alloc _).alloc _).alloc _).alloc _).alloc _⟩
set_option maxHeartbeats 2000000 in
theorem KnS.exit (H : KnS g A c zs w K h v kk ss bb sv W) (hg : g < w.heap.size) : KnS g A c zs w K h v (.int .i64 6) (.slice none 0 0) bb sv (((((W.setCell ⟨h + 1 + 1 + 1 + 1 + 1 + 1 + 1 + 1 + 1 + 1, 10, none⟩ (.int .i64 6)).setCell ⟨h + 1 + 1 + 1 + 1 + 1 + 1 + 1 + 1 + 1 + 1, 11, none⟩ (.int .i64 0)).setCell ⟨h + 1 + 1 + 1 + 1 + 1 + 1 + 1 + 1 + 1 + 1, 12, none⟩ (.slice none 0 0)).setCell ⟨h + 1 + 1 + 1 + 1 + 1 + 1 + 1 + 1 + 1 + 1, 13, none⟩ (.slice none 0 0)).setCell ⟨h + 1 + 1 + 1 + 1 + 1 + 1 + 1 + 1 + 1 + 1, 14, none⟩ (.slice none 0 0)) := by
  have hl := H.lt
  have hkk : ∀ k, k ≠ h + 1 + 1 + 1 + 1 + 1 + 1 + 1 + 1 + 1 + 1 → (((((W.setCell ⟨h + 1 + 1 + 1 + 1 + 1 + 1 + 1 + 1 + 1 + 1, 10, none⟩ (.int .i64 6)).setCell ⟨h + 1 + 1 + 1 + 1 + 1 + 1 + 1 + 1 + 1 + 1, 11, none⟩ (.int .i64 0)).setCell ⟨h + 1 + 1 + 1 + 1 + 1 + 1 + 1 + 1 + 1 + 1, 12, none⟩ (.slice none 0 0)).setCell ⟨h + 1 + 1 + 1 + 1 + 1 + 1 + 1 + 1 + 1 + 1, 13, none⟩ (.slice none 0 0)).setCell ⟨h + 1 + 1 + 1 + 1 + 1 + 1 + 1 + 1 + 1 + 1, 14, none⟩ (.slice none 0 0)).heap[k]? = W.heap[k]? := fun k hk => by
    rw [Below.heap_setCell _ _ _ _ hk, Below.heap_setCell _ _ _ _ hk, Below.heap_setCell _ _ _ _ hk, Below.heap_setCell _ _ _ _ hk, Below.heap_setCell _ _ _ _ hk]
  have hz : (((((W.setCell ⟨h + 1 + 1 + 1 + 1 + 1 + 1 + 1 + 1 + 1 + 1, 10, none⟩ (.int .i64 6)).setCell ⟨h + 1 + 1 + 1 + 1 + 1 + 1 + 1 + 1 + 1 + 1, 11, none⟩ (.int .i64 0)).setCell ⟨h + 1 + 1 + 1 + 1 + 1 + 1 + 1 + 1 + 1 + 1, 12, none⟩ (.slice none 0 0)).setCell ⟨h + 1 + 1 + 1 + 1 + 1 + 1 + 1 + 1 + 1 + 1, 13, none⟩ (.slice none 0 0)).setCell ⟨h + 1 + 1 + 1 + 1 + 1 + 1 + 1 + 1 + 1 + 1, 14, none⟩ (.slice none 0 0)).heap.size = W.heap.size := by simp only [World.size_setCell]
  have hb : Below (h + 1 + 1 + 1 + 1 + 1 + 1 + 1 + 1 + 1 + 1) W (((((W.setCell ⟨h + 1 + 1 + 1 + 1 + 1 + 1 + 1 + 1 + 1 + 1, 10, none⟩ (.int .i64 6)).setCell ⟨h + 1 + 1 + 1 + 1 + 1 + 1 + 1 + 1 + 1 + 1, 11, none⟩ (.int .i64 0)).setCell ⟨h + 1 + 1 + 1 + 1 + 1 + 1 + 1 + 1 + 1 + 1, 12, none⟩ (.slice none 0 0)).setCell ⟨h + 1 + 1 + 1 + 1 + 1 + 1 + 1 + 1 + 1 + 1, 13, none⟩ (.slice none 0 0)).setCell ⟨h + 1 + 1 + 1 + 1 + 1 + 1 + 1 + 1 + 1 + 1, 14, none⟩ (.slice none 0 0)) := ⟨rfl, rfl, rfl, by omega, fun k hk => hkk k (by omega)⟩
  have k1 : Bk (W.setCell ⟨h + 1 + 1 + 1 + 1 + 1 + 1 + 1 + 1 + 1 + 1, 10, none⟩ (.int .i64 6)) (h + 1 + 1 + 1 + 1 + 1 + 1 + 1 + 1 + 1 + 1) 140 #[.int .i64 3, .int .i64 1, .slice none 0 0, .slice none 0 0, .slice none 0 0, .int .i64 3, .int .i64 2, .slice none 0 0, .slice none 0 0, .slice none 0 0, .int .i64 6, .int .i64 0, ss, .slice none 0 0, .slice none 0 0] := H.b10.set 10 (.int .i64 6)
  have k2 : Bk ((W.setCell ⟨h + 1 + 1 + 1 + 1 + 1 + 1 + 1 + 1 + 1 + 1, 10, none⟩ (.int .i64 6)).setCell ⟨h + 1 + 1 + 1 + 1 + 1 + 1 + 1 + 1 + 1 + 1, 11, none⟩ (.int .i64 0)) (h + 1 + 1 + 1 + 1 + 1 + 1 + 1 + 1 + 1 + 1) 140 #[.int .i64 3, .int .i64 1, .slice none 0 0, .slice none 0 0, .slice none 0 0, .int .i64 3, .int .i64 2, .slice none 0 0, .slice none 0 0, .slice none 0 0, .int .i64 6, .int .i64 0, ss, .slice none 0 0, .slice none 0 0] := k1.set 11 (.int .i64 0)
  have k3 : Bk (((W.setCell ⟨h + 1 + 1 + 1 + 1 + 1 + 1 + 1 + 1 + 1 + 1, 10, none⟩ (.int .i64 6)).setCell ⟨h + 1 + 1 + 1 + 1 + 1 + 1 + 1 + 1 + 1 + 1, 11, none⟩ (.int .i64 0)).setCell ⟨h + 1 + 1 + 1 + 1 + 1 + 1 + 1 + 1 + 1 + 1, 12, none⟩ (.slice none 0 0)) (h + 1 + 1 + 1 + 1 + 1 + 1 + 1 + 1 + 1 + 1) 140 #[.int .i64 3, .int .i64 1, .slice none 0 0, .slice none 0 0, .slice none 0 0, .int .i64 3, .int .i64 2, .slice none 0 0, .slice none 0 0, .slice none 0 0, .int .i64 6, .int .i64 0, .slice none 0 0, .slice none 0 0, .slice none 0 0] := k2.set 12 (.slice none 0 0)
  have k4 : Bk ((((W.setCell ⟨h + 1 + 1 + 1 + 1 + 1 + 1 + 1 + 1 + 1 + 1, 10, none⟩ (.int .i64 6)).setCell ⟨h + 1 + 1 + 1 + 1 + 1 + 1 + 1 + 1 + 1 + 1, 11, none⟩ (.int .i64 0)).setCell ⟨h + 1 + 1 + 1 + 1 + 1 + 1 + 1 + 1 + 1 + 1, 12, none⟩ (.slice none 0 0)).setCell ⟨h + 1 + 1 + 1 + 1 + 1 + 1 + 1 + 1 + 1 + 1, 13, none⟩ (.slice none 0 0)) (h + 1 + 1 + 1 + 1 + 1 + 1 + 1 + 1 + 1 + 1) 140 #[.int .i64 3, .int .i64 1, .slice none 0 0, .slice none 0 0, .slice none 0 0, .int .i64 3, .int .i64 2, .slice none 0 0, .slice none 0 0, .slice none 0 0, .int .i64 6, .int .i64 0, .slice none 0 0, .slice none 0 0, .slice none 0 0] := k3.set 13 (.slice none 0 0)
  have k5 : Bk (((((W.setCell ⟨h + 1 + 1 + 1 + 1 + 1 + 1 + 1 + 1 + 1 + 1, 10, none⟩ (.int .i64 6)).setCell ⟨h + 1 + 1 + 1 + 1 + 1 + 1 + 1 + 1 + 1 + 1, 11, none⟩ (.int .i64 0)).setCell ⟨h + 1 + 1 + 1 + 1 + 1 + 1 + 1 + 1 + 1 + 1, 12, none⟩ (.slice none 0 0)).setCell ⟨h + 1 + 1 + 1 + 1 + 1 + 1 + 1 + 1 + 1 + 1, 13, none⟩ (.slice none 0 0)).setCell ⟨h + 1 + 1 + 1 + 1 + 1 + 1 + 1 + 1 + 1 + 1, 14, none⟩ (.slice none 0 0)) (h + 1 + 1 + 1 + 1 + 1 + 1 + 1 + 1 + 1 + 1) 140 #[.int .i64 3, .int .i64 1, .slice none 0 0, .slice none 0 0, .slice none 0 0, .int .i64 3, .int .i64 2, .slice none 0 0, .slice none 0 0, .slice none 0 0, .int .i64 6, .int .i64 0, .slice none 0 0, .slice none 0 0, .slice none 0 0] := k4.set 14 (.slice none 0 0)
  have hs := k5
  clear k1 k2 k3 k4 k5
  generalize (((((W.setCell ⟨h + 1 + 1 + 1 + 1 + 1 + 1 + 1 + 1 + 1 + 1, 10, none⟩ (.int .i64 6)).setCell ⟨h + 1 + 1 + 1 + 1 + 1 + 1 + 1 + 1 + 1 + 1, 11, none⟩ (.int .i64 0)).setCell ⟨h + 1 + 1 + 1 + 1 + 1 + 1 + 1 + 1 + 1 + 1, 12, none⟩ (.slice none 0 0)).setCell ⟨h + 1 + 1 + 1 + 1 + 1 + 1 + 1 + 1 + 1 + 1, 13, none⟩ (.slice none 0 0)).setCell ⟨h + 1 + 1 + 1 + 1 + 1 + 1 + 1 + 1 + 1 + 1, 14, none⟩ (.slice none 0 0)) = X at *
  have hk : ∀ {k : Nat} {t : TypeId} {cs : Array Value}, Bk W k t cs → k ≠ h + 1 + 1 + 1 + 1 + 1 + 1 + 1 + 1 + 1 + 1 → Bk X k t cs := fun hb hne => (hkk _ hne).trans hb
  exact ⟨H.cur.keepG2 hb (by omega), H.dw.belowW hb (by omega), hk H.res (by omega), hl, hk H.b0 (by omega), hk H.b1 (by omega), hk H.b2 (by omega), hk H.b3 (by omega), hk H.b7 (by omega), hk H.b8 (by omega), hk H.b9 (by omega), hs, hk H.b11 (by omega)⟩
theorem KnS.set3 (H : KnS g A c zs w K h v kk ss bb sv W) (hg : g < w.heap.size) (sv' : Value) : KnS g A c zs w K h v kk ss bb sv' (W.setCell ⟨h + 1 + 1 + 1 + 1 + 1 + 1 + 1, 3, none⟩ sv') := by
  have hl := H.lt
  have hb : Below (h + 1 + 1 + 1 + 1 + 1 + 1 + 1) W (W.setCell ⟨h + 1 + 1 + 1 + 1 + 1 + 1 + 1, 3, none⟩ sv') := ⟨rfl, rfl, rfl, by rw [World.size_setCell]; exact Nat.le_refl _, fun k hk => Below.heap_setCell _ _ _ _ (by show k ≠ h + 1 + 1 + 1 + 1 + 1 + 1 + 1; omega)⟩
  exact ⟨H.cur.keepG2 hb (by omega), H.dw.belowW hb (by omega), H.res.far (by omega) _ _, hl, H.b0.far (by omega) _ _, H.b1.far (by omega) _ _, H.b2.far (by omega) _ _, H.b3.far (by omega) _ _, H.b7.set 3 sv', H.b8.far (by omega) _ _, H.b9.far (by omega) _ _, H.b10.far (by omega) _ _, H.b11.far (by omega) _ _⟩
theorem KnS.set2 (H : KnS g A c zs w K h v kk ss bb sv W) (hg : g < w.heap.size) (bb' : Value) : KnS g A c zs w K h v kk ss bb' sv (W.setCell ⟨h + 1 + 1 + 1 + 1 + 1 + 1 + 1, 2, none⟩ bb') := by
  have hl := H.lt
  have hb : Below (h + 1 + 1 + 1 + 1 + 1 + 1 + 1) W (W.setCell ⟨h + 1 + 1 + 1 + 1 + 1 + 1 + 1, 2, none⟩ bb') := ⟨rfl, rfl, rfl, by rw [World.size_setCell]; exact Nat.le_refl _, fun k hk => Below.heap_setCell _ _ _ _ (by show k ≠ h + 1 + 1 + 1 + 1 + 1 + 1 + 1; omega)⟩
  exact ⟨H.cur.keepG2 hb (by omega), H.dw.belowW hb (by omega), H.res.far (by omega) _ _, hl, H.b0.far (by omega) _ _, H.b1.far (by omega) _ _, H.b2.far (by omega) _ _, H.b3.far (by omega) _ _, H.b7.set 2 bb', H.b8.far (by omega) _ _, H.b9.far (by omega) _ _, H.b10.far (by omega) _ _, H.b11.far (by omega) _ _⟩
theorem KnS.alloc (H : KnS g A c zs w K h v kk ss bb sv W) (hg : g < w.heap.size) (o : Obj) : KnS g A c zs w K h v kk ss bb sv (W.alloc o) := H.step hg (H.cur.below ((Below.refl _ _).alloc (Nat.le_refl _) o)) ((Dw.refl g W).alloc o)
theorem KnS.gro {u u' : Value} (H : KnS g A c zs w K h v kk ss bb sv W) (hg : g < w.heap.size) (hu : u.ownBlock = some (h + 1 + 1 + 1 + 1 + 1)) (hgr : Gro W W' u u') : KnS g A c zs w K h v kk ss bb sv W' := by
  have hl := H.lt; have hl11 := H.b11.lt
  have hb : Below (h + 1 + 1 + 1 + 1 + 1) W W' := ⟨hgr.g.os, hgr.g.tape, hgr.g.output, hgr.g.size, fun k hk => hgr.g.block k (by omega) (by rw [hu]; intro e; injection e with e; omega)⟩
  have hk : ∀ {k : Nat} {t : TypeId} {cs : Array Value}, Bk W k t cs → k ≠ h + 1 + 1 + 1 + 1 + 1 → Bk W' k t cs := fun hb hne => hgr.bk hb (by rw [hu]; intro e; injection e with e; exact hne e)
  exact ⟨H.cur.keepG2 hb (by omega), H.dw.belowW hb (by omega), hk H.res (by omega), hl, hk H.b0 (by omega), hk H.b1 (by omega), hk H.b2 (by omega), hk H.b3 (by omega), hk H.b7 (by omega), hk H.b8 (by omega), hk H.b9 (by omega), hk H.b10 (by omega), hk H.b11 (by omega)⟩
end
end Go.Proofs.YtgkjakoagdkpcaaGreatDoor
set_option linter.unusedSimpArgs false
set_option linter.unusedVariables false
set_option maxRecDepth 100000
namespace Go.Proofs.YtgkjakoagdkpcaaGreatDoor
open Go.RowKit

theorem kn_num {v : Int} (h : 0 ≤ v ∧ v ≤ 100) : goodExpr [⟨1, v⟩] 0 [0, 0, 0] = true := by
  have hs : smallB v = true := by unfold smallB; exact decide_eq_true (by omega)
  simp [goodExpr, highOf, runE, tokOk, need, parOk, hs]; omega
theorem kn_rec : goodExpr [⟨10, 0⟩] 0 [0, 0, 0] = true := by decide
def kM (m : StmtM) : FuncM := ⟨0, 0, [0, 1, 2], [⟨3, 1, [], [], []⟩, ⟨3, 2, [], [], []⟩, m]⟩
def kO : FuncM := ⟨0, 0, [0], [⟨2, 0, [⟨10, 0⟩], [], []⟩]⟩
def kT (v : Int) : FuncM := ⟨0, 0, [0], [⟨2, 0, [⟨1, v⟩], [], []⟩]⟩
def kU (v : Int) : FuncM := ⟨0, 0, [0, 1], [⟨2, 0, [⟨1, v⟩], [], []⟩, ⟨4, 0, [⟨1, 50⟩], [], []⟩]⟩
theorem seg_one {K : Nat → StmtM} {a q : Nat} {bs : List Int} (h1 : (K a).qThen = []) (h2 : (K a).qElse = []) (h : Seg K (a + 1) q bs) : Seg K a q ((a : Int) :: bs) :=
  .cons (m := a + 1) (p := a + 1) (by rw [h1]; exact .nil _) (by rw [h2]; exact .nil _) h fun _ j u v => by omega
theorem kM_ok {m : StmtM} (hm : StG 0 [0, 0, 0] m) (h3 : m.qKind ≠ 3) (h4 : m.qThen = []) (h5 : m.qElse = []) : FunOk [0, 0, 0] (kM m) := by
  refine ⟨rfl, rfl, ⟨by simp [kM], ?_, ?_⟩, ?_, by simp [kM]⟩
  · show (List.count 3 [3, 3, m.qKind]) ≤ 4
    exact Nat.le_trans (List.count_le_length) (by simp)
  · intro s hs
    simp only [kM, List.mem_cons, List.not_mem_nil, or_false] at hs
    rcases hs with rfl | rfl | rfl
    · exact stG_defer (n := 1) (by decide) rfl
    · exact stG_defer (n := 2) (by decide) rfl
    · exact hm
  · show Seg (atS [⟨3, 1, [], [], []⟩, ⟨3, 2, [], [], []⟩, m]) 0 3 [0, 1, 2]
    exact seg_one (a := 0) rfl rfl (seg_one (a := 1) rfl rfl (seg_one (a := 2) h4 h5 (.nil _)))
theorem kO_ok : FunOk [0, 0, 0] kO := by
  refine ⟨rfl, rfl, ⟨by decide, by decide, ?_⟩, ?_, by decide⟩
  · intro s hs
    simp only [kO, List.mem_cons, List.not_mem_nil, or_false] at hs
    subst hs
    exact stG_plain kn_rec (by decide) (.inl rfl)
  · exact seg_one (a := 0) rfl rfl (.nil _)
theorem kT_ok {v : Int} (h : 0 ≤ v ∧ v ≤ 100) : FunOk [0, 0, 0] (kT v) := by
  refine ⟨rfl, rfl, ⟨by simp [kT], by simp [kT], ?_⟩, ?_, by simp [kT]⟩
  · intro s hs
    simp only [kT, List.mem_cons, List.not_mem_nil, or_false] at hs
    subst hs
    exact stG_plain (kn_num h) (by simp) (.inl rfl)
  · exact seg_one (a := 0) rfl rfl (.nil _)
theorem kU_ok {v : Int} (h : 0 ≤ v ∧ v ≤ 100) : FunOk [0, 0, 0] (kU v) := by
  refine ⟨rfl, rfl, ⟨by simp [kU], by simp [kU], ?_⟩, ?_, by simp [kU]⟩
  · intro s hs
    simp only [kU, List.mem_cons, List.not_mem_nil, or_false] at hs
    rcases hs with rfl | rfl
    · exact stG_plain (kn_num h) (by simp) (.inl rfl)
    · exact stG_plain (kn_num (by omega)) (by simp) (.inr (.inl rfl))
  · exact seg_one (a := 0) rfl rfl (seg_one (a := 1) rfl rfl (.nil _))
theorem kn_prog {m : StmtM} {f : FuncM} (hm : StG 0 [0, 0, 0] m) (h3 : m.qKind ≠ 3) (h4 : m.qThen = []) (h5 : m.qElse = []) (hf : FunOk [0, 0, 0] f) (hp : f.qParams = 0) : progS [kM m, kO, f] = true :=
  (prog_good (ps := [0, 0, 0]) (fs := [kM m, kO, f]) rfl (fun i h h' => by
    obtain rfl | rfl | rfl : i = 0 ∨ i = 1 ∨ i = 2 := by simp at h; omega
    · rfl
    · rfl
    · exact hp) (by decide) rfl (by decide) (fun g hg => by
    simp only [List.mem_cons, List.not_mem_nil, or_false] at hg
    rcases hg with rfl | rfl | rfl
    · exact kM_ok hm h3 h4 h5
    · exact kO_ok
    · exact hf)).2
/-- the row of three functions, as it is returned -/
theorem kn_prgD {g : Nat} {W : World} {q : Nat} {m : StmtM} {f : FuncM} {c0 c1 c2 : List Value} (hm : StG 0 [0, 0, 0] m) (h3 : m.qKind ≠ 3) (h4 : m.qThen = []) (h5 : m.qElse = []) (hf : FunOk [0, 0, 0] f) (hp : f.qParams = 0)
    (hg : g < q) (hb : Bk W q 135 (c0 ++ c1 ++ c2).toArray) (h0 : FnC g W c0 (kM m)) (h1 : FnC g W c1 kO) (h2 : FnC g W c2 f) : PrgD g W (.slice (some ⟨q, 0, none⟩) 3 3) [kM m, kO, f] := by
  have hl : ∀ {cs : List Value} {x : FuncM}, FnC g W cs x → cs.length = 4 := fun h => by obtain ⟨_, _, rfl, _⟩ := h; rfl
  refine ⟨⟨[c0, c1, c2], rfl, ?_, ?_⟩, kn_prog hm h3 h4 h5 hf hp, by simp, ?_⟩
  · have := own_of_bk (lo := g + 1) (n := 3) (size := 4) hb hg (by simp [hl h0, hl h1, hl h2]) (by decide)
    simpa using this
  · intro i a b
    obtain rfl | rfl | rfl : i = 0 ∨ i = 1 ∨ i = 2 := by simp at a; omega
    · exact h0
    · exact h1
    · exact h2
  · intro g hg
    simp only [List.mem_cons, List.not_mem_nil, or_false] at hg
    rcases hg with rfl | rfl | rfl
    · exact (kM_ok hm h3 h4 h5).d
    · exact kO_ok.d
    · exact hf.d
/-- the first function's cells -/
theorem fn_main {g : Nat} {W : World} {q1 q2 : Nat} {k : Int} {ss : Value} {m : StmtM} (h1 : Bk W q1 3 #[.int .i64 0, .int .i64 1, .int .i64 2]) (h2 : Bk W q2 140 #[.int .i64 3, .int .i64 1, .slice none 0 0, .slice none 0 0, .slice none 0 0, .int .i64 3, .int .i64 2, .slice none 0 0, .slice none 0 0, .slice none 0 0, .int .i64 k, .int .i64 0, ss, .slice none 0 0, .slice none 0 0]) (l1 : g < q1) (l2 : g < q2)
    (hs : SC NoX g W [.int .i64 k, .int .i64 0, ss, .slice none 0 0, .slice none 0 0] m) : FnC g W [.int .i64 0, .int .i64 0, .slice (some ⟨q1, 0, none⟩) 3 3, .slice (some ⟨q2, 0, none⟩) 3 3] (kM m) := by
  refine ⟨_, _, rfl, own_of_bk h1 l1 rfl (by decide), [[.int .i64 3, .int .i64 1, .slice none 0 0, .slice none 0 0, .slice none 0 0], [.int .i64 3, .int .i64 2, .slice none 0 0, .slice none 0 0, .slice none 0 0], [.int .i64 k, .int .i64 0, ss, .slice none 0 0, .slice none 0 0]], rfl, own_of_bk (n := 3) h2 l2 rfl (by decide), fun i hi hi' => ?_⟩
  obtain rfl | rfl | rfl : i = 0 ∨ i = 1 ∨ i = 2 := by simp at hi'; omega
  · exact sc_none
  · exact sc_none
  · exact hs
theorem KnT.exit {h : Nat} {v : Int} {W : World} (H : KnT h v W) : KnT h v (((((W.setCell ⟨h + 1 + 1 + 1 + 1 + 1 + 1 + 1 + 1 + 1 + 1, 10, none⟩ (.int .i64 6)).setCell ⟨h + 1 + 1 + 1 + 1 + 1 + 1 + 1 + 1 + 1 + 1, 11, none⟩ (.int .i64 0)).setCell ⟨h + 1 + 1 + 1 + 1 + 1 + 1 + 1 + 1 + 1 + 1, 12, none⟩ (.slice none 0 0)).setCell ⟨h + 1 + 1 + 1 + 1 + 1 + 1 + 1 + 1 + 1 + 1, 13, none⟩ (.slice none 0 0)).setCell ⟨h + 1 + 1 + 1 + 1 + 1 + 1 + 1 + 1 + 1 + 1, 14, none⟩ (.slice none 0 0)) :=
  ⟨((((H.b4.far (by omega) _ _).far (by omega) _ _).far (by omega) _ _).far (by omega) _ _).far (by omega) _ _, ((((H.b5.far (by omega) _ _).far (by omega) _ _).far (by omega) _ _).far (by omega) _ _).far (by omega) _ _, ((((H.b6.far (by omega) _ _).far (by omega) _ _).far (by omega) _ _).far (by omega) _ _).far (by omega) _ _⟩
section
-- END
variable {g : Nat} {A : Option Addr} {c : Nat} {zs : List Int} {w : World} {K h : Nat} {v k : Int} {ss bb sv : Value} {W W9 : World}
theorem KP.setp {q : Nat} {cs : Array Value} (hq : Bk W q 103 cs) (i : Nat) (u : Value) : KP g W (W.setCell ⟨q, i, none⟩ u) := by
  rintro k h1 ⟨ys, t, z, hh, ht⟩
  refine Below.heap_setCell _ _ _ _ fun e => ?_
  have e : k = q := e
  subst e
  rw [show W.heap[k]? = _ from hq] at hh
  injection hh with hh; injection hh with _ hh _; exact ht.2 hh.symm
theorem kn_end {f : FuncM} (H : KnS g A c zs w K h v (.int .i64 k) ss bb sv W) (hg : g < w.heap.size) (hv : 0 ≤ v ∧ v ≤ 8) (hks : (k = 4 ∧ ss = .slice (some ⟨h + 1 + 1 + 1 + 1 + 1 + 1 + 1 + 1 + 1, 0, none⟩) 1 1) ∨ (k = 6 ∧ ss = .slice none 0 0)) (hF : FnC g W [.int .i64 0, .int .i64 0, bb, sv] f) (hok : FunOk [0, 0, 0] f) (hp : f.qParams = 0) {K' : Nat} (hK : K ≤ K' + 200000) :
    PrgP g A c zs K' w (.returned (.agg #[.slice (some ⟨W.heap.size, 0, none⟩) 3 3])) ((W.setCell ⟨w.heap.size, 0, none⟩ (.slice (some ⟨W.heap.size, 0, none⟩) 3 3)).alloc (.cells #[.int .i64 0, .int .i64 0, .slice (some ⟨h + 1 + 1 + 1 + 1 + 1 + 1 + 1 + 1, 0, none⟩) 3 3, .slice (some ⟨h + 1 + 1 + 1 + 1 + 1 + 1 + 1 + 1 + 1 + 1, 0, none⟩) 3 3, .int .i64 0, .int .i64 0, .slice (some ⟨h + 1 + 1, 0, none⟩) 1 1, .slice (some ⟨h + 1, 0, none⟩) 1 1, .int .i64 0, .int .i64 0, bb, sv] 135)) := by
  rw [← World.setCell_alloc_past (w := W) (.cells #[.int .i64 0, .int .i64 0, .slice (some ⟨h + 1 + 1 + 1 + 1 + 1 + 1 + 1 + 1, 0, none⟩) 3 3, .slice (some ⟨h + 1 + 1 + 1 + 1 + 1 + 1 + 1 + 1 + 1 + 1, 0, none⟩) 3 3, .int .i64 0, .int .i64 0, .slice (some ⟨h + 1 + 1, 0, none⟩) 1 1, .slice (some ⟨h + 1, 0, none⟩) 1 1, .int .i64 0, .int .i64 0, bb, sv] 135) w.heap.size 0 _ (by have := H.lt; have := H.b11.lt; omega)]
  have hl := H.lt; have hl11 := H.b11.lt
  have hB := Bk.new W 135 #[.int .i64 0, .int .i64 0, .slice (some ⟨h + 1 + 1 + 1 + 1 + 1 + 1 + 1 + 1, 0, none⟩) 3 3, .slice (some ⟨h + 1 + 1 + 1 + 1 + 1 + 1 + 1 + 1 + 1 + 1, 0, none⟩) 3 3, .int .i64 0, .int .i64 0, .slice (some ⟨h + 1 + 1, 0, none⟩) 1 1, .slice (some ⟨h + 1, 0, none⟩) 1 1, .int .i64 0, .int .i64 0, bb, sv]
  have hdA := (Dw.refl g W).alloc (.cells #[.int .i64 0, .int .i64 0, .slice (some ⟨h + 1 + 1 + 1 + 1 + 1 + 1 + 1 + 1, 0, none⟩) 3 3, .slice (some ⟨h + 1 + 1 + 1 + 1 + 1 + 1 + 1 + 1 + 1 + 1, 0, none⟩) 3 3, .int .i64 0, .int .i64 0, .slice (some ⟨h + 1 + 1, 0, none⟩) 1 1, .slice (some ⟨h + 1, 0, none⟩) 1 1, .int .i64 0, .int .i64 0, bb, sv] 135)
  have H1 := H.alloc hg (.cells #[.int .i64 0, .int .i64 0, .slice (some ⟨h + 1 + 1 + 1 + 1 + 1 + 1 + 1 + 1, 0, none⟩) 3 3, .slice (some ⟨h + 1 + 1 + 1 + 1 + 1 + 1 + 1 + 1 + 1 + 1, 0, none⟩) 3 3, .int .i64 0, .int .i64 0, .slice (some ⟨h + 1 + 1, 0, none⟩) 1 1, .slice (some ⟨h + 1, 0, none⟩) 1 1, .int .i64 0, .int .i64 0, bb, sv] 135)
  have hF1 := hF.kp (KP.dw hdA)
  generalize W.alloc (.cells #[.int .i64 0, .int .i64 0, .slice (some ⟨h + 1 + 1 + 1 + 1 + 1 + 1 + 1 + 1, 0, none⟩) 3 3, .slice (some ⟨h + 1 + 1 + 1 + 1 + 1 + 1 + 1 + 1 + 1 + 1, 0, none⟩) 3 3, .int .i64 0, .int .i64 0, .slice (some ⟨h + 1 + 1, 0, none⟩) 1 1, .slice (some ⟨h + 1, 0, none⟩) 1 1, .int .i64 0, .int .i64 0, bb, sv] 135) = X at *
  have hO : FnC g X [.int .i64 0, .int .i64 0, .slice (some ⟨h + 1 + 1, 0, none⟩) 1 1, .slice (some ⟨h + 1, 0, none⟩) 1 1] kO := fn_one H1.b0 H1.b1 H1.b2 (by omega) (by omega) (by omega)
  have key : ∀ m : StmtM, SC NoX g X [.int .i64 k, .int .i64 0, ss, .slice none 0 0, .slice none 0 0] m → StG 0 [0, 0, 0] m → m.qKind ≠ 3 → m.qThen = [] → m.qElse = [] → PrgD g X (.slice (some ⟨W.heap.size, 0, none⟩) 3 3) [kM m, kO, f] := fun m hs hm h3 h4 h5 =>
    kn_prgD (c0 := [.int .i64 0, .int .i64 0, .slice (some ⟨h + 1 + 1 + 1 + 1 + 1 + 1 + 1 + 1, 0, none⟩) 3 3, .slice (some ⟨h + 1 + 1 + 1 + 1 + 1 + 1 + 1 + 1 + 1 + 1, 0, none⟩) 3 3]) (c1 := [.int .i64 0, .int .i64 0, .slice (some ⟨h + 1 + 1, 0, none⟩) 1 1, .slice (some ⟨h + 1, 0, none⟩) 1 1]) (c2 := [.int .i64 0, .int .i64 0, bb, sv]) hm h3 h4 h5 hok hp (by omega) hB (fn_main H1.b8 H1.b10 (by omega) (by omega) hs) hO hF1
  have hE : ∃ m : StmtM, PrgD g X (.slice (some ⟨W.heap.size, 0, none⟩) 3 3) [kM m, kO, f] := by
    rcases hks with ⟨rfl, rfl⟩ | ⟨rfl, rfl⟩
    · exact ⟨⟨4, 0, [⟨1, 40 + v⟩], [], []⟩, key _ (sc_one H1.b9 (by omega)) (stG_plain (kn_num (by omega)) (by simp) (.inr (.inl rfl))) (by simp) rfl rfl⟩
    · exact ⟨⟨6, 0, [], [], []⟩, key _ sc_none stG_exit (by simp) rfl rfl⟩
  obtain ⟨m, hD⟩ := hE
  refine ⟨_, _, rfl, ⟨hD.row.setp H1.res 0 _, hD.good, hD.len, hD.ok⟩, ?_, ?_⟩
  · exact (H1.cur.more hK).keepG2 (B := w.heap.size) ⟨rfl, rfl, rfl, by rw [World.size_setCell]; exact Nat.le_refl _, fun k hk => Below.heap_setCell _ _ _ _ (by show k ≠ w.heap.size; omega)⟩ hg
  · exact H1.dw.belowW (B := w.heap.size) ⟨rfl, rfl, rfl, by rw [World.size_setCell]; exact Nat.le_refl _, fun k hk => Below.heap_setCell _ _ _ _ (by show k ≠ w.heap.size; omega)⟩ (Nat.le_refl _)
theorem kn_one (H : KnS g A c zs w K h v (.int .i64 k) ss (.slice (some ⟨h + 1 + 1 + 1 + 1 + 1 + 1, 0, none⟩) 1 1) (.slice (some ⟨h + 1 + 1 + 1 + 1 + 1, 0, none⟩) 1 1) W) (hg : g < w.heap.size) (T : KnT h v W) : FnC g W [.int .i64 0, .int .i64 0, .slice (some ⟨h + 1 + 1 + 1 + 1 + 1 + 1, 0, none⟩) 1 1, .slice (some ⟨h + 1 + 1 + 1 + 1 + 1, 0, none⟩) 1 1] (kT v) := by
  have hl := H.lt
  exact fn_one T.b4 T.b5 T.b6 (by omega) (by omega) (by omega)
/-- a statement more for the second function -/
theorem kn_push {v9 : Value} (H : KnS g A c zs w K h v (.int .i64 k) ss bb (.slice (some ⟨h + 1 + 1 + 1 + 1 + 1, 0, none⟩) 1 1) W) (hg : g < w.heap.size) (T : KnT h v W) (hown : W9.ownsRow (w.heap.size + 1) 140 5 v9 (1 + 1) ([.int .i64 2, .int .i64 0, .slice (some ⟨h + 1 + 1 + 1 + 1, 0, none⟩) 1 1, .slice none 0 0, .slice none 0 0] ++ [.int .i64 4, .int .i64 0, .slice (some ⟨W.heap.size, 0, none⟩) 1 1, .slice none 0 0, .slice none 0 0]))
    (hgr : Gro (W.alloc (.cells #[.int .i64 1, .int .i64 50] 142)) W9 (.slice (some ⟨h + 1 + 1 + 1 + 1 + 1, 0, none⟩) 1 1) v9) : KnS g A c zs w K h v (.int .i64 k) ss bb (.slice (some ⟨h + 1 + 1 + 1 + 1 + 1, 0, none⟩) 1 1) W9 ∧ FRow NoX g v9 W9 [⟨2, 0, [⟨1, v⟩], [], []⟩, ⟨4, 0, [⟨1, 50⟩], [], []⟩] := by
  have hl := H.lt; have hl11 := H.b11.lt
  have H1 := H.alloc hg (.cells #[.int .i64 1, .int .i64 50] 142)
  have T1 := T.step (by omega : g < h) ((Dw.refl g W).alloc (.cells #[.int .i64 1, .int .i64 50] 142))
  have hb := Bk.new W 142 #[.int .i64 1, .int .i64 50]
  generalize W.alloc (.cells #[.int .i64 1, .int .i64 50] 142) = X at *
  have ho0 : X.ownsRow (w.heap.size + 1) 140 5 (.slice (some ⟨h + 1 + 1 + 1 + 1 + 1, 0, none⟩) 1 1) 1 [.int .i64 2, .int .i64 0, .slice (some ⟨h + 1 + 1 + 1 + 1, 0, none⟩) 1 1, .slice none 0 0, .slice none 0 0] := own_of_bk (n := 1) T1.b5 (by omega) rfl (by decide)
  have hr0 : FRow NoX w.heap.size (.slice (some ⟨h + 1 + 1 + 1 + 1 + 1, 0, none⟩) 1 1) X [⟨2, 0, [⟨1, v⟩], [], []⟩] := ⟨[[.int .i64 2, .int .i64 0, .slice (some ⟨h + 1 + 1 + 1 + 1, 0, none⟩) 1 1, .slice none 0 0, .slice none 0 0]], rfl, ho0, fun i hi hi' => by
    obtain rfl : i = 0 := by simp at hi; omega
    exact sc_one T1.b4 (by omega)⟩
  refine ⟨H1.gro hg rfl hgr, FRow.base (hr0.push (g := g) (s := ⟨4, 0, [⟨1, 50⟩], [], []⟩) hg (sc_one hb (by omega)) hgr fun css h1 h2 => ?_) (Nat.le_of_lt hg)⟩
  rw [own_inj h2 ho0]
  exact hown
theorem kn_two (H : KnS g A c zs w K h v (.int .i64 k) ss bb sv W9) (hg : g < w.heap.size) {v9 : Value} (hr : FRow NoX g v9 W9 [⟨2, 0, [⟨1, v⟩], [], []⟩, ⟨4, 0, [⟨1, 50⟩], [], []⟩]) :
    KnS g A c zs w K h v (.int .i64 k) ss (.slice (some ⟨W9.heap.size, 0, none⟩) 2 2) v9 (((W9.setCell ⟨h + 1 + 1 + 1 + 1 + 1 + 1 + 1, 3, none⟩ v9).setCell ⟨h + 1 + 1 + 1 + 1 + 1 + 1 + 1, 2, none⟩ (.slice (some ⟨W9.heap.size, 0, none⟩) 2 2)).alloc (.cells #[.int .i64 0, .int .i64 1] 3)) ∧
    FnC g (((W9.setCell ⟨h + 1 + 1 + 1 + 1 + 1 + 1 + 1, 3, none⟩ v9).setCell ⟨h + 1 + 1 + 1 + 1 + 1 + 1 + 1, 2, none⟩ (.slice (some ⟨W9.heap.size, 0, none⟩) 2 2)).alloc (.cells #[.int .i64 0, .int .i64 1] 3)) [.int .i64 0, .int .i64 0, .slice (some ⟨W9.heap.size, 0, none⟩) 2 2, v9] (kU v) := by
  have hl := H.lt; have hl11 := H.b11.lt
  rw [← World.setCell_alloc_past (w := W9.setCell ⟨h + 1 + 1 + 1 + 1 + 1 + 1 + 1, 3, none⟩ v9) (.cells #[.int .i64 0, .int .i64 1] 3) (h + 1 + 1 + 1 + 1 + 1 + 1 + 1) 2 _ (by rw [World.size_setCell]; omega)]
  have H1 := H.set3 hg v9
  have hr1 := hr.kp (KP.setf H.b7 3 v9)
  have hz : (W9.setCell ⟨h + 1 + 1 + 1 + 1 + 1 + 1 + 1, 3, none⟩ v9).heap.size = W9.heap.size := World.size_setCell _ _ _
  generalize W9.setCell ⟨h + 1 + 1 + 1 + 1 + 1 + 1 + 1, 3, none⟩ v9 = X at *
  have H2 := H1.alloc hg (.cells #[.int .i64 0, .int .i64 1] 3)
  have hr2 := hr1.kp (KP.dw ((Dw.refl g X).alloc (.cells #[.int .i64 0, .int .i64 1] 3)))
  have hb := Bk.new X 3 #[.int .i64 0, .int .i64 1]
  rw [hz] at hb
  generalize X.alloc (.cells #[.int .i64 0, .int .i64 1] 3) = Y at *
  have hb2 := hb.far (show W9.heap.size ≠ h + 1 + 1 + 1 + 1 + 1 + 1 + 1 by omega) 2 (.slice (some ⟨W9.heap.size, 0, none⟩) 2 2)
  exact ⟨H2.set2 hg _, _, _, rfl, own_of_bk hb2 (by omega) rfl (by decide), hr2.kp (KP.setf H2.b7 2 _)⟩
end
end Go.Proofs.YtgkjakoagdkpcaaGreatDoor
set_option linter.unusedSimpArgs false
set_option linter.unusedVariables false
set_option maxRecDepth 100000
namespace Go.Proofs.YtgkjakoagdkpcaaGreatDoor
open Go.RowKit

set_option maxHeartbeats 6400000 in
theorem cur_known (g : Nat) (A : Option Addr) (c : Nat) (zs : List Int) (K : Nat) (w : World) (hc : Cur g A c zs K w) (hK : K ≤ 100000000000000000) :
    Calls Tryz.prog 104 #[.pointer (some ⟨g, 0, none⟩)] w (PrgP g A c zs K w) := by
  have hgl := hc.lt
  have hc0 := hc.below ((Below.refl w.heap.size w).alloc (Nat.le_refl _) (.cells #[.slice none 0 0] 103))
  have hr0 := Bk.new w 103 #[.slice none 0 0]
  have Hc := hide hc0; have Hr := hide hr0
  have Hd := hide ((Dw.refl g w).alloc (.cells #[.slice none 0 0] 103))
  clear hc hc0 hr0
  go_enter Tryz.func104, Tryz.ntmps104
  go_upto_if 33 with (first
    | (go_at_call 44; go_must (refine (cur_pick g A c zs K _ _ Hc.out (by omega) (by omega)).mono ?_); rintro e w1 ⟨x, rfl, ⟨hx0, hx⟩, hc1, hd1⟩; have hx9 := hx (by omega); have hr1 := hd1.bk Hr.out (by omega); have HK := hide (kn_start (v := x) hc1 (Hd.out.trans hd1) hr1 hr1.lt hgl); clear hx hc1 hd1 hr1)
    | (go_at_call 68; go_must (refine (cur_one g A c zs _ _ _ HK.out.1.cur (by omega) (by omega)).mono ?_); rintro e w2 ⟨b2, rfl, hc1, hd1⟩; have HT := hide (HK.out.2.step (by have := HK.out.1.lt; omega) hd1); have HS := hide (HK.out.1.step hgl hc1 hd1); clear hc1 hd1 HK))
  have hl := HS.out.lt
  generalize hh : w1.heap.size = h at *
  have HS := hide HS.out; have HT := hide HT.out
  go_cut [] (fun wx => ∃ (k : Int) (ss : Value), ((k = 4 ∧ ss = (.slice (some ⟨h + 1 + 1 + 1 + 1 + 1 + 1 + 1 + 1 + 1, 0, none⟩) 1 1)) ∨ (k = 6 ∧ ss = .slice none 0 0)) ∧ KnS g A c zs w (K + 2 + 2) h x (.int .i64 k) ss (.slice (some ⟨h + 1 + 1 + 1 + 1 + 1 + 1, 0, none⟩) 1 1) (.slice (some ⟨h + 1 + 1 + 1 + 1 + 1, 0, none⟩) 1 1) wx ∧ KnT h x wx)
  case first =>
    cases b2
    · go_wp2_with fail
      go_meet
      exact ⟨4, _, .inl ⟨rfl, rfl⟩, HS.out, HT.out⟩
    · have a3 := HS.out.b11.cell 3; have al := HS.out.b11.lt
      have p0 := HS.out.b10.cell 10; have p1 := HS.out.b10.cell 11; have p2 := HS.out.b10.cell 12; have p3 := HS.out.b10.cell 13; have p4 := HS.out.b10.cell 14; have pl := HS.out.b10.lt
      have y0 := HS.out.b10.frozen 10; have y1 := HS.out.b10.frozen 11; have y2 := HS.out.b10.frozen 12; have y3 := HS.out.b10.frozen 13; have y4 := HS.out.b10.frozen 14
      go_wp2_with fail
      go_meet
      exact ⟨6, _, .inr ⟨rfl, rfl⟩, HS.out.exit hgl, HT.out.exit⟩
  case rest =>
    obtain ⟨k, ss, hks, hs, ht⟩ := hcut
    have HS := hide hs; have HT := hide ht; have Hks := hide hks
    clear hs ht hks
    go_upto_if 39 with (go_at_call 68; go_must (refine (cur_one g A c zs _ _ _ HS.out.cur (by omega) (by omega)).mono ?_); rintro e w3 ⟨b3, rfl, hc1, hd1⟩; have HT := hide (HT.out.step (by have := HS.out.lt; omega) hd1); have HS := hide (HS.out.step hgl hc1 hd1); clear hc1 hd1)
    have hl := HS.out.lt; have hl11 := HS.out.b11.lt
    have m0 := HS.out.b11.cell 0; have m1 := HS.out.b11.cell 1; have m2 := HS.out.b11.cell 2; have m3 := HS.out.b11.cell 3
    have o0 := HS.out.b3.cell 0; have o1 := HS.out.b3.cell 1; have o2 := HS.out.b3.cell 2; have o3 := HS.out.b3.cell 3; have ol := HS.out.b3.lt
    have t0 := HS.out.b7.cell 0; have t1 := HS.out.b7.cell 1; have t2 := HS.out.b7.cell 2; have t3 := HS.out.b7.cell 3; have tl := HS.out.b7.lt
    have r0 := HS.out.res.cell 0; have ry := HS.out.res.frozen 0; have rl := HS.out.res.lt
    cases b3
    case false =>

      have HE := hide (kn_end (K' := K) HS.out hgl ⟨hx0, by omega⟩ Hks.out (kn_one HS.out hgl HT.out) (kT_ok ⟨hx0, by omega⟩) rfl (by omega))
      go_wp2_with fail
      clear m0 m1 m2 m3 o0 o1 o2 o3 t0 t1 t2 t3
      refine bodyPost_ret (v := .agg #[.slice (some ⟨w3.heap.size, 0, none⟩) 3 3]) ?_ rfl HE.out
      simp [results, Tryz.results104, go_sem, r0, rl]; done

    case true =>

      have t23 := HS.out.b7.frozen 3; have t22 := HS.out.b7.frozen 2
      have Ho := hide (own_of_bk (lo := w.heap.size + 1) (n := 1) (size := 5) (HT.out.b5.alloc (.cells #[.int .i64 1, .int .i64 50] 142)) (by omega) rfl (by decide))
      have hbs : w.heap.size + 1 ≤ (w3.alloc (.cells #[.int .i64 1, .int .i64 50] 142)).heap.size := by rw [World.size_alloc]; omega
      go_wp2_with (at_builtin; go_must (refine wpList_pushG rfl _ _ _ rfl okStmt rfl Ho.out _ rfl (by simp) rfl (by simp [Value.oneCell']) (by unfold maxLen; omega) (by omega) hbs ?_); intro v9 w9 hown9 hg9; obtain ⟨vA9, vc9, rfl⟩ := own_form hown9; have HP := hide (kn_push HS.out hgl HT.out hown9 hg9); have t0 := HP.out.1.b7.cell 0; have t1 := HP.out.1.b7.cell 1; have t2 := HP.out.1.b7.cell 2; have t3 := HP.out.1.b7.cell 3; have tl := HP.out.1.b7.lt; have t23 := HP.out.1.b7.frozen 3; have t22 := HP.out.1.b7.frozen 2; have m0 := HP.out.1.b11.cell 0; have m1 := HP.out.1.b11.cell 1; have m2 := HP.out.1.b11.cell 2; have m3 := HP.out.1.b11.cell 3; have hl11 := HP.out.1.b11.lt; have o0 := HP.out.1.b3.cell 0; have o1 := HP.out.1.b3.cell 1; have o2 := HP.out.1.b3.cell 2; have o3 := HP.out.1.b3.cell 3; have ol := HP.out.1.b3.lt; have r0 := HP.out.1.res.cell 0; have ry := HP.out.1.res.frozen 0; have rl := HP.out.1.res.lt; clear hown9 hg9)
      have HQ := hide (kn_two HP.out.1 hgl HP.out.2)
      have HE := hide (kn_end (K' := K) HQ.out.1 hgl ⟨hx0, by omega⟩ Hks.out HQ.out.2 (kU_ok ⟨hx0, by omega⟩) rfl (by omega))
      have he := HE.out
      rw [World.setCell_alloc_past _ w.heap.size 0 _ (by rw [World.size_setCell, World.size_setCell]; exact rl)] at he
      simp only [World.size_alloc, World.size_setCell] at he
      clear m0 m1 m2 m3 o0 o1 o2 o3 t0 t1 t2 t3
      refine bodyPost_ret (v := .agg #[.slice (some ⟨w9.heap.size + 1, 0, none⟩) 3 3]) ?_ rfl he
      simp [results, Tryz.results104, go_sem, r0, rl]; done

end Go.Proofs.YtgkjakoagdkpcaaGreatDoor
set_option linter.unusedSimpArgs false
set_option linter.unusedVariables false
set_option maxRecDepth 100000
namespace Go.Proofs.YtgkjakoagdkpcaaGreatDoor
open Go.RowKit

/-- a block of a type -/
def Ty (w : World) (q : Nat) (t : TypeId) : Prop := ∃ cs, Bk w q t cs
def isI (u : Value) : Prop := ∃ z : Int, u = .int .i64 z
theorem Ty.inj {w : World} {q : Nat} {t t' : TypeId} (h : Ty w q t) (k : Ty w q t') : t = t' := by
  obtain ⟨cs, h⟩ := h; obtain ⟨cs', k⟩ := k
  have : some (Obj.cells cs t (0, 0)) = some (Obj.cells cs' t' (0, 0)) := (show w.heap[q]? = _ from h).symm.trans k
  cases this; rfl
theorem Ty.lt {w : World} {q : Nat} {t : TypeId} (h : Ty w q t) : q < w.heap.size := by obtain ⟨cs, h⟩ := h; exact h.lt
theorem Ty.keep {w w' : World} {q : Nat} {t : TypeId} (h : Ty w q t) (e : w'.heap[q]? = w.heap[q]?) : Ty w' q t := by obtain ⟨cs, h⟩ := h; exact ⟨cs, e.trans h⟩
theorem Bk.ty {w : World} {q : Nat} {t : TypeId} {cs : Array Value} (h : Bk w q t cs) : Ty w q t := ⟨cs, h⟩
/-- in block q, of a type, cell i became x at most -/
structure Chg (w w' : World) (q : Nat) (t : TypeId) (i : Nat) (x : Value) : Prop where
  os : w'.os = w.os
  tape : w'.tape = w.tape
  output : w'.output = w.output
  size : w.heap.size ≤ w'.heap.size
  block : ∀ k, k ≠ q → k < w.heap.size → w'.heap[k]? = w.heap[k]?
  arr : ∃ cs cs', Bk w q t cs ∧ Bk w' q t cs' ∧ cs'.size = cs.size ∧ ∀ j u, cs[j]? = some u → cs'[j]? = some u ∨ (j = i ∧ cs'[j]? = some x)
section
variable {w w' w2 : World} {q i : Nat} {t : TypeId} {x : Value}
theorem Chg.ty (h : Chg w w' q t i x) : Ty w q t := by obtain ⟨cs, cs', h1, _⟩ := h.arr; exact ⟨cs, h1⟩
theorem Chg.ty' (h : Chg w w' q t i x) : Ty w' q t := by obtain ⟨cs, cs', _, h2, _⟩ := h.arr; exact ⟨cs', h2⟩
theorem Chg.cell (h : Chg w w' q t i x) {j : Nat} {u : Value} (hc : w.cell? ⟨q, j, none⟩ = some u) : w'.cell? ⟨q, j, none⟩ = some u ∨ (j = i ∧ w'.cell? ⟨q, j, none⟩ = some x) := by
  obtain ⟨cs, cs', h1, h2, _, h3⟩ := h.arr
  rw [h1.cell] at hc
  rw [h2.cell]
  exact h3 j u hc
theorem Chg.set (h : Ty w q t) (i : Nat) (x : Value) : Chg w (w.setCell ⟨q, i, none⟩ x) q t i x := by
  obtain ⟨cs, h⟩ := h
  refine ⟨rfl, rfl, rfl, by simp [World.setCell], fun k hk _ => Below.heap_setCell _ _ _ _ hk, cs, _, h, h.set i x, by simp, fun j u hu => ?_⟩
  rw [Array.getElem?_setIfInBounds]
  split
  · next e =>
    have hl := (Array.getElem?_eq_some_iff.1 hu).1
    subst e
    rw [if_pos hl]; exact .inr ⟨rfl, rfl⟩
  · exact .inl hu
theorem Chg.below (h : Chg w w' q t i x) {B : Nat} (hB : B ≤ q) : Below B w w' := ⟨h.os, h.tape, h.output, h.size, fun k hk => h.block k (by omega) (by have := h.ty.lt; omega)⟩
theorem Chg.bk {k : Nat} {t2 : TypeId} {cs : Array Value} (h : Chg w w' q t i x) (hb : Bk w k t2 cs) (hk : k ≠ q) : Bk w' k t2 cs := (h.block k hk hb.lt).trans hb
theorem Chg.cur {g : Nat} {A : Option Addr} {c : Nat} {zs : List Int} {K : Nat} (h : Chg w w' q t i x) (hc : Cur g A c zs K w) (hq : g < q) : Cur g A c zs K w' := hc.keepG2 (h.below (Nat.le_refl _)) hq
end
/-- an append of one cell: in place, or anew -/
theorem run_pushC {P : Program} (t ty : TypeId) {e : TypeId} {z : Value} {bytes : Nat} (hT : SliceOk P t e z 1 bytes) {w : World} {base : Nat} {v : Value} {n : Nat} {xs : List Value} (hown : w.ownsRow base e 1 v n xs) (u : Value) {b : Nat} (hb : w.cell? ⟨b, 0, none⟩ = some u)
    (h1 : u.oneCell' = true) (h63 : n + 1 ≤ maxLen) (hbytes : (n + 1) * bytes ≤ 140737488355328) (hbase : base ≤ w.heap.size) :
    ∃ v' w', (Builtin.append_ #[t, t] ty #[v, .slice (some ⟨b, 0, none⟩) 1 1]).run P w = .ok v' w' ∧ w'.ownsRow base e 1 v' (n + 1) (xs ++ [u]) ∧ ((∃ q, base ≤ q ∧ Chg w w' q e n u) ∨ Below w.heap.size w w') := by
  obtain ⟨ht, i, hi, hz, hsz, hby, hzs, hs0⟩ := hT
  have hlen := hown.1
  have hnews : ∀ j y, ([u] : List Value)[j]? = some y → w.cell? ((⟨b, 0, none⟩ : Addr).add j) = some y := by
    intro j y hj
    match j, hj with
    | 0, hj =>
      simp at hj
      subst hj
      have hp : ((⟨b, 0, none⟩ : Addr).add 0) = ⟨b, 0, none⟩ := by unfold Addr.add; split <;> simp_all
      rw [hp]; exact hb
  have h1' : ∀ y ∈ ([u] : List Value), y.oneCell' = true := fun y hy => by rw [List.mem_singleton] at hy; subst hy; exact h1
  by_cases hin : ∃ q cap, v = .slice (some ⟨q, 0, none⟩) n cap ∧ n + 1 ≤ cap
  · obtain ⟨q, cap, rfl, hroom⟩ := hin
    rcases hown.2 with ⟨e1, _⟩ | ⟨g, cap', cur, e1, hbg, hg, hnc, hcm, hcs, htake⟩
    · cases e1
    · cases e1
      have hnc' : n < cur.size := by omega
      have hr := run_append_room (P := P) w t ty e i ht hi q n cap cur hg ⟨b, 0, none⟩ 1 1 [u] (by simp [hsz]) hnews h1' hroom (by rw [hsz]; simp; omega)
      have hrow : cur.toList.take (n * i.size) ++ [u] ++ cur.toList.drop (n * i.size + [u].length) = (cur.setIfInBounds n u).toList := by
        rw [hsz, Nat.mul_one, Array.toList_setIfInBounds]
        rw [List.set_eq_take_append_cons_drop, if_pos (by simpa using hnc')]
        simp
      rw [hrow, Array.toArray_toList] at hr
      have hsr := setRow_heap w q cur (cur.setIfInBounds n u) e _ hg
      refine ⟨_, _, hr, ⟨by simp [hlen], .inr ⟨q, cap, _, rfl, hbg, hsr, hroom, hcm, by simp; omega, ?_⟩⟩, .inl ⟨q, hbg, rfl, rfl, rfl, by simp [World.setRow], fun k hk hl => setRow_other _ q k _ hk, cur, _, hg, hsr, by simp, fun j y hy => ?_⟩⟩
      · rw [Array.toList_setIfInBounds, List.take_set, ← htake]
        apply List.ext_getElem?
        intro j
        rw [List.getElem?_set]
        simp only [List.getElem?_append, List.getElem?_take, List.length_take, Array.length_toList]
        by_cases hj : n = j
        · subst hj
          simp [hnc', show n < min (n + 1) cur.size by omega, show min n cur.size = n by omega]
        · rw [if_neg hj]
          by_cases hj2 : j < n
          · simp [show j < n + 1 by omega, hj2, show j < min n cur.size by omega]
          · have h3 : ¬ j < n + 1 := by omega
            simp [h3, show ¬ j < min n cur.size by omega]
            omega
      · rw [Array.getElem?_setIfInBounds]
        split
        · next e2 =>
          subst e2
          first | exact .inr ⟨rfl, rfl⟩ | (rw [if_pos hnc']; exact .inr ⟨rfl, rfl⟩)
        · exact .inl hy
  · obtain ⟨v', w', hr, h2, h3, _, h5⟩ := run_append_own_at (P := P) w base t ty e i z 1 bytes ht hi hz hsz hby hzs hs0 v n xs hown ⟨b, 0, none⟩ 1 1 [u] rfl hnews h1' h63 hbytes hbase
    refine ⟨v', w', hr, h2, .inr ?_⟩
    rcases hown.2 with ⟨rfl, _⟩ | ⟨g, cap, cur, rfl, hbg, hg, hnc, hcm, hcs, htake⟩
    · exact ⟨h3.os, h3.tape, h3.output, h3.size, fun k hk => h3.block k hk (by intro e; cases e)⟩
    · have hfull : ¬ n + 1 ≤ cap := fun hle => hin ⟨g, cap, rfl, hle⟩
      have holds : ∀ j y, xs[j]? = some y → w.cell? ((⟨g, 0, none⟩ : Addr).add j) = some y := hown.cells (g := g) rfl
      have hr2 := run_append_grow (P := P) w t ty e i z ht hi hz ⟨g, 0, none⟩ n cap xs (by rw [hsz]; exact hown.1) holds ⟨b, 0, none⟩ 1 1 [u] (by simp [hsz]) hnews (by omega) (by unfold maxLen at h63; omega) (growslice_fits (by omega) (by rw [hby]; exact hbytes))
      rw [hr] at hr2
      cases hr2
      exact ⟨rfl, rfl, rfl, by rw [World.size_alloc]; exact Nat.le_succ _, fun k hk => heap_alloc_old _ _ (by show k < w.heap.size; exact hk)⟩
theorem step_pushC {P : Program} {ops : Array Oper} {o : Oper} {a : Act} {w : World} {K : Act → World → Prop} {Q : Exit → Act → World → Prop} {E : Prop}
    (hg : o.guard = none) (d : Nat) (hd : o.dst = some d) (s x : Operand) (t : TypeId) (hop : o.op = Op.call { callee := Callee.builtin Builtin.append, args := #[s, x], argTypes := #[t, t] }) {e : TypeId} {z : Value} {bytes : Nat} (hT : SliceOk P t e z 1 bytes)
    {base : Nat} {v : Value} {n : Nat} {xs : List Value} (hs : a.eval s = v) (hown : w.ownsRow base e 1 v n xs) (u : Value) {b : Nat} (hx : a.eval x = .slice (some ⟨b, 0, none⟩) 1 1) (hb : w.cell? ⟨b, 0, none⟩ = some u)
    (h1 : u.oneCell' = true) (h63 : n + 1 ≤ maxLen) (hbytes : (n + 1) * bytes ≤ 140737488355328) (hbase : base ≤ w.heap.size)
    (hK : ∀ v' w', w'.ownsRow base e 1 v' (n + 1) (xs ++ [u]) → ((∃ q, base ≤ q ∧ Chg w w' q e n u) ∨ Below w.heap.size w w') → K (a.put (some d) v') w') :
    if Region.wanted o (yielded ops a.tmps) = true then Oper.wp P o a w K Q else E := by
  have hw : Region.wanted o (yielded ops a.tmps) = true := by simp [Region.wanted, hg]
  rw [if_pos hw]
  rw [← hd] at hK
  obtain ⟨v', w', hr, k1, k2⟩ := run_pushC (P := P) t o.type hT hown u hb h1 h63 hbytes hbase
  unfold Oper.wp
  simp [execOp, hop, resolve, invoke, builtin, hs, hx, hr, Result.andThen]
  exact hK v' w' k1 k2
theorem wpList_pushC {P : Program} {ops : Array Oper} {rest : List Oper} {o : Oper} {a : Act} {w : World} {Q : Exit → Act → World → Prop} (hgd : o.guard = none) (s x : Operand) (t : TypeId)
    (ho : o.op = .call { callee := .builtin .append, args := #[s, x], argTypes := #[t, t] }) {e : TypeId} {z : Value} {bytes : Nat} (hT : SliceOk P t e z 1 bytes)
    {base : Nat} {v : Value} {n : Nat} {xs : List Value} (hs : a.eval s = v) (hown : w.ownsRow base e 1 v n xs) (u : Value) {b : Nat} (hx : a.eval x = .slice (some ⟨b, 0, none⟩) 1 1) (hb : w.cell? ⟨b, 0, none⟩ = some u)
    (h1 : u.oneCell' = true) (h63 : n + 1 ≤ maxLen) (hbytes : (n + 1) * bytes ≤ 140737488355328) (hbase : base ≤ w.heap.size)
    (h : ∀ v' w', w'.ownsRow base e 1 v' (n + 1) (xs ++ [u]) → ((∃ q, base ≤ q ∧ Chg w w' q e n u) ∨ Below w.heap.size w w') → wpList P ops Q rest (a.put o.dst v') w') :
    wpList P ops Q (o :: rest) a w := by
  obtain ⟨v', w', hr, h2, h3⟩ := run_pushC (P := P) t o.type hT hown u hb h1 h63 hbytes hbase
  refine wpList_plain hgd fun K hK => ?_
  unfold Oper.wp execOp
  simp only [ho, resolve, invoke, builtin, Sem.run_bind, Sem.run_pure, Result.andThen_ok, List.map_toArray, List.map_cons, List.map_nil, hs, hx, hr]
  exact hK _ _ (h v' w' h2 h3)
/-- n structs of so many fields, each as it should be -/
def SlR (F : World → Nat → Value → Prop) (t : TypeId) (size M lo : Nat) (w : World) (v : Value) (n : Nat) : Prop :=
  n ≤ M ∧ ∃ A c, v = .slice A n c ∧ n ≤ c ∧ c ≤ maxLen ∧ ∀ i, i < n * size → ∃ q o u, A = some ⟨q, o * size, none⟩ ∧ lo ≤ q ∧ Ty w q t ∧ w.cell? ⟨q, o * size + i, none⟩ = some u ∧ F w (i % size) u
section
variable {F G : World → Nat → Value → Prop} {t t' : TypeId} {size M M' lo n q k g : Nat} {w w' : World} {v x : Value}
theorem SlR.nil (hM : 0 ≤ M) : SlR F t size M lo w (.slice none 0 0) 0 := ⟨hM, none, 0, rfl, Nat.le_refl _, by unfold maxLen; omega, fun i hi => by omega⟩
theorem SlR.more (h : SlR F t size M lo w v n) (hM : n ≤ M') : SlR F t size M' lo w v n := ⟨hM, h.2⟩
theorem SlR.chg (h : SlR F t' size M lo w v n) (hc : Chg w w' q t k x) (hF : ∀ j u, F w j u → F w' j u) (hx : t = t' → F w' (k % size) x) : SlR F t' size M lo w' v n := by
  obtain ⟨hn, A, c, e, h1, h2, hh⟩ := h
  refine ⟨hn, A, c, e, h1, h2, fun i hi => ?_⟩
  obtain ⟨q', o, u, hA, hlo, hty, hcell, hf⟩ := hh i hi
  by_cases hq : q' = q
  · subst hq
    have ht : t = t' := hc.ty.inj hty
    subst ht
    rcases hc.cell hcell with h | ⟨hj, h⟩
    · exact ⟨q', o, u, hA, hlo, hc.ty', h, hF _ _ hf⟩
    · refine ⟨q', o, x, hA, hlo, hc.ty', h, ?_⟩
      have := hx rfl
      rw [← hj, Nat.mul_comm, Nat.mul_add_mod] at this
      exact this
  · have hb := hc.block q' hq hty.lt
    exact ⟨q', o, u, hA, hlo, hty.keep hb, (World.cell?_of_block hb).trans hcell, hF _ _ hf⟩
theorem SlR.dw (h : SlR F t size M lo w v n) (hd : Dw g w w') (hg : g < lo) (hF : ∀ j u, F w j u → F w' j u) : SlR F t size M lo w' v n := by
  obtain ⟨hn, A, c, e, h1, h2, hh⟩ := h
  refine ⟨hn, A, c, e, h1, h2, fun i hi => ?_⟩
  obtain ⟨q', o, u, hA, hlo, hty, hcell, hf⟩ := hh i hi
  have hb := hd.block q' (by omega) hty.lt
  exact ⟨q', o, u, hA, hlo, hty.keep hb, (World.cell?_of_block hb).trans hcell, hF _ _ hf⟩
theorem SlR.imp (h : SlR F t size M lo w v n) (hF : ∀ j u, F w j u → G w j u) : SlR G t size M lo w v n := by
  obtain ⟨hn, A, c, e, h1, h2, hh⟩ := h
  refine ⟨hn, A, c, e, h1, h2, fun i hi => ?_⟩
  obtain ⟨q', o, u, hA, hlo, hty, hcell, hf⟩ := hh i hi
  exact ⟨q', o, u, hA, hlo, hty, hcell, hF _ _ hf⟩
theorem SlR.of_own {xs : List Value} (h : w.ownsRow lo t size v n xs) (hM : n ≤ M) (hF : ∀ i u, xs[i]? = some u → F w (i % size) u) : SlR F t size M lo w v n := by
  rcases h.2 with ⟨rfl, rfl⟩ | ⟨g, cap, cur, rfl, hg, hh, hn, hc, _⟩
  · exact .nil (Nat.zero_le _)
  · refine ⟨hM, _, _, rfl, hn, hc, fun i hi => ?_⟩
    have hi' : i < xs.length := by rw [h.1]; exact hi
    have := h.cells (g := g) rfl i xs[i] (List.getElem?_eq_getElem hi')
    have hp : ((⟨g, 0, none⟩ : Addr).add i) = ⟨g, 0 * size + i, none⟩ := by unfold Addr.add; split <;> simp_all
    rw [hp] at this
    exact ⟨g, 0, xs[i], by simp, hg, ⟨cur, hh⟩, this, hF i _ (List.getElem?_eq_getElem hi')⟩
theorem SlR.form (h : SlR F t size M lo w v n) : ∃ A c, v = .slice A n c := by obtain ⟨_, A, c, e, _⟩ := h; exact ⟨A, c, e⟩
theorem SlR.at_ {A : Option Addr} {c i : Nat} (h : SlR F t size M lo w (.slice A n c) n) (hi : i < n) (hs : 0 < size) : ∃ q o, A = some ⟨q, o * size, none⟩ ∧ lo ≤ q ∧ Ty w q t ∧ ∀ j, j < size → ∃ u, w.cell? ⟨q, (o + i) * size + j, none⟩ = some u ∧ F w j u := by
  obtain ⟨hn, A', c', e, h1, h2, hh⟩ := h
  cases e
  have hin : ∀ j, j < size → i * size + j < n * size := fun j hj => by
    have : (i + 1) * size ≤ n * size := Nat.mul_le_mul_right _ hi
    rw [Nat.succ_mul] at this; omega
  obtain ⟨q, o, u, hA, hlo, hty, _⟩ := hh (i * size + 0) (hin 0 hs)
  refine ⟨q, o, hA, hlo, hty, fun j hj => ?_⟩
  obtain ⟨q2, o2, u2, hA2, _, _, hcell, hf⟩ := hh (i * size + j) (hin j hj)
  rw [hA] at hA2
  injection hA2 with hA2; injection hA2 with e1 e2 _
  subst e1
  refine ⟨u2, ?_, ?_⟩
  · rw [Nat.add_mul, e2, Nat.add_assoc]; exact hcell
  · rw [Nat.mul_comm, Nat.mul_add_mod, Nat.mod_eq_of_lt hj] at hf; exact hf
theorem SlR.at2 {A : Option Addr} {c i : Nat} (h : SlR F t size M lo w (.slice A n c) n) (hi : i < n) (hs : 0 < size) : ∃ q B, A = some ⟨q, B, none⟩ ∧ B % size = 0 ∧ lo ≤ q ∧ Ty w q t ∧ ∀ j, j < size → ∃ u, w.cell? ⟨q, B + i * size + j, none⟩ = some u ∧ F w j u := by
  obtain ⟨q, o, h1, h2, h3, h4⟩ := h.at_ hi hs
  refine ⟨q, o * size, h1, Nat.mul_mod_left _ _, h2, h3, fun j hj => ?_⟩
  have := h4 j hj
  rw [Nat.add_mul] at this; exact this
theorem Ty.frozen (h : Ty w q t) (i : Nat) : w.frozen? ⟨q, i, none⟩ = false := by obtain ⟨cs, h⟩ := h; exact h.frozen i
theorem SlR.take {A : Option Addr} {c m : Nat} (h : SlR F t size M lo w (.slice A n c) n) (hm : m ≤ n) : SlR F t size M lo w (.slice A m c) m := by
  obtain ⟨hn, A', c', e, h1, h2, hh⟩ := h
  cases e
  exact ⟨by omega, A, c, rfl, by omega, h2, fun i hi => hh i (Nat.lt_of_lt_of_le hi (Nat.mul_le_mul_right _ hm))⟩
theorem SlR.tail {q o c : Nat} (h : SlR F t 1 M lo w (.slice (some ⟨q, o, none⟩) (n + 1) c) (n + 1)) (hF : ∀ j j' u, F w j u → F w j' u) : SlR F t 1 M lo w (.slice (some ⟨q, o + 1, none⟩) n (c - 1)) n := by
  obtain ⟨hn, A', c', e, h1, h2, hh⟩ := h
  cases e
  refine ⟨by omega, _, _, rfl, by omega, by omega, fun i hi => ?_⟩
  obtain ⟨q', o', u, hA, hlo, hty, hcell, hf⟩ := hh (i + 1) (by omega)
  injection hA with hA; injection hA with e1 e2 _
  subst e1
  exact ⟨q, o + 1, u, by simp, hlo, hty, by rw [Nat.mul_one, show o + 1 + i = o' * 1 + (i + 1) by omega]; exact hcell, hF _ _ _ hf⟩
end
theorem mkList {P : Nat → Value → Prop} : ∀ (m : Nat), (∀ k, k < m → ∃ u, P k u) → ∃ cs : List Value, cs.length = m ∧ ∀ k u, cs[k]? = some u → P k u := by
  intro m
  induction m with
  | zero => intro _; exact ⟨[], rfl, fun k u h => by simp at h⟩
  | succ m ih =>
    intro h
    obtain ⟨cs, h1, h2⟩ := ih fun k hk => h k (by omega)
    obtain ⟨u, hu⟩ := h m (by omega)
    refine ⟨cs ++ [u], by simp [h1], fun k y hy => ?_⟩
    rw [List.getElem?_append] at hy
    split at hy
    · exact h2 k y hy
    · next hk =>
      have hk2 : k - cs.length = 0 := by
        have := (List.getElem?_eq_some_iff.1 hy).1; simp at this; omega
      rw [hk2] at hy
      have : k = m := by omega
      subst this
      simp at hy; subst hy; exact hu
theorem mkList2 {α : Type} {P : Nat → α → Prop} : ∀ (m : Nat), (∀ k, k < m → ∃ u, P k u) → ∃ cs : List α, cs.length = m ∧ ∀ k (h : k < cs.length), P k cs[k] := by
  intro m
  induction m with
  | zero => intro _; exact ⟨[], rfl, fun k h => by simp at h⟩
  | succ m ih =>
    intro h
    obtain ⟨cs, h1, h2⟩ := ih fun k hk => h k (by omega)
    obtain ⟨u, hu⟩ := h m (by omega)
    refine ⟨cs ++ [u], by simp [h1], fun k hk => ?_⟩
    rw [List.getElem_append]
    split
    · exact h2 k _
    · next hlt =>
      have : k = m := by simp at hk; omega
      subst this
      simpa using hu
section
variable {F : World → Nat → Value → Prop} {t : TypeId} {size M lo n : Nat} {w : World} {v : Value}
theorem SlR.rl {α : Type} {R : World → Nat → Nat → List Value → α → Prop} {B : α → Prop} (h : SlR F t size M lo w v n) (hs : 0 < size) (hR : ∀ cs, cs.length = size → (∀ k u, cs[k]? = some u → F w k u) → ∃ x, R w lo w.heap.size cs x ∧ B x) : ∃ l : List α, l.length = n ∧ RL R size w lo w.heap.size v l ∧ ∀ x ∈ l, B x := by
  obtain ⟨A, c, rfl⟩ := h.form
  obtain ⟨hn, A', c', e, h1, h2, _⟩ := id h
  cases e
  have key : ∀ i, i < n → ∃ x : α, (∃ q o cs, A = some ⟨q, o, none⟩ ∧ (lo ≤ q ∧ q < w.heap.size) ∧ cs.length = size ∧ (∀ k u, cs[k]? = some u → w.cell? ⟨q, o + i * size + k, none⟩ = some u) ∧ R w lo w.heap.size cs x) ∧ B x := by
    intro i hi
    obtain ⟨q, o, hA, hlo, hty, hc⟩ := h.at_ hi hs
    obtain ⟨cs, hl, hcs⟩ := mkList size hc
    obtain ⟨x, hx, hB⟩ := hR cs hl fun k u hu => (hcs k u hu).2
    refine ⟨x, ⟨q, o * size, cs, hA, ⟨hlo, hty.lt⟩, hl, fun k u hu => ?_, hx⟩, hB⟩
    rw [← Nat.add_mul]; exact (hcs k u hu).1
  obtain ⟨l, hl, hx⟩ := mkList2 n key
  refine ⟨l, hl, ⟨A, c, by rw [hl], by omega, h2, fun i hi => (hx i hi).1⟩, fun x hm => ?_⟩
  obtain ⟨i, hi, rfl⟩ := List.mem_iff_getElem.1 hm
  exact (hx i hi).2
def isIF (_ : World) (_ : Nat) (u : Value) : Prop := isI u
theorem SlR.ints (h : SlR isIF t 1 M lo w v n) : ∃ b : List Int, b.length = n ∧ Rg w lo w.heap.size v b.length (icells .i64 b) := by
  obtain ⟨A, c, rfl⟩ := h.form
  obtain ⟨hn, A', c', e, h1, h2, hh⟩ := id h
  cases e
  obtain ⟨b, hl, hx⟩ := mkList2 (P := fun i (z : Int) => ∃ q o, A = some ⟨q, o, none⟩ ∧ (lo ≤ q ∧ q < w.heap.size) ∧ w.cell? ⟨q, o + i, none⟩ = some (.int .i64 z)) n (fun i hi => by
    obtain ⟨q, o, u, hA, hlo, hty, hc, z, rfl⟩ := hh i (by omega)
    exact ⟨z, q, o * 1, hA, ⟨hlo, hty.lt⟩, hc⟩)
  refine ⟨b, hl, A, c, by rw [hl], by omega, h2, fun j u hu => ?_⟩
  have hj := (List.getElem?_eq_some_iff.1 hu).1
  rw [icells_length] at hj
  rw [List.getElem?_eq_getElem (by rw [icells_length]; exact hj), icells_get _ _ hj] at hu
  cases hu
  exact hx j hj
theorem SlR.pairs (h : SlR isIF t 2 M lo w v n) : ∃ e : List P2, e.length = n ∧ Rg w lo w.heap.size v e.length (pcells e) := by
  obtain ⟨A, c, rfl⟩ := h.form
  obtain ⟨hn, A', c', e, h1, h2, hh⟩ := id h
  cases e
  obtain ⟨b, hl, hx⟩ := mkList2 (P := fun i (p : P2) => ∃ q o, A = some ⟨q, o, none⟩ ∧ (lo ≤ q ∧ q < w.heap.size) ∧ w.cell? ⟨q, o + i * 2, none⟩ = some (.int .i64 p.o) ∧ w.cell? ⟨q, o + (i * 2 + 1), none⟩ = some (.int .i64 p.n)) n (fun i hi => by
    obtain ⟨q, o, hA, hlo, hty, hc⟩ := h.at_ hi (by omega)
    obtain ⟨_, c0, z0, rfl⟩ := hc 0 (by omega)
    obtain ⟨_, c1, z1, rfl⟩ := hc 1 (by omega)
    refine ⟨⟨z0, z1⟩, q, o * 2, hA, ⟨hlo, hty.lt⟩, ?_, ?_⟩
    · rw [show o * 2 + i * 2 = (o + i) * 2 + 0 by omega]; exact c0
    · rw [show o * 2 + (i * 2 + 1) = (o + i) * 2 + 1 by omega]; exact c1)
  refine ⟨b, hl, A, c, by rw [hl], by omega, h2, fun j u hu => ?_⟩
  have hj := (List.getElem?_eq_some_iff.1 hu).1
  rw [pcells_length] at hj
  obtain ⟨q, o, hA, hb, k0, k1⟩ := hx (j / 2) (by omega)
  refine ⟨q, o, hA, hb, ?_⟩
  have hd : j = j / 2 * 2 ∨ j = j / 2 * 2 + 1 := by omega
  have hg := pcells_get b (j / 2) (by omega)
  rcases hd with hd | hd
  · have h3 := hg.1
    rw [← hd] at h3 k0
    rw [h3] at hu
    cases hu
    exact k0
  · have h3 := hg.2
    rw [← hd] at h3 k1
    rw [h3] at hu
    cases hu
    exact k1
end
end Go.Proofs.YtgkjakoagdkpcaaGreatDoor
set_option linter.unusedSimpArgs false
set_option linter.unusedVariables false
set_option maxRecDepth 100000
namespace Go.Proofs.YtgkjakoagdkpcaaGreatDoor
open Go.RowKit

/-- numbers, at most M, in a row of the call's own -/
def IntO (M lo : Nat) (w : World) (u : Value) : Prop := ∃ b : List Int, b.length ≤ M ∧ w.ownsRow lo 3 1 u b.length (icells .i64 b)
def IntR (M lo : Nat) (w : World) (u : Value) : Prop := ∃ n, SlR isIF 3 1 M lo w u n
theorem ints_of : ∀ (xs : List Value), (∀ u ∈ xs, isI u) → ∃ b : List Int, xs = icells .i64 b := by
  intro xs
  induction xs with
  | nil => intro _; exact ⟨[], rfl⟩
  | cons x xs ih =>
    intro h
    obtain ⟨z, rfl⟩ := h x (by simp)
    obtain ⟨b, rfl⟩ := ih fun u hu => h u (by simp [hu])
    exact ⟨z :: b, rfl⟩
theorem icells_isI (b : List Int) : ∀ u ∈ icells .i64 b, isI u := by
  intro u hu; obtain ⟨z, _, rfl⟩ := List.mem_map.1 hu; exact ⟨z, rfl⟩
theorem pcells_isI : ∀ (e : List P2), ∀ u ∈ pcells e, isI u := by
  intro e
  induction e with
  | nil => intro u h; simp [pcells] at h
  | cons t e ih =>
    intro u h
    rw [pcells_cons] at h
    rcases List.mem_cons.1 h with rfl | h
    · exact ⟨_, rfl⟩
    · rcases List.mem_cons.1 h with rfl | h
      · exact ⟨_, rfl⟩
      · exact ih u h
section
variable {t : TypeId} {M M' lo n q k g : Nat} {w w' : World} {u v x : Value}
theorem IntO.more (h : IntO M lo w u) (hM : M ≤ M') : IntO M' lo w u := by obtain ⟨b, hb, ho⟩ := h; exact ⟨b, by omega, ho⟩
theorem IntO.r (h : IntO M lo w u) : IntR M lo w u := by
  obtain ⟨b, hb, ho⟩ := h
  exact ⟨_, .of_own ho hb fun i y hy => icells_isI b y (List.mem_of_getElem? hy)⟩
theorem IntO.dw (h : IntO M lo w u) (hd : Dw g w w') (hg : g < lo) : IntO M lo w' u := by obtain ⟨b, hb, ho⟩ := h; exact ⟨b, hb, hd.own ho hg⟩
theorem IntO.chg (h : IntO M lo w u) (hc : Chg w w' q t k x) (hI : t = 3 → isI x) : IntO M lo w' u := by
  obtain ⟨b, hb, ho⟩ := h
  rcases id ho.2 with ⟨rfl, h0⟩ | ⟨g, cap, cur, rfl, hbg, hg, hnc, hcm, hcs, htake⟩
  · exact ⟨b, hb, ho.1, .inl ⟨rfl, h0⟩⟩
  · by_cases hq : g = q
    · subst hq
      have ht : t = 3 := hc.ty.inj ⟨cur, hg⟩
      obtain ⟨cs, cs', h1, h2, h3, h4⟩ := hc.arr
      have e : cs = cur := by
        have h5 : some (Obj.cells cs t (0, 0)) = some (Obj.cells cur 3 (0, 0)) := (show w.heap[g]? = _ from h1).symm.trans hg
        cases h5; rfl
      subst e
      subst ht
      obtain ⟨b', hb'⟩ := ints_of (cs'.toList.take (b.length * 1)) (fun y hy => by
        obtain ⟨j, hj, rfl⟩ := List.mem_iff_getElem.1 hy
        rw [List.getElem_take]
        simp only [List.length_take, Array.length_toList] at hj
        have hj2 : j < cs.size := by omega
        have hold : cs[j]? = some cs[j] := Array.getElem?_eq_getElem hj2
        have hI0 : isI cs[j] := by
          refine icells_isI b _ ?_
          rw [← htake]
          refine List.mem_iff_getElem.2 ⟨j, by simp; omega, ?_⟩
          rw [List.getElem_take, Array.getElem_toList]
        have hj3 : j < cs'.size := by omega
        rw [Array.getElem_toList]
        rcases h4 j _ hold with h | ⟨_, h⟩
        · rw [Array.getElem?_eq_getElem hj3] at h; injection h with h; rw [h]; exact hI0
        · rw [Array.getElem?_eq_getElem hj3] at h; injection h with h; rw [h]; exact hI rfl)
      have hl : b'.length = b.length := by
        have := congrArg List.length hb'
        simp only [List.length_take, Array.length_toList, icells_length] at this
        omega
      refine ⟨b', by omega, by rw [icells_length]; omega, .inr ⟨g, cap, cs', by rw [hl], hbg, h2, by omega, hcm, by omega, ?_⟩⟩
      rw [hl, hb']
    · exact ⟨b, hb, ho.1, .inr ⟨g, cap, cur, rfl, hbg, (hc.block g hq (Array.getElem?_eq_some_iff.1 hg).1).trans hg, hnc, hcm, hcs, htake⟩⟩
theorem IntR.chg (h : IntR M lo w u) (hc : Chg w w' q t k x) (hI : t = 3 → isI x) : IntR M lo w' u := by obtain ⟨n, h⟩ := h; exact ⟨n, h.chg hc (fun _ _ h => h) hI⟩
theorem IntR.dw (h : IntR M lo w u) (hd : Dw g w w') (hg : g < lo) : IntR M lo w' u := by obtain ⟨n, h⟩ := h; exact ⟨n, h.dw hd hg (fun _ _ h => h)⟩
end
/-- a statement's field, a function's -/
def StF (M lo : Nat) (w : World) (j : Nat) (u : Value) : Prop := (j ≤ 1 → isI u) ∧ (j = 2 → ∃ n, SlR isIF 142 2 15 lo w u n) ∧ (3 ≤ j → IntO M lo w u)
def FnF (M lo : Nat) (w : World) (j : Nat) (u : Value) : Prop := (j ≤ 1 → isI u) ∧ (j = 2 → IntR 3 lo w u) ∧ (3 ≤ j → ∃ n, SlR (StF M lo) 140 5 12 lo w u n)
def PgS (M lo : Nat) (w : World) (v : Value) (n : Nat) : Prop := SlR (FnF M lo) 135 4 5 lo w v n
section
variable {t : TypeId} {M lo n q k g j : Nat} {w w' : World} {u v x : Value}
theorem StF.int (z : Int) (hj : j ≤ 1) : StF M lo w j (.int .i64 z) := ⟨fun _ => ⟨z, rfl⟩, fun h => by omega, fun h => by omega⟩
theorem FnF.int (z : Int) (hj : j ≤ 1) : FnF M lo w j (.int .i64 z) := ⟨fun _ => ⟨z, rfl⟩, fun h => by omega, fun h => by omega⟩
theorem StF.more {M' : Nat} (h : StF M lo w j u) (hM : M ≤ M') : StF M' lo w j u := ⟨h.1, h.2.1, fun e => (h.2.2 e).more hM⟩
theorem FnF.more {M' : Nat} (h : FnF M lo w j u) (hM : M ≤ M') : FnF M' lo w j u := ⟨h.1, h.2.1, fun e => by obtain ⟨n, h⟩ := h.2.2 e; exact ⟨n, h.imp fun _ _ h => h.more hM⟩⟩
theorem PgS.more {M' : Nat} (h : PgS M lo w v n) (hM : M ≤ M') : PgS M' lo w v n := SlR.imp h fun _ _ h => h.more hM
theorem StF.chg (h : StF M lo w j u) (hc : Chg w w' q t k x) (hT : t = 142 → isI x) (hI : t = 3 → isI x) : StF M lo w' j u :=
  ⟨h.1, fun e => by obtain ⟨n, h⟩ := h.2.1 e; exact ⟨n, h.chg hc (fun _ _ h => h) hT⟩, fun e => (h.2.2 e).chg hc hI⟩
theorem StF.dw (h : StF M lo w j u) (hd : Dw g w w') (hg : g < lo) : StF M lo w' j u :=
  ⟨h.1, fun e => by obtain ⟨n, h⟩ := h.2.1 e; exact ⟨n, h.dw hd hg (fun _ _ h => h)⟩, fun e => (h.2.2 e).dw hd hg⟩
theorem FnF.chg (h : FnF M lo w j u) (hc : Chg w w' q t k x) (hT : t = 142 → isI x) (hI : t = 3 → isI x) (hS : t = 140 → StF M lo w' (k % 5) x) : FnF M lo w' j u :=
  ⟨h.1, fun e => (h.2.1 e).chg hc hI, fun e => by obtain ⟨n, h⟩ := h.2.2 e; exact ⟨n, h.chg hc (fun _ _ h => h.chg hc hT hI) hS⟩⟩
theorem FnF.dw (h : FnF M lo w j u) (hd : Dw g w w') (hg : g < lo) : FnF M lo w' j u :=
  ⟨h.1, fun e => (h.2.1 e).dw hd hg, fun e => by obtain ⟨n, h⟩ := h.2.2 e; exact ⟨n, h.dw hd hg (fun _ _ h => h.dw hd hg)⟩⟩
theorem PgS.chg (h : PgS M lo w v n) (hc : Chg w w' q t k x) (hT : t = 142 → isI x) (hI : t = 3 → isI x) (hS : t = 140 → StF M lo w' (k % 5) x) (hF : t = 135 → FnF M lo w' (k % 4) x) : PgS M lo w' v n :=
  SlR.chg h hc (fun _ _ h => h.chg hc hT hI hS) hF
theorem PgS.dw (h : PgS M lo w v n) (hd : Dw g w w') (hg : g < lo) : PgS M lo w' v n := SlR.dw h hd hg fun _ _ h => h.dw hd hg
/-- a number is stored into a statement; into a function -/
theorem PgS.setS (h : PgS M lo w v n) (ht : Ty w q 140) (k : Nat) (hk : k % 5 ≤ 1) (z : Int) : PgS M lo (w.setCell ⟨q, k, none⟩ (.int .i64 z)) v n :=
  h.chg (Chg.set ht k _) (fun _ => ⟨z, rfl⟩) (fun _ => ⟨z, rfl⟩) (fun _ => .int z hk) (fun e => absurd e (by decide))
theorem PgS.setF (h : PgS M lo w v n) (ht : Ty w q 135) (k : Nat) (hk : k % 4 ≤ 1) (z : Int) : PgS M lo (w.setCell ⟨q, k, none⟩ (.int .i64 z)) v n :=
  h.chg (Chg.set ht k _) (fun _ => ⟨z, rfl⟩) (fun _ => ⟨z, rfl⟩) (fun e => absurd e (by decide)) (fun _ => .int z hk)
theorem PgS.setB (h : PgS M lo w v n) (ht : Ty w q 135) (k : Nat) (hk : k % 4 = 2) (hx : IntR 3 lo w x) : PgS M lo (w.setCell ⟨q, k, none⟩ x) v n :=
  have hc := Chg.set ht k x
  h.chg hc (fun e => absurd e (by decide)) (fun e => absurd e (by decide)) (fun e => absurd e (by decide)) (fun _ => ⟨fun e => by omega, fun _ => hx.chg hc (fun e => absurd e (by decide)), fun e => by omega⟩)
theorem PgS.setT (h : PgS M lo w v n) (ht : Ty w q 140) (k : Nat) (hk : 3 ≤ k % 5) (hx : IntO M lo w x) : PgS M lo (w.setCell ⟨q, k, none⟩ x) v n :=
  have hc := Chg.set ht k x
  h.chg hc (fun e => absurd e (by decide)) (fun e => absurd e (by decide)) (fun _ => ⟨fun e => by omega, fun e => by omega, fun _ => hx.chg hc (fun e => absurd e (by decide))⟩) (fun e => absurd e (by decide))
theorem PgS.pushI (h : PgS M lo w v n) (hg : g < lo) {z : Int} (hc : (∃ q, lo ≤ q ∧ Chg w w' q 3 k (.int .i64 z)) ∨ Below w.heap.size w w') : PgS M lo w' v n := by
  rcases hc with ⟨q, _, hc⟩ | hc
  · exact h.chg hc (fun _ => ⟨z, rfl⟩) (fun _ => ⟨z, rfl⟩) (fun e => absurd e (by decide)) (fun e => absurd e (by decide))
  · exact h.dw (g := g) (.of hc) hg
end
theorem flat_field {css : List (List Value)} {size : Nat} (hs : ∀ x ∈ css, x.length = size) (h0 : 0 < size) {i : Nat} {u : Value} (h : css.flatten[i]? = some u) : ∃ (k : Nat) (hk : k < css.length), css[k][i % size]? = some u := by
  have hl := flatten_length hs
  have hi := (List.getElem?_eq_some_iff.1 h).1
  rw [hl] at hi
  have hk : i / size < css.length := Nat.div_lt_of_lt_mul (by rw [Nat.mul_comm]; exact hi)
  have hm := Nat.mod_lt i h0
  refine ⟨i / size, hk, ?_⟩
  have := flatten_get hs (i / size) (i % size) hk hm
  rw [Nat.div_add_mod' i size, h, List.getElem?_eq_getElem hk] at this
  exact this.symm
theorem PrgD.shape {g : Nat} {w : World} {pv : Value} {fs : List FuncM} (h : PrgD g w pv fs) : PgS 3 (g + 1) w pv fs.length := by
  obtain ⟨css, h1, h2, h3⟩ := h.row
  have h4 : ∀ x ∈ css, x.length = 4 := by
    intro x hx
    obtain ⟨i, hi, rfl⟩ := List.mem_iff_getElem.1 hx
    obtain ⟨_, _, e, _⟩ := h3 i (by omega) hi
    rw [e]; rfl
  refine SlR.of_own h2 h.len.2 fun i u hu => ?_
  obtain ⟨k, hk, hu⟩ := flat_field h4 (by omega) hu
  have hk2 : k < fs.length := by omega
  obtain ⟨bv, v, e, hb, hv⟩ := h3 k hk2 hk
  obtain ⟨b1, b2, b3, _⟩ := h.ok fs[k] (List.getElem_mem hk2)
  rw [e] at hu
  have hm := Nat.mod_lt i (show 0 < 4 by omega)
  generalize i % 4 = j at *
  obtain rfl | rfl | rfl | rfl : j = 0 ∨ j = 1 ∨ j = 2 ∨ j = 3 := by omega
  · cases hu; exact .int _ (by omega)
  · cases hu; exact .int _ (by omega)
  · cases hu
    exact ⟨fun e => by omega, fun _ => IntO.r ⟨_, b3, hb⟩, fun e => by omega⟩
  · cases hu
    refine ⟨fun e => by omega, fun e => by omega, fun _ => ⟨fs[k].qStmts.length, ?_⟩⟩
    obtain ⟨ss, s1, s2, s3⟩ := hv
    have s5 := FRow.five s1 s3
    refine SlR.of_own s2 b1 fun i u hu => ?_
    obtain ⟨k2, hk2, hu⟩ := flat_field s5 (by omega) hu
    have hk3 : k2 < fs[k].qStmts.length := by omega
    obtain ⟨x2, x3, x4, e, r1, r2, r3⟩ := s3 k2 hk3 hk2
    obtain ⟨c1, c2, c3⟩ := b2 (fs[k].qStmts[k2]) (List.getElem_mem hk3)
    rw [e] at hu
    have hm := Nat.mod_lt i (show 0 < 5 by omega)
    generalize i % 5 = j at *
    obtain rfl | rfl | rfl | rfl | rfl : j = 0 ∨ j = 1 ∨ j = 2 ∨ j = 3 ∨ j = 4 := by omega
    · cases hu; exact .int _ (by omega)
    · cases hu; exact .int _ (by omega)
    · cases hu
      exact ⟨fun e => by omega, fun _ => ⟨_, .of_own r1.own c1 fun i y hy => pcells_isI _ y (List.mem_of_getElem? hy)⟩, fun e => by omega⟩
    · cases hu
      exact ⟨fun e => by omega, fun e => by omega, fun _ => ⟨_, by omega, r2.own⟩⟩
    · cases hu
      exact ⟨fun e => by omega, fun e => by omega, fun _ => ⟨_, by omega, r3.own⟩⟩
theorem five_of {cs : List Value} (h : cs.length = 5) : ∃ a b c d e, cs = [a, b, c, d, e] := by
  match cs, h with
  | [a, b, c, d, e], _ => exact ⟨a, b, c, d, e, rfl⟩
theorem four_of {cs : List Value} (h : cs.length = 4) : ∃ a b c d, cs = [a, b, c, d] := by
  match cs, h with
  | [a, b, c, d], _ => exact ⟨a, b, c, d, rfl⟩
theorem szStmtsL_le {B : Nat} : ∀ (l : List StmtM), (∀ s ∈ l, szStmtN s ≤ B) → szStmtsL l ≤ l.length * B := by
  intro l
  induction l with
  | nil => intro _; simp [szStmtsL]
  | cons s l ih =>
    intro h
    have h1 := h s (by simp)
    have h2 := ih fun x hx => h x (by simp [hx])
    simp only [szStmtsL, List.length_cons, Nat.succ_mul]; omega
theorem szFuncsL_le {B : Nat} : ∀ (l : List FuncM), (∀ s ∈ l, szFuncN s ≤ B) → szFuncsL l ≤ l.length * B := by
  intro l
  induction l with
  | nil => intro _; simp [szFuncsL]
  | cons s l ih =>
    intro h
    have h1 := h s (by simp)
    have h2 := ih fun x hx => h x (by simp [hx])
    simp only [szFuncsL, List.length_cons, Nat.succ_mul]; omega
section
variable {M lo n : Nat} {w : World} {v : Value}
theorem StF.r (hM : M ≤ 4) {cs : List Value} (hl : cs.length = 5) (h : ∀ k u, cs[k]? = some u → StF M lo w k u) : ∃ m : StmtM, RStmt w lo w.heap.size cs m ∧ szStmtN m ≤ 23 := by
  obtain ⟨a, b, c, d, e, rfl⟩ := five_of hl
  obtain ⟨z0, rfl⟩ := (h 0 a rfl).1 (by omega)
  obtain ⟨z1, rfl⟩ := (h 1 b rfl).1 (by omega)
  obtain ⟨n2, h2⟩ := (h 2 c rfl).2.1 rfl
  obtain ⟨b3, l3, h3⟩ := (h 3 d rfl).2.2 (by omega)
  obtain ⟨b4, l4, h4⟩ := (h 4 e rfl).2.2 (by omega)
  have hn2 := h2.1
  obtain ⟨ex, hle, hr⟩ := h2.pairs
  exact ⟨⟨z0, z1, ex, b3, b4⟩, ⟨c, d, e, rfl, hr, Rg.of_own h3 |>.more (Nat.le_refl _) (Nat.le_refl _), Rg.of_own h4⟩, by unfold szStmtN; simp only; omega⟩
theorem FnF.r (hM : M ≤ 4) {cs : List Value} (hl : cs.length = 4) (h : ∀ k u, cs[k]? = some u → FnF M lo w k u) : ∃ m : FuncM, RFunc w lo w.heap.size cs m ∧ szFuncN m ≤ 291 := by
  obtain ⟨a, b, c, d, rfl⟩ := four_of hl
  obtain ⟨z0, rfl⟩ := (h 0 a rfl).1 (by omega)
  obtain ⟨z1, rfl⟩ := (h 1 b rfl).1 (by omega)
  obtain ⟨n2, h2⟩ := (h 2 c rfl).2.1 rfl
  obtain ⟨n3, h3⟩ := (h 3 d rfl).2.2 (by omega)
  have hn2 := h2.1; have hn3 := h3.1
  obtain ⟨bd, hle, hr⟩ := h2.ints
  obtain ⟨L, hL, hrl, hB⟩ := h3.rl (R := RStmt) (B := fun m => szStmtN m ≤ 23) (by omega) fun cs hl h => StF.r hM hl h
  refine ⟨⟨z0, z1, bd, L⟩, ⟨c, d, rfl, hr, hrl⟩, ?_⟩
  have := szStmtsL_le L hB
  have h5 : L.length * 23 ≤ 12 * 23 := Nat.mul_le_mul_right _ (by omega)
  unfold szFuncN szStmtsN; simp only; omega
theorem PgS.r (hM : M ≤ 4) (h : PgS M lo w v n) : ∃ fs : List FuncM, fs.length = n ∧ RL RFunc 4 w lo w.heap.size v fs ∧ szFuncsN fs ≤ 1500 := by
  have hn := h.1
  obtain ⟨L, hL, hrl, hB⟩ := SlR.rl (R := RFunc) (B := fun m => szFuncN m ≤ 291) h (by omega) fun cs hl h => FnF.r hM hl h
  refine ⟨L, hL, hrl, ?_⟩
  have := szFuncsL_le L hB
  have h5 : L.length * 291 ≤ 5 * 291 := Nat.mul_le_mul_right _ (by omega)
  unfold szFuncsN; omega
end
end Go.Proofs.YtgkjakoagdkpcaaGreatDoor
set_option linter.unusedSimpArgs false
set_option linter.unusedVariables false
set_option maxRecDepth 100000
namespace Go.Proofs.YtgkjakoagdkpcaaGreatDoor
open Go.RowKit

/-- a result is stored into its cell -/
theorem PrgP.store {g : Nat} {A : Option Addr} {c : Nat} {zs : List Int} {K K' : Nat} {w W : World} {pv : Value} {fs : List FuncM} (hD : PrgD g W pv fs) (hc : Cur g A c zs K W) (hd : Dw g w W) (hr : Bk W w.heap.size 103 #[.slice none 0 0]) (hg : g < w.heap.size) (hK : K ≤ K' + 200000) :
    PrgP g A c zs K' w (.returned (.agg #[pv])) (W.setCell ⟨w.heap.size, 0, none⟩ pv) := by
  have hB : Below w.heap.size W (W.setCell ⟨w.heap.size, 0, none⟩ pv) := ⟨rfl, rfl, rfl, by rw [World.size_setCell]; exact Nat.le_refl _, fun k hk => Below.heap_setCell _ _ _ _ (by show k ≠ w.heap.size; omega)⟩
  exact ⟨_, _, rfl, ⟨hD.row.setp hr 0 _, hD.good, hD.len, hD.ok⟩, (hc.more hK).keepG2 hB hg, hd.belowW hB (Nat.le_refl _)⟩
theorem PrgD.form {g : Nat} {W : World} {pv : Value} {fs : List FuncM} (h : PrgD g W pv fs) : ∃ pA pc, pv = .slice pA fs.length pc := by
  obtain ⟨x, ho⟩ := h.row.own
  exact own_form ho
def PrgQ (g : Nat) (A : Option Addr) (c : Nat) (zs : List Int) (K : Nat) (w : World) (e : Ending) (w' : World) : Prop := ∃ (pA : Option Addr) (pc : Nat) (fs : List FuncM), e = .returned (.agg #[.slice pA fs.length pc]) ∧ PrgD g w' (.slice pA fs.length pc) fs ∧ Cur g A c zs (K + 200002) w' ∧ Dw g w w'
theorem PrgP.q {g : Nat} {A : Option Addr} {c : Nat} {zs : List Int} {K K' : Nat} {w w' : World} {e : Ending} (h : PrgP g A c zs K w e w') (hK : K ≤ K' + 2) : PrgQ g A c zs K' w e w' := by
  obtain ⟨pv, fs, rfl, hD, hc, hd⟩ := h
  obtain ⟨pA, pc, rfl⟩ := hD.form
  exact ⟨pA, pc, fs, rfl, hD, hc.more (by omega), hd⟩
set_option maxHeartbeats 1600000 in
theorem cur_program (g : Nat) (A : Option Addr) (c : Nat) (zs : List Int) (K : Nat) (w : World) (hc : Cur g A c zs K w) (hK : K ≤ 90000000000000000) :
    Calls Tryz.prog 87 #[.pointer (some ⟨g, 0, none⟩)] w (PrgQ g A c zs K w) := by
  have hgl := hc.lt
  have Hc := hide (hc.below ((Below.refl w.heap.size w).alloc (Nat.le_refl _) (.cells #[.slice none 0 0] 103)))
  have Hr := hide (Bk.new w 103 #[.slice none 0 0])
  have Hd := hide ((Dw.refl g w).alloc (.cells #[.slice none 0 0] 103))
  clear hc
  go_enter Tryz.func87, Tryz.ntmps87
  go_upto_if 4 with (go_at_call 68; go_must (refine (cur_one g A c zs _ _ _ Hc.out (by omega) (by omega)).mono ?_); rintro e w1 ⟨b1, rfl, hc1, hd1⟩; have Hr := hide (hd1.bk Hr.out (by omega)); have Hd := hide (Hd.out.trans hd1); have Hc := hide hc1; clear hc1 hd1)
  cases b1
  · go_wp2_with (go_at_call 105; go_must (refine (cur_prog g A c zs _ _ Hc.out (by omega)).mono ?_); rintro e w2 ⟨pv, fs, rfl, hD, hc1, hd1⟩; obtain ⟨pA, pc, rfl⟩ := hD.form; have HD := hide hD; have Hr := hide (hd1.bk Hr.out (by omega)); have Hd := hide (Hd.out.trans hd1); have Hc := hide hc1; have r0 := Hr.out.cell 0; have ry := Hr.out.frozen 0; have rl := Hr.out.lt; clear hD hc1 hd1)
    refine bodyPost_ret (v := .agg #[.slice pA fs.length pc]) ?_ rfl ((PrgP.store (K' := K + 2) HD.out Hc.out Hd.out Hr.out hgl (by omega)).q (by omega))
    simp [results, Tryz.results87, go_sem, r0, rl]; done
  · go_wp2_with (go_at_call 104; go_must (refine (cur_known g A c zs _ _ Hc.out (by omega)).mono ?_); rintro e w2 ⟨pv, fs, rfl, hD, hc1, hd1⟩; obtain ⟨pA, pc, rfl⟩ := hD.form; have HD := hide hD; have Hr := hide (hd1.bk Hr.out (by omega)); have Hd := hide (Hd.out.trans hd1); have Hc := hide hc1; have r0 := Hr.out.cell 0; have ry := Hr.out.frozen 0; have rl := Hr.out.lt; clear hD hc1 hd1)
    refine bodyPost_ret (v := .agg #[.slice pA fs.length pc]) ?_ rfl ((PrgP.store (K' := K + 2) HD.out Hc.out Hd.out Hr.out hgl (by omega)).q (by omega))
    simp [results, Tryz.results87, go_sem, r0, rl]; done
end Go.Proofs.YtgkjakoagdkpcaaGreatDoor
set_option linter.unusedSimpArgs false
set_option linter.unusedVariables false
set_option maxRecDepth 100000
namespace Go.Proofs.YtgkjakoagdkpcaaGreatDoor
open Go.RowKit

/-- a function's cells, a statement's -/
structure FnA (g q B : Nat) (P V : Int) (bv sv : Value) (W : World) : Prop where
  gt : g < q
  ty : Ty W q 135
  c0 : W.cell? ⟨q, B, none⟩ = some (.int .i64 P)
  c1 : W.cell? ⟨q, B + 1, none⟩ = some (.int .i64 V)
  c2 : W.cell? ⟨q, B + 2, none⟩ = some bv
  c3 : W.cell? ⟨q, B + 3, none⟩ = some sv
structure StA (g q B : Nat) (k n : Int) (v2 v3 v4 : Value) (W : World) : Prop where
  gt : g < q
  ty : Ty W q 140
  c0 : W.cell? ⟨q, B, none⟩ = some (.int .i64 k)
  c1 : W.cell? ⟨q, B + 1, none⟩ = some (.int .i64 n)
  c2 : W.cell? ⟨q, B + 2, none⟩ = some v2
  c3 : W.cell? ⟨q, B + 3, none⟩ = some v3
  c4 : W.cell? ⟨q, B + 4, none⟩ = some v4
section
variable {g q B : Nat} {P V k n : Int} {bv sv v2 v3 v4 : Value} {W W' : World}
theorem dw_cell (hd : Dw g W W') {u : Value} {i : Nat} (hq : g < q) (hl : q < W.heap.size) (h : W.cell? ⟨q, i, none⟩ = some u) : W'.cell? ⟨q, i, none⟩ = some u := (World.cell?_of_block (hd.block q (by omega) hl)).trans h
theorem FnA.dw (h : FnA g q B P V bv sv W) (hd : Dw g W W') : FnA g q B P V bv sv W' :=
  have hl := h.ty.lt
  ⟨h.gt, h.ty.keep (hd.block q (by have := h.gt; omega) hl), dw_cell hd h.gt hl h.c0, dw_cell hd h.gt hl h.c1, dw_cell hd h.gt hl h.c2, dw_cell hd h.gt hl h.c3⟩
theorem StA.dw (h : StA g q B k n v2 v3 v4 W) (hd : Dw g W W') : StA g q B k n v2 v3 v4 W' :=
  have hl := h.ty.lt
  ⟨h.gt, h.ty.keep (hd.block q (by have := h.gt; omega) hl), dw_cell hd h.gt hl h.c0, dw_cell hd h.gt hl h.c1, dw_cell hd h.gt hl h.c2, dw_cell hd h.gt hl h.c3, dw_cell hd h.gt hl h.c4⟩
end
theorem row_cell {w : World} {base n size q cap : Nat} {e : TypeId} {css : List (List Value)} (ho : w.ownsRow base e size (.slice (some ⟨q, 0, none⟩) n cap) n css.flatten) (hs : ∀ x ∈ css, x.length = size) {i j : Nat} {u : Value} (hi : i < css.length) (hj : j < size) (hu : css[i][j]? = some u) : w.cell? ⟨q, i * size + j, none⟩ = some u := by
  have h1 := flatten_get hs i j hi hj
  rw [List.getElem?_eq_getElem hi] at h1
  have h2 := ho.cells (g := q) rfl (i * size + j) u (h1.trans hu)
  have hp : ((⟨q, 0, none⟩ : Addr).add (i * size + j)) = ⟨q, i * size + j, none⟩ := by unfold Addr.add; split <;> simp_all
  rw [hp] at h2
  exact h2
theorem PRow.four {g : Nat} {v : Value} {w : World} {fs : List FuncM} {css : List (List Value)} (h1 : css.length = fs.length) (h3 : ∀ i (h : i < fs.length) (h' : i < css.length), FnC g w css[i] fs[i]) : ∀ x ∈ css, x.length = 4 := by
  intro x hx
  obtain ⟨i, hi, rfl⟩ := List.mem_iff_getElem.1 hx
  obtain ⟨_, _, e, _⟩ := h3 i (by omega) hi
  rw [e]; rfl
theorem PrgD.dw {g : Nat} {W W' : World} {pv : Value} {fs : List FuncM} (h : PrgD g W pv fs) (hd : Dw g W W') : PrgD g W' pv fs := ⟨h.row.dw hd, h.good, h.len, h.ok⟩
theorem dw_drew {g : Nat} {W W' : World} (hd : Dw g W.drew W') : Dw g W W' := (Dw.of (Below.refl _ _).drew).trans hd
theorem PrgD.first {g : Nat} {W : World} {pA : Option Addr} {pc : Nat} {fs : List FuncM} (h : PrgD g W (.slice pA fs.length pc) fs) : ∃ q, pA = some ⟨q, 0, none⟩ ∧ g < q ∧ q < W.heap.size ∧ fs.length ≤ pc := by
  obtain ⟨css, h1, h2, h3⟩ := h.row
  rcases h2.2 with ⟨e, h0⟩ | ⟨q, cap, cur, e, hq, hh, hn, _⟩
  · have := h.len.1; omega
  · cases e; exact ⟨q, rfl, hq, (Array.getElem?_eq_some_iff.1 hh).1, hn⟩
theorem PrgD.fn {g q : Nat} {W : World} {pc x : Nat} {fs : List FuncM} (h : PrgD g W (.slice (some ⟨q, 0, none⟩) fs.length pc) fs) (hx : x < fs.length) : ∃ bv v, FnA g q (x * 4) fs[x].qParams fs[x].qVars bv v W ∧ W.ownsRow (g + 1) 3 1 bv fs[x].qBody.length (icells .i64 fs[x].qBody) ∧ FRow NoX g v W fs[x].qStmts := by
  obtain ⟨css, h1, h2, h3⟩ := h.row
  have h4 := PRow.four (v := .slice none 0 0) h1 h3
  have hx' : x < css.length := by omega
  obtain ⟨bv, v, e, hb, hv⟩ := h3 x hx hx'
  have hty : Ty W q 135 := by
    rcases h2.2 with ⟨e, _⟩ | ⟨q', cap, cur, e, hq, hh, hn, _⟩
    · cases e
    · cases e; exact ⟨cur, hh⟩
  refine ⟨bv, v, ⟨(h2.lt q rfl).1, hty, ?_, ?_, ?_, ?_⟩, hb, hv⟩
  · exact row_cell (j := 0) h2 h4 hx' (by omega) (by rw [e]; rfl)
  · exact row_cell (j := 1) h2 h4 hx' (by omega) (by rw [e]; rfl)
  · exact row_cell (j := 2) h2 h4 hx' (by omega) (by rw [e]; rfl)
  · exact row_cell (j := 3) h2 h4 hx' (by omega) (by rw [e]; rfl)
theorem FRow.first {X : Nat → Prop} {fb : Nat} {v : Value} {W : World} {L : List StmtM} (h : FRow X fb v W L) (h0 : 0 < L.length) : ∃ q c, v = .slice (some ⟨q, 0, none⟩) L.length c ∧ fb < q ∧ q < W.heap.size ∧ L.length ≤ c := by
  obtain ⟨css, h1, h2, h3⟩ := h
  rcases h2.2 with ⟨e, h0⟩ | ⟨q, cap, cur, e, hq, hh, hn, _⟩
  · omega
  · exact ⟨q, cap, e, hq, (Array.getElem?_eq_some_iff.1 hh).1, hn⟩
theorem FRow.st {fb q c y : Nat} {W : World} {L : List StmtM} (h : FRow NoX fb (.slice (some ⟨q, 0, none⟩) L.length c) W L) (hy : y < L.length) : ∃ v2 v3 v4, StA fb q (y * 5) L[y].qKind L[y].qN v2 v3 v4 W ∧ W.ownsRow (fb + 1) 3 1 v3 L[y].qThen.length (icells .i64 L[y].qThen) := by
  obtain ⟨css, h1, h2, h3⟩ := h
  have h5 := FRow.five h1 h3
  have hy' : y < css.length := by omega
  obtain ⟨v2, v3, v4, e, r1, r2, r3⟩ := h3 y hy hy'
  have hty : Ty W q 140 := by
    rcases h2.2 with ⟨e, _⟩ | ⟨q', cap, cur, e, hq, hh, hn, _⟩
    · cases e
    · cases e; exact ⟨cur, hh⟩
  refine ⟨v2, v3, v4, ⟨(h2.lt q rfl).1, hty, ?_, ?_, ?_, ?_, ?_⟩, r2.own⟩
  · exact row_cell (j := 0) h2 h5 hy' (by omega) (by rw [e]; rfl)
  · exact row_cell (j := 1) h2 h5 hy' (by omega) (by rw [e]; rfl)
  · exact row_cell (j := 2) h2 h5 hy' (by omega) (by rw [e]; rfl)
  · exact row_cell (j := 3) h2 h5 hy' (by omega) (by rw [e]; rfl)
  · exact row_cell (j := 4) h2 h5 hy' (by omega) (by rw [e]; rfl)
theorem own_tail {lo qb bc : Nat} {W : World} {b : List Int} (ho : W.ownsRow lo 3 1 (.slice (some ⟨qb, 0, none⟩) b.length bc) b.length (icells .i64 b)) (h1 : 1 ≤ b.length) (h3 : b.length ≤ 3) : IntR 3 lo W (.slice (some ⟨qb, 1, none⟩) (b.length - 1) (bc - 1)) ∧ (bc = 1 → IntR 3 lo W (.slice (some ⟨qb, 0, none⟩) (b.length - 1) 0)) := by
  have h : SlR isIF 3 1 3 lo W (.slice (some ⟨qb, 0, none⟩) b.length bc) b.length := .of_own ho h3 fun i y hy => icells_isI b y (List.mem_of_getElem? hy)
  constructor
  · obtain ⟨n, hn⟩ : ∃ n, b.length = n + 1 := ⟨b.length - 1, by omega⟩
    rw [hn] at h ⊢
    exact ⟨n, h.tail fun _ _ _ h => h⟩
  · intro e
    obtain ⟨_, A, c, e2, hc, _⟩ := h
    cases e2
    have : b.length - 1 = 0 := by omega
    rw [this]
    exact ⟨0, by omega, _, _, rfl, Nat.le_refl _, by unfold maxLen; omega, fun i hi => by omega⟩
/-- the state of the draw: the program is of the shape; h: where it is kept -/
structure AnS (M g : Nat) (A : Option Addr) (c : Nat) (zs : List Int) (w : World) (K h : Nat) (pv : Value) (n : Nat) (W : World) : Prop where
  cur : Cur g A c zs K W
  dw : Dw g w W
  hw : w.heap.size = g + 1
  res : Bk W w.heap.size 103 #[.slice none 0 0]
  p : Bk W h 103 #[pv]
  lt : w.heap.size < h
  sh : PgS M (g + 1) W pv n
section
variable {M g : Nat} {A : Option Addr} {c : Nat} {zs : List Int} {w : World} {K K' h : Nat} {pv x : Value} {n q k : Nat} {t : TypeId} {W W' : World}
theorem AnS.step (H : AnS M g A c zs w K h pv n W) (hc : Cur g A c zs K' W') (hd : Dw g W W') : AnS M g A c zs w K' h pv n W' := by
  have := H.hw; have := H.lt
  exact ⟨hc, H.dw.trans hd, H.hw, hd.bk H.res (by omega), hd.bk H.p (by omega), H.lt, H.sh.dw hd (Nat.lt_succ_self _)⟩
theorem AnS.more {M' : Nat} (H : AnS M g A c zs w K h pv n W) (hM : M ≤ M') (hK : K ≤ K') : AnS M' g A c zs w K' h pv n W := ⟨H.cur.more hK, H.dw, H.hw, H.res, H.p, H.lt, H.sh.more hM⟩
theorem AnS.drw (H : AnS M g A c zs w K h pv n W) : AnS M g A c zs w K h pv n W.drew := H.step (H.cur.below (Below.refl _ _).drew) (.of (Below.refl _ _).drew)
theorem AnS.chg {M' : Nat} (H : AnS M g A c zs w K h pv n W) (hc : Chg W W' q t k x) (ht : t ≠ 103) (hq : g < q) (hs : PgS M' (g + 1) W' pv n) : AnS M' g A c zs w K h pv n W' := by
  have hne : ∀ {j : Nat} {cs : Array Value}, Bk W j 103 cs → j ≠ q := fun hb e => by subst e; exact ht (hc.ty.inj ⟨_, hb⟩)
  exact ⟨hc.cur H.cur hq, H.dw.belowW (hc.below (Nat.le_refl _)) (by have := H.hw; omega), H.hw, hc.bk H.res (hne H.res), hc.bk H.p (hne H.p), H.lt, hs⟩
theorem AnS.setS (H : AnS M g A c zs w K h pv n W) (ht : Ty W q 140) (hq : g < q) (k : Nat) (hk : k % 5 ≤ 1) (z : Int) : AnS M g A c zs w K h pv n (W.setCell ⟨q, k, none⟩ (.int .i64 z)) := H.chg (Chg.set ht k _) (by decide) hq (H.sh.setS ht k hk z)
theorem AnS.setF (H : AnS M g A c zs w K h pv n W) (ht : Ty W q 135) (hq : g < q) (k : Nat) (hk : k % 4 ≤ 1) (z : Int) : AnS M g A c zs w K h pv n (W.setCell ⟨q, k, none⟩ (.int .i64 z)) := H.chg (Chg.set ht k _) (by decide) hq (H.sh.setF ht k hk z)
theorem AnS.setB (H : AnS M g A c zs w K h pv n W) (ht : Ty W q 135) (hq : g < q) (k : Nat) (hk : k % 4 = 2) (hx : IntR 3 (g + 1) W x) : AnS M g A c zs w K h pv n (W.setCell ⟨q, k, none⟩ x) := H.chg (Chg.set ht k _) (by decide) hq (H.sh.setB ht k hk hx)
theorem AnS.setT (H : AnS M g A c zs w K h pv n W) (ht : Ty W q 140) (hq : g < q) (k : Nat) (hk : 3 ≤ k % 5) (hx : IntO M (g + 1) W x) : AnS M g A c zs w K h pv n (W.setCell ⟨q, k, none⟩ x) := H.chg (Chg.set ht k _) (by decide) hq (H.sh.setT ht k hk hx)
theorem AnS.pushI (H : AnS M g A c zs w K h pv n W) {z : Int} (hc : (∃ q, g + 1 ≤ q ∧ Chg W W' q 3 k (.int .i64 z)) ∨ Below W.heap.size W W') : AnS M g A c zs w K h pv n W' := by
  have hs := H.sh.pushI (Nat.lt_succ_self g) hc
  rcases hc with ⟨q, hq, hc⟩ | hc
  · exact H.chg hc (by decide) hq hs
  · exact H.step (H.cur.below hc) (.of hc)
theorem Ty.pushI {z : Int} {q2 : Nat} (H : Ty W q t) (hc : (∃ q, g + 1 ≤ q ∧ Chg W W' q q2 k (.int .i64 z)) ∨ Below W.heap.size W W') (hne : t ≠ q2) : Ty W' q t := by
  rcases hc with ⟨q', hq, hc⟩ | hc
  · refine H.keep (hc.block q (fun e => ?_) H.lt)
    subst e; exact hne (H.inj hc.ty)
  · exact H.keep (hc.block q H.lt)
theorem StA.pushI {z : Int} {B : Nat} {kk nn : Int} {v2 v3 v4 : Value} (H : StA g q B kk nn v2 v3 v4 W) (hc : (∃ q, g + 1 ≤ q ∧ Chg W W' q 3 k (.int .i64 z)) ∨ Below W.heap.size W W') : StA g q B kk nn v2 v3 v4 W' := by
  have hb : W'.heap[q]? = W.heap[q]? := by
    rcases hc with ⟨q', hq, hc⟩ | hc
    · refine hc.block q (fun e => ?_) H.ty.lt
      subst e; exact absurd (H.ty.inj hc.ty) (by decide)
    · exact hc.block q H.ty.lt
  have hcell : ∀ {i : Nat} {u : Value}, W.cell? ⟨q, i, none⟩ = some u → W'.cell? ⟨q, i, none⟩ = some u := fun h => (World.cell?_of_block hb).trans h
  exact ⟨H.gt, H.ty.keep hb, hcell H.c0, hcell H.c1, hcell H.c2, hcell H.c3, hcell H.c4⟩
end
end Go.Proofs.YtgkjakoagdkpcaaGreatDoor
set_option linter.unusedSimpArgs false
set_option linter.unusedVariables false
set_option maxRecDepth 100000
namespace Go.Proofs.YtgkjakoagdkpcaaGreatDoor
open Go.RowKit

def AnyP (g : Nat) (A : Option Addr) (c : Nat) (zs : List Int) (K : Nat) (w : World) (e : Ending) (w' : World) : Prop := ∃ (pA : Option Addr) (pc n : Nat), e = .returned (.agg #[.slice pA n pc]) ∧ (1 ≤ n ∧ n ≤ 5) ∧ PgS 4 (g + 1) w' (.slice pA n pc) n ∧ Cur g A c zs (K + 200020) w' ∧ Dw g w w'
theorem AnS.done {g : Nat} {A : Option Addr} {c : Nat} {zs : List Int} {w W : World} {K h pc n : Nat} {pA : Option Addr} (H : AnS 4 g A c zs w (K + 200020) h (.slice pA n pc) n W) (hn : 1 ≤ n ∧ n ≤ 5) : AnyP g A c zs K w (.returned (.agg #[.slice pA n pc])) (W.setCell ⟨w.heap.size, 0, none⟩ (.slice pA n pc)) := by
  have hc := Chg.set (x := .slice pA n pc) H.res.ty 0
  have hw := H.hw
  exact ⟨pA, pc, n, rfl, hn, H.sh.chg hc (fun e => absurd e (by decide)) (fun e => absurd e (by decide)) (fun e => absurd e (by decide)) (fun e => absurd e (by decide)), hc.cur H.cur (by omega), H.dw.belowW (hc.below (Nat.le_refl _)) (by omega)⟩
end Go.Proofs.YtgkjakoagdkpcaaGreatDoor
set_option linter.unusedSimpArgs false
set_option linter.unusedVariables false
set_option maxRecDepth 100000
namespace Go.Proofs.YtgkjakoagdkpcaaGreatDoor
open Go.RowKit

/-- the state: the program is of the shape, h: where it is kept; t, rs: the result's cell -/
structure DcS (g : Nat) (A : Option Addr) (c : Nat) (zs : List Int) (w : World) (K h : Nat) (pv : Value) (n : Nat) (t : TypeId) (rs : Array Value) (W : World) : Prop where
  cur : Cur g A c zs K W
  b : Below w.heap.size w W
  hg : g = w.heap.size + 1
  res : Bk W w.heap.size t rs
  p : Bk W h 103 #[pv]
  lt : g < h
  sh : PgS 4 (g + 1) W pv n
def DcH (w : World) (h : Nat) (pv : Value) (W : World) : Prop := W.cell? ⟨h, 0, none⟩ = some pv ∧ h < W.heap.size ∧ W.frozen? ⟨w.heap.size, 0, none⟩ = false ∧ w.heap.size < W.heap.size
section
variable {g : Nat} {A : Option Addr} {c : Nat} {zs : List Int} {w : World} {K K' h n : Nat} {pv u : Value} {t : TypeId} {rs : Array Value} {W W' : World}
theorem DcS.step (H : DcS g A c zs w K h pv n t rs W) (hc : Cur g A c zs K' W') (hd : Dw g W W') : DcS g A c zs w K' h pv n t rs W' := by
  have := H.lt; have := H.hg; have := H.b.size
  exact ⟨hc, H.b.trans (hd.below (by omega) (by omega)), H.hg, hd.bk H.res (by omega), hd.bk H.p (by omega), H.lt, H.sh.dw hd (Nat.lt_succ_self _)⟩
theorem DcS.drw (H : DcS g A c zs w K h pv n t rs W) : DcS g A c zs w K h pv n t rs W.drew := H.step (H.cur.below (Below.refl _ _).drew) (.of (Below.refl _ _).drew)
theorem DcS.hold (H : DcS g A c zs w K h pv n t rs W) : DcH w h pv W := ⟨H.p.cell 0, H.p.lt, H.res.frozen 0, H.res.lt⟩
theorem DcS.hold2 (H : DcS g A c zs w K h pv n t rs W) (i : Nat) (u : Value) : DcH w h pv (W.setCell ⟨w.heap.size, i, none⟩ u) := by
  have := H.lt; have := H.hg
  exact ⟨(H.p.far (by omega) _ _).cell 0, (H.p.far (by omega) i u).lt, (H.res.set i u).frozen 0, (H.res.set i u).lt⟩
theorem DcS.hold4 (H : DcS g A c zs w K h pv n t rs W) (a0 a1 a2 a3 : Value) : DcH w h pv ((((W.setCell ⟨w.heap.size, 0, none⟩ a0).setCell ⟨w.heap.size, 1, none⟩ a1).setCell ⟨w.heap.size, 2, none⟩ a2).setCell ⟨w.heap.size, 3, none⟩ a3) := by
  have := H.lt; have := H.hg
  have hp := (((H.p.far (show h ≠ w.heap.size by omega) 0 a0).far (show h ≠ w.heap.size by omega) 1 a1).far (show h ≠ w.heap.size by omega) 2 a2).far (show h ≠ w.heap.size by omega) 3 a3
  have hr := (((H.res.set 0 a0).set 1 a1).set 2 a2).set 3 a3
  exact ⟨hp.cell 0, hp.lt, hr.frozen 0, hr.lt⟩
theorem DcS.progR {pA : Option Addr} {pc : Nat} (H : DcS g A c zs w K h (.slice pA n pc) n t rs W) (i : Nat) (u : Value) : ∃ fs : List FuncM, fs.length = n ∧ RL RFunc 4 (W.setCell ⟨w.heap.size, i, none⟩ u) 0 (W.setCell ⟨w.heap.size, i, none⟩ u).heap.size (.slice pA n pc) fs ∧ szFuncsN fs ≤ 1500 := by
  obtain ⟨fs, hl, hr, hz⟩ := (H.sh.dw ((Dw.refl w.heap.size W).set i u) (by have := H.hg; omega)).r (by omega)
  exact ⟨fs, hl, hr.more RFunc_stable (Nat.zero_le _) (Nat.le_refl _), hz⟩
theorem DcS.prog {pA : Option Addr} {pc : Nat} (H : DcS g A c zs w K h (.slice pA n pc) n t rs W) : ∃ fs : List FuncM, fs.length = n ∧ RL RFunc 4 W 0 W.heap.size (.slice pA n pc) fs ∧ szFuncsN fs ≤ 1500 := by
  obtain ⟨fs, hl, hr, hz⟩ := H.sh.r (by omega)
  exact ⟨fs, hl, hr.more RFunc_stable (Nat.zero_le _) (Nat.le_refl _), hz⟩
end
theorem dc_start {w : World} {A : Option Addr} {c : Nat} {zs : List Int} {t : TypeId} {rs : Array Value} (hr : Rd w w.heap.size (.slice A zs.length c) zs.length (icells .u8 zs)) (hz : ∀ z ∈ zs, 0 ≤ z ∧ z ≤ 255) :
    Cur (w.heap.size + 1) A c zs 0 ((w.alloc (.cells rs t)).alloc (.cells #[.slice A zs.length c, .int .i64 0, .int .u64 0] 64)) ∧ Bk ((w.alloc (.cells rs t)).alloc (.cells #[.slice A zs.length c, .int .i64 0, .int .u64 0] 64)) w.heap.size t rs ∧ Below w.heap.size w ((w.alloc (.cells rs t)).alloc (.cells #[.slice A zs.length c, .int .i64 0, .int .u64 0] 64)) ∧ ((w.alloc (.cells rs t)).alloc (.cells #[.slice A zs.length c, .int .i64 0, .int .u64 0] 64)).heap.size = w.heap.size + 1 + 1 := by
  obtain ⟨A', c', e, hc⟩ := cur_start (w := w.alloc (.cells rs t)) (hr.here ((Below.refl _ _).alloc (Nat.le_refl _) _)) hz
  cases e
  rw [World.size_alloc] at hc
  exact ⟨hc, (Bk.new w t rs).alloc _, ((Below.refl w.heap.size w).alloc (Nat.le_refl _) _).alloc (by simp) _, by simp only [World.size_alloc]⟩
def DCallsP (w : World) (e : Ending) (w' : World) : Prop := ∃ (pA : Option Addr) (pc : Nat) (fs : List FuncM) (fn : Int), e = .returned (.tuple #[.agg #[.slice pA fs.length pc], .int .i64 fn]) ∧ RL RFunc 4 w' 0 w'.heap.size (.slice pA fs.length pc) fs ∧ szFuncsN fs ≤ 1500 ∧ Below w.heap.size w w'
/-- a function's values are read -/
theorem PgS.fn {lo n pc x : Nat} {pA : Option Addr} {W : World} (h : PgS 4 lo W (.slice pA n pc) n) (hx : x < n) : ∃ q B P V bv sv, pA = some ⟨q, B, none⟩ ∧ lo ≤ q ∧ q < W.heap.size ∧ W.cell? ⟨q, B + x * 4, none⟩ = some (.int .i64 P) ∧ W.cell? ⟨q, B + x * 4 + 1, none⟩ = some (.int .i64 V) ∧ W.cell? ⟨q, B + x * 4 + 2, none⟩ = some bv ∧ W.cell? ⟨q, B + x * 4 + 3, none⟩ = some sv ∧
    (∀ W', FnF 4 lo W' 2 bv → FnF 4 lo W' 3 sv → ∃ m : FuncM, RFunc W' lo W'.heap.size [.int .i64 P, .int .i64 V, bv, sv] m ∧ szFuncN m ≤ 291) ∧ FnF 4 lo W 2 bv ∧ FnF 4 lo W 3 sv := by
  obtain ⟨q, B, h1, _, h3, h4, h5⟩ := SlR.at2 h hx (by omega)
  obtain ⟨u0, c0, f0⟩ := h5 0 (by omega)
  obtain ⟨u1, c1, f1⟩ := h5 1 (by omega)
  obtain ⟨u2, c2, f2⟩ := h5 2 (by omega)
  obtain ⟨u3, c3, f3⟩ := h5 3 (by omega)
  obtain ⟨P, rfl⟩ := f0.1 (by omega)
  obtain ⟨V, rfl⟩ := f1.1 (by omega)
  refine ⟨q, B, P, V, u2, u3, h1, h3, h4.lt, c0, c1, c2, c3, fun W' g2 g3 => FnF.r (M := 4) (by omega) rfl fun k u hu => ?_, f2, f3⟩
  match k, hu with
  | 0, hu => cases hu; exact .int _ (by omega)
  | 1, hu => cases hu; exact .int _ (by omega)
  | 2, hu => cases hu; exact g2
  | 3, hu => cases hu; exact g3
def DSitesP (w : World) (e : Ending) (w' : World) : Prop := ∃ (P V : Int) (bv sv : Value) (m : FuncM), e = .returned (.agg #[.int .i64 P, .int .i64 V, bv, sv]) ∧ RFunc w' 0 w'.heap.size [.int .i64 P, .int .i64 V, bv, sv] m ∧ szFuncN m ≤ 291 ∧ Below w.heap.size w w'
end Go.Proofs.YtgkjakoagdkpcaaGreatDoor
