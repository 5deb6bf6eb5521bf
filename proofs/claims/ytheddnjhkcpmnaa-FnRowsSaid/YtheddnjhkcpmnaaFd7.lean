
/- spec.known: its blocks, and what they are as functions. No condition. -/
import Derived.Test.YtheddnjhkcpmnaaFd3
set_option linter.unusedSimpArgs false
set_option linter.unusedVariables false
set_option maxRecDepth 100000
namespace Go.Proofs.Ytheddnjhkcpmnaa
open Go.RowKit

theorem own_of_bk {W : World} {q lo n size : Nat} {t : TypeId} {cs : Array Value} (h : Bk W q t cs) (hq : lo ≤ q) (hs : cs.size = n * size) (hm : n ≤ maxLen) : W.ownsRow lo t size (.slice (some ⟨q, 0, none⟩) n n) n cs.toList :=
  ⟨by simpa using hs, .inr ⟨q, n, cs, rfl, hq, h, Nat.le_refl _, hm, hs, List.take_of_length_le (by rw [Array.length_toList, hs]; exact Nat.le_refl _)⟩⟩
/-- a statement with an expression of one token -/
theorem sc_one {g : Nat} {W : World} {q : Nat} {k o n : Int} (h : Bk W q 106 #[.int .i64 o, .int .i64 n]) (hq : g < q) : SC NoX g W [.int .i64 k, .int .i64 0, .slice (some ⟨q, 0, none⟩) 1 1, .slice none 0 0, .slice none 0 0] ⟨k, 0, [⟨o, n⟩], [], []⟩ :=
  ⟨_, _, _, rfl, ⟨own_of_bk h hq rfl (by decide), fun _ _ h => h⟩, Rk.nil _ _ _ _ _, Rk.nil _ _ _ _ _⟩
theorem sc_none {g : Nat} {W : World} {k n : Int} : SC NoX g W [.int .i64 k, .int .i64 n, .slice none 0 0, .slice none 0 0, .slice none 0 0] ⟨k, n, [], [], []⟩ :=
  ⟨_, _, _, rfl, Rk.nil _ _ _ _ _, Rk.nil _ _ _ _ _, Rk.nil _ _ _ _ _⟩
/-- a function of one statement -/
theorem fn_one {g : Nat} {W : World} {a b k o n : Int} {q1 q2 q3 : Nat} (h1 : Bk W q1 106 #[.int .i64 o, .int .i64 n]) (h2 : Bk W q2 103 #[.int .i64 k, .int .i64 0, .slice (some ⟨q1, 0, none⟩) 1 1, .slice none 0 0, .slice none 0 0]) (h3 : Bk W q3 3 #[.int .i64 0]) (l1 : g < q1) (l2 : g < q2) (l3 : g < q3) :
    FnC g W [.int .i64 a, .int .i64 b, .slice (some ⟨q3, 0, none⟩) 1 1, .slice (some ⟨q2, 0, none⟩) 1 1] ⟨a, b, [0], [⟨k, 0, [⟨o, n⟩], [], []⟩]⟩ :=
  ⟨_, _, rfl, own_of_bk h3 l3 rfl (by decide), [[.int .i64 k, .int .i64 0, .slice (some ⟨q1, 0, none⟩) 1 1, .slice none 0 0, .slice none 0 0]], rfl, own_of_bk (n := 1) h2 l2 rfl (by decide), fun i hi hi' => by
    obtain rfl : i = 0 := by simp at hi; omega
    exact sc_one h1 l1⟩
end Go.Proofs.Ytheddnjhkcpmnaa
set_option linter.unusedSimpArgs false
set_option linter.unusedVariables false
set_option maxRecDepth 100000
namespace Go.Proofs.Ytheddnjhkcpmnaa
open Go.RowKit

/-- the twelve blocks, from h on; kk, ss: the third statement's kind and expression -/
structure KnS (g : Nat) (A : Option Addr) (c : Nat) (zs : List Int) (w : World) (K h : Nat) (v : Int) (kk ss bb sv : Value) (W : World) : Prop where
  cur : Cur g A c zs K W
  dw : Dw g w W
  res : Bk W w.heap.size 45 #[.slice none 0 0]
  lt : w.heap.size < h
  b0 : Bk W (h) 106 #[.int .i64 10, .int .i64 0]
  b1 : Bk W (h + 1) 103 #[.int .i64 2, .int .i64 0, .slice (some ⟨h, 0, none⟩) 1 1, .slice none 0 0, .slice none 0 0]
  b2 : Bk W (h + 1 + 1) 3 #[.int .i64 0]
  b3 : Bk W (h + 1 + 1 + 1) 59 #[.int .i64 0, .int .i64 0, .slice (some ⟨h + 1 + 1, 0, none⟩) 1 1, .slice (some ⟨h + 1, 0, none⟩) 1 1]
  b7 : Bk W (h + 1 + 1 + 1 + 1 + 1 + 1 + 1) 59 #[.int .i64 0, .int .i64 0, bb, sv]
  b8 : Bk W (h + 1 + 1 + 1 + 1 + 1 + 1 + 1 + 1) 3 #[.int .i64 0, .int .i64 1, .int .i64 2]
  b9 : Bk W (h + 1 + 1 + 1 + 1 + 1 + 1 + 1 + 1 + 1) 106 #[.int .i64 1, .int .i64 (40 + v)]
  b10 : Bk W (h + 1 + 1 + 1 + 1 + 1 + 1 + 1 + 1 + 1 + 1) 103 #[.int .i64 3, .int .i64 1, .slice none 0 0, .slice none 0 0, .slice none 0 0, .int .i64 3, .int .i64 2, .slice none 0 0, .slice none 0 0, .slice none 0 0, kk, .int .i64 0, ss, .slice none 0 0, .slice none 0 0]
  b11 : Bk W (h + 1 + 1 + 1 + 1 + 1 + 1 + 1 + 1 + 1 + 1 + 1) 59 #[.int .i64 0, .int .i64 0, .slice (some ⟨h + 1 + 1 + 1 + 1 + 1 + 1 + 1 + 1, 0, none⟩) 3 3, .slice (some ⟨h + 1 + 1 + 1 + 1 + 1 + 1 + 1 + 1 + 1 + 1, 0, none⟩) 3 3]
/-- the second function, as it is made -/
structure KnT (h : Nat) (v : Int) (W : World) : Prop where
  b4 : Bk W (h + 1 + 1 + 1 + 1) 106 #[.int .i64 1, .int .i64 v]
  b5 : Bk W (h + 1 + 1 + 1 + 1 + 1) 103 #[.int .i64 2, .int .i64 0, .slice (some ⟨h + 1 + 1 + 1 + 1, 0, none⟩) 1 1, .slice none 0 0, .slice none 0 0]
  b6 : Bk W (h + 1 + 1 + 1 + 1 + 1 + 1) 3 #[.int .i64 0]
section
variable {g : Nat} {A : Option Addr} {c : Nat} {zs : List Int} {w : World} {K K' h : Nat} {v : Int} {kk ss bb sv : Value} {W W' : World}
theorem KnS.step (H : KnS g A c zs w K h v kk ss bb sv W) (hg : g < w.heap.size) (hc : Cur g A c zs K' W') (hd : Dw g W W') : KnS g A c zs w K' h v kk ss bb sv W' := by
  have := H.lt
  exact ⟨hc, H.dw.trans hd, hd.bk H.res (by omega), H.lt, hd.bk H.b0 (by omega), hd.bk H.b1 (by omega), hd.bk H.b2 (by omega), hd.bk H.b3 (by omega), hd.bk H.b7 (by omega), hd.bk H.b8 (by omega), hd.bk H.b9 (by omega), hd.bk H.b10 (by omega), hd.bk H.b11 (by omega)⟩
theorem KnT.step (H : KnT h v W) (hg : g < h) (hd : Dw g W W') : KnT h v W' := ⟨hd.bk H.b4 (by omega), hd.bk H.b5 (by omega), hd.bk H.b6 (by omega)⟩
theorem kn_start {w1 : World} (hc : Cur g A c zs K w1) (hd : Dw g w w1) (hr : Bk w1 w.heap.size 45 #[.slice none 0 0]) (hl : w.heap.size < w1.heap.size) (hg : g < w.heap.size) :
    KnS g A c zs w K w1.heap.size v (.int .i64 4) (.slice (some ⟨w1.heap.size + 1 + 1 + 1 + 1 + 1 + 1 + 1 + 1 + 1, 0, none⟩) 1 1) (.slice (some ⟨w1.heap.size + 1 + 1 + 1 + 1 + 1 + 1, 0, none⟩) 1 1) (.slice (some ⟨w1.heap.size + 1 + 1 + 1 + 1 + 1, 0, none⟩) 1 1) ((((((((((((w1.alloc (.cells #[.int .i64 10, .int .i64 0] 106)).alloc (.cells #[.int .i64 2, .int .i64 0, .slice (some ⟨w1.heap.size, 0, none⟩) 1 1, .slice none 0 0, .slice none 0 0] 103)).alloc (.cells #[.int .i64 0] 3)).alloc (.cells #[.int .i64 0, .int .i64 0, .slice (some ⟨w1.heap.size + 1 + 1, 0, none⟩) 1 1, .slice (some ⟨w1.heap.size + 1, 0, none⟩) 1 1] 59)).alloc (.cells #[.int .i64 1, .int .i64 v] 106)).alloc (.cells #[.int .i64 2, .int .i64 0, .slice (some ⟨w1.heap.size + 1 + 1 + 1 + 1, 0, none⟩) 1 1, .slice none 0 0, .slice none 0 0] 103)).alloc (.cells #[.int .i64 0] 3)).alloc (.cells #[.int .i64 0, .int .i64 0, .slice (some ⟨w1.heap.size + 1 + 1 + 1 + 1 + 1 + 1, 0, none⟩) 1 1, .slice (some ⟨w1.heap.size + 1 + 1 + 1 + 1 + 1, 0, none⟩) 1 1] 59)).alloc (.cells #[.int .i64 0, .int .i64 1, .int .i64 2] 3)).alloc (.cells #[.int .i64 1, .int .i64 (40 + v)] 106)).alloc (.cells #[.int .i64 3, .int .i64 1, .slice none 0 0, .slice none 0 0, .slice none 0 0, .int .i64 3, .int .i64 2, .slice none 0 0, .slice none 0 0, .slice none 0 0, .int .i64 4, .int .i64 0, .slice (some ⟨w1.heap.size + 1 + 1 + 1 + 1 + 1 + 1 + 1 + 1 + 1, 0, none⟩) 1 1, .slice none 0 0, .slice none 0 0] 103)).alloc (.cells #[.int .i64 0, .int .i64 0, .slice (some ⟨w1.heap.size + 1 + 1 + 1 + 1 + 1 + 1 + 1 + 1, 0, none⟩) 3 3, .slice (some ⟨w1.heap.size + 1 + 1 + 1 + 1 + 1 + 1 + 1 + 1 + 1 + 1, 0, none⟩) 3 3] 59)) ∧ KnT w1.heap.size v ((((((((((((w1.alloc (.cells #[.int .i64 10, .int .i64 0] 106)).alloc (.cells #[.int .i64 2, .int .i64 0, .slice (some ⟨w1.heap.size, 0, none⟩) 1 1, .slice none 0 0, .slice none 0 0] 103)).alloc (.cells #[.int .i64 0] 3)).alloc (.cells #[.int .i64 0, .int .i64 0, .slice (some ⟨w1.heap.size + 1 + 1, 0, none⟩) 1 1, .slice (some ⟨w1.heap.size + 1, 0, none⟩) 1 1] 59)).alloc (.cells #[.int .i64 1, .int .i64 v] 106)).alloc (.cells #[.int .i64 2, .int .i64 0, .slice (some ⟨w1.heap.size + 1 + 1 + 1 + 1, 0, none⟩) 1 1, .slice none 0 0, .slice none 0 0] 103)).alloc (.cells #[.int .i64 0] 3)).alloc (.cells #[.int .i64 0, .int .i64 0, .slice (some ⟨w1.heap.size + 1 + 1 + 1 + 1 + 1 + 1, 0, none⟩) 1 1, .slice (some ⟨w1.heap.size + 1 + 1 + 1 + 1 + 1, 0, none⟩) 1 1] 59)).alloc (.cells #[.int .i64 0, .int .i64 1, .int .i64 2] 3)).alloc (.cells #[.int .i64 1, .int .i64 (40 + v)] 106)).alloc (.cells #[.int .i64 3, .int .i64 1, .slice none 0 0, .slice none 0 0, .slice none 0 0, .int .i64 3, .int .i64 2, .slice none 0 0, .slice none 0 0, .slice none 0 0, .int .i64 4, .int .i64 0, .slice (some ⟨w1.heap.size + 1 + 1 + 1 + 1 + 1 + 1 + 1 + 1 + 1, 0, none⟩) 1 1, .slice none 0 0, .slice none 0 0] 103)).alloc (.cells #[.int .i64 0, .int .i64 0, .slice (some ⟨w1.heap.size + 1 + 1 + 1 + 1 + 1 + 1 + 1 + 1, 0, none⟩) 3 3, .slice (some ⟨w1.heap.size + 1 + 1 + 1 + 1 + 1 + 1 + 1 + 1 + 1 + 1, 0, none⟩) 3 3] 59)) := by
  have hbb : Below w1.heap.size w1 ((((((((((((w1.alloc (.cells #[.int .i64 10, .int .i64 0] 106)).alloc (.cells #[.int .i64 2, .int .i64 0, .slice (some ⟨w1.heap.size, 0, none⟩) 1 1, .slice none 0 0, .slice none 0 0] 103)).alloc (.cells #[.int .i64 0] 3)).alloc (.cells #[.int .i64 0, .int .i64 0, .slice (some ⟨w1.heap.size + 1 + 1, 0, none⟩) 1 1, .slice (some ⟨w1.heap.size + 1, 0, none⟩) 1 1] 59)).alloc (.cells #[.int .i64 1, .int .i64 v] 106)).alloc (.cells #[.int .i64 2, .int .i64 0, .slice (some ⟨w1.heap.size + 1 + 1 + 1 + 1, 0, none⟩) 1 1, .slice none 0 0, .slice none 0 0] 103)).alloc (.cells #[.int .i64 0] 3)).alloc (.cells #[.int .i64 0, .int .i64 0, .slice (some ⟨w1.heap.size + 1 + 1 + 1 + 1 + 1 + 1, 0, none⟩) 1 1, .slice (some ⟨w1.heap.size + 1 + 1 + 1 + 1 + 1, 0, none⟩) 1 1] 59)).alloc (.cells #[.int .i64 0, .int .i64 1, .int .i64 2] 3)).alloc (.cells #[.int .i64 1, .int .i64 (40 + v)] 106)).alloc (.cells #[.int .i64 3, .int .i64 1, .slice none 0 0, .slice none 0 0, .slice none 0 0, .int .i64 3, .int .i64 2, .slice none 0 0, .slice none 0 0, .slice none 0 0, .int .i64 4, .int .i64 0, .slice (some ⟨w1.heap.size + 1 + 1 + 1 + 1 + 1 + 1 + 1 + 1 + 1, 0, none⟩) 1 1, .slice none 0 0, .slice none 0 0] 103)).alloc (.cells #[.int .i64 0, .int .i64 0, .slice (some ⟨w1.heap.size + 1 + 1 + 1 + 1 + 1 + 1 + 1 + 1, 0, none⟩) 3 3, .slice (some ⟨w1.heap.size + 1 + 1 + 1 + 1 + 1 + 1 + 1 + 1 + 1 + 1, 0, none⟩) 3 3] 59)) := by
    repeat (first | exact Below.refl _ _ | refine Below.alloc ?_ (by first | exact Nat.le_refl _ | (simp only [World.size_alloc]; omega)) _)
  have s0 : w1.heap.size = w1.heap.size := by simp only [World.size_alloc]
  have n0 := Bk.new w1 106 #[.int .i64 10, .int .i64 0]
  rw [s0] at n0
  have s1 : (w1.alloc (.cells #[.int .i64 10, .int .i64 0] 106)).heap.size = w1.heap.size + 1 := by simp only [World.size_alloc]
  have n1 := Bk.new (w1.alloc (.cells #[.int .i64 10, .int .i64 0] 106)) 103 #[.int .i64 2, .int .i64 0, .slice (some ⟨w1.heap.size, 0, none⟩) 1 1, .slice none 0 0, .slice none 0 0]
  rw [s1] at n1
  have s2 : ((w1.alloc (.cells #[.int .i64 10, .int .i64 0] 106)).alloc (.cells #[.int .i64 2, .int .i64 0, .slice (some ⟨w1.heap.size, 0, none⟩) 1 1, .slice none 0 0, .slice none 0 0] 103)).heap.size = w1.heap.size + 1 + 1 := by simp only [World.size_alloc]
  have n2 := Bk.new ((w1.alloc (.cells #[.int .i64 10, .int .i64 0] 106)).alloc (.cells #[.int .i64 2, .int .i64 0, .slice (some ⟨w1.heap.size, 0, none⟩) 1 1, .slice none 0 0, .slice none 0 0] 103)) 3 #[.int .i64 0]
  rw [s2] at n2
  have s3 : (((w1.alloc (.cells #[.int .i64 10, .int .i64 0] 106)).alloc (.cells #[.int .i64 2, .int .i64 0, .slice (some ⟨w1.heap.size, 0, none⟩) 1 1, .slice none 0 0, .slice none 0 0] 103)).alloc (.cells #[.int .i64 0] 3)).heap.size = w1.heap.size + 1 + 1 + 1 := by simp only [World.size_alloc]
  have n3 := Bk.new (((w1.alloc (.cells #[.int .i64 10, .int .i64 0] 106)).alloc (.cells #[.int .i64 2, .int .i64 0, .slice (some ⟨w1.heap.size, 0, none⟩) 1 1, .slice none 0 0, .slice none 0 0] 103)).alloc (.cells #[.int .i64 0] 3)) 59 #[.int .i64 0, .int .i64 0, .slice (some ⟨w1.heap.size + 1 + 1, 0, none⟩) 1 1, .slice (some ⟨w1.heap.size + 1, 0, none⟩) 1 1]
  rw [s3] at n3
  have s4 : ((((w1.alloc (.cells #[.int .i64 10, .int .i64 0] 106)).alloc (.cells #[.int .i64 2, .int .i64 0, .slice (some ⟨w1.heap.size, 0, none⟩) 1 1, .slice none 0 0, .slice none 0 0] 103)).alloc (.cells #[.int .i64 0] 3)).alloc (.cells #[.int .i64 0, .int .i64 0, .slice (some ⟨w1.heap.size + 1 + 1, 0, none⟩) 1 1, .slice (some ⟨w1.heap.size + 1, 0, none⟩) 1 1] 59)).heap.size = w1.heap.size + 1 + 1 + 1 + 1 := by simp only [World.size_alloc]
  have n4 := Bk.new ((((w1.alloc (.cells #[.int .i64 10, .int .i64 0] 106)).alloc (.cells #[.int .i64 2, .int .i64 0, .slice (some ⟨w1.heap.size, 0, none⟩) 1 1, .slice none 0 0, .slice none 0 0] 103)).alloc (.cells #[.int .i64 0] 3)).alloc (.cells #[.int .i64 0, .int .i64 0, .slice (some ⟨w1.heap.size + 1 + 1, 0, none⟩) 1 1, .slice (some ⟨w1.heap.size + 1, 0, none⟩) 1 1] 59)) 106 #[.int .i64 1, .int .i64 v]
  rw [s4] at n4
  have s5 : (((((w1.alloc (.cells #[.int .i64 10, .int .i64 0] 106)).alloc (.cells #[.int .i64 2, .int .i64 0, .slice (some ⟨w1.heap.size, 0, none⟩) 1 1, .slice none 0 0, .slice none 0 0] 103)).alloc (.cells #[.int .i64 0] 3)).alloc (.cells #[.int .i64 0, .int .i64 0, .slice (some ⟨w1.heap.size + 1 + 1, 0, none⟩) 1 1, .slice (some ⟨w1.heap.size + 1, 0, none⟩) 1 1] 59)).alloc (.cells #[.int .i64 1, .int .i64 v] 106)).heap.size = w1.heap.size + 1 + 1 + 1 + 1 + 1 := by simp only [World.size_alloc]
  have n5 := Bk.new (((((w1.alloc (.cells #[.int .i64 10, .int .i64 0] 106)).alloc (.cells #[.int .i64 2, .int .i64 0, .slice (some ⟨w1.heap.size, 0, none⟩) 1 1, .slice none 0 0, .slice none 0 0] 103)).alloc (.cells #[.int .i64 0] 3)).alloc (.cells #[.int .i64 0, .int .i64 0, .slice (some ⟨w1.heap.size + 1 + 1, 0, none⟩) 1 1, .slice (some ⟨w1.heap.size + 1, 0, none⟩) 1 1] 59)).alloc (.cells #[.int .i64 1, .int .i64 v] 106)) 103 #[.int .i64 2, .int .i64 0, .slice (some ⟨w1.heap.size + 1 + 1 + 1 + 1, 0, none⟩) 1 1, .slice none 0 0, .slice none 0 0]
  rw [s5] at n5
  have s6 : ((((((w1.alloc (.cells #[.int .i64 10, .int .i64 0] 106)).alloc (.cells #[.int .i64 2, .int .i64 0, .slice (some ⟨w1.heap.size, 0, none⟩) 1 1, .slice none 0 0, .slice none 0 0] 103)).alloc (.cells #[.int .i64 0] 3)).alloc (.cells #[.int .i64 0, .int .i64 0, .slice (some ⟨w1.heap.size + 1 + 1, 0, none⟩) 1 1, .slice (some ⟨w1.heap.size + 1, 0, none⟩) 1 1] 59)).alloc (.cells #[.int .i64 1, .int .i64 v] 106)).alloc (.cells #[.int .i64 2, .int .i64 0, .slice (some ⟨w1.heap.size + 1 + 1 + 1 + 1, 0, none⟩) 1 1, .slice none 0 0, .slice none 0 0] 103)).heap.size = w1.heap.size + 1 + 1 + 1 + 1 + 1 + 1 := by simp only [World.size_alloc]
  have n6 := Bk.new ((((((w1.alloc (.cells #[.int .i64 10, .int .i64 0] 106)).alloc (.cells #[.int .i64 2, .int .i64 0, .slice (some ⟨w1.heap.size, 0, none⟩) 1 1, .slice none 0 0, .slice none 0 0] 103)).alloc (.cells #[.int .i64 0] 3)).alloc (.cells #[.int .i64 0, .int .i64 0, .slice (some ⟨w1.heap.size + 1 + 1, 0, none⟩) 1 1, .slice (some ⟨w1.heap.size + 1, 0, none⟩) 1 1] 59)).alloc (.cells #[.int .i64 1, .int .i64 v] 106)).alloc (.cells #[.int .i64 2, .int .i64 0, .slice (some ⟨w1.heap.size + 1 + 1 + 1 + 1, 0, none⟩) 1 1, .slice none 0 0, .slice none 0 0] 103)) 3 #[.int .i64 0]
  rw [s6] at n6
  have s7 : (((((((w1.alloc (.cells #[.int .i64 10, .int .i64 0] 106)).alloc (.cells #[.int .i64 2, .int .i64 0, .slice (some ⟨w1.heap.size, 0, none⟩) 1 1, .slice none 0 0, .slice none 0 0] 103)).alloc (.cells #[.int .i64 0] 3)).alloc (.cells #[.int .i64 0, .int .i64 0, .slice (some ⟨w1.heap.size + 1 + 1, 0, none⟩) 1 1, .slice (some ⟨w1.heap.size + 1, 0, none⟩) 1 1] 59)).alloc (.cells #[.int .i64 1, .int .i64 v] 106)).alloc (.cells #[.int .i64 2, .int .i64 0, .slice (some ⟨w1.heap.size + 1 + 1 + 1 + 1, 0, none⟩) 1 1, .slice none 0 0, .slice none 0 0] 103)).alloc (.cells #[.int .i64 0] 3)).heap.size = w1.heap.size + 1 + 1 + 1 + 1 + 1 + 1 + 1 := by simp only [World.size_alloc]
  have n7 := Bk.new (((((((w1.alloc (.cells #[.int .i64 10, .int .i64 0] 106)).alloc (.cells #[.int .i64 2, .int .i64 0, .slice (some ⟨w1.heap.size, 0, none⟩) 1 1, .slice none 0 0, .slice none 0 0] 103)).alloc (.cells #[.int .i64 0] 3)).alloc (.cells #[.int .i64 0, .int .i64 0, .slice (some ⟨w1.heap.size + 1 + 1, 0, none⟩) 1 1, .slice (some ⟨w1.heap.size + 1, 0, none⟩) 1 1] 59)).alloc (.cells #[.int .i64 1, .int .i64 v] 106)).alloc (.cells #[.int .i64 2, .int .i64 0, .slice (some ⟨w1.heap.size + 1 + 1 + 1 + 1, 0, none⟩) 1 1, .slice none 0 0, .slice none 0 0] 103)).alloc (.cells #[.int .i64 0] 3)) 59 #[.int .i64 0, .int .i64 0, .slice (some ⟨w1.heap.size + 1 + 1 + 1 + 1 + 1 + 1, 0, none⟩) 1 1, .slice (some ⟨w1.heap.size + 1 + 1 + 1 + 1 + 1, 0, none⟩) 1 1]
  rw [s7] at n7
  have s8 : ((((((((w1.alloc (.cells #[.int .i64 10, .int .i64 0] 106)).alloc (.cells #[.int .i64 2, .int .i64 0, .slice (some ⟨w1.heap.size, 0, none⟩) 1 1, .slice none 0 0, .slice none 0 0] 103)).alloc (.cells #[.int .i64 0] 3)).alloc (.cells #[.int .i64 0, .int .i64 0, .slice (some ⟨w1.heap.size + 1 + 1, 0, none⟩) 1 1, .slice (some ⟨w1.heap.size + 1, 0, none⟩) 1 1] 59)).alloc (.cells #[.int .i64 1, .int .i64 v] 106)).alloc (.cells #[.int .i64 2, .int .i64 0, .slice (some ⟨w1.heap.size + 1 + 1 + 1 + 1, 0, none⟩) 1 1, .slice none 0 0, .slice none 0 0] 103)).alloc (.cells #[.int .i64 0] 3)).alloc (.cells #[.int .i64 0, .int .i64 0, .slice (some ⟨w1.heap.size + 1 + 1 + 1 + 1 + 1 + 1, 0, none⟩) 1 1, .slice (some ⟨w1.heap.size + 1 + 1 + 1 + 1 + 1, 0, none⟩) 1 1] 59)).heap.size = w1.heap.size + 1 + 1 + 1 + 1 + 1 + 1 + 1 + 1 := by simp only [World.size_alloc]
  have n8 := Bk.new ((((((((w1.alloc (.cells #[.int .i64 10, .int .i64 0] 106)).alloc (.cells #[.int .i64 2, .int .i64 0, .slice (some ⟨w1.heap.size, 0, none⟩) 1 1, .slice none 0 0, .slice none 0 0] 103)).alloc (.cells #[.int .i64 0] 3)).alloc (.cells #[.int .i64 0, .int .i64 0, .slice (some ⟨w1.heap.size + 1 + 1, 0, none⟩) 1 1, .slice (some ⟨w1.heap.size + 1, 0, none⟩) 1 1] 59)).alloc (.cells #[.int .i64 1, .int .i64 v] 106)).alloc (.cells #[.int .i64 2, .int .i64 0, .slice (some ⟨w1.heap.size + 1 + 1 + 1 + 1, 0, none⟩) 1 1, .slice none 0 0, .slice none 0 0] 103)).alloc (.cells #[.int .i64 0] 3)).alloc (.cells #[.int .i64 0, .int .i64 0, .slice (some ⟨w1.heap.size + 1 + 1 + 1 + 1 + 1 + 1, 0, none⟩) 1 1, .slice (some ⟨w1.heap.size + 1 + 1 + 1 + 1 + 1, 0, none⟩) 1 1] 59)) 3 #[.int .i64 0, .int .i64 1, .int .i64 2]
  rw [s8] at n8
  have s9 : (((((((((w1.alloc (.cells #[.int .i64 10, .int .i64 0] 106)).alloc (.cells #[.int .i64 2, .int .i64 0, .slice (some ⟨w1.heap.size, 0, none⟩) 1 1, .slice none 0 0, .slice none 0 0] 103)).alloc (.cells #[.int .i64 0] 3)).alloc (.cells #[.int .i64 0, .int .i64 0, .slice (some ⟨w1.heap.size + 1 + 1, 0, none⟩) 1 1, .slice (some ⟨w1.heap.size + 1, 0, none⟩) 1 1] 59)).alloc (.cells #[.int .i64 1, .int .i64 v] 106)).alloc (.cells #[.int .i64 2, .int .i64 0, .slice (some ⟨w1.heap.size + 1 + 1 + 1 + 1, 0, none⟩) 1 1, .slice none 0 0, .slice none 0 0] 103)).alloc (.cells #[.int .i64 0] 3)).alloc (.cells #[.int .i64 0, .int .i64 0, .slice (some ⟨w1.heap.size + 1 + 1 + 1 + 1 + 1 + 1, 0, none⟩) 1 1, .slice (some ⟨w1.heap.size + 1 + 1 + 1 + 1 + 1, 0, none⟩) 1 1] 59)).alloc (.cells #[.int .i64 0, .int .i64 1, .int .i64 2] 3)).heap.size = w1.heap.size + 1 + 1 + 1 + 1 + 1 + 1 + 1 + 1 + 1 := by simp only [World.size_alloc]
  have n9 := Bk.new (((((((((w1.alloc (.cells #[.int .i64 10, .int .i64 0] 106)).alloc (.cells #[.int .i64 2, .int .i64 0, .slice (some ⟨w1.heap.size, 0, none⟩) 1 1, .slice none 0 0, .slice none 0 0] 103)).alloc (.cells #[.int .i64 0] 3)).alloc (.cells #[.int .i64 0, .int .i64 0, .slice (some ⟨w1.heap.size + 1 + 1, 0, none⟩) 1 1, .slice (some ⟨w1.heap.size + 1, 0, none⟩) 1 1] 59)).alloc (.cells #[.int .i64 1, .int .i64 v] 106)).alloc (.cells #[.int .i64 2, .int .i64 0, .slice (some ⟨w1.heap.size + 1 + 1 + 1 + 1, 0, none⟩) 1 1, .slice none 0 0, .slice none 0 0] 103)).alloc (.cells #[.int .i64 0] 3)).alloc (.cells #[.int .i64 0, .int .i64 0, .slice (some ⟨w1.heap.size + 1 + 1 + 1 + 1 + 1 + 1, 0, none⟩) 1 1, .slice (some ⟨w1.heap.size + 1 + 1 + 1 + 1 + 1, 0, none⟩) 1 1] 59)).alloc (.cells #[.int .i64 0, .int .i64 1, .int .i64 2] 3)) 106 #[.int .i64 1, .int .i64 (40 + v)]
  rw [s9] at n9
  have s10 : ((((((((((w1.alloc (.cells #[.int .i64 10, .int .i64 0] 106)).alloc (.cells #[.int .i64 2, .int .i64 0, .slice (some ⟨w1.heap.size, 0, none⟩) 1 1, .slice none 0 0, .slice none 0 0] 103)).alloc (.cells #[.int .i64 0] 3)).alloc (.cells #[.int .i64 0, .int .i64 0, .slice (some ⟨w1.heap.size + 1 + 1, 0, none⟩) 1 1, .slice (some ⟨w1.heap.size + 1, 0, none⟩) 1 1] 59)).alloc (.cells #[.int .i64 1, .int .i64 v] 106)).alloc (.cells #[.int .i64 2, .int .i64 0, .slice (some ⟨w1.heap.size + 1 + 1 + 1 + 1, 0, none⟩) 1 1, .slice none 0 0, .slice none 0 0] 103)).alloc (.cells #[.int .i64 0] 3)).alloc (.cells #[.int .i64 0, .int .i64 0, .slice (some ⟨w1.heap.size + 1 + 1 + 1 + 1 + 1 + 1, 0, none⟩) 1 1, .slice (some ⟨w1.heap.size + 1 + 1 + 1 + 1 + 1, 0, none⟩) 1 1] 59)).alloc (.cells #[.int .i64 0, .int .i64 1, .int .i64 2] 3)).alloc (.cells #[.int .i64 1, .int .i64 (40 + v)] 106)).heap.size = w1.heap.size + 1 + 1 + 1 + 1 + 1 + 1 + 1 + 1 + 1 + 1 := by simp only [World.size_alloc]
  have n10 := Bk.new ((((((((((w1.alloc (.cells #[.int .i64 10, .int .i64 0] 106)).alloc (.cells #[.int .i64 2, .int .i64 0, .slice (some ⟨w1.heap.size, 0, none⟩) 1 1, .slice none 0 0, .slice none 0 0] 103)).alloc (.cells #[.int .i64 0] 3)).alloc (.cells #[.int .i64 0, .int .i64 0, .slice (some ⟨w1.heap.size + 1 + 1, 0, none⟩) 1 1, .slice (some ⟨w1.heap.size + 1, 0, none⟩) 1 1] 59)).alloc (.cells #[.int .i64 1, .int .i64 v] 106)).alloc (.cells #[.int .i64 2, .int .i64 0, .slice (some ⟨w1.heap.size + 1 + 1 + 1 + 1, 0, none⟩) 1 1, .slice none 0 0, .slice none 0 0] 103)).alloc (.cells #[.int .i64 0] 3)).alloc (.cells #[.int .i64 0, .int .i64 0, .slice (some ⟨w1.heap.size + 1 + 1 + 1 + 1 + 1 + 1, 0, none⟩) 1 1, .slice (some ⟨w1.heap.size + 1 + 1 + 1 + 1 + 1, 0, none⟩) 1 1] 59)).alloc (.cells #[.int .i64 0, .int .i64 1, .int .i64 2] 3)).alloc (.cells #[.int .i64 1, .int .i64 (40 + v)] 106)) 103 #[.int .i64 3, .int .i64 1, .slice none 0 0, .slice none 0 0, .slice none 0 0, .int .i64 3, .int .i64 2, .slice none 0 0, .slice none 0 0, .slice none 0 0, .int .i64 4, .int .i64 0, .slice (some ⟨w1.heap.size + 1 + 1 + 1 + 1 + 1 + 1 + 1 + 1 + 1, 0, none⟩) 1 1, .slice none 0 0, .slice none 0 0]
  rw [s10] at n10
  have s11 : (((((((((((w1.alloc (.cells #[.int .i64 10, .int .i64 0] 106)).alloc (.cells #[.int .i64 2, .int .i64 0, .slice (some ⟨w1.heap.size, 0, none⟩) 1 1, .slice none 0 0, .slice none 0 0] 103)).alloc (.cells #[.int .i64 0] 3)).alloc (.cells #[.int .i64 0, .int .i64 0, .slice (some ⟨w1.heap.size + 1 + 1, 0, none⟩) 1 1, .slice (some ⟨w1.heap.size + 1, 0, none⟩) 1 1] 59)).alloc (.cells #[.int .i64 1, .int .i64 v] 106)).alloc (.cells #[.int .i64 2, .int .i64 0, .slice (some ⟨w1.heap.size + 1 + 1 + 1 + 1, 0, none⟩) 1 1, .slice none 0 0, .slice none 0 0] 103)).alloc (.cells #[.int .i64 0] 3)).alloc (.cells #[.int .i64 0, .int .i64 0, .slice (some ⟨w1.heap.size + 1 + 1 + 1 + 1 + 1 + 1, 0, none⟩) 1 1, .slice (some ⟨w1.heap.size + 1 + 1 + 1 + 1 + 1, 0, none⟩) 1 1] 59)).alloc (.cells #[.int .i64 0, .int .i64 1, .int .i64 2] 3)).alloc (.cells #[.int .i64 1, .int .i64 (40 + v)] 106)).alloc (.cells #[.int .i64 3, .int .i64 1, .slice none 0 0, .slice none 0 0, .slice none 0 0, .int .i64 3, .int .i64 2, .slice none 0 0, .slice none 0 0, .slice none 0 0, .int .i64 4, .int .i64 0, .slice (some ⟨w1.heap.size + 1 + 1 + 1 + 1 + 1 + 1 + 1 + 1 + 1, 0, none⟩) 1 1, .slice none 0 0, .slice none 0 0] 103)).heap.size = w1.heap.size + 1 + 1 + 1 + 1 + 1 + 1 + 1 + 1 + 1 + 1 + 1 := by simp only [World.size_alloc]
  have n11 := Bk.new (((((((((((w1.alloc (.cells #[.int .i64 10, .int .i64 0] 106)).alloc (.cells #[.int .i64 2, .int .i64 0, .slice (some ⟨w1.heap.size, 0, none⟩) 1 1, .slice none 0 0, .slice none 0 0] 103)).alloc (.cells #[.int .i64 0] 3)).alloc (.cells #[.int .i64 0, .int .i64 0, .slice (some ⟨w1.heap.size + 1 + 1, 0, none⟩) 1 1, .slice (some ⟨w1.heap.size + 1, 0, none⟩) 1 1] 59)).alloc (.cells #[.int .i64 1, .int .i64 v] 106)).alloc (.cells #[.int .i64 2, .int .i64 0, .slice (some ⟨w1.heap.size + 1 + 1 + 1 + 1, 0, none⟩) 1 1, .slice none 0 0, .slice none 0 0] 103)).alloc (.cells #[.int .i64 0] 3)).alloc (.cells #[.int .i64 0, .int .i64 0, .slice (some ⟨w1.heap.size + 1 + 1 + 1 + 1 + 1 + 1, 0, none⟩) 1 1, .slice (some ⟨w1.heap.size + 1 + 1 + 1 + 1 + 1, 0, none⟩) 1 1] 59)).alloc (.cells #[.int .i64 0, .int .i64 1, .int .i64 2] 3)).alloc (.cells #[.int .i64 1, .int .i64 (40 + v)] 106)).alloc (.cells #[.int .i64 3, .int .i64 1, .slice none 0 0, .slice none 0 0, .slice none 0 0, .int .i64 3, .int .i64 2, .slice none 0 0, .slice none 0 0, .slice none 0 0, .int .i64 4, .int .i64 0, .slice (some ⟨w1.heap.size + 1 + 1 + 1 + 1 + 1 + 1 + 1 + 1 + 1, 0, none⟩) 1 1, .slice none 0 0, .slice none 0 0] 103)) 59 #[.int .i64 0, .int .i64 0, .slice (some ⟨w1.heap.size + 1 + 1 + 1 + 1 + 1 + 1 + 1 + 1, 0, none⟩) 3 3, .slice (some ⟨w1.heap.size + 1 + 1 + 1 + 1 + 1 + 1 + 1 + 1 + 1 + 1, 0, none⟩) 3 3]
  rw [s11] at n11
  exact ⟨⟨hc.below hbb, hd.then hbb, hr.below hbb, hl, (((((((((((n0).alloc _).alloc _).alloc _).alloc _).alloc _).alloc _).alloc _).alloc _).alloc _).alloc _).alloc _, ((((((((((n1).alloc _).alloc _).alloc _).alloc _).alloc _).alloc _).alloc _).alloc _).alloc _).alloc _, (((((((((n2).alloc _).alloc _).alloc _).alloc _).alloc _).alloc _).alloc _).alloc _).alloc _, ((((((((n3).alloc _).alloc _).alloc _).alloc _).alloc _).alloc _).alloc _).alloc _, ((((n7).alloc _).alloc _).alloc _).alloc _, (((n8).alloc _).alloc _).alloc _, ((n9).alloc _).alloc _, (n10).alloc _, n11⟩, (((((((n4).alloc _).alloc _).alloc _).alloc _).alloc _).alloc _).alloc _, ((((((n5).alloc _).alloc _).alloc _).alloc _).alloc _).alloc _, (((((n6).alloc _).alloc _).alloc _).alloc _).alloc _⟩
set_option maxHeartbeats 2000000 in
theorem KnS.exit (H : KnS g A c zs w K h v kk ss bb sv W) (hg : g < w.heap.size) : KnS g A c zs w K h v (.int .i64 6) (.slice none 0 0) bb sv (((((W.setCell ⟨h + 1 + 1 + 1 + 1 + 1 + 1 + 1 + 1 + 1 + 1, 10, none⟩ (.int .i64 6)).setCell ⟨h + 1 + 1 + 1 + 1 + 1 + 1 + 1 + 1 + 1 + 1, 11, none⟩ (.int .i64 0)).setCell ⟨h + 1 + 1 + 1 + 1 + 1 + 1 + 1 + 1 + 1 + 1, 12, none⟩ (.slice none 0 0)).setCell ⟨h + 1 + 1 + 1 + 1 + 1 + 1 + 1 + 1 + 1 + 1, 13, none⟩ (.slice none 0 0)).setCell ⟨h + 1 + 1 + 1 + 1 + 1 + 1 + 1 + 1 + 1 + 1, 14, none⟩ (.slice none 0 0)) := by
  have hl := H.lt
  have hkk : ∀ k, k ≠ h + 1 + 1 + 1 + 1 + 1 + 1 + 1 + 1 + 1 + 1 → (((((W.setCell ⟨h + 1 + 1 + 1 + 1 + 1 + 1 + 1 + 1 + 1 + 1, 10, none⟩ (.int .i64 6)).setCell ⟨h + 1 + 1 + 1 + 1 + 1 + 1 + 1 + 1 + 1 + 1, 11, none⟩ (.int .i64 0)).setCell ⟨h + 1 + 1 + 1 + 1 + 1 + 1 + 1 + 1 + 1 + 1, 12, none⟩ (.slice none 0 0)).setCell ⟨h + 1 + 1 + 1 + 1 + 1 + 1 + 1 + 1 + 1 + 1, 13, none⟩ (.slice none 0 0)).setCell ⟨h + 1 + 1 + 1 + 1 + 1 + 1 + 1 + 1 + 1 + 1, 14, none⟩ (.slice none 0 0)).heap[k]? = W.heap[k]? := fun k hk => by
    rw [Below.heap_setCell _ _ _ _ hk, Below.heap_setCell _ _ _ _ hk, Below.heap_setCell _ _ _ _ hk, Below.heap_setCell _ _ _ _ hk, Below.heap_setCell _ _ _ _ hk]
  have hz : (((((W.setCell ⟨h + 1 + 1 + 1 + 1 + 1 + 1 + 1 + 1 + 1 + 1, 10, none⟩ (.int .i64 6)).setCell ⟨h + 1 + 1 + 1 + 1 + 1 + 1 + 1 + 1 + 1 + 1, 11, none⟩ (.int .i64 0)).setCell ⟨h + 1 + 1 + 1 + 1 + 1 + 1 + 1 + 1 + 1 + 1, 12, none⟩ (.slice none 0 0)).setCell ⟨h + 1 + 1 + 1 + 1 + 1 + 1 + 1 + 1 + 1 + 1, 13, none⟩ (.slice none 0 0)).setCell ⟨h + 1 + 1 + 1 + 1 + 1 + 1 + 1 + 1 + 1 + 1, 14, none⟩ (.slice none 0 0)).heap.size = W.heap.size := by simp only [World.size_setCell]
  have hb : Below (h + 1 + 1 + 1 + 1 + 1 + 1 + 1 + 1 + 1 + 1) W (((((W.setCell ⟨h + 1 + 1 + 1 + 1 + 1 + 1 + 1 + 1 + 1 + 1, 10, none⟩ (.int .i64 6)).setCell ⟨h + 1 + 1 + 1 + 1 + 1 + 1 + 1 + 1 + 1 + 1, 11, none⟩ (.int .i64 0)).setCell ⟨h + 1 + 1 + 1 + 1 + 1 + 1 + 1 + 1 + 1 + 1, 12, none⟩ (.slice none 0 0)).setCell ⟨h + 1 + 1 + 1 + 1 + 1 + 1 + 1 + 1 + 1 + 1, 13, none⟩ (.slice none 0 0)).setCell ⟨h + 1 + 1 + 1 + 1 + 1 + 1 + 1 + 1 + 1 + 1, 14, none⟩ (.slice none 0 0)) := ⟨rfl, rfl, rfl, by omega, fun k hk => hkk k (by omega)⟩
  have k1 : Bk (W.setCell ⟨h + 1 + 1 + 1 + 1 + 1 + 1 + 1 + 1 + 1 + 1, 10, none⟩ (.int .i64 6)) (h + 1 + 1 + 1 + 1 + 1 + 1 + 1 + 1 + 1 + 1) 103 #[.int .i64 3, .int .i64 1, .slice none 0 0, .slice none 0 0, .slice none 0 0, .int .i64 3, .int .i64 2, .slice none 0 0, .slice none 0 0, .slice none 0 0, .int .i64 6, .int .i64 0, ss, .slice none 0 0, .slice none 0 0] := H.b10.set 10 (.int .i64 6)
  have k2 : Bk ((W.setCell ⟨h + 1 + 1 + 1 + 1 + 1 + 1 + 1 + 1 + 1 + 1, 10, none⟩ (.int .i64 6)).setCell ⟨h + 1 + 1 + 1 + 1 + 1 + 1 + 1 + 1 + 1 + 1, 11, none⟩ (.int .i64 0)) (h + 1 + 1 + 1 + 1 + 1 + 1 + 1 + 1 + 1 + 1) 103 #[.int .i64 3, .int .i64 1, .slice none 0 0, .slice none 0 0, .slice none 0 0, .int .i64 3, .int .i64 2, .slice none 0 0, .slice none 0 0, .slice none 0 0, .int .i64 6, .int .i64 0, ss, .slice none 0 0, .slice none 0 0] := k1.set 11 (.int .i64 0)
  have k3 : Bk (((W.setCell ⟨h + 1 + 1 + 1 + 1 + 1 + 1 + 1 + 1 + 1 + 1, 10, none⟩ (.int .i64 6)).setCell ⟨h + 1 + 1 + 1 + 1 + 1 + 1 + 1 + 1 + 1 + 1, 11, none⟩ (.int .i64 0)).setCell ⟨h + 1 + 1 + 1 + 1 + 1 + 1 + 1 + 1 + 1 + 1, 12, none⟩ (.slice none 0 0)) (h + 1 + 1 + 1 + 1 + 1 + 1 + 1 + 1 + 1 + 1) 103 #[.int .i64 3, .int .i64 1, .slice none 0 0, .slice none 0 0, .slice none 0 0, .int .i64 3, .int .i64 2, .slice none 0 0, .slice none 0 0, .slice none 0 0, .int .i64 6, .int .i64 0, .slice none 0 0, .slice none 0 0, .slice none 0 0] := k2.set 12 (.slice none 0 0)
  have k4 : Bk ((((W.setCell ⟨h + 1 + 1 + 1 + 1 + 1 + 1 + 1 + 1 + 1 + 1, 10, none⟩ (.int .i64 6)).setCell ⟨h + 1 + 1 + 1 + 1 + 1 + 1 + 1 + 1 + 1 + 1, 11, none⟩ (.int .i64 0)).setCell ⟨h + 1 + 1 + 1 + 1 + 1 + 1 + 1 + 1 + 1 + 1, 12, none⟩ (.slice none 0 0)).setCell ⟨h + 1 + 1 + 1 + 1 + 1 + 1 + 1 + 1 + 1 + 1, 13, none⟩ (.slice none 0 0)) (h + 1 + 1 + 1 + 1 + 1 + 1 + 1 + 1 + 1 + 1) 103 #[.int .i64 3, .int .i64 1, .slice none 0 0, .slice none 0 0, .slice none 0 0, .int .i64 3, .int .i64 2, .slice none 0 0, .slice none 0 0, .slice none 0 0, .int .i64 6, .int .i64 0, .slice none 0 0, .slice none 0 0, .slice none 0 0] := k3.set 13 (.slice none 0 0)
  have k5 : Bk (((((W.setCell ⟨h + 1 + 1 + 1 + 1 + 1 + 1 + 1 + 1 + 1 + 1, 10, none⟩ (.int .i64 6)).setCell ⟨h + 1 + 1 + 1 + 1 + 1 + 1 + 1 + 1 + 1 + 1, 11, none⟩ (.int .i64 0)).setCell ⟨h + 1 + 1 + 1 + 1 + 1 + 1 + 1 + 1 + 1 + 1, 12, none⟩ (.slice none 0 0)).setCell ⟨h + 1 + 1 + 1 + 1 + 1 + 1 + 1 + 1 + 1 + 1, 13, none⟩ (.slice none 0 0)).setCell ⟨h + 1 + 1 + 1 + 1 + 1 + 1 + 1 + 1 + 1 + 1, 14, none⟩ (.slice none 0 0)) (h + 1 + 1 + 1 + 1 + 1 + 1 + 1 + 1 + 1 + 1) 103 #[.int .i64 3, .int .i64 1, .slice none 0 0, .slice none 0 0, .slice none 0 0, .int .i64 3, .int .i64 2, .slice none 0 0, .slice none 0 0, .slice none 0 0, .int .i64 6, .int .i64 0, .slice none 0 0, .slice none 0 0, .slice none 0 0] := k4.set 14 (.slice none 0 0)
  have hs := k5
  clear k1 k2 k3 k4 k5
  generalize (((((W.setCell ⟨h + 1 + 1 + 1 + 1 + 1 + 1 + 1 + 1 + 1 + 1, 10, none⟩ (.int .i64 6)).setCell ⟨h + 1 + 1 + 1 + 1 + 1 + 1 + 1 + 1 + 1 + 1, 11, none⟩ (.int .i64 0)).setCell ⟨h + 1 + 1 + 1 + 1 + 1 + 1 + 1 + 1 + 1 + 1, 12, none⟩ (.slice none 0 0)).setCell ⟨h + 1 + 1 + 1 + 1 + 1 + 1 + 1 + 1 + 1 + 1, 13, none⟩ (.slice none 0 0)).setCell ⟨h + 1 + 1 + 1 + 1 + 1 + 1 + 1 + 1 + 1 + 1, 14, none⟩ (.slice none 0 0)) = X at *
  have hk : ∀ {k : Nat} {t : TypeId} {cs : Array Value}, Bk W k t cs → k ≠ h + 1 + 1 + 1 + 1 + 1 + 1 + 1 + 1 + 1 + 1 → Bk X k t cs := fun hb hne => (hkk _ hne).trans hb
  exact ⟨H.cur.keepG2 hb (by omega), H.dw.belowW hb (by omega), hk H.res (by omega), hl, hk H.b0 (by omega), hk H.b1 (by omega), hk H.b2 (by omega), hk H.b3 (by omega), hk H.b7 (by omega), hk H.b8 (by omega), hk H.b9 (by omega), hs, hk H.b11 (by omega)⟩
theorem KnS.set3 (H : KnS g A c zs w K h v kk ss bb sv W) (hg : g < w.heap.size) (sv' : Value) : KnS g A c zs w K h v kk ss bb sv' (W.setCell ⟨h + 1 + 1 + 1 + 1 + 1 + 1 + 1, 3, none⟩ sv') := by
  have hl := H.lt
  have hb : Below (h + 1 + 1 + 1 + 1 + 1 + 1 + 1) W (W.setCell ⟨h + 1 + 1 + 1 + 1 + 1 + 1 + 1, 3, none⟩ sv') := ⟨rfl, rfl, rfl, by rw [World.size_setCell]; exact Nat.le_refl _, fun k hk => Below.heap_setCell _ _ _ _ (by show k ≠ h + 1 + 1 + 1 + 1 + 1 + 1 + 1; omega)⟩
  exact ⟨H.cur.keepG2 hb (by omega), H.dw.belowW hb (by omega), H.res.far (by omega) _ _, hl, H.b0.far (by omega) _ _, H.b1.far (by omega) _ _, H.b2.far (by omega) _ _, H.b3.far (by omega) _ _, H.b7.set 3 sv', H.b8.far (by omega) _ _, H.b9.far (by omega) _ _, H.b10.far (by omega) _ _, H.b11.far (by omega) _ _⟩
theorem KnS.set2 (H : KnS g A c zs w K h v kk ss bb sv W) (hg : g < w.heap.size) (bb' : Value) : KnS g A c zs w K h v kk ss bb' sv (W.setCell ⟨h + 1 + 1 + 1 + 1 + 1 + 1 + 1, 2, none⟩ bb') := by
  have hl := H.lt
  have hb : Below (h + 1 + 1 + 1 + 1 + 1 + 1 + 1) W (W.setCell ⟨h + 1 + 1 + 1 + 1 + 1 + 1 + 1, 2, none⟩ bb') := ⟨rfl, rfl, rfl, by rw [World.size_setCell]; exact Nat.le_refl _, fun k hk => Below.heap_setCell _ _ _ _ (by show k ≠ h + 1 + 1 + 1 + 1 + 1 + 1 + 1; omega)⟩
  exact ⟨H.cur.keepG2 hb (by omega), H.dw.belowW hb (by omega), H.res.far (by omega) _ _, hl, H.b0.far (by omega) _ _, H.b1.far (by omega) _ _, H.b2.far (by omega) _ _, H.b3.far (by omega) _ _, H.b7.set 2 bb', H.b8.far (by omega) _ _, H.b9.far (by omega) _ _, H.b10.far (by omega) _ _, H.b11.far (by omega) _ _⟩
theorem KnS.alloc (H : KnS g A c zs w K h v kk ss bb sv W) (hg : g < w.heap.size) (o : Obj) : KnS g A c zs w K h v kk ss bb sv (W.alloc o) := H.step hg (H.cur.below ((Below.refl _ _).alloc (Nat.le_refl _) o)) ((Dw.refl g W).alloc o)
theorem KnS.gro {u u' : Value} (H : KnS g A c zs w K h v kk ss bb sv W) (hg : g < w.heap.size) (hu : u.ownBlock = some (h + 1 + 1 + 1 + 1 + 1)) (hgr : Gro W W' u u') : KnS g A c zs w K h v kk ss bb sv W' := by
  have hl := H.lt; have hl11 := H.b11.lt
  have hb : Below (h + 1 + 1 + 1 + 1 + 1) W W' := ⟨hgr.g.os, hgr.g.tape, hgr.g.output, hgr.g.size, fun k hk => hgr.g.block k (by omega) (by rw [hu]; intro e; injection e with e; omega)⟩
  have hk : ∀ {k : Nat} {t : TypeId} {cs : Array Value}, Bk W k t cs → k ≠ h + 1 + 1 + 1 + 1 + 1 → Bk W' k t cs := fun hb hne => hgr.bk hb (by rw [hu]; intro e; injection e with e; exact hne e)
  exact ⟨H.cur.keepG2 hb (by omega), H.dw.belowW hb (by omega), hk H.res (by omega), hl, hk H.b0 (by omega), hk H.b1 (by omega), hk H.b2 (by omega), hk H.b3 (by omega), hk H.b7 (by omega), hk H.b8 (by omega), hk H.b9 (by omega), hk H.b10 (by omega), hk H.b11 (by omega)⟩
end
end Go.Proofs.Ytheddnjhkcpmnaa
set_option linter.unusedSimpArgs false
set_option linter.unusedVariables false
set_option maxRecDepth 100000
namespace Go.Proofs.Ytheddnjhkcpmnaa
open Go.RowKit

theorem kn_num {v : Int} (h : 0 ≤ v ∧ v ≤ 100) : goodExpr [⟨1, v⟩] 0 [0, 0, 0] = true := by
  have hs : smallB v = true := by unfold smallB; exact decide_eq_true (by omega)
  simp [goodExpr, highOf, runE, tokOk, need, parOk, hs]; omega
theorem kn_rec : goodExpr [⟨10, 0⟩] 0 [0, 0, 0] = true := by decide
def kM (m : StmtM) : FuncM := ⟨0, 0, [0, 1, 2], [⟨3, 1, [], [], []⟩, ⟨3, 2, [], [], []⟩, m]⟩
def kO : FuncM := ⟨0, 0, [0], [⟨2, 0, [⟨10, 0⟩], [], []⟩]⟩
def kT (v : Int) : FuncM := ⟨0, 0, [0], [⟨2, 0, [⟨1, v⟩], [], []⟩]⟩
def kU (v : Int) : FuncM := ⟨0, 0, [0, 1], [⟨2, 0, [⟨1, v⟩], [], []⟩, ⟨4, 0, [⟨1, 50⟩], [], []⟩]⟩
theorem seg_one {K : Nat → StmtM} {a q : Nat} {bs : List Int} (h1 : (K a).qThen = []) (h2 : (K a).qElse = []) (h : Seg K (a + 1) q bs) : Seg K a q ((a : Int) :: bs) :=
  .cons (m := a + 1) (p := a + 1) (by rw [h1]; exact .nil _) (by rw [h2]; exact .nil _) h fun _ j u v => by omega
theorem kM_ok {m : StmtM} (hm : StG 0 [0, 0, 0] m) (h3 : m.qKind ≠ 3) (h4 : m.qThen = []) (h5 : m.qElse = []) : FunOk [0, 0, 0] (kM m) := by
  refine ⟨rfl, rfl, ⟨by simp [kM], ?_, ?_⟩, ?_, by simp [kM]⟩
  · show (List.count 3 [3, 3, m.qKind]) ≤ 4
    exact Nat.le_trans (List.count_le_length) (by simp)
  · intro s hs
    simp only [kM, List.mem_cons, List.not_mem_nil, or_false] at hs
    rcases hs with rfl | rfl | rfl
    · exact stG_defer (n := 1) (by decide) rfl
    · exact stG_defer (n := 2) (by decide) rfl
    · exact hm
  · show Seg (atS [⟨3, 1, [], [], []⟩, ⟨3, 2, [], [], []⟩, m]) 0 3 [0, 1, 2]
    exact seg_one (a := 0) rfl rfl (seg_one (a := 1) rfl rfl (seg_one (a := 2) h4 h5 (.nil _)))
theorem kO_ok : FunOk [0, 0, 0] kO := by
  refine ⟨rfl, rfl, ⟨by decide, by decide, ?_⟩, ?_, by decide⟩
  · intro s hs
    simp only [kO, List.mem_cons, List.not_mem_nil, or_false] at hs
    subst hs
    exact stG_plain kn_rec (by decide) (.inl rfl)
  · exact seg_one (a := 0) rfl rfl (.nil _)
theorem kT_ok {v : Int} (h : 0 ≤ v ∧ v ≤ 100) : FunOk [0, 0, 0] (kT v) := by
  refine ⟨rfl, rfl, ⟨by simp [kT], by simp [kT], ?_⟩, ?_, by simp [kT]⟩
  · intro s hs
    simp only [kT, List.mem_cons, List.not_mem_nil, or_false] at hs
    subst hs
    exact stG_plain (kn_num h) (by simp) (.inl rfl)
  · exact seg_one (a := 0) rfl rfl (.nil _)
theorem kU_ok {v : Int} (h : 0 ≤ v ∧ v ≤ 100) : FunOk [0, 0, 0] (kU v) := by
  refine ⟨rfl, rfl, ⟨by simp [kU], by simp [kU], ?_⟩, ?_, by simp [kU]⟩
  · intro s hs
    simp only [kU, List.mem_cons, List.not_mem_nil, or_false] at hs
    rcases hs with rfl | rfl
    · exact stG_plain (kn_num h) (by simp) (.inl rfl)
    · exact stG_plain (kn_num (by omega)) (by simp) (.inr (.inl rfl))
  · exact seg_one (a := 0) rfl rfl (seg_one (a := 1) rfl rfl (.nil _))
theorem kn_prog {m : StmtM} {f : FuncM} (hm : StG 0 [0, 0, 0] m) (h3 : m.qKind ≠ 3) (h4 : m.qThen = []) (h5 : m.qElse = []) (hf : FunOk [0, 0, 0] f) (hp : f.qParams = 0) : progS [kM m, kO, f] = true :=
  (prog_good (ps := [0, 0, 0]) (fs := [kM m, kO, f]) rfl (fun i h h' => by
    obtain rfl | rfl | rfl : i = 0 ∨ i = 1 ∨ i = 2 := by simp at h; omega
    · rfl
    · rfl
    · exact hp) (by decide) rfl (by decide) (fun g hg => by
    simp only [List.mem_cons, List.not_mem_nil, or_false] at hg
    rcases hg with rfl | rfl | rfl
    · exact kM_ok hm h3 h4 h5
    · exact kO_ok
    · exact hf)).2
/-- the row of three functions, as it is returned -/
theorem kn_prgD {g : Nat} {W : World} {q : Nat} {m : StmtM} {f : FuncM} {c0 c1 c2 : List Value} (hm : StG 0 [0, 0, 0] m) (h3 : m.qKind ≠ 3) (h4 : m.qThen = []) (h5 : m.qElse = []) (hf : FunOk [0, 0, 0] f) (hp : f.qParams = 0)
    (hg : g < q) (hb : Bk W q 59 (c0 ++ c1 ++ c2).toArray) (h0 : FnC g W c0 (kM m)) (h1 : FnC g W c1 kO) (h2 : FnC g W c2 f) : PrgD g W (.slice (some ⟨q, 0, none⟩) 3 3) [kM m, kO, f] := by
  have hl : ∀ {cs : List Value} {x : FuncM}, FnC g W cs x → cs.length = 4 := fun h => by obtain ⟨_, _, rfl, _⟩ := h; rfl
  refine ⟨⟨[c0, c1, c2], rfl, ?_, ?_⟩, kn_prog hm h3 h4 h5 hf hp, by simp, ?_⟩
  · have := own_of_bk (lo := g + 1) (n := 3) (size := 4) hb hg (by simp [hl h0, hl h1, hl h2]) (by decide)
    simpa using this
  · intro i a b
    obtain rfl | rfl | rfl : i = 0 ∨ i = 1 ∨ i = 2 := by simp at a; omega
    · exact h0
    · exact h1
    · exact h2
  · intro g hg
    simp only [List.mem_cons, List.not_mem_nil, or_false] at hg
    rcases hg with rfl | rfl | rfl
    · exact (kM_ok hm h3 h4 h5).d
    · exact kO_ok.d
    · exact hf.d
/-- the first function's cells -/
theorem fn_main {g : Nat} {W : World} {q1 q2 : Nat} {k : Int} {ss : Value} {m : StmtM} (h1 : Bk W q1 3 #[.int .i64 0, .int .i64 1, .int .i64 2]) (h2 : Bk W q2 103 #[.int .i64 3, .int .i64 1, .slice none 0 0, .slice none 0 0, .slice none 0 0, .int .i64 3, .int .i64 2, .slice none 0 0, .slice none 0 0, .slice none 0 0, .int .i64 k, .int .i64 0, ss, .slice none 0 0, .slice none 0 0]) (l1 : g < q1) (l2 : g < q2)
    (hs : SC NoX g W [.int .i64 k, .int .i64 0, ss, .slice none 0 0, .slice none 0 0] m) : FnC g W [.int .i64 0, .int .i64 0, .slice (some ⟨q1, 0, none⟩) 3 3, .slice (some ⟨q2, 0, none⟩) 3 3] (kM m) := by
  refine ⟨_, _, rfl, own_of_bk h1 l1 rfl (by decide), [[.int .i64 3, .int .i64 1, .slice none 0 0, .slice none 0 0, .slice none 0 0], [.int .i64 3, .int .i64 2, .slice none 0 0, .slice none 0 0, .slice none 0 0], [.int .i64 k, .int .i64 0, ss, .slice none 0 0, .slice none 0 0]], rfl, own_of_bk (n := 3) h2 l2 rfl (by decide), fun i hi hi' => ?_⟩
  obtain rfl | rfl | rfl : i = 0 ∨ i = 1 ∨ i = 2 := by simp at hi'; omega
  · exact sc_none
  · exact sc_none
  · exact hs
theorem KnT.exit {h : Nat} {v : Int} {W : World} (H : KnT h v W) : KnT h v (((((W.setCell ⟨h + 1 + 1 + 1 + 1 + 1 + 1 + 1 + 1 + 1 + 1, 10, none⟩ (.int .i64 6)).setCell ⟨h + 1 + 1 + 1 + 1 + 1 + 1 + 1 + 1 + 1 + 1, 11, none⟩ (.int .i64 0)).setCell ⟨h + 1 + 1 + 1 + 1 + 1 + 1 + 1 + 1 + 1 + 1, 12, none⟩ (.slice none 0 0)).setCell ⟨h + 1 + 1 + 1 + 1 + 1 + 1 + 1 + 1 + 1 + 1, 13, none⟩ (.slice none 0 0)).setCell ⟨h + 1 + 1 + 1 + 1 + 1 + 1 + 1 + 1 + 1 + 1, 14, none⟩ (.slice none 0 0)) :=
  ⟨((((H.b4.far (by omega) _ _).far (by omega) _ _).far (by omega) _ _).far (by omega) _ _).far (by omega) _ _, ((((H.b5.far (by omega) _ _).far (by omega) _ _).far (by omega) _ _).far (by omega) _ _).far (by omega) _ _, ((((H.b6.far (by omega) _ _).far (by omega) _ _).far (by omega) _ _).far (by omega) _ _).far (by omega) _ _⟩
section
-- END
variable {g : Nat} {A : Option Addr} {c : Nat} {zs : List Int} {w : World} {K h : Nat} {v k : Int} {ss bb sv : Value} {W W9 : World}
theorem KP.setp {q : Nat} {cs : Array Value} (hq : Bk W q 45 cs) (i : Nat) (u : Value) : KP g W (W.setCell ⟨q, i, none⟩ u) := by
  rintro k h1 ⟨ys, t, z, hh, ht⟩
  refine Below.heap_setCell _ _ _ _ fun e => ?_
  have e : k = q := e
  subst e
  rw [show W.heap[k]? = _ from hq] at hh
  injection hh with hh; injection hh with _ hh _; exact ht.2 hh.symm
theorem kn_end {f : FuncM} (H : KnS g A c zs w K h v (.int .i64 k) ss bb sv W) (hg : g < w.heap.size) (hv : 0 ≤ v ∧ v ≤ 8) (hks : (k = 4 ∧ ss = .slice (some ⟨h + 1 + 1 + 1 + 1 + 1 + 1 + 1 + 1 + 1, 0, none⟩) 1 1) ∨ (k = 6 ∧ ss = .slice none 0 0)) (hF : FnC g W [.int .i64 0, .int .i64 0, bb, sv] f) (hok : FunOk [0, 0, 0] f) (hp : f.qParams = 0) {K' : Nat} (hK : K ≤ K' + 200000) :
    PrgP g A c zs K' w (.returned (.agg #[.slice (some ⟨W.heap.size, 0, none⟩) 3 3])) ((W.setCell ⟨w.heap.size, 0, none⟩ (.slice (some ⟨W.heap.size, 0, none⟩) 3 3)).alloc (.cells #[.int .i64 0, .int .i64 0, .slice (some ⟨h + 1 + 1 + 1 + 1 + 1 + 1 + 1 + 1, 0, none⟩) 3 3, .slice (some ⟨h + 1 + 1 + 1 + 1 + 1 + 1 + 1 + 1 + 1 + 1, 0, none⟩) 3 3, .int .i64 0, .int .i64 0, .slice (some ⟨h + 1 + 1, 0, none⟩) 1 1, .slice (some ⟨h + 1, 0, none⟩) 1 1, .int .i64 0, .int .i64 0, bb, sv] 59)) := by
  rw [← World.setCell_alloc_past (w := W) (.cells #[.int .i64 0, .int .i64 0, .slice (some ⟨h + 1 + 1 + 1 + 1 + 1 + 1 + 1 + 1, 0, none⟩) 3 3, .slice (some ⟨h + 1 + 1 + 1 + 1 + 1 + 1 + 1 + 1 + 1 + 1, 0, none⟩) 3 3, .int .i64 0, .int .i64 0, .slice (some ⟨h + 1 + 1, 0, none⟩) 1 1, .slice (some ⟨h + 1, 0, none⟩) 1 1, .int .i64 0, .int .i64 0, bb, sv] 59) w.heap.size 0 _ (by have := H.lt; have := H.b11.lt; omega)]
  have hl := H.lt; have hl11 := H.b11.lt
  have hB := Bk.new W 59 #[.int .i64 0, .int .i64 0, .slice (some ⟨h + 1 + 1 + 1 + 1 + 1 + 1 + 1 + 1, 0, none⟩) 3 3, .slice (some ⟨h + 1 + 1 + 1 + 1 + 1 + 1 + 1 + 1 + 1 + 1, 0, none⟩) 3 3, .int .i64 0, .int .i64 0, .slice (some ⟨h + 1 + 1, 0, none⟩) 1 1, .slice (some ⟨h + 1, 0, none⟩) 1 1, .int .i64 0, .int .i64 0, bb, sv]
  have hdA := (Dw.refl g W).alloc (.cells #[.int .i64 0, .int .i64 0, .slice (some ⟨h + 1 + 1 + 1 + 1 + 1 + 1 + 1 + 1, 0, none⟩) 3 3, .slice (some ⟨h + 1 + 1 + 1 + 1 + 1 + 1 + 1 + 1 + 1 + 1, 0, none⟩) 3 3, .int .i64 0, .int .i64 0, .slice (some ⟨h + 1 + 1, 0, none⟩) 1 1, .slice (some ⟨h + 1, 0, none⟩) 1 1, .int .i64 0, .int .i64 0, bb, sv] 59)
  have H1 := H.alloc hg (.cells #[.int .i64 0, .int .i64 0, .slice (some ⟨h + 1 + 1 + 1 + 1 + 1 + 1 + 1 + 1, 0, none⟩) 3 3, .slice (some ⟨h + 1 + 1 + 1 + 1 + 1 + 1 + 1 + 1 + 1 + 1, 0, none⟩) 3 3, .int .i64 0, .int .i64 0, .slice (some ⟨h + 1 + 1, 0, none⟩) 1 1, .slice (some ⟨h + 1, 0, none⟩) 1 1, .int .i64 0, .int .i64 0, bb, sv] 59)
  have hF1 := hF.kp (KP.dw hdA)
  generalize W.alloc (.cells #[.int .i64 0, .int .i64 0, .slice (some ⟨h + 1 + 1 + 1 + 1 + 1 + 1 + 1 + 1, 0, none⟩) 3 3, .slice (some ⟨h + 1 + 1 + 1 + 1 + 1 + 1 + 1 + 1 + 1 + 1, 0, none⟩) 3 3, .int .i64 0, .int .i64 0, .slice (some ⟨h + 1 + 1, 0, none⟩) 1 1, .slice (some ⟨h + 1, 0, none⟩) 1 1, .int .i64 0, .int .i64 0, bb, sv] 59) = X at *
  have hO : FnC g X [.int .i64 0, .int .i64 0, .slice (some ⟨h + 1 + 1, 0, none⟩) 1 1, .slice (some ⟨h + 1, 0, none⟩) 1 1] kO := fn_one H1.b0 H1.b1 H1.b2 (by omega) (by omega) (by omega)
  have key : ∀ m : StmtM, SC NoX g X [.int .i64 k, .int .i64 0, ss, .slice none 0 0, .slice none 0 0] m → StG 0 [0, 0, 0] m → m.qKind ≠ 3 → m.qThen = [] → m.qElse = [] → PrgD g X (.slice (some ⟨W.heap.size, 0, none⟩) 3 3) [kM m, kO, f] := fun m hs hm h3 h4 h5 =>
    kn_prgD (c0 := [.int .i64 0, .int .i64 0, .slice (some ⟨h + 1 + 1 + 1 + 1 + 1 + 1 + 1 + 1, 0, none⟩) 3 3, .slice (some ⟨h + 1 + 1 + 1 + 1 + 1 + 1 + 1 + 1 + 1 + 1, 0, none⟩) 3 3]) (c1 := [.int .i64 0, .int .i64 0, .slice (some ⟨h + 1 + 1, 0, none⟩) 1 1, .slice (some ⟨h + 1, 0, none⟩) 1 1]) (c2 := [.int .i64 0, .int .i64 0, bb, sv]) hm h3 h4 h5 hok hp (by omega) hB (fn_main H1.b8 H1.b10 (by omega) (by omega) hs) hO hF1
  have hE : ∃ m : StmtM, PrgD g X (.slice (some ⟨W.heap.size, 0, none⟩) 3 3) [kM m, kO, f] := by
    rcases hks with ⟨rfl, rfl⟩ | ⟨rfl, rfl⟩
    · exact ⟨⟨4, 0, [⟨1, 40 + v⟩], [], []⟩, key _ (sc_one H1.b9 (by omega)) (stG_plain (kn_num (by omega)) (by simp) (.inr (.inl rfl))) (by simp) rfl rfl⟩
    · exact ⟨⟨6, 0, [], [], []⟩, key _ sc_none stG_exit (by simp) rfl rfl⟩
  obtain ⟨m, hD⟩ := hE
  refine ⟨_, _, rfl, ⟨hD.row.setp H1.res 0 _, hD.good, hD.len, hD.ok⟩, ?_, ?_⟩
  · exact (H1.cur.more hK).keepG2 (B := w.heap.size) ⟨rfl, rfl, rfl, by rw [World.size_setCell]; exact Nat.le_refl _, fun k hk => Below.heap_setCell _ _ _ _ (by show k ≠ w.heap.size; omega)⟩ hg
  · exact H1.dw.belowW (B := w.heap.size) ⟨rfl, rfl, rfl, by rw [World.size_setCell]; exact Nat.le_refl _, fun k hk => Below.heap_setCell _ _ _ _ (by show k ≠ w.heap.size; omega)⟩ (Nat.le_refl _)
theorem kn_one (H : KnS g A c zs w K h v (.int .i64 k) ss (.slice (some ⟨h + 1 + 1 + 1 + 1 + 1 + 1, 0, none⟩) 1 1) (.slice (some ⟨h + 1 + 1 + 1 + 1 + 1, 0, none⟩) 1 1) W) (hg : g < w.heap.size) (T : KnT h v W) : FnC g W [.int .i64 0, .int .i64 0, .slice (some ⟨h + 1 + 1 + 1 + 1 + 1 + 1, 0, none⟩) 1 1, .slice (some ⟨h + 1 + 1 + 1 + 1 + 1, 0, none⟩) 1 1] (kT v) := by
  have hl := H.lt
  exact fn_one T.b4 T.b5 T.b6 (by omega) (by omega) (by omega)
/-- a statement more for the second function -/
theorem kn_push {v9 : Value} (H : KnS g A c zs w K h v (.int .i64 k) ss bb (.slice (some ⟨h + 1 + 1 + 1 + 1 + 1, 0, none⟩) 1 1) W) (hg : g < w.heap.size) (T : KnT h v W) (hown : W9.ownsRow (w.heap.size + 1) 103 5 v9 (1 + 1) ([.int .i64 2, .int .i64 0, .slice (some ⟨h + 1 + 1 + 1 + 1, 0, none⟩) 1 1, .slice none 0 0, .slice none 0 0] ++ [.int .i64 4, .int .i64 0, .slice (some ⟨W.heap.size, 0, none⟩) 1 1, .slice none 0 0, .slice none 0 0]))
    (hgr : Gro (W.alloc (.cells #[.int .i64 1, .int .i64 50] 106)) W9 (.slice (some ⟨h + 1 + 1 + 1 + 1 + 1, 0, none⟩) 1 1) v9) : KnS g A c zs w K h v (.int .i64 k) ss bb (.slice (some ⟨h + 1 + 1 + 1 + 1 + 1, 0, none⟩) 1 1) W9 ∧ FRow NoX g v9 W9 [⟨2, 0, [⟨1, v⟩], [], []⟩, ⟨4, 0, [⟨1, 50⟩], [], []⟩] := by
  have hl := H.lt; have hl11 := H.b11.lt
  have H1 := H.alloc hg (.cells #[.int .i64 1, .int .i64 50] 106)
  have T1 := T.step (by omega : g < h) ((Dw.refl g W).alloc (.cells #[.int .i64 1, .int .i64 50] 106))
  have hb := Bk.new W 106 #[.int .i64 1, .int .i64 50]
  generalize W.alloc (.cells #[.int .i64 1, .int .i64 50] 106) = X at *
  have ho0 : X.ownsRow (w.heap.size + 1) 103 5 (.slice (some ⟨h + 1 + 1 + 1 + 1 + 1, 0, none⟩) 1 1) 1 [.int .i64 2, .int .i64 0, .slice (some ⟨h + 1 + 1 + 1 + 1, 0, none⟩) 1 1, .slice none 0 0, .slice none 0 0] := own_of_bk (n := 1) T1.b5 (by omega) rfl (by decide)
  have hr0 : FRow NoX w.heap.size (.slice (some ⟨h + 1 + 1 + 1 + 1 + 1, 0, none⟩) 1 1) X [⟨2, 0, [⟨1, v⟩], [], []⟩] := ⟨[[.int .i64 2, .int .i64 0, .slice (some ⟨h + 1 + 1 + 1 + 1, 0, none⟩) 1 1, .slice none 0 0, .slice none 0 0]], rfl, ho0, fun i hi hi' => by
    obtain rfl : i = 0 := by simp at hi; omega
    exact sc_one T1.b4 (by omega)⟩
  refine ⟨H1.gro hg rfl hgr, FRow.base (hr0.push (g := g) (s := ⟨4, 0, [⟨1, 50⟩], [], []⟩) hg (sc_one hb (by omega)) hgr fun css h1 h2 => ?_) (Nat.le_of_lt hg)⟩
  rw [own_inj h2 ho0]
  exact hown
theorem kn_two (H : KnS g A c zs w K h v (.int .i64 k) ss bb sv W9) (hg : g < w.heap.size) {v9 : Value} (hr : FRow NoX g v9 W9 [⟨2, 0, [⟨1, v⟩], [], []⟩, ⟨4, 0, [⟨1, 50⟩], [], []⟩]) :
    KnS g A c zs w K h v (.int .i64 k) ss (.slice (some ⟨W9.heap.size, 0, none⟩) 2 2) v9 (((W9.setCell ⟨h + 1 + 1 + 1 + 1 + 1 + 1 + 1, 3, none⟩ v9).setCell ⟨h + 1 + 1 + 1 + 1 + 1 + 1 + 1, 2, none⟩ (.slice (some ⟨W9.heap.size, 0, none⟩) 2 2)).alloc (.cells #[.int .i64 0, .int .i64 1] 3)) ∧
    FnC g (((W9.setCell ⟨h + 1 + 1 + 1 + 1 + 1 + 1 + 1, 3, none⟩ v9).setCell ⟨h + 1 + 1 + 1 + 1 + 1 + 1 + 1, 2, none⟩ (.slice (some ⟨W9.heap.size, 0, none⟩) 2 2)).alloc (.cells #[.int .i64 0, .int .i64 1] 3)) [.int .i64 0, .int .i64 0, .slice (some ⟨W9.heap.size, 0, none⟩) 2 2, v9] (kU v) := by
  have hl := H.lt; have hl11 := H.b11.lt
  rw [← World.setCell_alloc_past (w := W9.setCell ⟨h + 1 + 1 + 1 + 1 + 1 + 1 + 1, 3, none⟩ v9) (.cells #[.int .i64 0, .int .i64 1] 3) (h + 1 + 1 + 1 + 1 + 1 + 1 + 1) 2 _ (by rw [World.size_setCell]; omega)]
  have H1 := H.set3 hg v9
  have hr1 := hr.kp (KP.setf H.b7 3 v9)
  have hz : (W9.setCell ⟨h + 1 + 1 + 1 + 1 + 1 + 1 + 1, 3, none⟩ v9).heap.size = W9.heap.size := World.size_setCell _ _ _
  generalize W9.setCell ⟨h + 1 + 1 + 1 + 1 + 1 + 1 + 1, 3, none⟩ v9 = X at *
  have H2 := H1.alloc hg (.cells #[.int .i64 0, .int .i64 1] 3)
  have hr2 := hr1.kp (KP.dw ((Dw.refl g X).alloc (.cells #[.int .i64 0, .int .i64 1] 3)))
  have hb := Bk.new X 3 #[.int .i64 0, .int .i64 1]
  rw [hz] at hb
  generalize X.alloc (.cells #[.int .i64 0, .int .i64 1] 3) = Y at *
  have hb2 := hb.far (show W9.heap.size ≠ h + 1 + 1 + 1 + 1 + 1 + 1 + 1 by omega) 2 (.slice (some ⟨W9.heap.size, 0, none⟩) 2 2)
  exact ⟨H2.set2 hg _, _, _, rfl, own_of_bk hb2 (by omega) rfl (by decide), hr2.kp (KP.setf H2.b7 2 _)⟩
end
end Go.Proofs.Ytheddnjhkcpmnaa
set_option linter.unusedSimpArgs false
set_option linter.unusedVariables false
set_option maxRecDepth 100000
namespace Go.Proofs.Ytheddnjhkcpmnaa
open Go.RowKit

set_option maxHeartbeats 6400000 in
theorem cur_known (g : Nat) (A : Option Addr) (c : Nat) (zs : List Int) (K : Nat) (w : World) (hc : Cur g A c zs K w) (hK : K ≤ 100000000000000000) :
    Calls Try.prog 131 #[.pointer (some ⟨g, 0, none⟩)] w (PrgP g A c zs K w) := by
  have hgl := hc.lt
  have hc0 := hc.below ((Below.refl w.heap.size w).alloc (Nat.le_refl _) (.cells #[.slice none 0 0] 45))
  have hr0 := Bk.new w 45 #[.slice none 0 0]
  have Hc := hide hc0; have Hr := hide hr0
  have Hd := hide ((Dw.refl g w).alloc (.cells #[.slice none 0 0] 45))
  clear hc hc0 hr0
  go_enter Try.func131, Try.ntmps131
  go_upto_if 33 with (first
    | (go_at_call 70; go_must (refine (cur_pick g A c zs K _ _ Hc.out (by omega) (by omega)).mono ?_); rintro e w1 ⟨x, rfl, ⟨hx0, hx⟩, hc1, hd1⟩; have hx9 := hx (by omega); have hr1 := hd1.bk Hr.out (by omega); have HK := hide (kn_start (v := x) hc1 (Hd.out.trans hd1) hr1 hr1.lt hgl); clear hx hc1 hd1 hr1)
    | (go_at_call 65; go_must (refine (cur_one g A c zs _ _ _ HK.out.1.cur (by omega) (by omega)).mono ?_); rintro e w2 ⟨b2, rfl, hc1, hd1⟩; have HT := hide (HK.out.2.step (by have := HK.out.1.lt; omega) hd1); have HS := hide (HK.out.1.step hgl hc1 hd1); clear hc1 hd1 HK))
  have hl := HS.out.lt
  generalize hh : w1.heap.size = h at *
  have HS := hide HS.out; have HT := hide HT.out
  go_cut [] (fun wx => ∃ (k : Int) (ss : Value), ((k = 4 ∧ ss = (.slice (some ⟨h + 1 + 1 + 1 + 1 + 1 + 1 + 1 + 1 + 1, 0, none⟩) 1 1)) ∨ (k = 6 ∧ ss = .slice none 0 0)) ∧ KnS g A c zs w (K + 2 + 2) h x (.int .i64 k) ss (.slice (some ⟨h + 1 + 1 + 1 + 1 + 1 + 1, 0, none⟩) 1 1) (.slice (some ⟨h + 1 + 1 + 1 + 1 + 1, 0, none⟩) 1 1) wx ∧ KnT h x wx)
  case first =>
    cases b2
    · go_wp2_with fail
      go_meet
      exact ⟨4, _, .inl ⟨rfl, rfl⟩, HS.out, HT.out⟩
    · have a3 := HS.out.b11.cell 3; have al := HS.out.b11.lt
      have p0 := HS.out.b10.cell 10; have p1 := HS.out.b10.cell 11; have p2 := HS.out.b10.cell 12; have p3 := HS.out.b10.cell 13; have p4 := HS.out.b10.cell 14; have pl := HS.out.b10.lt
      have y0 := HS.out.b10.frozen 10; have y1 := HS.out.b10.frozen 11; have y2 := HS.out.b10.frozen 12; have y3 := HS.out.b10.frozen 13; have y4 := HS.out.b10.frozen 14
      go_wp2_with fail
      go_meet
      exact ⟨6, _, .inr ⟨rfl, rfl⟩, HS.out.exit hgl, HT.out.exit⟩
  case rest =>
    obtain ⟨k, ss, hks, hs, ht⟩ := hcut
    have HS := hide hs; have HT := hide ht; have Hks := hide hks
    clear hs ht hks
    go_upto_if 39 with (go_at_call 65; go_must (refine (cur_one g A c zs _ _ _ HS.out.cur (by omega) (by omega)).mono ?_); rintro e w3 ⟨b3, rfl, hc1, hd1⟩; have HT := hide (HT.out.step (by have := HS.out.lt; omega) hd1); have HS := hide (HS.out.step hgl hc1 hd1); clear hc1 hd1)
    have hl := HS.out.lt; have hl11 := HS.out.b11.lt
    have m0 := HS.out.b11.cell 0; have m1 := HS.out.b11.cell 1; have m2 := HS.out.b11.cell 2; have m3 := HS.out.b11.cell 3
    have o0 := HS.out.b3.cell 0; have o1 := HS.out.b3.cell 1; have o2 := HS.out.b3.cell 2; have o3 := HS.out.b3.cell 3; have ol := HS.out.b3.lt
    have t0 := HS.out.b7.cell 0; have t1 := HS.out.b7.cell 1; have t2 := HS.out.b7.cell 2; have t3 := HS.out.b7.cell 3; have tl := HS.out.b7.lt
    have r0 := HS.out.res.cell 0; have ry := HS.out.res.frozen 0; have rl := HS.out.res.lt
    cases b3
    case false =>

      have HE := hide (kn_end (K' := K) HS.out hgl ⟨hx0, by omega⟩ Hks.out (kn_one HS.out hgl HT.out) (kT_ok ⟨hx0, by omega⟩) rfl (by omega))
      go_wp2_with fail
      clear m0 m1 m2 m3 o0 o1 o2 o3 t0 t1 t2 t3
      refine bodyPost_ret (v := .agg #[.slice (some ⟨w3.heap.size, 0, none⟩) 3 3]) ?_ rfl HE.out
      simp [results, Try.results131, go_sem, r0, rl]; done

    case true =>

      have t23 := HS.out.b7.frozen 3; have t22 := HS.out.b7.frozen 2
      have Ho := hide (own_of_bk (lo := w.heap.size + 1) (n := 1) (size := 5) (HT.out.b5.alloc (.cells #[.int .i64 1, .int .i64 50] 106)) (by omega) rfl (by decide))
      have hbs : w.heap.size + 1 ≤ (w3.alloc (.cells #[.int .i64 1, .int .i64 50] 106)).heap.size := by rw [World.size_alloc]; omega
      go_wp2_with (at_builtin; go_must (refine wpList_pushG rfl _ _ _ rfl okStmt rfl Ho.out _ rfl (by simp) rfl (by simp [Value.oneCell']) (by unfold maxLen; omega) (by omega) hbs ?_); intro v9 w9 hown9 hg9; obtain ⟨vA9, vc9, rfl⟩ := own_form hown9; have HP := hide (kn_push HS.out hgl HT.out hown9 hg9); have t0 := HP.out.1.b7.cell 0; have t1 := HP.out.1.b7.cell 1; have t2 := HP.out.1.b7.cell 2; have t3 := HP.out.1.b7.cell 3; have tl := HP.out.1.b7.lt; have t23 := HP.out.1.b7.frozen 3; have t22 := HP.out.1.b7.frozen 2; have m0 := HP.out.1.b11.cell 0; have m1 := HP.out.1.b11.cell 1; have m2 := HP.out.1.b11.cell 2; have m3 := HP.out.1.b11.cell 3; have hl11 := HP.out.1.b11.lt; have o0 := HP.out.1.b3.cell 0; have o1 := HP.out.1.b3.cell 1; have o2 := HP.out.1.b3.cell 2; have o3 := HP.out.1.b3.cell 3; have ol := HP.out.1.b3.lt; have r0 := HP.out.1.res.cell 0; have ry := HP.out.1.res.frozen 0; have rl := HP.out.1.res.lt; clear hown9 hg9)
      have HQ := hide (kn_two HP.out.1 hgl HP.out.2)
      have HE := hide (kn_end (K' := K) HQ.out.1 hgl ⟨hx0, by omega⟩ Hks.out HQ.out.2 (kU_ok ⟨hx0, by omega⟩) rfl (by omega))
      have he := HE.out
      rw [World.setCell_alloc_past _ w.heap.size 0 _ (by rw [World.size_setCell, World.size_setCell]; exact rl)] at he
      simp only [World.size_alloc, World.size_setCell] at he
      clear m0 m1 m2 m3 o0 o1 o2 o3 t0 t1 t2 t3
      refine bodyPost_ret (v := .agg #[.slice (some ⟨w9.heap.size + 1, 0, none⟩) 3 3]) ?_ rfl he
      simp [results, Try.results131, go_sem, r0, rl]; done

end Go.Proofs.Ytheddnjhkcpmnaa
