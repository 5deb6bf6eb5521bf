
/- OutcomeText in plain Lean. No condition. -/
import Derived.Test.YtheddnjhkcpmnaaDoorOc
import Derived.Test.YtheddnjhkcpmnaaDoorBlk
import Derived.Test.YtheddnjhkcpmnaaDoorLw1
set_option linter.unusedSimpArgs false
set_option linter.unusedVariables false
set_option maxRecDepth 100000
namespace Go.Proofs.YtheddnjhkcpmnaaDoor
open Go.RowKit

def ocW : List (List UInt8) := [[], [100, 111, 110, 101], [112, 97, 110, 105, 99], [101, 120, 105, 116], [100, 101, 101, 112], [102, 117, 101, 108]]
def ocTr : List Int → List UInt8
  | [] => []
  | n :: l => 32 :: intT n ++ ocTr l
def ocHd (o : Oc) : List UInt8 := ocW.getD o.code.toNat [] ++ [32] ++ intT o.value ++ [58]
def ocT (o : Oc) : List UInt8 := ocHd o ++ ocTr o.trace
theorem ocTr_end {l : List Int} : ocTr (l.drop l.length) = [] := by rw [List.drop_length]; rfl
theorem ocTr_step {l : List Int} {k : Nat} (h : k < l.length) : ocTr (l.drop k) = 32 :: intT l[k] ++ ocTr (l.drop (k + 1)) := by
  rw [List.drop_eq_getElem_cons h]; rfl
def small (n : Int) : Prop := -2147483648 ≤ n ∧ n ≤ 2147483647
theorem ocTr_len {l : List Int} (h : ∀ n ∈ l, small n) : (ocTr l).length ≤ 12 * l.length := by
  induction l with
  | nil => simp [ocTr]
  | cons n l ih =>
    have hn := h n (by simp)
    have h1 := intT_len (n := n) (by have := hn.1; omega) (by have := hn.2; omega)
    have h2 := ih (fun t ht => h t (by simp [ht]))
    simp only [ocTr, List.length_append, List.length_cons]
    omega
theorem ocW_len (k : Nat) : (ocW.getD k []).length ≤ 5 := by
  match k with
  | 0 | 1 | 2 | 3 | 4 | 5 => simp [ocW]
  | k + 6 => simp [ocW]
theorem ocHd_len {o : Oc} (h : small o.value) : (ocHd o).length ≤ 18 := by
  have h1 := intT_len (n := o.value) (by have := h.1; omega) (by have := h.2; omega)
  have h2 := ocW_len o.code.toNat
  unfold ocHd
  simp only [List.length_append, List.length_cons, List.length_nil]
  omega
structure HoO (w : World) (o : Oc) (s : Value) (W : World) : Prop where
  b : Below w.heap.size w W
  k : Bk W w.heap.size 28 #[.int .i64 o.code, .int .i64 o.value, s, .int .i64 o.used]
theorem HoO.start (w : World) (o : Oc) (s : Value) : HoO w o s (w.alloc (.cells #[.int .i64 o.code, .int .i64 o.value, s, .int .i64 o.used] 28)) := ⟨(Below.refl _ _).alloc (Nat.le_refl _) _, Bk.new w _ _⟩
theorem HoO.below {w : World} {o : Oc} {s : Value} {W W1 : World} (h : HoO w o s W) (hb : Below W.heap.size W W1) : HoO w o s W1 := ⟨h.b.trans (hb.mono h.b.size), h.k.below hb⟩
theorem HoO.drew {w : World} {o : Oc} {s : Value} {W : World} (h : HoO w o s W) : HoO w o s W.drew := h.below (Below.refl _ _).drew
theorem HoO.alloc {w : World} {o : Oc} {s : Value} {W : World} (h : HoO w o s W) (x : Obj) : HoO w o s (W.alloc x) := h.below ((Below.refl _ _).alloc (Nat.le_refl _) x)
end Go.Proofs.YtheddnjhkcpmnaaDoor
