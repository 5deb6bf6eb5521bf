
/- What the row's condition on its listed variables gives: an array of strings, cell for cell. No condition. -/
import Derived.Test.YtgkjakoagdkpcaaGreatDoorWd
import Derived.Test.YtgkjakoagdkpcaaGreatDoorRows
import Derived.Stop.LaidErr
import Derived.Lib.LaidTab
import Derived.ProofKit
set_option linter.unusedSimpArgs false
set_option linter.unusedVariables false
namespace Go.Proofs.YtgkjakoagdkpcaaGreatDoor
open Go.ChangeShapes Go.WideShapes

/-- The words as a row lists them. -/
def wordsData {H : Type} (ws : List ByteArray) : DataW H := .agg (ws.map fun s => .lit (.string s.data.toList))
theorem bytes_ext {a b : ByteArray} (h : a.data.toList = b.data.toList) : a = b := by
  cases a; cases b; simp at h; rw [h]
theorem cells_of_words {H : Type} {enc : TypeId × Value → H} {P : Program} {w : World} {base : Nat} {sp : Nat → Bool} {held : Bool} {fuel : Nat} {t e : TypeId} {n : Nat} {cs : List Value} {ws : List ByteArray} {p : List MemPlace}
    (ht : P.underlying t = some (.array n e)) (he : P.underlying e = some .string) (hce : P.cellsOf e = 1) (hct : P.cellsOf t = n)
    (h : DataW.trod enc P w base sp held fuel t cs = some (wordsData ws, p)) : cs = ws.map Value.string := by
  cases fuel with
  | zero => simp [DataW.trod] at h
  | succ fuel =>
    simp only [DataW.trod, ht, hce, hct, Nat.mul_one] at h
    split at h
    · rename_i hl
      obtain ⟨xs, hm, hx⟩ := Option.map_eq_some_iff.1 h
      have hxs : xs.map (·.1) = ws.map fun s => (DataW.lit (.string s.data.toList) : DataW H) := by
        have := congrArg Prod.fst hx
        simpa [wordsData] using this
      have hxl : xs.length = n := by simpa using Lib.mapM_length hm
      have hzl : ws.length = n := by
        have := congrArg List.length hxs
        simp at this
        omega
      apply List.ext_getElem?
      intro i
      by_cases hi : i < n
      · obtain ⟨b, hb, hf⟩ := Lib.mapM_at hm i i (by simp [hi])
        obtain ⟨z, hc, rfl, _⟩ := DataW.trod_string he hf
        have h1 : cs[i]? = some (.string z) := by
          have := congrArg (·[0]?) hc
          simpa [List.getElem?_take, List.getElem?_drop] using this
        have h2 : (xs.map (·.1))[i]? = some (DataW.lit (.string z.data.toList) : DataW H) := by simp [hb]
        rw [hxs] at h2
        simp only [List.getElem?_map, Option.map_eq_some_iff, DataW.lit.injEq, Lit.string.injEq] at h2
        obtain ⟨z', hz', e'⟩ := h2
        obtain rfl := bytes_ext e'
        simp [h1, hz']
      · rw [List.getElem?_eq_none (by omega), List.getElem?_eq_none (by simp; omega)]
    · cases h
theorem words_of_head {P : Program} {W : World} {name : String} {ws : List ByteArray} {rest : List (String × DataW Unit)} {g : Nat} {t e : TypeId} {n : Nat}
    (hg : P.globalNamed name = some g) (hty : (P.globals[g]?).map (·.type) = some t) (ht : P.underlying t = some (.array n e)) (he : P.underlying e = some .string) (hce : P.cellsOf e = 1) (hct : P.cellsOf t = n)
    (h : laidMet P ((name, wordsData ws) :: rest) W) : W.var? P name = some (ws.map Value.string).toArray := by
  obtain ⟨ps, ⟨g', t', cs, fuel, p, q, hg', ht', hvar, hd, _, _⟩, _⟩ := h
  obtain rfl := Option.some.inj (hg.symm.trans hg')
  obtain rfl := Option.some.inj (hty.symm.trans ht')
  rw [hvar, ← cells_of_words ht he hce hct hd]
theorem var_old {P : Program} {W : World} {name : String} {cs : Array Value} {g : Nat} (hg : P.globalNamed name = some g) (h : W.var? P name = some cs) : g < W.heap.size := by
  rcases Nat.lt_or_ge g W.heap.size with h' | h'
  · exact h'
  · simp [World.var?, hg, Array.getElem?_eq_none h'] at h
/-- the block b of the world holds these cells -/
noncomputable def setB (b : Nat) (cs : Array Value) (w : World) : World := { w with heap := w.heap.modify b fun
  | .cells _ t frozen => .cells cs t frozen
  | o => o }
def u8Cells (zs : List Int) : Array Value := (zs.map fun z => Value.int .u8 z).toArray
def u64Cells (zs : List Int) : Array Value := (zs.map fun z => Value.int .u64 z).toArray
def zsOf : DataW Unit → List Int
  | .agg l => l.map fun | .lit (.int _ n) => n | _ => 0
  | _ => []
/-- a started world in which the three tables lie as the program lays them -/
noncomputable def tabWorld (os : Os) : World :=
  setB 2 (u8Cells (zsOf Rows.laid_math_bits_deBruijn32tab)) (setB 3 (u8Cells (zsOf Rows.laid_math_bits_deBruijn64tab)) (setB 1 (u64Cells (zsOf Rows.laid_internal_strconv_uint64pow10)) (World.holding Tryz.prog os ⟨#[], #[], []⟩)))
theorem pow10_data {H : Type} : (Rows.laid_internal_strconv_uint64pow10 : DataW H) = Lib.tabData .u64 Lib.pow10Tab := rfl
theorem p10_of_laid {W : World} {r : List (String × DataW Unit)} (h : laidMet Tryz.prog (("math/bits.deBruijn32tab", Rows.laid_math_bits_deBruijn32tab) :: ("math/bits.deBruijn64tab", Rows.laid_math_bits_deBruijn64tab) :: ("internal/strconv.uint64pow10", Rows.laid_internal_strconv_uint64pow10) :: r) W) :
    P10 W ∧ 1 < W.heap.size := by
  have h3 := h.tail.tail
  rw [pow10_data] at h3
  have := Lib.tabIs_of_head (g := 1) (t := 158) (e := 62) (n := 20) (by kernel_rfl) (by kernel_rfl) (by kernel_rfl) (by kernel_rfl) (by kernel_rfl) (by kernel_rfl) h3
  exact ⟨this, var_old (by kernel_rfl) this⟩
end Go.Proofs.YtgkjakoagdkpcaaGreatDoor
