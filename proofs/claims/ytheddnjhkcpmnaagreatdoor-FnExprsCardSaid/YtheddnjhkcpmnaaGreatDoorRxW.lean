
/- What the library's functions do that readExpr calls, in the plain laws' words. Conditions: the library's variables hold something of their kinds; the words lie where the program lays them. -/
import Derived.Test.YtheddnjhkcpmnaaGreatDoorRxS3
import Derived.Test.YtheddnjhkcpmnaaGreatDoorEt
import Derived.Test.YtheddnjhkcpmnaaGreatDoorShelfR
import Derived.Lib.SmallJoins
import Derived.Lib.SlicesS
import Derived.Lib.AtoiErrMem
set_option linter.unusedSimpArgs false
set_option linter.unusedVariables false
namespace Go.Proofs.YtheddnjhkcpmnaaGreatDoor
open Go.RowKit Go.Lib

def MaxL (w : World) : Prop := ∃ m, w.cell? ⟨4, 0, none⟩ = some (.int .i64 m)
def IsErr (v : Value) : Prop := v = .nilIface ∨ ∃ te pe, v = .iface te pe
/-- the library's two errors lie in their variables -/
def ErrV (w : World) : Prop := (1 < w.heap.size ∧ ∃ v, w.cell? ⟨1, 0, none⟩ = some v ∧ IsErr v) ∧ (2 < w.heap.size ∧ ∃ v, w.cell? ⟨2, 0, none⟩ = some v ∧ IsErr v)
theorem ErrV.below {w W : World} (h : ErrV w) (hb : Below w.heap.size w W) : ErrV W := by
  obtain ⟨⟨h1, v1, h2, h3⟩, ⟨g1, v2, g2, g3⟩⟩ := h
  exact ⟨⟨Nat.lt_of_lt_of_le h1 hb.size, v1, (hb.cell (p := ⟨1, 0, none⟩) h1).trans h2, h3⟩, ⟨Nat.lt_of_lt_of_le g1 hb.size, v2, (hb.cell (p := ⟨2, 0, none⟩) g1).trans g2, g3⟩⟩
theorem scells_map {l : List ByteArray} : scells (l.map (·.data.toList)) = l.map Value.string := by
  unfold scells
  rw [List.map_map]
  apply List.map_congr_left
  intro s _
  show Value.string ⟨s.data.toList.toArray⟩ = _
  rw [ba_mk]
theorem strings_SplitW (s : ByteArray) (hs : s.size ≤ 1000) (w : World) (hm : MaxL w) :
    Calls Tryz.prog 53 #[.string s, .string ⟨#[32]⟩] w fun e w' => e = .returned (.slice (some ⟨w.heap.size, 0, none⟩) (spl s.data.toList).length (spl s.data.toList).length) ∧ Rd w' w'.heap.size (.slice (some ⟨w.heap.size, 0, none⟩) (spl s.data.toList).length (spl s.data.toList).length) (spl s.data.toList).length (scells (spl s.data.toList)) ∧ Below w.heap.size w w' := by
  obtain ⟨m, hm⟩ := hm
  refine (Tryz.strings_Split s ⟨#[32]⟩ m w (by omega) hm (by decide)).mono ?_
  rintro e w' ⟨rfl, rfl⟩
  have hsp := splitB_spl s
  have hlen := splitB_all (⟨#[32]⟩ : ByteArray) (by decide) 0 _ s rfl
  generalize splitB (⟨#[32]⟩ : ByteArray) 0 (countB s ⟨#[32]⟩) s = WB at *
  have hl2 : (spl s.data.toList).length = countB s ⟨#[32]⟩ + 1 := by rw [← hsp, List.length_map, hlen]
  have hwl := (spl_len s.data.toList).2
  have hsz : s.data.toList.length = s.size := by simp
  rw [hl2, ← hsp, scells_map]
  refine ⟨rfl, ⟨_, _, rfl, Nat.le_refl _, by unfold maxLen; omega, fun j u hu => ⟨w.heap.size, 0, rfl, by rw [World.size_alloc]; omega, ?_⟩⟩, (Below.refl _ _).alloc (Nat.le_refl _) _⟩
  rw [Nat.zero_add]
  exact ((Bk.new w _ _).cell j).trans (by simpa using hu)
theorem strconv_Atoi_okW (s : ByteArray) (hs : s.size ≤ 1000) (v : Int) (h : atoiAll s.data.toList = .ok v) (w : World) :
    Calls Tryz.prog 56 #[.string s] w fun e w' => e = .returned (.tuple #[.int .i64 v, .nilIface]) ∧ Below w.heap.size w w' := by
  refine (Tryz.strconv_Atoi_ok s (by omega) v h w).mono ?_
  rintro e w' ⟨rfl, rfl | ⟨t, rfl⟩⟩
  · exact ⟨rfl, Below.refl _ _⟩
  · exact ⟨rfl, bytesWorld_below w _ t⟩
theorem strconv_Atoi_errW (s : ByteArray) (hs : s.size ≤ 1000) (h : ∀ v, atoiAll s.data.toList ≠ .ok v) (w : World) (he : ErrV w) :
    Calls Tryz.prog 56 #[.string s] w fun e w' => ∃ (n : Int) (N : Nat), e = .returned (.tuple #[.int .i64 n, .iface 103 (.pointer (some ⟨N, 0, none⟩))]) ∧ Below w.heap.size w w' := by
  obtain ⟨⟨_, v1, h2, h3⟩, ⟨_, v2, g2, g3⟩⟩ := he
  cases ha : atoiAll s.data.toList with
  | ok v => exact absurd ha (h v)
  | «syntax» =>
    refine (Tryz.strconv_Atoi_syntax s (by omega) ha v1 w h2 h3).mono ?_
    rintro e w' ⟨N, rfl, _, _, hb⟩
    exact ⟨_, N, rfl, hb⟩
  | range =>
    refine (Tryz.strconv_Atoi_range s (by omega) ha v2 w g2 g3).mono ?_
    rintro e w' ⟨N, rfl, _, _, hb⟩
    exact ⟨_, N, rfl, hb⟩
/-- a word's place among the program's words -/
def exIx (x : ByteArray) : Int := idxOfS exW x
theorem slices_IndexW (x : ByteArray) (w : World) (hw : ExWs w) :
    Calls Tryz.prog 54 #[.slice (some ⟨0, 0, none⟩) 12 12, .string x] w fun e w' => e = .returned (.int .i64 (exIx x)) ∧ w = w' := by
  refine (Tryz.slices_Index_string _ 0 12 12 exW x w (by decide) (by decide) (fun j hj => by rw [Nat.zero_add, hw.2 j hj]; simp [List.getD, List.getElem?_eq_getElem hj])).mono ?_
  rintro e w' ⟨rfl, rfl⟩
  exact ⟨rfl, rfl⟩
theorem exIx_op (x : ByteArray) : (opOf x.data.toList = 0 ∧ (exIx x < 3 ∨ 10 < exIx x)) ∨ (3 ≤ exIx x ∧ exIx x ≤ 10 ∧ opOf x.data.toList = exIx x) := by
  by_cases hm : x ∈ exW
  · simp only [exW, List.mem_cons, List.not_mem_nil, or_false] at hm
    rcases hm with rfl | rfl | rfl | rfl | rfl | rfl | rfl | rfl | rfl | rfl | rfl | rfl
    all_goals decide +kernel
  · left
    have hx : exIx x = -1 := idxFromS_miss x exW 0 (fun j hj e => hm (by rw [← e]; simp only [List.getD, List.getElem?_eq_getElem hj, Option.getD_some]; exact List.getElem_mem hj))
    refine ⟨?_, by omega⟩
    have g : ∀ l : List UInt8, (⟨l.toArray⟩ : ByteArray) ∈ exW → ¬ x.data.toList = l := fun l hl e => hm (by rw [← ba_mk x, e]; exact hl)
    unfold opOf
    rw [if_neg (g [43] (by simp [exW])), if_neg (g [45] (by simp [exW])), if_neg (g [42] (by simp [exW])), if_neg (g [47] (by simp [exW])), if_neg (g [60] (by simp [exW])), if_neg (g [61] (by simp [exW])), if_neg (g [105, 110] (by simp [exW])), if_neg (g [114, 101, 99] (by simp [exW]))]
end Go.Proofs.YtheddnjhkcpmnaaGreatDoor
