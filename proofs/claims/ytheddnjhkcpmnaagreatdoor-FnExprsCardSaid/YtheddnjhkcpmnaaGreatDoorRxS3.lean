
/- spec.l1Split: what the Go text returns. No condition but the text's length. -/
import Derived.Test.YtheddnjhkcpmnaaGreatDoorRxT
import Derived.Test.YtheddnjhkcpmnaaGreatDoorMem
import Derived.Test.YtheddnjhkcpmnaaGreatDoorBlk
import Derived.Test.YtheddnjhkcpmnaaGreatDoorChecked
set_option linter.unusedSimpArgs false
set_option linter.unusedVariables false
set_option maxRecDepth 100000
namespace Go.Proofs.YtheddnjhkcpmnaaGreatDoor
open Go.RowKit Go.Lib

theorem okStr : SliceOk Tryz.prog 57 9 (.string ⟨#[]⟩) 1 16 := .mk Tryz.underlying57 (by kernel_rfl) rfl (by decide)
/-- the cells of texts -/
def scells (l : List (List UInt8)) : List Value := l.map fun s => .string ⟨s.toArray⟩
theorem scells_snoc (a : List (List UInt8)) (b : List UInt8) : scells (a ++ [b]) = scells a ++ [.string ⟨b.toArray⟩] := by simp [scells]
theorem ba_mk (s : ByteArray) : (⟨s.data.toList.toArray⟩ : ByteArray) = s := by cases s; simp
theorem ext_mk (s : ByteArray) (a b : Nat) : s.extract a b = ⟨((s.data.toList.take b).drop a).toArray⟩ := by
  have : (s.extract a b).data.toList = (s.data.toList.take b).drop a := by rw [extract_data, List.drop_take]
  rw [← this, ba_mk]
/-- the words behind the place f, of which the first k bytes are no blanks -/
theorem spl_step_no {l : List UInt8} {f k : Nat} (hk : k < l.length) (hf : f ≤ k) (h : 32 ∉ (l.take k).drop f) (hb : l[k] ≠ 32) : 32 ∉ (l.take (k + 1)).drop f := by
  rw [List.take_succ_eq_append_getElem hk, List.drop_append_of_le_length (by rw [List.length_take]; omega)]
  simp only [List.mem_append, List.mem_singleton, not_or]
  exact ⟨h, fun e => hb e.symm⟩
theorem spl_step_cut {l : List UInt8} {f k : Nat} (hk : k < l.length) (hf : f ≤ k) (h : 32 ∉ (l.take k).drop f) (hb : l[k] = 32) : spl (l.drop f) = (l.take k).drop f :: spl (l.drop (k + 1)) := by
  have e : l.drop f = (l.take k).drop f ++ 32 :: l.drop (k + 1) := by
    rw [← hb, ← List.drop_eq_getElem_cons hk]
    conv => lhs; rw [← List.take_append_drop k l]
    rw [List.drop_append_of_le_length (by rw [List.length_take]; omega)]
  rw [e, spl_cut h]
set_option maxHeartbeats 1600000 in
theorem spec_l1Split (s : ByteArray) (hs : s.size ≤ 1000) (w : World) :
    Calls Tryz.prog 33 #[.string s, .int .u8 32] w fun e w' => ∃ v, e = .returned v ∧ w'.ownsRow w.heap.size 9 1 v (spl s.data.toList).length (scells (spl s.data.toList)) ∧ Below w.heap.size w w' := by
  have hl : s.data.toList.length = s.size := by simp
  go_enter Tryz.func33, Tryz.ntmps33
  go_wp2
  go_loopw [5, 6, 7] (fun o f i wr => ∃ (k f' : Nat) (out : List (List UInt8)), k ≤ s.size ∧ f' ≤ k ∧ i = .int .i64 k ∧ f = .int .i64 f' ∧ out.length ≤ k ∧ 32 ∉ (s.data.toList.take k).drop f' ∧ out ++ spl (s.data.toList.drop f') = spl s.data.toList ∧ wr.ownsRow w.heap.size 9 1 o out.length (scells out) ∧ Below w.heap.size w wr) (fun _ _ i _ => s.size - (intOf i).toNat)
  case atStart => exact ⟨0, 0, [], by omega, by omega, rfl, rfl, by simp, by simp, rfl, World.ownsRow_nil _ _ _ _, Below.refl _ _⟩
  case round =>
    obtain ⟨k, f, out, hk, hf, rfl, rfl, hol, hno, hsp, hown, hb⟩ := hrel
    by_cases hlt : k < s.size
    · have hkl : k < s.data.toList.length := by omega
      have hget : s.data.toList[k] = s[k] := rfl
      have hfI : (f : Int) ≤ (k : Int) := by omega
      have hf0 : (0 : Int) ≤ (f : Int) := by omega
      have hkI : (k : Int) ≤ (s.size : Int) := by omega
      by_cases hbl : s[k] = 32
      · have hst := spl_step_cut hkl hf hno (hget.trans hbl)
        rw [hst] at hsp
        have hb32 : ((s[k].toNat : Int) == 32) = true := by rw [hbl]; rfl
        have hex := ext_mk s f k
        generalize (s.data.toList.take k).drop f = p at *
        have Hsp := hide hsp; have Ho := hide hown; have Hb := hide hb; have Hex := hide hex
        clear hst hsp hown hb hno hget hex hbl
        go_wp2_with (at_builtin; refine wpList_push rfl _ _ _ rfl okStr rfl Ho.out _ rfl rfl (by simp [Value.oneCell']) (by unfold maxLen; omega) (by omega) Hb.out.size ?_; intro v1 w2 hown1 hg1)
        go_roundw
        case rel => exact ⟨k + 1, k + 1, out ++ [p], by omega, by omega, by go_num, by go_num, by simp; omega, by simp [List.drop_eq_nil_of_le], by rw [List.append_assoc]; exact Hsp.out, by rw [scells_snoc, List.length_append, ← Hex.out]; exact hown1, belowPush Hb.out Ho.out Hb.out.size hg1⟩
        case measure => simp [intOf]; omega
      · have hno2 := spl_step_no hkl hf hno (fun e => hbl (hget.symm.trans e))
        have hb32 : ((s[k].toNat : Int) == 32) = false := by
          rw [beq_eq_false_iff_ne]; intro e; apply hbl; apply UInt8.toNat.inj; simp; omega
        have Hno := Lib.hid hno2; have Hsp := hide hsp; have Ho := hide hown; have Hb := hide hb
        clear hno hno2 hsp hown hb hget hbl
        go_wp2
        go_roundw
        case rel => exact ⟨k + 1, f, out, by omega, by omega, by go_num, rfl, by omega, Hno.out, Hsp.out, Ho.out, Hb.out⟩
        case measure => simp [intOf]; omega
    · obtain rfl : k = s.size := by omega
      rw [List.take_of_length_le (by omega)] at hno
      rw [spl_no hno] at hsp
      have hex := ext_mk s f s.size
      rw [List.take_of_length_le (by omega)] at hex
      have hfI : (f : Int) ≤ (s.size : Int) := by omega
      have hf0 : (0 : Int) ≤ (f : Int) := by omega
      generalize s.data.toList.drop f = p at *
      have Hsp := hide hsp; have Ho := hide hown; have Hb := hide hb; have Hex := hide hex
      clear hsp hown hb hno hex
      go_wp2_with (at_builtin; refine wpList_push rfl _ _ _ rfl okStr rfl Ho.out _ rfl rfl (by simp [Value.oneCell']) (by unfold maxLen; omega) (by omega) Hb.out.size ?_; intro v1 w2 hown1 hg1)
      go_ret
      refine ⟨_, rfl, ?_, belowPush Hb.out Ho.out Hb.out.size hg1⟩
      rw [← Hsp.out, scells_snoc, List.length_append, ← Hex.out]; exact hown1
end Go.Proofs.YtheddnjhkcpmnaaGreatDoor
