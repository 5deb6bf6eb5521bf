
/- spec.ReadExpr: what the Go text returns. No condition. -/
import Derived.Test.YtheddnjhkcpmnaaGreatDoorRxS2
import Derived.Test.YtheddnjhkcpmnaaGreatDoorRxS3
import Derived.Test.YtheddnjhkcpmnaaGreatDoorTokM
set_option linter.unusedSimpArgs false
set_option linter.unusedVariables false
set_option maxRecDepth 100000
namespace Go.Proofs.YtheddnjhkcpmnaaGreatDoor
open Go.RowKit Go.Lib

theorem pcells_snocR (a : List P2) (t : P2) : pcells (a ++ [t]) = pcells a ++ [.int .i64 t.o, .int .i64 t.n] := by simp [pcells]; rfl
theorem retVB {v : Value} {b b' : Bool} (h : b' = b) : Ending.returned (.tuple #[v, .bool b]) = .returned (.tuple #[v, .bool b']) := by rw [h]
/-- what a list of read tokens, or none, is in memory -/
def ReadP (s : List UInt8) (w : World) (e : Ending) (w' : World) : Prop := ∃ v', e = .returned (.tuple #[v', .bool (rdB s)]) ∧ w'.ownsRow w.heap.size 40 2 v' (rdL s).length (pcells (rdL s)) ∧ Below w.heap.size w w'
theorem ReadP.no {s : List UInt8} (h : rdE s = none) {w w' : World} (hb : Below w.heap.size w w') : ReadP s w (.returned (.tuple #[.slice none 0 0, .bool false])) w' := by
  obtain ⟨h1, h2⟩ := rd_none h
  exact ⟨_, retVB h2, by rw [h1]; exact World.ownsRow_nil _ _ _ _, hb⟩
theorem ReadP.yes {s : List UInt8} {l : List P2} (h : rdE s = some l) {w w' : World} {v : Value} (hb : Below w.heap.size w w') (ho : w'.ownsRow w.heap.size 40 2 v l.length (pcells l)) : ReadP s w (.returned (.tuple #[v, .bool true])) w' := by
  obtain ⟨h1, h2⟩ := rd_some h
  exact ⟨_, retVB h2, by rw [h1]; exact ho, hb⟩
set_option maxHeartbeats 3200000 in
theorem spec_ReadExpr (s : ByteArray) (hs : s.size ≤ 9223372036854775807) (w : World) : Calls Tryz.prog 11 #[.string s] w (ReadP s.data.toList w) := by
  have hl : s.data.toList.length = s.size := by simp
  by_cases h200 : 200 < s.size
  · have HR := hide (if_pos (.inl (by omega)) : rdE s.data.toList = none)
    have h200I : (200 : Int) < s.size := by omega
    clear hl
    go_enter Tryz.func11, Tryz.ntmps11
    go_wp2
    go_ret2
    exact ReadP.no HR.out (Below.refl _ _)
  have h200I : ¬ (200 : Int) < s.size := by omega
  have hR : rdE s.data.toList = if 200 < s.data.toList.length ∨ 12 < (spl s.data.toList).length then none else rdAll [] (spl s.data.toList) := rfl
  have hwl := spl_len s.data.toList
  have hwz : ∀ W ∈ spl s.data.toList, W.length ≤ 200 := fun W hW => by have := spl_sizes hW; omega
  have hSp := fun w => spec_l1Split s (by omega) w
  generalize spl s.data.toList = W at *
  have hno : rdAll [] W = none → rdE s.data.toList = none := fun h => by rw [hR]; split; rfl; exact h
  have hlong : 12 < W.length → rdE s.data.toList = none := fun h => by rw [hR, if_pos (.inr h)]
  have hyes : ¬ 12 < W.length → rdE s.data.toList = rdAll [] W := fun h => by rw [hR, if_neg]; rintro (g | g); omega; exact h g
  have HSp := Lib.hid hSp; have HNo := Lib.hid hno; have HLong := Lib.hid hlong; have HYes := Lib.hid hyes; have HWz := Lib.hid hwz
  clear hR hSp hno hlong hyes hwz
  have hW201 : W.length ≤ 201 := by omega
  generalize s.data.toList = L at *
  go_enter Tryz.func11, Tryz.ntmps11
  go_wp2_with (go_at_call 33; refine (HSp.out _).mono ?_; rintro e w1 ⟨v, rfl, hown, hb⟩; obtain ⟨A1, c1, rfl⟩ := own_form hown; have Hw := hide (Rd.of_own hown); have Hb1 := hide hb; clear hown hb)
  go_loopw [4, 15] (fun o i wr => ∃ (k : Nat) (acc : List P2), k ≤ W.length ∧ i = .int .i64 k ∧ acc.length = k ∧ rdAll acc (W.drop k) = rdAll [] W ∧ wr.ownsRow w1.heap.size 40 2 o acc.length (pcells acc) ∧ Below w1.heap.size w1 wr) (fun _ i _ => W.length - (intOf i).toNat)
  case atStart => exact ⟨0, [], by omega, rfl, rfl, rfl, World.ownsRow_nil _ _ _ _, Below.refl _ _⟩
  case round =>
    obtain ⟨k, acc, hk, rfl, hak, hall, hown, hb⟩ := hrel
    by_cases hlt : k < W.length
    · have hwk := HWz.out _ (List.getElem_mem hlt)
      obtain ⟨b, o, rfl, hbB, hc⟩ := Hw.out.at_ (j := k) (by simp [scells]; exact hlt)
      have hc2 : w1.cell? ⟨b, o + k, none⟩ = some (.string ⟨W[k].toArray⟩) := hc.trans (by simp [scells])
      have q0 := (hb.cell (p := ⟨b, o + k, none⟩) hbB).trans hc2
      have hbw : b < wr.heap.size := Nat.lt_of_lt_of_le hbB hb.size
      have hT : ∀ W', Calls Tryz.prog 34 #[.string ⟨W[k].toArray⟩] W' (TokP (rdTok W[k]) W') := fun W' => spec_l2ReadTok_t ⟨W[k].toArray⟩ (by simp [ByteArray.size]; omega) W'
      have hal : acc.length ≤ 201 := by omega
      have Ho := hide hown; have Hb := hide hb
      clear hc hc2 hown hb
      cases hr : rdTok W[k] with
      | none =>
        have HR := hide (HNo.out (hall.symm.trans (rdAll_none hlt hr)))
        rw [hr] at hT
        have HT := Lib.hid hT
        clear hr hall hT hwk
        generalize W[k] = X at *
        go_wp2_with (go_at_call 34; refine (HT.out _).mono ?_; rintro e w2 ⟨a, b2, c, rfl, rfl, _, hb2⟩; have Hb := hide (Hb.out.trans (hb2.mono Hb.out.size)); clear hb2)
        go_ret2
        refine ReadP.no HR.out (Hb1.out.trans ((Hb.out.alloc Hb.out.size _).mono Hb1.out.size))
      | some t =>
        have Hst := hide ((rdAll_some hlt hr).symm.trans hall)
        rw [hr] at hT
        have HT := Lib.hid hT
        clear hr hall hT hwk
        generalize W[k] = X at *
        go_wp2_with (first
          | (go_at_call 34; refine (HT.out _).mono ?_; rintro e w2 ⟨a, b2, c, rfl, rfl, ht, hb2⟩; obtain rfl := ht _ rfl; have Hb := hide ((Hb.out.trans (hb2.mono Hb.out.size))); have Ho2 := hide (((own_keep Ho.out hb2).alloc (.cells #[.int .i64 a, .int .i64 b2] 40)).alloc (.cells #[.int .i64 a, .int .i64 b2] 40)); have Hb2 := hide ((Hb.out.alloc Hb.out.size (.cells #[.int .i64 a, .int .i64 b2] 40))); have Ho1 := hide ((own_keep Ho.out hb2).alloc (.cells #[.int .i64 a, .int .i64 b2] 40)); clear hb2 ht)
          | (at_builtin; refine wpList_push' rfl _ _ _ rfl okTok rfl Ho1.out _ rfl (by simp only [World.size_alloc]) rfl (by simp [Value.oneCell']) (by unfold maxLen; omega) (by omega) Hb2.out.size ?_; intro v1 w3 hown1 hg1))
        go_roundw
        case rel => exact ⟨k + 1, acc ++ [⟨a, b2⟩], by omega, by go_num, by rw [List.length_append, hak]; rfl, Hst.out, by rw [pcells_snocR, List.length_append]; exact hown1, belowPush Hb2.out Ho1.out Hb2.out.size hg1⟩
        case measure => simp [intOf]; omega
    · obtain rfl : k = W.length := by omega
      rw [List.drop_length] at hall
      have hall2 : rdAll [] W = some acc := hall.symm
      have Ho := hide hown; have Hb := hide hb
      obtain ⟨A2, c2, rfl⟩ := own_form hown
      have h13 : acc.length ≤ 201 := by omega
      have h14 : 12 < W.length → 12 < acc.length := by omega
      have h15 : ¬ 12 < W.length → ¬ 12 < acc.length := by omega
      have h14' := Lib.hid h14; have h15' := Lib.hid h15
      clear hall hown hb hak h14 h15
      by_cases h12 : 12 < W.length
      · have HR := hide (HLong.out h12)
        have h12I : (12 : Int) < (acc.length : Int) := by have := h14'.out h12; omega
        clear hall2
        go_wp2
        go_ret2
        exact ReadP.no HR.out (Hb1.out.trans (Hb.out.mono Hb1.out.size))
      · have HR := hide ((HYes.out h12).trans hall2)
        have h12I : ¬ (12 : Int) < (acc.length : Int) := by have := h15'.out h12; omega
        clear hall2
        go_wp2
        go_ret2
        exact ReadP.yes HR.out (Hb1.out.trans (Hb.out.mono Hb1.out.size)) (own_base Ho.out Hb1.out.size)
end Go.Proofs.YtheddnjhkcpmnaaGreatDoor
