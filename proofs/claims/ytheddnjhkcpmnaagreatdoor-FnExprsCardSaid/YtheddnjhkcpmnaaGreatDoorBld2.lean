
/- strings.Builder: WriteByte and WriteString on a builder that the call itself has made; another block of the call's own stays. No condition beyond that. -/
import Derived.Test.YtheddnjhkcpmnaaGreatDoorBld
import Derived.Test.YtheddnjhkcpmnaaGreatDoorBlk
set_option linter.unusedSimpArgs false
set_option linter.unusedVariables false
set_option maxRecDepth 100000
namespace Go.Proofs.YtheddnjhkcpmnaaGreatDoor
open Go.RowKit

theorem okU8b : SliceOk Tryz.prog 22 5 (.int .u8 0) 1 1 := .mk Tryz.underlying22 (by kernel_rfl) rfl (by decide)
theorem own_notK {w : World} {base n k : Nat} {e t : TypeId} {v : Value} {xs : List Value} {cs : Array Value} (h : w.ownsRow base e 1 v n xs) (hk : Bk w k t cs) (ht : t ≠ e) : v.ownBlock ≠ some k := by
  rcases h.2 with ⟨rfl, _⟩ | ⟨g, cap, cur, rfl, hg, hh, _⟩
  · intro e; cases e
  · intro e
    obtain rfl : g = k := Option.some.inj e
    have := hh.symm.trans hk
    simp at this
    exact ht this.2.symm
theorem bld_copyCheckK (B b : Nat) (bs : List Value) (w : World) (h : Lib.IsBuilder 71 5 B b bs w) {k : Nat} {t : TypeId} {cs : Array Value} (hk : Bk w k t cs) (hkb : k ≠ b) :
    Calls Tryz.prog 66 #[.pointer (some ⟨b, 0, none⟩)] w fun e w' => e = .returned (.tuple #[]) ∧ Lib.BuilderAt 71 5 B b (.pointer (some ⟨b, 0, none⟩)) bs w' ∧ Below B w w' ∧ Bk w' k t cs := by
  rcases h with h | h
  · refine (copyCheck_fresh b w h.cell0 h.shape h.frozen0).mono ?_
    rintro e w' ⟨rfl, rfl⟩
    exact ⟨rfl, h.used _, (Below.refl B w).setCell (p := ⟨b, 0, none⟩) h.1 _, hk.far hkb 0 _⟩
  · refine (copyCheck_used b w h.cell0).mono ?_
    rintro e w' ⟨rfl, rfl⟩
    exact ⟨rfl, h, Below.refl B _, hk⟩
theorem own_form' {w : World} {base n : Nat} {e : TypeId} {size : Nat} {v : Value} {xs : List Value} (h : w.ownsRow base e size v n xs) : ∃ A c, v = .slice A n c := by
  rcases h.2 with ⟨rfl, rfl⟩ | ⟨g, cap, cur, rfl, _⟩
  · exact ⟨_, _, rfl⟩
  · exact ⟨_, _, rfl⟩
set_option maxHeartbeats 2000000 in
theorem bld_WriteStringK (B b : Nat) (l : List UInt8) (s : ByteArray) (w : World) (h : IsBld B b l w) (hlen : l.length + s.size ≤ 140737488355328) (hBw : B ≤ w.heap.size) {k : Nat} {t : TypeId} {cs : Array Value} (hk : Bk w k t cs) (hkb : k ≠ b) (hkt : t ≠ 5) :
    Calls Tryz.prog 48 #[.pointer (some ⟨b, 0, none⟩), .string s] w fun e w' => e = .returned (.tuple #[.int .i64 s.size, .nilIface]) ∧ IsBld B b (l ++ s.data.toList) w' ∧ Below B w w' ∧ Bk w' k t cs := by
  obtain ⟨i0, hi, hz0, hz1, hz2⟩ := info_parts bld_info8
  have hbl := bcells_length l
  have Hk := hide hk; clear hk
  go_enter Tryz.func48, Tryz.ntmps48
  go_wp2_with (go_at_call 66; refine (bld_copyCheckK B b _ _ h Hk.out hkb).mono ?_)
  rintro e w1 ⟨rfl, h1, hb1, hk1⟩
  obtain ⟨hB, v, hbk, hown, hne⟩ := h1
  have c0 : w1.cell? ⟨b, 0, none⟩ = some (.pointer (some ⟨b, 0, none⟩)) := by rw [Lib.cell_of_heap hbk]; rfl
  have c1 : w1.cell? ⟨b, 1, none⟩ = some v := by rw [Lib.cell_of_heap hbk]; rfl
  have Hbl := hide hbl; have Hk1 := hide hk1; clear hbl hk1
  go_wp2_with (at_builtin; refine Lib.wpList_append_own_string _ rfl _ _ 22 9 rfl B 5 i0 Tryz.underlying22 Tryz.underlying9 hi hz0 hz1 hz2 _ _ _ rfl hown s rfl ?c3 ?c4 ?c5 ?_)
  case c3 => have := Hbl.out; unfold maxLen; omega
  case c4 => have := Hbl.out; omega
  case c5 => have := hb1.size; omega
  intro v' w2 hown' hgrow _
  have hlt : b < w1.heap.size := by
    rcases Nat.lt_or_ge b w1.heap.size with h' | h'
    · exact h'
    · simp [Array.getElem?_eq_none h'] at hbk
  have hb2 : w2.heap[b]? = some (.cells #[.pointer (some ⟨b, 0, none⟩), v] 71 (0, 0)) := by
    rw [hgrow.block b hlt (fun e => hne e.symm)]
    exact hbk
  have hk2 : Bk w2 k t cs := (hgrow.block k Hk1.out.lt (fun e => own_notK hown Hk1.out hkt e.symm)).trans Hk1.out
  have d0 : w2.cell? ⟨b, 0, none⟩ = some (.pointer (some ⟨b, 0, none⟩)) := by rw [Lib.cell_of_heap hb2]; rfl
  have d1 : w2.cell? ⟨b, 1, none⟩ = some v := by rw [Lib.cell_of_heap hb2]; rfl
  have f1 : w2.frozen? ⟨b, 1, none⟩ = false := Lib.frozen_of_heap hb2 1
  obtain ⟨ao, n', cap, rfl⟩ : ∃ ao n' cap, v' = .slice ao n' cap := by
    rcases hown'.2 with ⟨hv, _⟩ | ⟨g, cap, cur, hv, _⟩
    · exact ⟨_, _, _, hv⟩
    · exact ⟨_, _, _, hv⟩
  have Hk2 := hide hk2; clear hk2
  go_wp2
  go_ret2
  refine ⟨rfl, ?_, ?_, Hk2.out.far hkb 1 _⟩
  · unfold IsBld
    rw [bcells_append, ← strCells_eq]
    exact .inr (Lib.BuilderAt.put (T := 71) (e := 5) hB hb2 (bs' := bcells l ++ Lib.strCells s) (by simpa [Lib.strCells_length] using hown') (by decide))
  · exact (hb1.grown hgrow (by have := hb1.size; omega) (fun k hk => (hown.lt k hk).1)).setCell (p := ⟨b, 1, none⟩) hB _
set_option maxHeartbeats 2000000 in
theorem bld_WriteByteK (B b : Nat) (l : List UInt8) (c : UInt8) (x : Int) (hx : x = (c.toNat : Int)) (w : World) (h : IsBld B b l w) (hlen : l.length + 1 ≤ 140737488355328) (hBw : B ≤ w.heap.size) {k : Nat} {t : TypeId} {cs : Array Value} (hk : Bk w k t cs) (hkb : k ≠ b) (hkt : t ≠ 5) :
    Calls Tryz.prog 47 #[.pointer (some ⟨b, 0, none⟩), .int .u8 x] w fun e w' => e = .returned .nilIface ∧ IsBld B b (l ++ [c]) w' ∧ Below B w w' ∧ Bk w' k t cs := by
  have Hx := hide hx; have Hk := hide hk; clear hx hk
  go_enter Tryz.func47, Tryz.ntmps47
  go_wp2_with (go_at_call 66; refine (bld_copyCheckK B b _ _ h Hk.out hkb).mono ?_)
  rintro e w1 ⟨rfl, h1, hb1, hk1⟩
  obtain ⟨hB, v, hbk, hown, hne⟩ := h1
  have c0 : w1.cell? ⟨b, 0, none⟩ = some (.pointer (some ⟨b, 0, none⟩)) := by rw [Lib.cell_of_heap hbk]; rfl
  have c1 : w1.cell? ⟨b, 1, none⟩ = some v := by rw [Lib.cell_of_heap hbk]; rfl
  have hlt : b < w1.heap.size := by
    rcases Nat.lt_or_ge b w1.heap.size with h' | h'
    · exact h'
    · simp [Array.getElem?_eq_none h'] at hbk
  rw [bcells_length] at hown
  have Hown := hide hown; have Hbk := hide hbk; have Hne := Lib.hid hne; have Hk1 := hide hk1
  clear hown hbk hne hk1
  have hkeep : ∀ w2 : World, (w1.alloc (.cells #[.int .u8 x] 5)).grownBy w2 v.ownBlock → w2.heap[b]? = some (.cells #[.pointer (some ⟨b, 0, none⟩), v] 71 (0, 0)) := fun w2 hgrow => by
    rw [hgrow.block b (by rw [World.size_alloc]; omega) (fun e => Hne.out e.symm), ((Below.refl w1.heap.size w1).alloc (Nat.le_refl _) _).block b hlt]
    exact Hbk.out
  have hkeepK : ∀ w2 : World, (w1.alloc (.cells #[.int .u8 x] 5)).grownBy w2 v.ownBlock → Bk w2 k t cs := fun w2 hgrow => by
    refine (hgrow.block k (by have := Hk1.out.lt; rw [World.size_alloc]; omega) (fun e => own_notK Hown.out Hk1.out hkt e.symm)).trans (Hk1.out.alloc _)
  have HK := Lib.hid hkeep; have HKK := Lib.hid hkeepK; clear hkeep hkeepK
  go_wp2_with (at_builtin; refine wpList_push rfl _ _ _ rfl okU8b rfl Hown.out _ rfl rfl (by simp [Value.oneCell']) (by unfold maxLen; omega) (by omega) (Nat.le_trans hBw hb1.size) ?_; intro v1 w2 hown1 hgrow; have hb2 := HK.out _ hgrow; have d0 : w2.cell? ⟨b, 0, none⟩ = some (.pointer (some ⟨b, 0, none⟩)) := (by rw [Lib.cell_of_heap hb2]; rfl); have d1 : w2.cell? ⟨b, 1, none⟩ = some v := (by rw [Lib.cell_of_heap hb2]; rfl); have f1 : w2.frozen? ⟨b, 1, none⟩ = false := Lib.frozen_of_heap hb2 1; have Hb2 := hide hb2; have Ho1 := hide hown1; have Hg := hide hgrow; have Hk2 := hide (HKK.out _ hgrow); obtain ⟨ao, cap, rfl⟩ := own_form' hown1; clear hb2 hown1 hgrow)
  go_ret
  refine ⟨rfl, ?_, ?_, Hk2.out.far hkb 1 _⟩
  · unfold IsBld
    have e : bcells (l ++ [c]) = bcells l ++ [.int .u8 x] := by rw [bcells_append, Hx.out]; rfl
    rw [e]
    exact .inr (Lib.BuilderAt.put (T := 71) (e := 5) hB Hb2.out (bs' := bcells l ++ [.int .u8 x]) (by simpa [bcells_length] using Ho1.out) (by decide))
  · exact (belowPush hb1 Hown.out (Nat.le_trans hBw hb1.size) Hg.out).setCell (p := ⟨b, 1, none⟩) hB _
end Go.Proofs.YtheddnjhkcpmnaaGreatDoor
