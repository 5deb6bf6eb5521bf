
/- spec.l6Tok .. spec.l6Site: what the Go text returns, whatever the numbers. No condition. -/
import Derived.Test.YtgkjakoagdkpcaaGreatDoorFd3
import Derived.Shelf.Lay
import Derived.Deep.DeepCutAuto
import Derived.Deep.RegionLaw
import Derived.Test.YtgkjakoagdkpcaaGreatDoorPg9
import Derived.Test.YtgkjakoagdkpcaaGreatDoorFd7
set_option linter.unusedSimpArgs false
set_option linter.unusedVariables false
set_option maxRecDepth 100000
namespace Go.Proofs.YtgkjakoagdkpcaaGreatDoor
open Go.RowKit Go.Shelf

theorem int_neL {a b : Int} (h : a ≠ b) : (a == b) = false := beq_eq_false_iff_ne.2 h
theorem okInsL : SliceOk Tryz.prog 36 41 (.agg #[.int .i64 0, .int .i64 0]) 2 16 := .mk Tryz.underlying36 (by kernel_rfl) rfl (by decide)
def TokLP (w : World) (e : Ending) (w' : World) : Prop := ∃ a b : Int, e = .returned (.agg #[.int .i64 a, .int .i64 b]) ∧ Below w.heap.size w w'
set_option maxHeartbeats 1600000 in
theorem spec_l6TokN (o n : Int) (w : World) : Calls Tryz.prog 144 #[.agg #[.int .i64 o, .int .i64 n]] w (TokLP w) := by
  by_cases o1 : o = 1
  · subst o1
    go_enter Tryz.func144, Tryz.ntmps144
    go_wp2
    go_returns
    exact ⟨_, _, rfl, by go_grown⟩
  by_cases o2 : o = 2
  · subst o2
    go_enter Tryz.func144, Tryz.ntmps144
    go_wp2
    go_returns
    exact ⟨_, _, rfl, by go_grown⟩
  by_cases o3 : o = 11
  · subst o3
    go_enter Tryz.func144, Tryz.ntmps144
    go_wp2
    go_returns
    exact ⟨_, _, rfl, by go_grown⟩
  by_cases o4 : o = 9
  · subst o4
    go_enter Tryz.func144, Tryz.ntmps144
    go_wp2
    go_returns
    exact ⟨_, _, rfl, by go_grown⟩
  by_cases o5 : o = 10
  · subst o5
    go_enter Tryz.func144, Tryz.ntmps144
    go_wp2
    go_returns
    exact ⟨_, _, rfl, by go_grown⟩
  have b1 := int_neL o1; have b2 := int_neL o2; have b3 := int_neL o3; have b4 := int_neL o4; have b5 := int_neL o5
  clear o1 o2 o3 o4 o5
  go_enter Tryz.func144, Tryz.ntmps144
  go_wp2
  go_returns
  exact ⟨_, _, rfl, by go_grown⟩
/-- instructions of the call's own, at most M -/
def InsP (M : Nat) (w : World) (e : Ending) (w' : World) : Prop := ∃ (v : Value) (xs : List P2), e = .returned v ∧ xs.length ≤ M ∧ w'.ownsRow w.heap.size 41 2 v xs.length (pcells xs) ∧ Below w.heap.size w w'
set_option maxHeartbeats 1600000 in
theorem spec_l6ExprN (v : Value) (l : List P2) (w : World) (hr : Rd w w.heap.size v l.length (pcells l)) (hl : l.length ≤ 15) :
    Calls Tryz.prog 138 #[v] w (InsP l.length w) := by
  obtain ⟨A, c, rfl, hn, hc, hcell⟩ := id hr
  have Hr := hide hr; clear hr hcell
  go_enter Tryz.func138, Tryz.ntmps138
  go_wp2
  go_loopw [3, 8] (fun s i wr => ∃ (k : Nat) (acc : List P2), k ≤ l.length ∧ i = .int .i64 k ∧ acc.length = k ∧ wr.ownsRow w.heap.size 41 2 s acc.length (pcells acc) ∧ Below w.heap.size w wr) (fun _ i _ => l.length - (intOf i).toNat)
  case atStart => exact ⟨0, [], by omega, rfl, rfl, World.ownsRow_nil _ _ _ _, Below.refl _ _⟩
  case round =>
    obtain ⟨k, acc, hk, rfl, hak, hown, hb⟩ := hrel
    by_cases hlt : k < l.length
    · obtain ⟨b, o, rfl, hbB, s0, s1⟩ := Hr.out.two hlt
      have q0 := (hb.cell (p := ⟨b, o + k * 2, none⟩) hbB).trans s0
      have q1 := (hb.cell (p := ⟨b, o + k * 2 + 1, none⟩) hbB).trans s1
      have hbw : b < wr.heap.size := Nat.lt_of_lt_of_le hbB hb.size
      generalize l[k] = t at *
      obtain ⟨tO, tN⟩ := t
      dsimp only at *
      have Hb := hide (hb.alloc hb.size (.cells #[.int .i64 tO, .int .i64 tN] 142))
      have Ho := hide (hown.alloc (.cells #[.int .i64 tO, .int .i64 tN] 142))
      have Hak := hide hak
      have hal : acc.length ≤ 15 := by omega
      clear s0 s1 hb hown hak
      go_wp2_with (first
        | (go_at_call 144; refine (spec_l6TokN _ _ _).mono ?_; rintro e w1 ⟨xo, xn, rfl, hb1⟩; have Hb1 := hide (Hb.out.trans (hb1.mono Hb.out.size)); have Ho1 := hide (own_keep Ho.out hb1))
        | (at_builtin; refine wpList_push rfl _ _ _ rfl okInsL rfl Ho1.out _ rfl rfl (by simp [Value.oneCell']) (by unfold maxLen; omega) (by omega) Hb1.out.size ?_; intro v1 w2 hown1 hg1))
      go_roundw
      case rel => exact ⟨k + 1, acc ++ [⟨xo, xn⟩], by omega, by go_num, by rw [List.length_append, Hak.out]; rfl, by rw [pcells_snoc, List.length_append]; exact hown1, belowPush Hb1.out Ho1.out Hb1.out.size hg1⟩
      case measure => simp [intOf]; omega
    · have hkl : k = l.length := by omega
      have Ho := hide hown; have Hb := hide hb; clear hown hb
      subst hkl
      go_wp2
      go_ret
      exact ⟨_, acc, rfl, by omega, Ho.out, Hb.out⟩
def SiteLP (w : World) (e : Ending) (w' : World) : Prop := ∃ z : Int, e = .returned (.int .i64 z) ∧ Below w.heap.size w w'
set_option maxHeartbeats 1600000 in
theorem spec_l6SiteN (P V : Int) (u v : Value) (m : FuncM) (w : World) (hr : RFunc w 0 w.heap.size [.int .i64 P, .int .i64 V, u, v] m) (hl : m.qStmts.length ≤ 16) (n : Int) :
    Calls Tryz.prog 139 #[.agg #[.int .i64 P, .int .i64 V, u, v], .int .i64 n] w (SiteLP w) := by
  obtain ⟨uA, uc, rfl⟩ : ∃ uA uc, u = .slice uA m.qBody.length uc := by
    obtain ⟨u', v', e, h2, h3⟩ := hr
    simp only [List.cons.injEq, and_true] at e
    obtain ⟨_, _, rfl, rfl⟩ := e
    exact h2.form
  obtain ⟨vA, vc, rfl⟩ : ∃ vA vc, v = .slice vA m.qStmts.length vc := by
    obtain ⟨u', v', e, h2, h3⟩ := hr
    simp only [List.cons.injEq, and_true] at e
    obtain ⟨_, _, _, rfl⟩ := e
    exact h3.form
  have hb0 := (Below.refl w.heap.size w).alloc (Nat.le_refl _) (.cells #[.int .i64 P, .int .i64 V, .slice uA m.qBody.length uc, .slice vA m.qStmts.length vc] 135)
  have Hb := hide hb0; have Hr := hide (RFunc_stable.here hr hb0)
  have hsl : (sitesF 0 m.qStmts).length ≤ m.qStmts.length := by rw [sites_count]; exact Nat.le_trans (List.count_le_length) (by simp)
  clear hr hb0
  go_enter Tryz.func139, Tryz.ntmps139
  go_wp2_with (go_at_call 118; refine (spec_l3Sites [_, _, _, _] m _ Hr.out hl).mono ?_; rintro e w1 ⟨sv, rfl, hown, hb⟩; obtain ⟨sA, sc, rfl⟩ := own_form hown; have Ho := hide (Rd.of_own hown); have Hb := hide (Hb.out.trans (hb.mono Hb.out.size)); clear hown hb)
  generalize sitesF 0 m.qStmts = S at *
  go_loopw [10] (fun i wr => ∃ k : Nat, k ≤ S.length ∧ i = .int .i64 k ∧ Below w.heap.size w wr ∧ Rd wr wr.heap.size (.slice sA S.length sc) S.length (icells .i64 S)) (fun i _ => S.length - (intOf i).toNat)
  case atStart => exact ⟨0, by omega, rfl, Hb.out, Ho.out⟩
  case round =>
    obtain ⟨k, hk, rfl, hb, hr⟩ := hrel
    have Hb := hide hb; have Ho := hide hr; clear hb hr
    by_cases hlt : k < S.length
    · obtain ⟨b, o, rfl, hbB, hc⟩ := Ho.out.at_ (j := k) (by rw [icells_length]; exact hlt)
      rw [icells_get _ _ hlt] at hc
      generalize S[k] = z at *
      have hkI : (k : Int) < (S.length : Int) := by omega
      have hk0 : (0 : Int) ≤ (k : Int) := by omega
      by_cases hz : z = n
      · subst hz
        go_wp2_with fail
        go_ret
        exact ⟨_, rfl, Hb.out⟩
      · go_wp2_with fail
        go_roundw
        case rel => exact ⟨k + 1, by omega, by go_num, Hb.out, Ho.out⟩
        case measure => simp [intOf]; omega
    · have hkI : ¬ (k : Int) < (S.length : Int) := by omega
      go_wp2_with fail
      go_ret
      exact ⟨_, rfl, Hb.out⟩
end Go.Proofs.YtgkjakoagdkpcaaGreatDoor
set_option linter.unusedSimpArgs false
set_option linter.unusedVariables false
set_option maxRecDepth 100000
namespace Go.Proofs.YtgkjakoagdkpcaaGreatDoor
open Go.RowKit

def BlkC (P V : Int) (uA : Option Addr) (uc : Nat) (vA : Option Addr) (vc : Nat) (m : FuncM) (N : Nat) : Prop :=
  ∀ (a b : Nat) (blk : List Int) (bA : Option Addr) (bc : Nat) (at_ : Int) (W : World), Seg (atS m.qStmts) a b blk → b - a ≤ N → b ≤ m.qStmts.length → RFunc W 0 W.heap.size [.int .i64 P, .int .i64 V, .slice uA m.qBody.length uc, .slice vA m.qStmts.length vc] m → Rd W W.heap.size (.slice bA blk.length bc) blk.length (icells .i64 blk) →
    Calls Tryz.prog 119 #[.agg #[.int .i64 P, .int .i64 V, .slice uA m.qBody.length uc, .slice vA m.qStmts.length vc], .slice bA blk.length bc, .int .i64 at_] W (InsP (18 * (b - a)) W)
def StmC (P V : Int) (uA : Option Addr) (uc : Nat) (vA : Option Addr) (vc : Nat) (m : FuncM) (N : Nat) : Prop :=
  ∀ (j m1 p : Nat) (at_ : Int) (W : World), Seg (atS m.qStmts) (j + 1) m1 (atS m.qStmts j).qThen → Seg (atS m.qStmts) m1 p (atS m.qStmts j).qElse → p - j ≤ N → p ≤ m.qStmts.length → RFunc W 0 W.heap.size [.int .i64 P, .int .i64 V, .slice uA m.qBody.length uc, .slice vA m.qStmts.length vc] m →
    Calls Tryz.prog 130 #[.agg #[.int .i64 P, .int .i64 V, .slice uA m.qBody.length uc, .slice vA m.qStmts.length vc], .int .i64 (j : Int), .int .i64 at_] W (InsP (18 * (p - j)) W)
/-- the block's state -/
structure LbS (P V : Int) (uA : Option Addr) (uc : Nat) (vA : Option Addr) (vc : Nat) (m : FuncM) (blk : List Int) (bA : Option Addr) (bc : Nat) (w W : World) : Prop where
  b : Below w.heap.size w W
  r : RFunc W 0 w.heap.size [.int .i64 P, .int .i64 V, .slice uA m.qBody.length uc, .slice vA m.qStmts.length vc] m
  f : Bk W w.heap.size 135 #[.int .i64 P, .int .i64 V, .slice uA m.qBody.length uc, .slice vA m.qStmts.length vc]
  k : Rd W w.heap.size (.slice bA blk.length bc) blk.length (icells .i64 blk)
section
variable {P V : Int} {uA : Option Addr} {uc : Nat} {vA : Option Addr} {vc : Nat} {m : FuncM} {blk : List Int} {bA : Option Addr} {bc : Nat} {w W W' : World} {B : Nat}
theorem LbS.step (H : LbS P V uA uc vA vc m blk bA bc w W) (hb : Below B W W') (hB : w.heap.size + 1 ≤ B) : LbS P V uA uc vA vc m blk bA bc w W' :=
  ⟨H.b.trans (hb.mono (by omega)), RFunc_stable.keep H.r ((KeptB.refl _ _ _).below hb (by omega)), (hb.block _ (by omega)).trans H.f, H.k.below (hb.mono (by omega))⟩
theorem LbS.rp (H : LbS P V uA uc vA vc m blk bA bc w W) : RFunc W 0 W.heap.size [.int .i64 P, .int .i64 V, .slice uA m.qBody.length uc, .slice vA m.qStmts.length vc] m := RFunc_stable.more H.r (Nat.le_refl _) H.b.size
end
theorem seg_cons {K : Nat → StmtM} {a b : Nat} {x : Int} {l : List Int} (h : Seg K a b (x :: l)) : x = (a : Int) ∧ ∃ m p, Seg K (a + 1) m (K a).qThen ∧ Seg K m p (K a).qElse ∧ Seg K p b l := by
  cases h with
  | cons h1 h2 h3 h4 => exact ⟨rfl, _, _, h1, h2, h3⟩
set_option maxHeartbeats 3200000 in
theorem blk_of_stm (P V : Int) (uA : Option Addr) (uc : Nat) (vA : Option Addr) (vc : Nat) (m : FuncM) (hl : m.qStmts.length ≤ 12) (N : Nat) (h : StmC P V uA uc vA vc m N) : BlkC P V uA uc vA vc m N := by
  intro a b blk bA bc at_ W hs hN hb hr hk
  have hle := hs.le
  have hb0 := (Below.refl W.heap.size W).alloc (Nat.le_refl _) (.cells #[.int .i64 P, .int .i64 V, .slice uA m.qBody.length uc, .slice vA m.qStmts.length vc] 135)
  have H := hide (show LbS P V uA uc vA vc m blk bA bc W (W.alloc (.cells #[.int .i64 P, .int .i64 V, .slice uA m.qBody.length uc, .slice vA m.qStmts.length vc] 135)) from ⟨hb0, RFunc_stable.keep hr ((KeptB.refl _ _ _).below hb0 (Nat.le_refl _)), Bk.new _ _ _, hk.below hb0⟩)
  have HC := Lib.hid h
  have Hs := hide hs
  have hkl : blk.length ≤ 9223372036854775807 := by obtain ⟨_, _, _, h1, h2, _⟩ := hk; unfold maxLen at h2; omega
  clear hr hk hb0 h hs
  go_enter Tryz.func119, Tryz.ntmps119
  go_wp2_with fail
  go_loopw [7, 12] (fun s i wr => ∃ (k a' : Nat) (acc : List P2), k ≤ blk.length ∧ i = .int .i64 k ∧ Seg (atS m.qStmts) a' b (blk.drop k) ∧ a ≤ a' ∧ acc.length ≤ 18 * (a' - a) ∧ wr.ownsRow (W.heap.size + 1) 41 2 s acc.length (pcells acc) ∧ LbS P V uA uc vA vc m blk bA bc W wr) (fun _ i _ => blk.length - (intOf i).toNat)
  case atStart => exact ⟨0, a, [], by omega, rfl, by rw [List.drop_zero]; exact Hs.out, Nat.le_refl _, by simp, World.ownsRow_nil _ _ _ _, H.out⟩
  case round =>
    obtain ⟨k, a', acc, hk, rfl, hseg, haa, hacc, hown, hl2⟩ := hrel
    have hle2 := hseg.le
    obtain ⟨oA, oc, rfl⟩ := own_form hown
    by_cases hlt : k < blk.length
    · rw [List.drop_eq_getElem_cons hlt] at hseg
      obtain ⟨hx, m1, p, s1, s2, s3⟩ := seg_cons hseg
      have hp1 := s1.le; have hp2 := s2.le; have hp3 := s3.le
      obtain ⟨b3, o3, rfl, hb3, hc⟩ := hl2.k.at_ (j := k) (by rw [icells_length]; exact hlt)
      rw [icells_get _ _ hlt, hx] at hc
      have hkI : (k : Int) < (blk.length : Int) := by omega
      have hk0 : (0 : Int) ≤ (k : Int) := by omega
      have f0 := hl2.f.cell 0; have f1 := hl2.f.cell 1; have f2 := hl2.f.cell 2; have f3 := hl2.f.cell 3; have fl := hl2.f.lt
      have hbw : b3 < wr.heap.size := Nat.lt_of_lt_of_le hb3 hl2.b.size
      have HL := hide hl2; have Ho := hide hown; have S1 := hide s1; have S2 := hide s2; have S3 := hide s3
      clear hl2 hown s1 s2 s3 hseg hx
      go_wp2_with (first
        | (go_at_call 130; refine (HC.out a' m1 p _ _ S1.out S2.out (by omega) (by omega) HL.out.rp).mono ?_; rintro e w1 ⟨v1, xs, rfl, hxs, ho1, hb1⟩; obtain ⟨xA, xc, rfl⟩ := own_form ho1; have HL := hide (HL.out.step hb1 (by omega)); have Ho := hide (own_keep Ho.out hb1); have Hx := hide ho1; clear ho1 hb1)
        | (at_builtin; refine wpList_catOwn rfl _ _ _ rfl okInsL rfl Ho.out rfl Hx.out (pcells_one xs) (by unfold maxLen; omega) (by omega) (by have := HL.out.f.lt; omega) ?_; intro v2 w2 hown2 hg2))
      go_roundw
      case rel => exact ⟨k + 1, p, acc ++ xs, by omega, by go_num, S3.out, by omega, by simp; omega, by rw [pcells_app, List.length_append]; exact hown2, HL.out.step (hg2.toBelow Ho.out (by have := HL.out.f.lt; omega)) (Nat.le_refl _)⟩
      case measure => simp [intOf]; omega
    · have hkI : ¬ (k : Int) < (blk.length : Int) := by omega
      have hkl : k = blk.length := by omega
      rw [hkl, List.drop_length] at hseg
      have hab : a' = b := by cases hseg; rfl
      have HL := hide hl2; have Ho := hide hown
      clear hl2 hown hseg
      go_wp2_with fail
      go_ret
      exact ⟨_, acc, rfl, by rw [← hab]; exact hacc, own_base Ho.out (by omega), HL.out.b⟩
/-- the statement's state -/
structure LsS (P V : Int) (uA : Option Addr) (uc : Nat) (vA : Option Addr) (vc : Nat) (m : FuncM) (s : StmtM) (eA : Option Addr) (ec : Nat) (tA : Option Addr) (tc : Nat) (lA : Option Addr) (lc : Nat) (w W : World) : Prop where
  b : Below w.heap.size w W
  r : RFunc W 0 w.heap.size [.int .i64 P, .int .i64 V, .slice uA m.qBody.length uc, .slice vA m.qStmts.length vc] m
  f : Bk W w.heap.size 135 #[.int .i64 P, .int .i64 V, .slice uA m.qBody.length uc, .slice vA m.qStmts.length vc]
  st : Bk W (w.heap.size + 1) 140 #[.int .i64 s.qKind, .int .i64 s.qN, .slice eA s.qEx.length ec, .slice tA s.qThen.length tc, .slice lA s.qElse.length lc]
  ex : Rd W w.heap.size (.slice eA s.qEx.length ec) s.qEx.length (pcells s.qEx)
  th : Rd W w.heap.size (.slice tA s.qThen.length tc) s.qThen.length (icells .i64 s.qThen)
  el : Rd W w.heap.size (.slice lA s.qElse.length lc) s.qElse.length (icells .i64 s.qElse)
section
variable {P V : Int} {uA : Option Addr} {uc : Nat} {vA : Option Addr} {vc : Nat} {m : FuncM} {s : StmtM} {eA : Option Addr} {ec : Nat} {tA : Option Addr} {tc : Nat} {lA : Option Addr} {lc : Nat} {w W W' : World} {B : Nat}
theorem LsS.step (H : LsS P V uA uc vA vc m s eA ec tA tc lA lc w W) (hb : Below B W W') (hB : w.heap.size + 2 ≤ B) : LsS P V uA uc vA vc m s eA ec tA tc lA lc w W' :=
  ⟨H.b.trans (hb.mono (by omega)), RFunc_stable.keep H.r ((KeptB.refl _ _ _).below hb (by omega)), (hb.block _ (by omega)).trans H.f, (hb.block _ (by omega)).trans H.st, H.ex.below (hb.mono (by omega)), H.th.below (hb.mono (by omega)), H.el.below (hb.mono (by omega))⟩
theorem LsS.rp (H : LsS P V uA uc vA vc m s eA ec tA tc lA lc w W) : RFunc W 0 W.heap.size [.int .i64 P, .int .i64 V, .slice uA m.qBody.length uc, .slice vA m.qStmts.length vc] m := RFunc_stable.more H.r (Nat.le_refl _) H.b.size
theorem LsS.two (H : LsS P V uA uc vA vc m s eA ec tA tc lA lc w W) : w.heap.size + 2 ≤ W.heap.size := H.st.lt
end
theorem lit_ins {w : World} {base : Nat} {l : List P2} {n : Nat} {cs : Array Value} (hb : base ≤ w.heap.size) (hn : l.length = n) (hl : l.length ≤ 100) (hc : cs.toList = pcells l) : (w.alloc (.cells cs 41)).ownsRow base 41 2 (.slice (some ⟨w.heap.size, 0, none⟩) n n) l.length (pcells l) := by
  subst hn
  have hs : cs.size = l.length * 2 := by rw [← Array.length_toList, hc, pcells_length]
  exact ⟨by rw [pcells_length], .inr ⟨w.heap.size, l.length, cs, rfl, hb, heap_alloc_new w _, Nat.le_refl _, by unfold maxLen; omega, hs, by rw [List.take_of_length_le (by rw [Array.length_toList, hs]; exact Nat.le_refl _)]; exact hc⟩⟩
set_option maxHeartbeats 6400000 in
theorem stm_of_blk (P V : Int) (uA : Option Addr) (uc : Nat) (vA : Option Addr) (vc : Nat) (m : FuncM) (hl : m.qStmts.length ≤ 12) (hE : ∀ s ∈ m.qStmts, s.qEx.length ≤ 15) (N : Nat) (h : ∀ N', N' < N → BlkC P V uA uc vA vc m N') : StmC P V uA uc vA vc m N := by
  intro j m1 p at_ W s1 s2 hN hp hr
  have hp1 := s1.le; have hp2 := s2.le
  have hj : j < m.qStmts.length := by omega
  rw [atS_lt hj] at s1 s2
  have hEx := hE _ (List.getElem_mem hj)
  obtain ⟨u', v', e, g2, g3⟩ := id hr
  simp only [List.cons.injEq, and_true, true_and] at e
  obtain ⟨_, _, rfl, rfl⟩ := e
  obtain ⟨b3, o3, v2, v3, v4, rfl, hb3, k0, k1, k2, k3, k4, hst⟩ := RStmt_at g3 hj
  generalize m.qStmts[j] = s at *
  obtain ⟨v2', v3', v4', e, t2, t3, t4⟩ := hst
  simp only [List.cons.injEq, and_true, true_and] at e
  obtain ⟨rfl, rfl, rfl⟩ := e
  obtain ⟨eA, ec, rfl⟩ := t2.form
  obtain ⟨tA, tc, rfl⟩ := t3.form
  obtain ⟨lA, lc, rfl⟩ := t4.form
  have hjI : (j : Int) < (m.qStmts.length : Int) := by omega
  have hj0 : (0 : Int) ≤ (j : Int) := by omega
  have hb0 := ((Below.refl W.heap.size W).alloc (Nat.le_refl _) (.cells #[.int .i64 P, .int .i64 V, .slice uA m.qBody.length uc, .slice (some ⟨b3, o3, none⟩) m.qStmts.length vc] 135)).alloc (by simp) (.cells #[.int .i64 s.qKind, .int .i64 s.qN, .slice eA s.qEx.length ec, .slice tA s.qThen.length tc, .slice lA s.qElse.length lc] 140)
  have hn1 := Bk.new (W.alloc (.cells #[.int .i64 P, .int .i64 V, .slice uA m.qBody.length uc, .slice (some ⟨b3, o3, none⟩) m.qStmts.length vc] 135)) 140 #[.int .i64 s.qKind, .int .i64 s.qN, .slice eA s.qEx.length ec, .slice tA s.qThen.length tc, .slice lA s.qElse.length lc]
  rw [World.size_alloc] at hn1
  have H := hide (show LsS P V uA uc (some ⟨b3, o3, none⟩) vc m s eA ec tA tc lA lc W ((W.alloc (.cells #[.int .i64 P, .int .i64 V, .slice uA m.qBody.length uc, .slice (some ⟨b3, o3, none⟩) m.qStmts.length vc] 135)).alloc (.cells #[.int .i64 s.qKind, .int .i64 s.qN, .slice eA s.qEx.length ec, .slice tA s.qThen.length tc, .slice lA s.qElse.length lc] 140)) from ⟨hb0, RFunc_stable.keep hr ((KeptB.refl _ _ _).below hb0 (Nat.le_refl _)), (Bk.new _ _ _).alloc _, hn1, t2.rd.below hb0, t3.rd.below hb0, t4.rd.below hb0⟩)
  have HC := Lib.hid h
  have S1 := hide s1; have S2 := hide s2
  clear hr g2 g3 t2 t3 t4 hb0 hn1 h s1 s2 hE
  go_enter Tryz.func130, Tryz.ntmps130
  go_upto_region 3 with (go_at_call 138; refine (spec_l6ExprN _ s.qEx _ (H.out.ex.more (by have := H.out.two; omega)) hEx).mono ?_; rintro e w1 ⟨v1, xs, rfl, hxs, ho1, hb1⟩; obtain ⟨xA, xc, rfl⟩ := own_form ho1; have hz1 := H.out.two; have H := hide (H.out.step hb1 hz1); have Ho := hide (own_base ho1 hz1); clear ho1 hb1 hz1)
  clear k0 k1 k2 k3 k4
  have k0 := H.out.st.cell 0; have k1 := H.out.st.cell 1; have kl := H.out.st.lt
  have hz := H.out.two
  have hw2 : W.heap.size + 2 ≤ w1.heap.size := hz
  by_cases c1 : s.qKind = 1
  · rw [c1] at k0
    go_wp2_with (at_builtin; refine wpList_pushG rfl _ _ _ rfl okInsL rfl Ho.out _ rfl rfl rfl (by simp [Value.oneCell']) (by unfold maxLen; omega) (by omega) hw2 ?_; intro v2 w2 hown2 hg2; have Ho2 := hide hown2; have Hg2 := hide hg2; clear hown2 hg2)
    go_ret
    exact ⟨_, xs ++ [⟨3, s.qN⟩], rfl, by simp; omega, own_base (by rw [pcells_snoc, List.length_append]; exact Ho2.out) (by omega), H.out.b.trans ((Hg2.out.toBelow Ho.out hw2).mono (by omega))⟩
  by_cases c2 : s.qKind = 2
  · rw [c2] at k0
    go_wp2_with (at_builtin; refine wpList_pushG rfl _ _ _ rfl okInsL rfl Ho.out _ rfl rfl rfl (by simp [Value.oneCell']) (by unfold maxLen; omega) (by omega) hw2 ?_; intro v2 w2 hown2 hg2; have Ho2 := hide hown2; have Hg2 := hide hg2; clear hown2 hg2)
    go_ret
    exact ⟨_, xs ++ [⟨8, 0⟩], rfl, by simp; omega, own_base (by rw [pcells_snoc, List.length_append]; exact Ho2.out) (by omega), H.out.b.trans ((Hg2.out.toBelow Ho.out hw2).mono (by omega))⟩
  by_cases c9 : s.qKind = 9
  · rw [c9] at k0
    go_wp2_with (at_builtin; refine wpList_pushG rfl _ _ _ rfl okInsL rfl Ho.out _ rfl rfl rfl (by simp [Value.oneCell']) (by unfold maxLen; omega) (by omega) hw2 ?_; intro v2 w2 hown2 hg2; have Ho2 := hide hown2; have Hg2 := hide hg2; clear hown2 hg2)
    go_ret
    exact ⟨_, xs ++ [⟨9, 0⟩], rfl, by simp; omega, own_base (by rw [pcells_snoc, List.length_append]; exact Ho2.out) (by omega), H.out.b.trans ((Hg2.out.toBelow Ho.out hw2).mono (by omega))⟩
  by_cases c4 : s.qKind = 4
  · rw [c4] at k0
    go_wp2_with (at_builtin; refine wpList_pushG rfl _ _ _ rfl okInsL rfl Ho.out _ rfl rfl rfl (by simp [Value.oneCell']) (by unfold maxLen; omega) (by omega) hw2 ?_; intro v2 w2 hown2 hg2; have Ho2 := hide hown2; have Hg2 := hide hg2; clear hown2 hg2)
    go_ret
    exact ⟨_, xs ++ [⟨13, 0⟩], rfl, by simp; omega, own_base (by rw [pcells_snoc, List.length_append]; exact Ho2.out) (by omega), H.out.b.trans ((Hg2.out.toBelow Ho.out hw2).mono (by omega))⟩
  by_cases c5 : s.qKind = 5
  · rw [c5] at k0
    go_wp2_with (at_builtin; refine wpList_pushM (m := 2) rfl _ _ _ rfl okInsL rfl Ho.out _ rfl rfl rfl (by simp [Value.oneCell']) (by unfold maxLen; omega) (by omega) hw2 ?_; intro v2 w2 hown2 hg2; have Ho2 := hide hown2; have Hg2 := hide hg2; clear hown2 hg2)
    go_ret
    exact ⟨_, xs ++ [⟨15, 0⟩, ⟨16, 0⟩], rfl, by simp; omega, own_base (by rw [pcells_app, List.length_append]; exact Ho2.out) (by omega), H.out.b.trans ((Hg2.out.toBelow Ho.out hw2).mono (by omega))⟩
  by_cases c6 : s.qKind = 6
  · rw [c6] at k0
    go_wp2_with fail
    go_ret
    exact ⟨_, [⟨14, 0⟩], rfl, by simp; omega, lit_ins (by omega) rfl (by simp) rfl, H.out.b.alloc (by omega) _⟩
  have f0 := H.out.f.cell 0; have f1 := H.out.f.cell 1; have f2 := H.out.f.cell 2; have f3 := H.out.f.cell 3; have fl := H.out.f.lt
  by_cases c3 : s.qKind = 3
  · rw [c3] at k0
    go_wp2_with (go_at_call 139; refine (spec_l6SiteN _ _ _ _ m _ H.out.rp (by omega) _).mono ?_; rintro e w2 ⟨z, rfl, hb2⟩; have hz2 := hb2.size; have H := hide (H.out.step hb2 hw2); clear hb2)
    go_ret
    exact ⟨_, [⟨12, z⟩], rfl, by simp; omega, lit_ins (by omega) rfl (by simp) rfl, H.out.b.alloc (by omega) _⟩
  have k3 := H.out.st.cell 3
  have hN1 : m1 - (j + 1) ≤ N - 1 := by omega
  have hN2 : p - m1 ≤ N - 1 := by omega
  have hNN : N - 1 < N := by omega
  have hth := fun W' (h1 : RFunc W' 0 W'.heap.size [.int .i64 m.qParams, .int .i64 m.qVars, .slice uA m.qBody.length uc, .slice (some ⟨b3, o3, none⟩) m.qStmts.length vc] m) (h2 : Rd W' W'.heap.size (.slice tA s.qThen.length tc) s.qThen.length (icells .i64 s.qThen)) (a : Int) => HC.out (N - 1) hNN _ _ _ tA tc a W' S1.out hN1 (by omega) h1 h2
  have hel := fun W' (h1 : RFunc W' 0 W'.heap.size [.int .i64 m.qParams, .int .i64 m.qVars, .slice uA m.qBody.length uc, .slice (some ⟨b3, o3, none⟩) m.qStmts.length vc] m) (h2 : Rd W' W'.heap.size (.slice lA s.qElse.length lc) s.qElse.length (icells .i64 s.qElse)) (a : Int) => HC.out (N - 1) hNN _ _ _ lA lc a W' S2.out hN2 (by omega) h1 h2
  have HT := Lib.hid hth; have HE := Lib.hid hel
  clear hth hel HC S1 S2
  have hc1 : (s.qKind == 1) = false := int_neL c1
  have hc2 : (s.qKind == 2) = false := int_neL c2
  have hc3 : (s.qKind == 3) = false := int_neL c3
  have hc4 : (s.qKind == 4) = false := int_neL c4
  have hc5 : (s.qKind == 5) = false := int_neL c5
  have hc6 : (s.qKind == 6) = false := int_neL c6
  have hc9 : (s.qKind == 9) = false := int_neL c9
  clear c1 c2 c3 c4 c5 c6 c9
  have hlo : ∀ q : Nat, (Value.slice xA xs.length xc).ownBlock = some q → q < w1.heap.size := fun q hq => (Ho.out.lt q hq).2
  have Hlo := Lib.hid hlo
  clear hlo
  go_upto_region 20 with (go_at_call 119; refine (HT.out _ H.out.rp (H.out.th.more (by omega)) _).mono ?_; rintro e w2 ⟨v2, ts, rfl, hts, ho2, hb2⟩; obtain ⟨tA2, tc2, rfl⟩ := own_form ho2; have hz2 := hb2.size; have H := hide (H.out.step hb2 hw2); have Ho := hide (own_keep Ho.out hb2); have Hne := Lib.hid (show ∀ q, (Value.slice tA2 ts.length tc2).ownBlock = some q → (Value.slice xA xs.length xc).ownBlock ≠ some q from fun q hq e => by have := Hlo.out q e; have := (ho2.lt q hq).1; omega); have Ht := hide (own_base ho2 hw2); clear ho2 hb2)
  have hz3 := H.out.two
  go_upto_region 21 with (at_builtin; refine wpList_pushG rfl _ _ _ rfl okInsL rfl Ho.out _ rfl rfl rfl (by simp [Value.oneCell']) (by unfold maxLen; omega) (by omega) hz3 ?_; intro v3 w3 hown3 hg3; obtain ⟨oA3, oc3, rfl⟩ := own_form hown3; have Ht := hide (own_gro Ht.out hg3 Hne.out); have H := hide (H.out.step (hg3.toBelow Ho.out hz3) (Nat.le_refl _)); have Ho := hide hown3; clear hown3 hg3)
  have hz4 := H.out.two
  go_upto_region 22 with (at_builtin; refine wpList_catOwn rfl _ _ _ rfl okInsL rfl Ho.out rfl Ht.out (pcells_one ts) (by unfold maxLen; omega) (by omega) hz4 ?_; intro v4 w4 hown4 hg4; obtain ⟨oA4, oc4, rfl⟩ := own_form hown4; have H := hide (H.out.step (hg4.toBelow Ho.out hz4) (Nat.le_refl _)); have Ho := hide hown4; clear hown4 hg4)
  obtain ⟨ys, hy, hyo⟩ : ∃ ys : List P2, ys.length = xs.length + 1 + ts.length ∧ w4.ownsRow (W.heap.size + 2) 41 2 (.slice oA4 (xs.length + 1 + ts.length) oc4) (xs.length + 1 + ts.length) (pcells ys) :=
    ⟨xs ++ [⟨11, wrap64 (wrap64 (wrap64 (wrap64 (at_ + xs.length) + 1) + ts.length) + 1)⟩] ++ ts, by simp; omega, by rw [pcells_app, pcells_snoc]; exact Ho.out⟩
  have hys : ys.length ≤ 17 + 18 * (m1 - (j + 1)) := by omega
  rw [← hy] at hyo ⊢
  have Ho := hide hyo
  clear hyo hy hz3 hz4 Ht Hne Hlo
  have hz4 := H.out.two
  have k0 := H.out.st.cell 0; have k4 := H.out.st.cell 4; have kl := H.out.st.lt
  have f0 := H.out.f.cell 0; have f1 := H.out.f.cell 1; have f2 := H.out.f.cell 2; have f3 := H.out.f.cell 3; have fl := H.out.f.lt
  by_cases c8 : s.qKind = 8
  · rw [c8] at k0
    go_wp2_with (at_builtin; refine wpList_pushG rfl _ _ _ rfl okInsL rfl Ho.out _ rfl rfl rfl (by simp [Value.oneCell']) (by unfold maxLen; omega) (by omega) hz4 ?_; intro v5 w5 hown5 hg5; have Ho5 := hide hown5; have Hg5 := hide hg5; clear hown5 hg5)
    go_ret
    exact ⟨_, ys ++ [⟨10, at_⟩], rfl, by simp; omega, own_base (by rw [pcells_snoc, List.length_append]; exact Ho5.out) (by omega), H.out.b.trans ((Hg5.out.toBelow Ho.out hz4).mono (by omega))⟩
  have hc8 : (s.qKind == 8) = false := int_neL c8
  have hlo : ∀ q : Nat, (Value.slice oA4 ys.length oc4).ownBlock = some q → q < w4.heap.size := fun q hq => (Ho.out.lt q hq).2
  have Hlo := Lib.hid hlo
  clear hlo c8
  go_upto_region 25 with (go_at_call 119; refine (HE.out _ H.out.rp (H.out.el.more (by omega)) _).mono ?_; rintro e w6 ⟨v6, es, rfl, hes, ho6, hb6⟩; obtain ⟨eA6, ec6, rfl⟩ := own_form ho6; have hz6 := hb6.size; have H := hide (H.out.step hb6 hz4); have Ho := hide (own_keep Ho.out hb6); have Hne := Lib.hid (show ∀ q, (Value.slice eA6 es.length ec6).ownBlock = some q → (Value.slice oA4 ys.length oc4).ownBlock ≠ some q from fun q hq e => by have := Hlo.out q e; have := (ho6.lt q hq).1; omega); have Ht := hide (own_base ho6 hz4); clear ho6 hb6)
  have hz7 := H.out.two
  go_upto_region 26 with (at_builtin; refine wpList_pushG rfl _ _ _ rfl okInsL rfl Ho.out _ rfl rfl rfl (by simp [Value.oneCell']) (by unfold maxLen; omega) (by omega) hz7 ?_; intro v7 w7 hown7 hg7; obtain ⟨oA7, oc7, rfl⟩ := own_form hown7; have Ht := hide (own_gro Ht.out hg7 Hne.out); have H := hide (H.out.step (hg7.toBelow Ho.out hz7) (Nat.le_refl _)); have Ho := hide hown7; clear hown7 hg7)
  have hz8 := H.out.two
  go_wp2_with (at_builtin; refine wpList_catOwn rfl _ _ _ rfl okInsL rfl Ho.out rfl Ht.out (pcells_one es) (by unfold maxLen; omega) (by omega) hz8 ?_; intro v8 w8 hown8 hg8; have H := hide (H.out.step (hg8.toBelow Ho.out hz8) (Nat.le_refl _)); have Ho8 := hide hown8; clear hown8 hg8)
  go_ret
  exact ⟨_, ys ++ [⟨10, wrap64 (wrap64 (wrap64 (wrap64 (wrap64 (at_ + xs.length) + 1) + ts.length) + 1) + es.length)⟩] ++ es, rfl, by simp; omega, own_base (by rw [pcells_app, pcells_snoc, List.length_append, List.length_append]; exact Ho8.out) (by omega), H.out.b⟩
/-- a drawn function's statements -/
theorem l6_blk (P V : Int) (uA : Option Addr) (uc : Nat) (vA : Option Addr) (vc : Nat) (m : FuncM) (hl : m.qStmts.length ≤ 12) (hE : ∀ s ∈ m.qStmts, s.qEx.length ≤ 15) : ∀ N, BlkC P V uA uc vA vc m N := by
  intro N
  induction N using Nat.strongRecOn with
  | ind N ih => exact blk_of_stm P V uA uc vA vc m hl N (stm_of_blk P V uA uc vA vc m hl hE N ih)
end Go.Proofs.YtgkjakoagdkpcaaGreatDoor
set_option linter.unusedSimpArgs false
set_option linter.unusedVariables false
set_option maxRecDepth 100000
namespace Go.Proofs.YtgkjakoagdkpcaaGreatDoor
open Go.RowKit

theorem okRowL : SliceOk Tryz.prog 37 82 (.agg #[.int .i64 0, .int .i64 0, .int .i64 0]) 3 24 := .mk Tryz.underlying37 (by kernel_rfl) rfl (by decide)
/-- the code under way: its block, its rows; s0: where the rows may lie -/
structure CdS (P V : Int) (uA : Option Addr) (uc : Nat) (vA : Option Addr) (vc : Nat) (m : FuncM) (s0 : Nat) (w : World) (sv : Value) (sl : List Int) (iv : Value) (il : List P2) (rv : Value) (rl : List R3) (W : World) : Prop where
  b : Below w.heap.size w W
  res : Bk W (w.heap.size + 1) 39 #[.int .i64 0, .int .i64 0, .slice none 0 0, .slice none 0 0, .slice none 0 0]
  f : Bk W (w.heap.size + 1 + 1) 135 #[.int .i64 P, .int .i64 V, .slice uA m.qBody.length uc, .slice vA m.qStmts.length vc]
  c : Bk W (w.heap.size + 1 + 1 + 1) 39 #[.int .i64 P, .int .i64 V, sv, iv, rv]
  h0 : w.heap.size + 1 + 1 + 1 < s0 ∧ s0 ≤ W.heap.size
  so : W.ownsRow s0 3 1 sv sl.length (icells .i64 sl)
  io : W.ownsRow s0 41 2 iv il.length (pcells il)
  ro : W.ownsRow s0 82 3 rv rl.length (rcells rl)
  r : RFunc W 0 w.heap.size [.int .i64 P, .int .i64 V, .slice uA m.qBody.length uc, .slice vA m.qStmts.length vc] m
section
variable {P V : Int} {uA : Option Addr} {uc : Nat} {vA : Option Addr} {vc : Nat} {m : FuncM} {s0 : Nat} {w : World} {sv sv' : Value} {sl sl' : List Int} {iv iv' : Value} {il il' : List P2} {rv rv' : Value} {rl rl' : List R3} {W W' : World}
theorem CdS.below (H : CdS P V uA uc vA vc m s0 w sv sl iv il rv rl W) (hb : Below W.heap.size W W') : CdS P V uA uc vA vc m s0 w sv sl iv il rv rl W' :=
  ⟨H.b.trans (hb.mono H.b.size), H.res.below hb, H.f.below hb, H.c.below hb, ⟨H.h0.1, Nat.le_trans H.h0.2 hb.size⟩, own_keep H.so hb, own_keep H.io hb, own_keep H.ro hb, RFunc_stable.keep H.r ((KeptB.refl _ _ _).below hb H.b.size)⟩
theorem CdS.alloc (H : CdS P V uA uc vA vc m s0 w sv sl iv il rv rl W) (o : Obj) : CdS P V uA uc vA vc m s0 w sv sl iv il rv rl (W.alloc o) := H.below ((Below.refl _ _).alloc (Nat.le_refl _) o)
theorem CdS.drw (H : CdS P V uA uc vA vc m s0 w sv sl iv il rv rl W) : CdS P V uA uc vA vc m s0 w sv sl iv il rv rl W.drew := H.below (Below.refl _ _).drew
theorem CdS.rp (H : CdS P V uA uc vA vc m s0 w sv sl iv il rv rl W) : RFunc W 0 W.heap.size [.int .i64 P, .int .i64 V, .slice uA m.qBody.length uc, .slice vA m.qStmts.length vc] m := RFunc_stable.more H.r (Nat.le_refl _) H.b.size
/-- what a row's growth and the store of it leave -/
theorem CdS.cells (H : CdS P V uA uc vA vc m s0 w sv sl iv il rv rl W) {B : Nat} (hb : Below B W W') (hB : s0 ≤ B) (i : Nat) (u : Value) :
    Below w.heap.size w (W'.setCell ⟨w.heap.size + 1 + 1 + 1, i, none⟩ u) ∧ Bk (W'.setCell ⟨w.heap.size + 1 + 1 + 1, i, none⟩ u) (w.heap.size + 1) 39 #[.int .i64 0, .int .i64 0, .slice none 0 0, .slice none 0 0, .slice none 0 0] ∧ Bk (W'.setCell ⟨w.heap.size + 1 + 1 + 1, i, none⟩ u) (w.heap.size + 1 + 1) 135 #[.int .i64 P, .int .i64 V, .slice uA m.qBody.length uc, .slice vA m.qStmts.length vc] ∧ Bk W' (w.heap.size + 1 + 1 + 1) 39 #[.int .i64 P, .int .i64 V, sv, iv, rv] ∧ s0 ≤ (W'.setCell ⟨w.heap.size + 1 + 1 + 1, i, none⟩ u).heap.size ∧ RFunc (W'.setCell ⟨w.heap.size + 1 + 1 + 1, i, none⟩ u) 0 w.heap.size [.int .i64 P, .int .i64 V, .slice uA m.qBody.length uc, .slice vA m.qStmts.length vc] m := by
  obtain ⟨h1, h2⟩ := H.h0
  have hk : ∀ {k : Nat} {t : TypeId} {cs : Array Value}, Bk W k t cs → k < s0 → Bk W' k t cs := fun hh hl => (hb.block _ (by omega)).trans hh
  have hz := hb.size
  have hb2 : Below w.heap.size W (W'.setCell ⟨w.heap.size + 1 + 1 + 1, i, none⟩ u) := ((Below.refl _ _).trans (hb.mono (by omega))).setCell (p := ⟨w.heap.size + 1 + 1 + 1, i, none⟩) (by show w.heap.size ≤ w.heap.size + 1 + 1 + 1; omega) u
  exact ⟨H.b.trans hb2, (hk H.res (by omega)).far (by omega) _ _, (hk H.f (by omega)).far (by omega) _ _, hk H.c (by omega), by rw [World.size_setCell]; omega, RFunc_stable.keep H.r ((KeptB.refl _ _ _).below hb2 (Nat.le_refl _))⟩
theorem own_farK {base n size : Nat} {e : TypeId} {v : Value} {xs : List Value} {i : Nat} (h : W.ownsRow s0 e size v n xs) (hl : w.heap.size + 1 + 1 + 1 < s0) (u : Value) : (W.setCell ⟨w.heap.size + 1 + 1 + 1, i, none⟩ u).ownsRow s0 e size v n xs := own_far h u fun k hk e => by have := (h.lt k hk).1; simp only at e; omega
theorem CdS.pushS (H : CdS P V uA uc vA vc m s0 w sv sl iv il rv rl W) (ho : W'.ownsRow s0 3 1 sv' sl'.length (icells .i64 sl')) (hg : Gro W W' sv sv') : CdS P V uA uc vA vc m s0 w sv' sl' iv il rv rl (W'.setCell ⟨w.heap.size + 1 + 1 + 1, 2, none⟩ sv') := by
  obtain ⟨a1, a2, a3, a4, a5, a6⟩ := H.cells (hg.toBelow H.so H.h0.2) (Nat.le_refl _) 2 sv'
  exact ⟨a1, a2, a3, a4.set 2 sv', ⟨H.h0.1, a5⟩, own_farK (base := 0) ho H.h0.1 _, own_farK (base := 0) (own_gro H.io hg fun q hq => own_types H.io H.so (by decide) hq) H.h0.1 _, own_farK (base := 0) (own_gro H.ro hg fun q hq => own_types H.ro H.so (by decide) hq) H.h0.1 _, a6⟩
theorem CdS.pushI (H : CdS P V uA uc vA vc m s0 w sv sl iv il rv rl W) (ho : W'.ownsRow s0 41 2 iv' il'.length (pcells il')) (hg : Gro W W' iv iv') : CdS P V uA uc vA vc m s0 w sv sl iv' il' rv rl (W'.setCell ⟨w.heap.size + 1 + 1 + 1, 3, none⟩ iv') := by
  obtain ⟨a1, a2, a3, a4, a5, a6⟩ := H.cells (hg.toBelow H.io H.h0.2) (Nat.le_refl _) 3 iv'
  exact ⟨a1, a2, a3, a4.set 3 iv', ⟨H.h0.1, a5⟩, own_farK (base := 0) (own_gro H.so hg fun q hq => own_types H.so H.io (by decide) hq) H.h0.1 _, own_farK (base := 0) ho H.h0.1 _, own_farK (base := 0) (own_gro H.ro hg fun q hq => own_types H.ro H.io (by decide) hq) H.h0.1 _, a6⟩
theorem CdS.pushR (H : CdS P V uA uc vA vc m s0 w sv sl iv il rv rl W) (ho : W'.ownsRow s0 82 3 rv' rl'.length (rcells rl')) (hg : Gro W W' rv rv') : CdS P V uA uc vA vc m s0 w sv sl iv il rv' rl' (W'.setCell ⟨w.heap.size + 1 + 1 + 1, 4, none⟩ rv') := by
  obtain ⟨a1, a2, a3, a4, a5, a6⟩ := H.cells (hg.toBelow H.ro H.h0.2) (Nat.le_refl _) 4 rv'
  exact ⟨a1, a2, a3, a4.set 4 rv', ⟨H.h0.1, a5⟩, own_farK (base := 0) (own_gro H.so hg fun q hq => own_types H.so H.ro (by decide) hq) H.h0.1 _, own_farK (base := 0) (own_gro H.io hg fun q hq => own_types H.io H.ro (by decide) hq) H.h0.1 _, own_farK (base := 0) ho H.h0.1 _, a6⟩
/-- a row put where none was of its kind -/
theorem CdS.putI (H : CdS P V uA uc vA vc m s0 w sv sl iv il rv rl W) {B : Nat} (hb : Below B W W') (hB : W.heap.size ≤ B) (ho : W'.ownsRow s0 41 2 iv' il'.length (pcells il')) : CdS P V uA uc vA vc m s0 w sv sl iv' il' rv rl (W'.setCell ⟨w.heap.size + 1 + 1 + 1, 3, none⟩ iv') := by
  have hb' := hb.mono hB
  obtain ⟨a1, a2, a3, a4, a5, a6⟩ := H.cells hb' H.h0.2 3 iv'
  exact ⟨a1, a2, a3, a4.set 3 iv', ⟨H.h0.1, a5⟩, own_farK (base := 0) (own_keep H.so hb') H.h0.1 _, own_farK (base := 0) ho H.h0.1 _, own_farK (base := 0) (own_keep H.ro hb') H.h0.1 _, a6⟩
theorem CdS.putR (H : CdS P V uA uc vA vc m s0 w sv sl iv il rv rl W) {B : Nat} (hb : Below B W W') (hB : W.heap.size ≤ B) (ho : W'.ownsRow s0 82 3 rv' rl'.length (rcells rl')) : CdS P V uA uc vA vc m s0 w sv sl iv il rv' rl' (W'.setCell ⟨w.heap.size + 1 + 1 + 1, 4, none⟩ rv') := by
  have hb' := hb.mono hB
  obtain ⟨a1, a2, a3, a4, a5, a6⟩ := H.cells hb' H.h0.2 4 rv'
  exact ⟨a1, a2, a3, a4.set 4 rv', ⟨H.h0.1, a5⟩, own_farK (base := 0) (own_keep H.so hb') H.h0.1 _, own_farK (base := 0) (own_keep H.io hb') H.h0.1 _, own_farK (base := 0) ho H.h0.1 _, a6⟩
theorem own_res {n size : Nat} {e : TypeId} {v : Value} {xs : List Value} (h : W.ownsRow s0 e size v n xs) (hl : w.heap.size + 1 + 1 + 1 < s0) (a0 a1 a2 a3 a4 : Value) : (((((W.setCell ⟨w.heap.size + 1, 0, none⟩ a0).setCell ⟨w.heap.size + 1, 1, none⟩ a1).setCell ⟨w.heap.size + 1, 2, none⟩ a2).setCell ⟨w.heap.size + 1, 3, none⟩ a3).setCell ⟨w.heap.size + 1, 4, none⟩ a4).ownsRow w.heap.size e size v n xs := by
  have hf : ∀ {X : World} {i : Nat} (u : Value), X.ownsRow s0 e size v n xs → (X.setCell ⟨w.heap.size + 1, i, none⟩ u).ownsRow s0 e size v n xs := fun {X} {i} u h => own_far h u fun k hk e => by have := (h.lt k hk).1; simp only at e; omega
  exact own_base (hf a4 (hf a3 (hf a2 (hf a1 (hf a0 h))))) (by omega)
theorem below_res (h : Below w.heap.size w W) (a0 a1 a2 a3 a4 : Value) : Below w.heap.size w (((((W.setCell ⟨w.heap.size + 1, 0, none⟩ a0).setCell ⟨w.heap.size + 1, 1, none⟩ a1).setCell ⟨w.heap.size + 1, 2, none⟩ a2).setCell ⟨w.heap.size + 1, 3, none⟩ a3).setCell ⟨w.heap.size + 1, 4, none⟩ a4) := by
  have hf : ∀ {X : World} {i : Nat} (u : Value), Below w.heap.size w X → Below w.heap.size w (X.setCell ⟨w.heap.size + 1, i, none⟩ u) := fun {X} {i} u h => h.setCell (p := ⟨w.heap.size + 1, i, none⟩) (Nat.le_succ _) u
  exact hf a4 (hf a3 (hf a2 (hf a1 (hf a0 h))))
end
/-- a function's code, as it is returned -/
def CodP (m : FuncM) (w : World) (e : Ending) (w' : World) : Prop := ∃ (sA : Option Addr) (sc : Nat) (sl : List Int) (iA : Option Addr) (ic : Nat) (il : List P2) (rA : Option Addr) (rc : Nat) (rl : List R3),
  e = .returned (.agg #[.int .i64 m.qParams, .int .i64 m.qVars, .slice sA sl.length sc, .slice iA il.length ic, .slice rA rl.length rc]) ∧ (sl.length ≤ 4 ∧ (1 ≤ il.length ∧ il.length ≤ 222) ∧ rl.length ≤ 5) ∧ w'.ownsRow w.heap.size 3 1 (.slice sA sl.length sc) sl.length (icells .i64 sl) ∧ w'.ownsRow w.heap.size 41 2 (.slice iA il.length ic) il.length (pcells il) ∧ w'.ownsRow w.heap.size 82 3 (.slice rA rl.length rc) rl.length (rcells rl) ∧ Below w.heap.size w w'
end Go.Proofs.YtgkjakoagdkpcaaGreatDoor
set_option linter.unusedSimpArgs false
set_option linter.unusedVariables false
set_option maxRecDepth 100000
namespace Go.Proofs.YtgkjakoagdkpcaaGreatDoor
open Go.RowKit

set_option maxHeartbeats 6400000 in
theorem spec_l6FuncN (pA : Option Addr) (pc : Nat) (fs : List FuncM) (n : Nat) (hn : n < fs.length) (W : World) (hr : RL RFunc 4 W 0 W.heap.size (.slice pA fs.length pc) fs) (hl : fs[n].qStmts.length ≤ 12) (hE : ∀ s ∈ fs[n].qStmts, s.qEx.length ≤ 15) (h4 : (sitesF 0 fs[n].qStmts).length ≤ 4) (hseg : Seg (atS fs[n].qStmts) 0 fs[n].qStmts.length fs[n].qBody) :
    Calls Tryz.prog 103 #[.agg #[.slice pA fs.length pc], .int .i64 (n : Int)] W (CodP fs[n] W) := by
  obtain ⟨b, o, u', v', rfl, hb, k0, k1, k2, k3, hf⟩ := RFunc_at hr hn
  have hnI : (n : Int) < (fs.length : Int) := by omega
  have hn0 : (0 : Int) ≤ (n : Int) := by omega
  generalize fs[n] = m at *
  obtain ⟨u'', v'', e, g2, g3⟩ := id hf
  simp only [List.cons.injEq, and_true, true_and] at e
  obtain ⟨rfl, rfl⟩ := e
  obtain ⟨uA, uc, rfl⟩ := g2.form
  obtain ⟨vA, vc, rfl⟩ := g3.form
  have hbd : ∀ z ∈ sitesF 0 m.qStmts, ∃ y : Nat, z = (y : Int) ∧ y < m.qStmts.length := fun z hz => by
    obtain ⟨j, hj, rfl, _⟩ := (sitesF_mem _ _ _).1 hz
    exact ⟨j, by omega, hj⟩
  have Hbd := Lib.hid hbd
  have hblk := fun W' (h : RFunc W' 0 W'.heap.size [.int .i64 m.qParams, .int .i64 m.qVars, .slice uA m.qBody.length uc, .slice vA m.qStmts.length vc] m) (hk : Rd W' W'.heap.size (.slice uA m.qBody.length uc) m.qBody.length (icells .i64 m.qBody)) (a : Int) => l6_blk m.qParams m.qVars uA uc vA vc m hl hE m.qStmts.length 0 m.qStmts.length m.qBody uA uc a W' hseg (by omega) (Nat.le_refl _) h hk
  have HBk := Lib.hid hblk
  have hb4 := (((((Below.refl W.heap.size W).alloc (Nat.le_refl _) (.cells #[.slice (some ⟨b, o, none⟩) fs.length pc] 103)).alloc (by simp) (.cells #[.int .i64 0, .int .i64 0, .slice none 0 0, .slice none 0 0, .slice none 0 0] 39)).alloc (by simp; omega) (.cells #[.int .i64 m.qParams, .int .i64 m.qVars, .slice uA m.qBody.length uc, .slice vA m.qStmts.length vc] 135)).alloc (by simp; omega) (.cells #[.int .i64 m.qParams, .int .i64 m.qVars, .slice none 0 0, .slice none 0 0, .slice none 0 0] 39))
  have n1 := (((Bk.new (W.alloc (.cells #[.slice (some ⟨b, o, none⟩) fs.length pc] 103)) 39 #[.int .i64 0, .int .i64 0, .slice none 0 0, .slice none 0 0, .slice none 0 0]).alloc (.cells #[.int .i64 m.qParams, .int .i64 m.qVars, .slice uA m.qBody.length uc, .slice vA m.qStmts.length vc] 135)).alloc (.cells #[.int .i64 m.qParams, .int .i64 m.qVars, .slice none 0 0, .slice none 0 0, .slice none 0 0] 39))
  have n2 := ((Bk.new ((W.alloc (.cells #[.slice (some ⟨b, o, none⟩) fs.length pc] 103)).alloc (.cells #[.int .i64 0, .int .i64 0, .slice none 0 0, .slice none 0 0, .slice none 0 0] 39)) 135 #[.int .i64 m.qParams, .int .i64 m.qVars, .slice uA m.qBody.length uc, .slice vA m.qStmts.length vc]).alloc (.cells #[.int .i64 m.qParams, .int .i64 m.qVars, .slice none 0 0, .slice none 0 0, .slice none 0 0] 39))
  have n3 := Bk.new (((W.alloc (.cells #[.slice (some ⟨b, o, none⟩) fs.length pc] 103)).alloc (.cells #[.int .i64 0, .int .i64 0, .slice none 0 0, .slice none 0 0, .slice none 0 0] 39)).alloc (.cells #[.int .i64 m.qParams, .int .i64 m.qVars, .slice uA m.qBody.length uc, .slice vA m.qStmts.length vc] 135)) 39 #[.int .i64 m.qParams, .int .i64 m.qVars, .slice none 0 0, .slice none 0 0, .slice none 0 0]
  simp only [World.size_alloc] at n1 n2 n3
  have hsz : ((((W.alloc (.cells #[.slice (some ⟨b, o, none⟩) fs.length pc] 103)).alloc (.cells #[.int .i64 0, .int .i64 0, .slice none 0 0, .slice none 0 0, .slice none 0 0] 39)).alloc (.cells #[.int .i64 m.qParams, .int .i64 m.qVars, .slice uA m.qBody.length uc, .slice vA m.qStmts.length vc] 135)).alloc (.cells #[.int .i64 m.qParams, .int .i64 m.qVars, .slice none 0 0, .slice none 0 0, .slice none 0 0] 39)).heap.size = W.heap.size + 1 + 1 + 1 + 1 := by simp only [World.size_alloc]
  have N1 := hide n1; have N2 := hide n2; have N3 := hide n3; have HB4 := hide hb4; have HF := hide hf; have HZ := hide hsz
  clear hr hseg hE hf g2 g3 hbd hblk hb4 n1 n2 n3 hsz
  go_enter Tryz.func103, Tryz.ntmps103
  go_upto_region 4 with (go_at_call 118; refine (spec_l3Sites [_, _, _, _] m _ (RFunc_stable.here HF.out HB4.out) (by omega)).mono ?_; rintro e w1 ⟨sv, rfl, hown, hb1⟩; obtain ⟨sA, sc, rfl⟩ := own_form hown; have hz1 := hb1.size; rw [HZ.out] at hz1 hown; have HS := hide (show CdS m.qParams m.qVars uA uc vA vc m w1.heap.size W (.slice none 0 0) [] (.slice none 0 0) [] (.slice none 0 0) [] w1 from ⟨HB4.out.trans (hb1.mono (by rw [HZ.out]; omega)), N1.out.below hb1, N2.out.below hb1, N3.out.below hb1, ⟨by omega, Nat.le_refl _⟩, World.ownsRow_nil _ _ _ _, World.ownsRow_nil _ _ _ _, World.ownsRow_nil _ _ _ _, RFunc_stable.keep HF.out ((KeptB.refl _ _ _).below (HB4.out.trans (hb1.mono (by rw [HZ.out]; omega))) (Nat.le_refl _))⟩); have Ho := hide hown; clear hown hb1)
  generalize hS : sitesF 0 m.qStmts = S at *
  clear k0 k1 k2 k3
  have hSb : ∀ q : Nat, (Value.slice sA S.length sc).ownBlock = some q → q < w1.heap.size := fun q hq => (Ho.out.lt q hq).2
  have HSb := Lib.hid hSb
  clear hSb HF HB4 N1 N2 N3 HZ hS
  go_loopw [25] (fun i wr => ∃ (k : Nat) (sv : Value) (sl : List Int), k ≤ S.length ∧ i = .int .i64 k ∧ sl.length = k ∧ CdS m.qParams m.qVars uA uc vA vc m w1.heap.size W sv sl (.slice none 0 0) [] (.slice none 0 0) [] wr ∧ wr.ownsRow (W.heap.size + 1 + 1 + 1 + 1) 3 1 (.slice sA S.length sc) S.length (icells .i64 S)) (fun i _ => S.length - (intOf i).toNat)
  case atStart => exact ⟨0, _, [], by omega, rfl, rfl, HS.out, Ho.out⟩
  case round =>
    obtain ⟨_, sv, sl, hk, rfl, rfl, hc, ho⟩ := hrel
    obtain ⟨vA2, vc2, rfl⟩ := own_form hc.so
    have HS := hide hc; have Ho := hide ho
    have hh0 := hc.h0
    clear hc ho
    by_cases hlt : sl.length < S.length
    · have hkI : (sl.length : Int) < (S.length : Int) := by omega
      have hk0 : (0 : Int) ≤ (sl.length : Int) := by omega
      obtain ⟨qb, qo, hqe, hqb, hcell⟩ := (Rd.of_own Ho.out).at_ (j := sl.length) (by rw [icells_length]; exact hlt)
      obtain ⟨y, hy, hyl⟩ := Hbd.out _ (List.getElem_mem hlt)
      rw [icells_get _ _ hlt, hy] at hcell
      cases hqe
      have hyI : (y : Int) < (m.qStmts.length : Int) := by omega
      have hy0 : (0 : Int) ≤ (y : Int) := by omega
      obtain ⟨u2, v2, e, _, g3⟩ := id HS.out.r
      simp only [List.cons.injEq, and_true, true_and] at e
      obtain ⟨rfl, rfl⟩ := e
      obtain ⟨sb, so, t2, t3, t4, e, hsb, y0, y1, _, _, _, _⟩ := RStmt_at g3 hyl
      cases e
      generalize m.qStmts[y] = st at *
      have hsbw : sb < wr.heap.size := Nat.lt_of_lt_of_le hsb HS.out.b.size
      have c2 := HS.out.c.cell 2; have cl := HS.out.c.lt; have f3 := HS.out.f.cell 3; have fl := HS.out.f.lt
      have HsA := hide (HS.out.alloc (.cells #[.int .i64 st.qN] 3)).drw
      have HlA := hide (own_dr (World.ownsRow_lit (base := 0) (e := 3) (size := 1) wr #[.int .i64 st.qN] 1 (Nat.zero_le _) (by unfold maxLen; omega) rfl))
      have HoA := hide (own_dr (Ho.out.alloc (.cells #[.int .i64 st.qN] 3)))
      clear g3 y0
      go_wp2_with fail
      go_region_law ((refine step_catOwn rfl 38 rfl (.tmp 30) (.tmp 37) 29 rfl okI64 (by simp [Act.eval, Act.put]) HsA.out.so (by simp [Act.eval, Act.put]) HlA.out (by simp [Value.oneCell']) (by unfold maxLen; omega) (by omega) HsA.out.h0.2 ?_; intro v10 w10 hown10 hg10; obtain ⟨vA10, vc10, rfl⟩ := own_form hown10; have k10 := hg10.bk HsA.out.c (fun e => by have := (HsA.out.so.lt _ e.symm).1; omega); have k2 := k10.cell 2; have y2 := k10.frozen 2; have kl := k10.lt; have Hg10 := hide hg10; have Ho10 := hide hown10; clear k10 hown10 hg10))
      all_goals
        go_wp2_with fail
        go_roundw
        case rel =>
          refine ⟨sl.length + 1, _, sl ++ [st.qN], by omega, by go_num, by simp, HsA.out.pushS (by rw [List.length_append, icells_append]; exact Ho10.out) Hg10.out, ?_⟩
          exact own_far (own_gro HoA.out Hg10.out fun q hq e => by have := HSb.out q hq; have := (HsA.out.so.lt q e).1; omega) _ fun q hq e => by have := (HoA.out.lt q hq).1; simp only at e; omega
        case measure => simp [intOf]; omega
    · have hkI : ¬ (sl.length : Int) < (S.length : Int) := by omega
      have hsl4 : sl.length ≤ 4 := by omega
      have f0 := HS.out.f.cell 0; have f1 := HS.out.f.cell 1; have f2 := HS.out.f.cell 2; have f3 := HS.out.f.cell 3; have fl := HS.out.f.lt
      have hk2 : Rd wr wr.heap.size (.slice uA m.qBody.length uc) m.qBody.length (icells .i64 m.qBody) := by
        obtain ⟨u2, v2, e, g2, g3⟩ := id HS.out.r
        simp only [List.cons.injEq, and_true, true_and] at e
        obtain ⟨rfl, rfl⟩ := e
        exact g2.rd.more HS.out.b.size
      have HK2 := hide hk2
      clear hk2 Ho Hbd HSb
      go_upto_region 9 with (first
        | (go_at_call 119; refine (HBk.out _ HS.out.rp HK2.out _).mono ?_; rintro e w5 ⟨v5, xs, rfl, hxs, ho5, hb5⟩; obtain ⟨xA, xc, rfl⟩ := own_form ho5; have hz5 := hb5.size; have HX := hide ho5; have HB5 := hide hb5; clear ho5 hb5)
        | (at_builtin; refine wpList_pushG rfl _ _ _ rfl okInsL rfl HX.out _ rfl rfl rfl (by simp [Value.oneCell']) (by unfold maxLen; omega) (by omega) hz5 ?_; intro v6 w6 hown6 hg6; obtain ⟨iA6, ic6, rfl⟩ := own_form hown6; have hb6 := HB5.out.trans (hg6.toBelow HX.out hz5); have hc6 := HS.out.c.below hb6; have c3 := hc6.cell 3; have cy := hc6.frozen 3; have cl := hc6.lt; have HS6 := hide (HS.out.putI hb6 (Nat.le_refl _) (il' := xs ++ [⟨16, 0⟩]) (by rw [pcells_snoc, List.length_append]; exact own_base hown6 hh0.2)); clear hown6 hg6 hb6 hc6))
      obtain ⟨il, hil⟩ : ∃ il : List P2, il = xs ++ [⟨16, 0⟩] := ⟨_, rfl⟩
      have hln : xs.length + 1 = il.length := by rw [hil]; simp
      have hS6 := HS6.out
      rw [← hil, hln] at hS6
      rw [hln]
      clear c3 cy cl
      generalize w6.setCell ⟨W.heap.size + 1 + 1 + 1, 3, none⟩ (.slice iA6 il.length ic6) = w7 at *
      have HS := hide hS6
      clear hS6 HS6 HX HB5 hil f0 f1 f2 f3 fl HK2 HBk
      have c3 := HS.out.c.cell 3; have c2 := HS.out.c.cell 2; have cy := HS.out.c.frozen 4; have c4 := HS.out.c.cell 4; have cl := HS.out.c.lt
      have hS8 := HS.out.putR (rl' := [⟨0, il.length, il.length⟩]) ((Below.refl _ _).alloc (Nat.le_refl _) (.cells #[.int .i64 0, .int .i64 il.length, .int .i64 il.length] 82)) (Nat.le_refl _) (World.ownsRow_lit (base := w1.heap.size) (e := 82) (size := 3) w7 #[.int .i64 0, .int .i64 il.length, .int .i64 il.length] 1 HS.out.h0.2 (by unfold maxLen; omega) rfl)
      rw [World.setCell_alloc_past _ _ _ _ cl] at hS8
      have HS8 := hide hS8
      clear hS8
      go_upto_region 12 with fail
      go_loopw [10] (fun kv wr => ∃ (c : Nat) (iA : Option Addr) (ic : Nat) (il2 : List P2) (rA : Option Addr) (rc : Nat) (rl2 : List R3), kv = .int .i64 ((c : Int) - 1) ∧ c ≤ sl.length ∧ il2.length + c = il.length + sl.length ∧ rl2.length + c = 1 + sl.length ∧ CdS m.qParams m.qVars uA uc vA vc m w1.heap.size W (.slice vA2 sl.length vc2) sl (.slice iA il2.length ic) il2 (.slice rA rl2.length rc) rl2 wr) (fun kv _ => (intOf kv + 1).toNat)
      case atStart => exact ⟨sl.length, _, _, il, _, _, [⟨0, il.length, il.length⟩], by first | rfl | (congr 1; unfold wrap64; omega), Nat.le_refl _, rfl, rfl, HS8.out⟩
      case round =>
        obtain ⟨c, iA, ic, il2, rA, rc, rl2, rfl, hc1, hc2, hc3, hcd⟩ := hrel
        have HS := hide hcd
        have hh2 := hcd.h0
        clear hcd HS8 c3 c2 cy c4 cl
        have c3 := HS.out.c.cell 3; have c4 := HS.out.c.cell 4; have cl := HS.out.c.lt
        cases c with
        | zero =>
          have hcI : ¬ (0 : Int) ≤ ((0 : Nat) : Int) - 1 := by omega
          go_wp2_with (at_builtin; refine wpList_pushG rfl _ _ _ rfl okInsL rfl HS.out.io _ rfl rfl rfl (by simp [Value.oneCell']) (by unfold maxLen; omega) (by omega) HS.out.h0.2 ?_; intro v12 w12 hown12 hg12; obtain ⟨iA12, ic12, rfl⟩ := own_form hown12; have hno : ∀ q, some q = (Value.slice iA il2.length ic).ownBlock → w1.heap.size ≤ q := (fun q e => (HS.out.io.lt q e.symm).1); have hc12 := hg12.bk HS.out.c (fun e => by have := hno _ e; omega); have hr12 := hg12.bk HS.out.res (fun e => by have := hno _ e; omega); have q0 := hc12.cell 0; have q1 := hc12.cell 1; have q2 := hc12.cell 2; have q3 := hc12.cell 3; have q4 := hc12.cell 4; have y3 := hc12.frozen 3; have ql := hc12.lt; have r0 := hr12.cell 0; have r1 := hr12.cell 1; have r2 := hr12.cell 2; have r3 := hr12.cell 3; have r4 := hr12.cell 4; have z0 := hr12.frozen 0; have z1 := hr12.frozen 1; have z2 := hr12.frozen 2; have z3 := hr12.frozen 3; have z4 := hr12.frozen 4; have rl := hr12.lt; have HS12 := hide (HS.out.pushI (il' := il2 ++ [⟨18, 0⟩]) (by rw [pcells_snoc, List.length_append]; exact hown12) hg12); clear hown12 hg12 hc12 hr12 hno)
          have hh0 := HS12.out.h0.1
          refine bodyPost_ret (v := .agg #[.int .i64 m.qParams, .int .i64 m.qVars, .slice vA2 sl.length vc2, .slice iA12 (il2.length + 1) ic12, .slice rA rl2.length rc]) ?_ rfl ⟨vA2, vc2, sl, iA12, ic12, il2 ++ [⟨18, 0⟩], rA, rc, rl2, by simp, ⟨hsl4, by simp; omega, by omega⟩, own_res HS12.out.so hh0 _ _ _ _ _, by simpa using own_res HS12.out.io hh0 _ _ _ _ _, own_res HS12.out.ro hh0 _ _ _ _ _, below_res HS12.out.b _ _ _ _ _⟩
          simp [results, Tryz.results103, go_sem, r0, r1, r2, r3, r4, rl]; done
        | succ c =>
          have hce : (((c + 1 : Nat) : Int) - 1) = (c : Int) := by omega
          rw [hce]
          have hcI : (0 : Int) ≤ (c : Int) := by omega
          go_wp2_with (first
            | (at_builtin; refine wpList_pushG rfl _ _ _ rfl okInsL rfl HS.out.io _ rfl rfl rfl (by simp [Value.oneCell']) (by unfold maxLen; omega) (by omega) HS.out.h0.2 ?_; intro v9 w9 hown9 hg9; obtain ⟨iA9, ic9, rfl⟩ := own_form hown9; have hc9 := hg9.bk HS.out.c (fun e => by have := (HS.out.io.lt _ e.symm).1; omega); have c3 := hc9.cell 3; have y3 := hc9.frozen 3; have c4 := hc9.cell 4; have cl := hc9.lt; have HS9 := hide (HS.out.pushI (il' := il2 ++ [⟨17, c⟩]) (by rw [pcells_snoc, List.length_append]; exact hown9) hg9); clear hown9 hg9 hc9)
            | (at_builtin; refine wpList_pushG rfl _ _ _ rfl okRowL rfl HS9.out.ro _ rfl (World.size_setCell _ _ _).symm rfl (by simp [Value.oneCell']) (by unfold maxLen; omega) (by omega) HS9.out.h0.2 ?_; intro v11 w11 hown11 hg11; obtain ⟨rA11, rc11, rfl⟩ := own_form hown11; have hc11 := hg11.bk HS9.out.c (fun e => by have := (HS9.out.ro.lt _ e.symm).1; omega); have c4 := hc11.cell 4; have y4 := hc11.frozen 4; have cl := hc11.lt; have Ho11 := hide hown11; have Hg11 := hide hg11; clear hown11 hg11 hc11))
          have HS11 := hide (HS9.out.pushR (rl' := rl2 ++ [⟨il2.length, il2.length + 1, il2.length + 1⟩]) (by rw [rcells_append, List.length_append]; exact Ho11.out) Hg11.out)
          go_roundw
          case rel => exact ⟨c, iA9, ic9, il2 ++ [⟨17, c⟩], rA11, rc11, rl2 ++ [⟨il2.length, il2.length + 1, il2.length + 1⟩], by first | rfl | (congr 1; unfold wrap64; omega), by omega, by simp; omega, by simp; omega, by simpa using HS11.out⟩
          case measure => first | (simp [intOf]; done) | (simp [intOf]; omega)
end Go.Proofs.YtgkjakoagdkpcaaGreatDoor
set_option linter.unusedSimpArgs false
set_option linter.unusedVariables false
set_option maxRecDepth 100000
namespace Go.Proofs.YtgkjakoagdkpcaaGreatDoor
open Go.RowKit

theorem okCodeL : SliceOk Tryz.prog 24 39 (.agg #[.int .i64 0, .int .i64 0, .slice none 0 0, .slice none 0 0, .slice none 0 0]) 5 88 := .mk Tryz.underlying24 (by kernel_rfl) rfl (by decide)
/-- a code's cells: what hangs on it lies from block lo on -/
def CdC (lo : Nat) (w : World) (cs : List Value) : Prop := ∃ (P V : Int) (sA : Option Addr) (sc : Nat) (sl : List Int) (iA : Option Addr) (ic : Nat) (il : List P2) (rA : Option Addr) (rc : Nat) (rl : List R3),
  cs = [.int .i64 P, .int .i64 V, .slice sA sl.length sc, .slice iA il.length ic, .slice rA rl.length rc] ∧ (sl.length ≤ 4 ∧ (1 ≤ il.length ∧ il.length ≤ 222) ∧ rl.length ≤ 5) ∧ w.ownsRow lo 3 1 (.slice sA sl.length sc) sl.length (icells .i64 sl) ∧ w.ownsRow lo 41 2 (.slice iA il.length ic) il.length (pcells il) ∧ w.ownsRow lo 82 3 (.slice rA rl.length rc) rl.length (rcells rl)
/-- blocks of other types than codes' and images' lie as they did -/
def KC (lo : Nat) (w w' : World) : Prop := ∀ k, lo ≤ k → (∃ xs t z, w.heap[k]? = some (.cells xs t z) ∧ t ≠ 39 ∧ t ≠ 26) → w'.heap[k]? = w.heap[k]?
section
variable {lo q : Nat} {w w1 w2 : World} {v v1 : Value}
theorem KC.own {base n size : Nat} {e : TypeId} {u : Value} {xs : List Value} (h : KC lo w w1) (ho : w.ownsRow base e size u n xs) (hb : lo ≤ base) (he : e ≠ 39 ∧ e ≠ 26) : w1.ownsRow base e size u n xs := by
  refine ⟨ho.1, ?_⟩
  rcases ho.2 with hn | ⟨k, cap, cur, hv, hk, hh, r⟩
  · exact .inl hn
  · exact .inr ⟨k, cap, cur, hv, hk, (h k (by omega) ⟨_, _, _, hh, he⟩).trans hh, r⟩
theorem CdC.kc {cs : List Value} (h : CdC lo w cs) (hk : KC lo w w1) : CdC lo w1 cs := by
  obtain ⟨P, V, sA, sc, sl, iA, ic, il, rA, rc, rl, e, hb, h1, h2, h3⟩ := h
  exact ⟨P, V, sA, sc, sl, iA, ic, il, rA, rc, rl, e, hb, hk.own h1 (Nat.le_refl _) (by decide), hk.own h2 (Nat.le_refl _) (by decide), hk.own h3 (Nat.le_refl _) (by decide)⟩
theorem KC.below (h : Below w.heap.size w w1) : KC lo w w1 := fun k _ ⟨_, _, _, hh, _⟩ => h.block k (Array.getElem?_eq_some_iff.1 hh).1
theorem KC.set {t : TypeId} {cs : Array Value} (hq : Bk w q t cs) (ht : t = 39 ∨ t = 26) (i : Nat) (u : Value) : KC lo w (w.setCell ⟨q, i, none⟩ u) := by
  rintro k _ ⟨ys, t', z, hh, ht'⟩
  refine Below.heap_setCell _ _ _ _ fun e => ?_
  have e : k = q := e
  subst e
  rw [show w.heap[k]? = _ from hq] at hh
  injection hh with hh; injection hh with _ hh _
  subst hh
  rcases ht with h | h
  · exact ht'.1 h
  · exact ht'.2 h
theorem KC.gro {n base : Nat} {xs : List Value} (ho : w.ownsRow base 39 5 v n xs) (hg : Gro w w1 v v1) : KC lo w w1 := by
  rintro k _ ⟨ys, t', z, hh, ht'⟩
  refine hg.g.block k (Array.getElem?_eq_some_iff.1 hh).1 fun e => ?_
  rcases ho.2 with ⟨rfl, _⟩ | ⟨g, _, c, rfl, _, h2, _⟩
  · cases e
  · injection e with e; subst e
    rw [hh] at h2; injection h2 with h2; injection h2 with _ h2 _; exact ht'.1 h2
end
theorem CdC.len {lo : Nat} {w : World} {cs : List Value} (h : CdC lo w cs) : cs.length = 5 := by obtain ⟨_, _, _, _, _, _, _, _, _, _, _, rfl, _⟩ := h; rfl
theorem CdC.base {lo lo' : Nat} {w : World} {cs : List Value} (h : CdC lo w cs) (hl : lo' ≤ lo) : CdC lo' w cs := by
  obtain ⟨P, V, sA, sc, sl, iA, ic, il, rA, rc, rl, e, hb, h1, h2, h3⟩ := h
  exact ⟨P, V, sA, sc, sl, iA, ic, il, rA, rc, rl, e, hb, own_base h1 hl, own_base h2 hl, own_base h3 hl⟩
theorem own_img {lo n q : Nat} {v : Value} {w : World} {xs : List Value} {cs : Array Value} (ho : w.ownsRow lo 39 5 v n xs) (hb : Bk w q 26 cs) : some q ≠ v.ownBlock := fun e => by
  rcases ho.2 with ⟨rfl, _⟩ | ⟨g, _, c, rfl, _, h2, _⟩
  · cases e
  · injection e with e; subst e
    rw [show w.heap[_]? = _ from hb] at h2; injection h2 with h2; injection h2 with _ h2 _; exact absurd h2 (by decide)
/-- an image's row of codes -/
def IRow (lo : Nat) (v : Value) (w : World) (n : Nat) : Prop := ∃ css : List (List Value), css.length = n ∧ w.ownsRow lo 39 5 v n css.flatten ∧ ∀ c ∈ css, CdC lo w c
theorem IRow.keep {lo n : Nat} {v : Value} {w w1 : World} (h : IRow lo v w n) (hk : KC lo w w1) (hv : ∀ k, v.ownBlock = some k → w1.heap[k]? = w.heap[k]?) : IRow lo v w1 n := by
  obtain ⟨css, h1, h2, h3⟩ := h
  refine ⟨css, h1, ⟨h2.1, ?_⟩, fun c hc => (h3 c hc).kc hk⟩
  rcases h2.2 with hn | ⟨k, cap, cur, hv', hb, hh, r⟩
  · exact .inl hn
  · exact .inr ⟨k, cap, cur, hv', hb, (hv k (by rw [hv']; rfl)).trans hh, r⟩
theorem IRow.own {lo n : Nat} {v : Value} {w : World} (h : IRow lo v w n) : ∃ xs, w.ownsRow lo 39 5 v n xs := by obtain ⟨css, _, h2, _⟩ := h; exact ⟨_, h2⟩
theorem IRow.below {lo n : Nat} {v : Value} {w w1 : World} (h : IRow lo v w n) (hb : Below w.heap.size w w1) : IRow lo v w1 n := by
  obtain ⟨xs, ho⟩ := h.own
  exact h.keep (.below hb) fun k hk => hb.block k (ho.lt k hk).2
theorem IRow.push {lo n : Nat} {v v1 : Value} {w w1 : World} {cs xs : List Value} (h : IRow lo v w n) (hc : CdC lo w cs) (hown : w.ownsRow lo 39 5 v n xs) (ho : w1.ownsRow lo 39 5 v1 (n + 1) (xs ++ cs)) (hg : Gro w w1 v v1) : IRow lo v1 w1 (n + 1) := by
  obtain ⟨css, h1, h2, h3⟩ := h
  have hx := own_inj h2 hown
  subst hx
  refine ⟨css ++ [cs], by simp [h1], by simpa using ho, fun c hm => ?_⟩
  rcases List.mem_append.1 hm with hm | hm
  · exact (h3 c hm).kc (.gro hown hg)
  · rw [List.mem_singleton] at hm; subst hm; exact hc.kc (.gro hown hg)
theorem IRow.nil (lo : Nat) (w : World) : IRow lo (.slice none 0 0) w 0 := ⟨[], rfl, World.ownsRow_nil _ _ _ _, fun c h => by simp at h⟩
/-- the image under way -/
structure LwS (pA : Option Addr) (pc : Nat) (fs : List FuncM) (w : World) (h : Nat) (v : Value) (n : Nat) (W : World) : Prop where
  b : Below w.heap.size w W
  p : Bk W w.heap.size 103 #[.slice pA fs.length pc]
  res : Bk W (w.heap.size + 1) 26 #[.slice none 0 0]
  x : Bk W h 26 #[v]
  lt : w.heap.size + 1 < h
  row : IRow (w.heap.size + 1 + 1) v W n
  r : RL RFunc 4 W 0 w.heap.size (.slice pA fs.length pc) fs
section
variable {pA : Option Addr} {pc : Nat} {fs : List FuncM} {w : World} {h n : Nat} {v v' : Value} {W W' : World}
theorem LwS.below (H : LwS pA pc fs w h v n W) (hb : Below W.heap.size W W') : LwS pA pc fs w h v n W' :=
  ⟨H.b.trans (hb.mono H.b.size), H.p.below hb, H.res.below hb, H.x.below hb, H.lt, H.row.below hb, H.r.keep RFunc_stable ((KeptB.refl _ _ _).below hb H.b.size)⟩
theorem LwS.rp (H : LwS pA pc fs w h v n W) : RL RFunc 4 W 0 W.heap.size (.slice pA fs.length pc) fs := H.r.more RFunc_stable (Nat.le_refl _) H.b.size
theorem LwS.push {cs xs : List Value} (H : LwS pA pc fs w h v n W) (hc : CdC (w.heap.size + 1 + 1) W cs) (hown : W.ownsRow (w.heap.size + 1 + 1) 39 5 v n xs) (ho : W'.ownsRow (w.heap.size + 1 + 1) 39 5 v' (n + 1) (xs ++ cs)) (hg : Gro W W' v v') : LwS pA pc fs w h v' (n + 1) (W'.setCell ⟨h, 0, none⟩ v') := by
  have hl := H.lt
  have hne : ∀ {k : Nat} {cs : Array Value}, Bk W k 26 cs → some k ≠ v.ownBlock := fun hb e => by
    rcases hown.2 with ⟨rfl, _⟩ | ⟨g, _, c, rfl, _, h2, _⟩
    · cases e
    · injection e with e; subst e
      rw [show W.heap[_]? = _ from hb] at h2; injection h2 with h2; injection h2 with _ h2 _; exact absurd h2 (by decide)
  have hb : Below (w.heap.size + 1 + 1) W W' := hg.toBelow hown (by have := H.x.lt; omega)
  have hx := hg.bk H.x (hne H.x)
  have hp' : Bk W' w.heap.size 103 #[.slice pA fs.length pc] := (hb.block _ (by omega)).trans H.p
  have hrow := H.row.push hc hown ho hg
  obtain ⟨ys, hy⟩ := hrow.own
  refine ⟨(H.b.trans (hb.mono (by omega))).setCell (p := ⟨h, 0, none⟩) (by show w.heap.size ≤ h; omega) _, hp'.far (by omega) _ _, (hg.bk H.res (hne H.res)).far (by omega) _ _, hx.set 0 v', hl, ?_, H.r.keep RFunc_stable ((KeptB.refl _ _ _).below ((hb.mono (Nat.le_succ_of_le (Nat.le_succ _)) : Below w.heap.size W W').setCell (p := ⟨h, 0, none⟩) (by show w.heap.size ≤ h; omega) v') (Nat.le_refl _))⟩
  refine hrow.keep (.set hx (.inr rfl) 0 v') fun k hk => Below.heap_setCell _ _ _ _ fun e => ?_
  have e : k = h := e
  subst e
  rcases hy.2 with ⟨rfl, _⟩ | ⟨g, _, c, rfl, _, h2, _⟩
  · cases hk
  · injection hk with hk; subst hk
    rw [show W'.heap[_]? = _ from hx] at h2; injection h2 with h2; injection h2 with _ h2 _; exact absurd h2 (by decide)
end
def LowP (n : Nat) (w : World) (e : Ending) (w' : World) : Prop := ∃ (iA : Option Addr) (ic : Nat), e = .returned (.tuple #[.agg #[.slice iA n ic], .bool true]) ∧ IRow (w.heap.size + 1 + 1) (.slice iA n ic) w' n ∧ Below w.heap.size w w'
end Go.Proofs.YtgkjakoagdkpcaaGreatDoor
set_option linter.unusedSimpArgs false
set_option linter.unusedVariables false
set_option maxRecDepth 100000
namespace Go.Proofs.YtgkjakoagdkpcaaGreatDoor
open Go.RowKit

set_option maxHeartbeats 6400000 in
theorem spec_LowerProgN (pA : Option Addr) (pc : Nat) (fs : List FuncM) (w : World) (hr : RL RFunc 4 w 0 w.heap.size (.slice pA fs.length pc) fs) (hz : szFuncsN fs ≤ 1048576) (hg : progS fs = true) (h5 : fs.length ≤ 5) (hok : ∀ f ∈ fs, f.qStmts.length ≤ 12 ∧ (∀ s ∈ f.qStmts, s.qEx.length ≤ 15 ∧ s.qThen.length ≤ 3 ∧ s.qElse.length ≤ 3) ∧ f.qBody.length ≤ 3 ∧ (0 < f.qStmts.length → 0 < f.qBody.length) ∧ (sitesF 0 f.qStmts).length ≤ 4 ∧ Seg (atS f.qStmts) 0 f.qStmts.length f.qBody) :
    Calls Tryz.prog 86 #[.agg #[.slice pA fs.length pc]] w (LowP fs.length w) := by
  have hfn := fun n (hn : n < fs.length) W h => spec_l6FuncN pA pc fs n hn W h (hok _ (List.getElem_mem hn)).1 (fun s hs => ((hok _ (List.getElem_mem hn)).2.1 s hs).1) (hok _ (List.getElem_mem hn)).2.2.2.2.1 (hok _ (List.getElem_mem hn)).2.2.2.2.2
  have HFn := Lib.hid hfn
  have hb0 := ((Below.refl w.heap.size w).alloc (Nat.le_refl _) (.cells #[.slice pA fs.length pc] 103)).alloc (by simp) (.cells #[.slice none 0 0] 26)
  have n1 := Bk.new (w.alloc (.cells #[.slice pA fs.length pc] 103)) 26 #[.slice none 0 0]
  rw [World.size_alloc] at n1
  have n0 := (Bk.new w 103 #[.slice pA fs.length pc]).alloc (.cells #[.slice none 0 0] 26)
  have hgp := spec_GoodProg [.slice pA fs.length pc] ⟨fs⟩ _ ⟨_, rfl, hr.here RFunc_stable hb0⟩ hz
  dsimp only at hgp
  rw [hg] at hgp
  have HG := hide hgp; have HB := hide hb0; have N0 := hide n0; have N1 := hide n1; have HR := hide hr
  have p0 := n0.cell 0; have pl := n0.lt
  clear hfn hgp hb0 n0 n1 hr hg hok
  go_enter Tryz.func86, Tryz.ntmps86
  go_upto_region 5 with (go_at_call 102; refine HG.out.mono ?_; rintro e w1 ⟨rfl, hb1⟩; have hz1 := hb1.size; have HL := hide (show LwS pA pc fs w w1.heap.size (.slice none 0 0) 0 (w1.alloc (.cells #[.slice none 0 0] 26)) from ⟨(HB.out.trans (hb1.mono HB.out.size)).alloc (Nat.le_trans HB.out.size hb1.size) _, (N0.out.below hb1).alloc _, (N1.out.below hb1).alloc _, Bk.new _ _ _, (N1.out.below hb1).lt, IRow.nil _ _, (HR.out.keep RFunc_stable ((KeptB.refl _ _ _).below ((HB.out.trans (hb1.mono HB.out.size)).alloc (Nat.le_trans HB.out.size hb1.size) (.cells #[.slice none 0 0] 26)) (Nat.le_refl _)))⟩); have p0 := HL.out.p.cell 0; have pl := HL.out.p.lt; clear hb1 hz1)
  generalize hh : w1.heap.size = h at *
  generalize w1.alloc (.cells #[.slice none 0 0] 26) = W1 at *
  clear p0 pl HG HB N0 N1 HR
  go_loopw [14] (fun i wr => ∃ (k : Nat) (v : Value), i = .int .i64 k ∧ k ≤ fs.length ∧ LwS pA pc fs w h v k wr) (fun i _ => fs.length - (intOf i).toNat)
  case atStart => exact ⟨0, _, rfl, by omega, HL.out⟩
  case round =>
    obtain ⟨k, v, rfl, hk, hlw⟩ := hrel
    obtain ⟨xs0, ho0⟩ := hlw.row.own
    obtain ⟨iA, ic, rfl⟩ := own_form ho0
    have HL := hide hlw
    have hlt2 := hlw.lt; have hxw := hlw.x.lt
    clear hlw ho0
    have p0 := HL.out.p.cell 0; have pl := HL.out.p.lt
    by_cases hlt : k < fs.length
    · have hkI : (k : Int) < (fs.length : Int) := by omega
      go_wp2_with (first
        | (go_at_call 103; refine (HFn.out k hlt _ HL.out.rp).mono ?_; rintro e w2 ⟨sA, sc, sl, iA2, ic2, il, rA, rc, rl, rfl, hbd, o1, o2, o3, hb2⟩; have hil : ¬ (300 : Int) < (il.length : Int) := (by omega); have HL := hide ((HL.out.below hb2).below ((Below.refl _ _).alloc (Nat.le_refl _) (.cells #[.int .i64 fs[k].qParams, .int .i64 fs[k].qVars, .slice sA sl.length sc, .slice iA2 il.length ic2, .slice rA rl.length rc] 39))); have hz2 : w.heap.size + 1 + 1 ≤ wr.heap.size := (by omega); have HC := hide (CdC.kc (lo := w.heap.size + 1 + 1) (w := w2) (cs := [.int .i64 fs[k].qParams, .int .i64 fs[k].qVars, .slice sA sl.length sc, .slice iA2 il.length ic2, .slice rA rl.length rc]) ⟨_, _, sA, sc, sl, iA2, ic2, il, rA, rc, rl, rfl, hbd, own_base o1 hz2, own_base o2 hz2, own_base o3 hz2⟩ (.below ((Below.refl _ _).alloc (Nat.le_refl _) (.cells #[.int .i64 fs[k].qParams, .int .i64 fs[k].qVars, .slice sA sl.length sc, .slice iA2 il.length ic2, .slice rA rl.length rc] 39)))); have x0 := HL.out.x.cell 0; have xl := HL.out.x.lt; obtain ⟨xs2, ho2⟩ := HL.out.row.own; have Ho := hide ho2; clear o1 o2 o3 hb2 ho2)
        | (at_builtin; refine wpList_pushG rfl _ _ _ rfl okCodeL rfl Ho.out _ rfl (World.size_alloc _ _).symm rfl (by simp [Value.oneCell']) (by unfold maxLen; omega) (by omega) (by have := HL.out.lt; have := HL.out.x.lt; omega) ?_; intro v9 w9 hown9 hg9; obtain ⟨iA9, ic9, rfl⟩ := own_form hown9; have hx9 := hg9.bk HL.out.x (own_img Ho.out HL.out.x); have y0 := hx9.cell 0; have yf := hx9.frozen 0; have yl := hx9.lt; have HL9 := hide (HL.out.push HC.out Ho.out hown9 hg9); clear hown9 hg9 hx9))
      go_roundw
      case rel => exact ⟨k + 1, _, by go_num, by omega, HL9.out⟩
      case measure => simp [intOf]; omega
    · have hkl : k = fs.length := by omega
      have hkI : ¬ (k : Int) < (fs.length : Int) := by omega
      have x0 := HL.out.x.cell 0; have xl := HL.out.x.lt
      have r0 := HL.out.res.cell 0; have rf := HL.out.res.frozen 0; have rl := HL.out.res.lt
      obtain ⟨xs2, ho2⟩ := HL.out.row.own
      have hrow := HL.out.row.keep (.set HL.out.res (.inr rfl) 0 (.slice iA k ic)) fun q hq => Below.heap_setCell _ _ _ _ fun e => own_img ho2 HL.out.res (by rw [hq]; exact congrArg some (show w.heap.size + 1 = q from e.symm))
      have Hrow := hide hrow; have Hb := hide (HL.out.b.setCell (p := ⟨w.heap.size + 1, 0, none⟩) (Nat.le_succ _) (.slice iA k ic))
      clear ho2 hrow
      go_wp2_with fail
      refine bodyPost_ret (v := .tuple #[.agg #[.slice iA k ic], .bool true]) ?_ rfl (by subst hkl; exact ⟨iA, ic, rfl, Hrow.out, Hb.out⟩)
      simp [results, Tryz.results86, go_sem, r0, rl]; omega
end Go.Proofs.YtgkjakoagdkpcaaGreatDoor
set_option linter.unusedSimpArgs false
set_option linter.unusedVariables false
set_option maxRecDepth 100000
namespace Go.Proofs.YtgkjakoagdkpcaaGreatDoor
open Go.RowKit

theorem PRow.rl {g : Nat} {v : Value} {w : World} {fs : List FuncM} (h : PRow g v w fs) : RL RFunc 4 w 0 w.heap.size v fs := by
  obtain ⟨css, h1, h2, h3⟩ := h
  have h4 := PRow.four (v := .slice none 0 0) h1 h3
  rcases h2.2 with ⟨rfl, h0⟩ | ⟨q, cap, cur, rfl, hq, hh, hn, hc, _⟩
  · have hL : fs = [] := List.eq_nil_of_length_eq_zero h0
    subst hL
    exact RL.nil
  · refine ⟨_, _, rfl, hn, hc, fun i hi => ?_⟩
    have hi' : i < css.length := by omega
    have hf : RFunc w 0 w.heap.size css[i] fs[i] := by
      obtain ⟨bv, v, e, hb, hv⟩ := h3 i hi hi'
      rw [e]
      exact ⟨bv, v, rfl, (Rg.of_own hb).more (Nat.zero_le _) (Nat.le_refl _), hv.rl.more RStmt_stable (Nat.zero_le _) (Nat.le_refl _)⟩
    refine ⟨q, 0, css[i], rfl, ⟨Nat.zero_le _, (Array.getElem?_eq_some_iff.1 hh).1⟩, h4 _ (List.getElem_mem hi'), fun k u hu => ?_, hf⟩
    have hk : k < 4 := by have := (List.getElem?_eq_some_iff.1 hu).1; rw [h4 _ (List.getElem_mem hi')] at this; exact this
    have := row_cell h2 h4 hi' hk hu
    rw [show 0 + i * 4 + k = i * 4 + k by omega]; exact this
theorem PrgD.sz {g : Nat} {w : World} {pv : Value} {fs : List FuncM} (h : PrgD g w pv fs) : szFuncsN fs ≤ 1048576 := by
  have hs : ∀ f ∈ fs, szFuncN f ≤ 291 := fun f hf => by
    obtain ⟨a1, a2, a3, _⟩ := h.ok f hf
    have hB : ∀ s ∈ f.qStmts, szStmtN s ≤ 21 := fun s hs => by obtain ⟨b1, b2, b3⟩ := a2 s hs; unfold szStmtN; omega
    have := szStmtsL_le f.qStmts hB
    have h5 : f.qStmts.length * 21 ≤ 12 * 21 := Nat.mul_le_mul_right _ a1
    have e : szFuncN f = f.qBody.length + (f.qStmts.length + szStmtsL f.qStmts) := rfl
    omega
  have := szFuncsL_le fs hs
  have h5 : fs.length * 291 ≤ 5 * 291 := Nat.mul_le_mul_right _ h.len.2
  have e : szFuncsN fs = fs.length + szFuncsL fs := rfl
  omega
theorem IRow.base {lo lo' n : Nat} {v : Value} {w : World} (h : IRow lo v w n) (hl : lo' ≤ lo) : IRow lo' v w n := by
  obtain ⟨css, h1, h2, h3⟩ := h
  exact ⟨css, h1, own_base h2 hl, fun c hc => (h3 c hc).base hl⟩
theorem IRow.dw {g n : Nat} {v : Value} {w w1 : World} (h : IRow (g + 1) v w n) (hd : Dw g w w1) : IRow (g + 1) v w1 n := by
  obtain ⟨xs, ho⟩ := h.own
  exact h.keep (fun k hk ⟨_, _, _, hh, _⟩ => hd.block k (by omega) (Array.getElem?_eq_some_iff.1 hh).1) fun k hk => hd.block k (by have := (ho.lt k hk).1; omega) (ho.lt k hk).2
theorem IRow.setI {lo n q : Nat} {v : Value} {w : World} {cs : Array Value} (h : IRow lo v w n) (hq : Bk w q 26 cs) (i : Nat) (u : Value) : IRow lo v (w.setCell ⟨q, i, none⟩ u) n := by
  obtain ⟨xs, ho⟩ := h.own
  refine h.keep (.set hq (.inr rfl) i u) fun k hk => Below.heap_setCell _ _ _ _ fun e => own_img ho hq (by rw [hk]; exact congrArg some (show q = k from e.symm))
/-- an image as it is drawn -/
def ImgP (g : Nat) (A : Option Addr) (c : Nat) (zs : List Int) (K : Nat) (w : World) (e : Ending) (w' : World) : Prop := ∃ (iA : Option Addr) (ic n : Nat), e = .returned (.agg #[.slice iA n ic]) ∧ (1 ≤ n ∧ n ≤ 5) ∧ IRow (g + 1) (.slice iA n ic) w' n ∧ Cur g A c zs (K + 200002) w' ∧ Dw g w w'
set_option maxHeartbeats 1600000 in
theorem cur_image (g : Nat) (A : Option Addr) (c : Nat) (zs : List Int) (K : Nat) (w : World) (hc : Cur g A c zs K w) (hK : K ≤ 80000000000000000) :
    Calls Tryz.prog 67 #[.pointer (some ⟨g, 0, none⟩)] w (ImgP g A c zs K w) := by
  have hgl := hc.lt
  have Hc := hide (hc.below ((Below.refl w.heap.size w).alloc (Nat.le_refl _) (.cells #[.slice none 0 0] 26)))
  have Hr := hide (Bk.new w 26 #[.slice none 0 0])
  have Hd := hide ((Dw.refl g w).alloc (.cells #[.slice none 0 0] 26))
  clear hc
  go_enter Tryz.func67, Tryz.ntmps67
  go_wp2_with (first
    | (go_at_call 87; go_must (refine (cur_program g A c zs _ _ Hc.out (by omega)).mono ?_); rintro e w1 ⟨pA, pc, fs, rfl, hD, hc1, hd1⟩; have HD := hide hD; have Hr := hide (hd1.bk Hr.out (by omega)); have Hd := hide (Hd.out.trans hd1); have Hc := hide hc1; clear hD hc1 hd1)
    | (go_at_call 86; refine (spec_LowerProgN pA pc fs _ HD.out.row.rl HD.out.sz HD.out.good HD.out.len.2 HD.out.ok).mono ?_; rintro e w2 ⟨iA, ic, rfl, hi, hb⟩; have hg2 := Hc.out.lt; have Hc := hide ((Hc.out.below hb).below ((Below.refl _ _).alloc (Nat.le_refl _) (.cells #[.slice iA fs.length ic] 26))); have hr := (Hr.out.below hb).alloc (.cells #[.slice iA fs.length ic] 26); have r0 := hr.cell 0; have rf := hr.frozen 0; have rl := hr.lt; have Hr := hide hr; have Hd := hide ((Hd.out.then hb).alloc (.cells #[.slice iA fs.length ic] 26)); have Hi := hide ((hi.base (show g + 1 ≤ _ by omega)).below ((Below.refl _ _).alloc (Nat.le_refl _) (.cells #[.slice iA fs.length ic] 26))); clear hi hb hr))
  have hB : Below w.heap.size (w2.alloc (.cells #[.slice iA fs.length ic] 26)) ((w2.alloc (.cells #[.slice iA fs.length ic] 26)).setCell ⟨w.heap.size, 0, none⟩ (.slice iA fs.length ic)) := (Below.refl _ _).setCell (p := ⟨w.heap.size, 0, none⟩) (Nat.le_refl _) _
  have hP : ImgP g A c zs K w (.returned (.agg #[.slice iA fs.length ic])) ((w2.alloc (.cells #[.slice iA fs.length ic] 26)).setCell ⟨w.heap.size, 0, none⟩ (.slice iA fs.length ic)) := ⟨iA, ic, fs.length, rfl, HD.out.len, Hi.out.setI Hr.out 0 _, Hc.out.keepG2 hB hgl, Hd.out.belowW hB (Nat.le_refl _)⟩
  refine bodyPost_ret (v := .agg #[.slice iA fs.length ic]) ?_ rfl hP
  simp [results, Tryz.results67, go_sem, r0, rl]; done
end Go.Proofs.YtgkjakoagdkpcaaGreatDoor
