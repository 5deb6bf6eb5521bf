
/- heightsOf: what the Go text returns. No condition. -/
import Derived.Test.YtgkjakoagdkpcaaGreatDoorHtC
import Derived.Test.YtgkjakoagdkpcaaGreatDoorRp
import Derived.Test.YtgkjakoagdkpcaaGreatDoorTp
import Derived.Deep.LoopGhost
import Derived.Deep.RegionHeld3
set_option linter.unusedSimpArgs false
set_option linter.unusedVariables false
set_option maxRecDepth 100000
namespace Go.Proofs.YtgkjakoagdkpcaaGreatDoor
open Go.RowKit

theorem bk_set {w : World} {g : Nat} {hs : List Int} (h : Bk w g 3 (icells .i64 hs).toArray) (j : Nat) (u : Int) : Bk (w.setCell ⟨g, j, none⟩ (.int .i64 u)) g 3 (icells .i64 (hs.set j u)).toArray := by
  have := h.set j (.int .i64 u)
  rw [List.setIfInBounds_toArray, icells_set] at this
  exact this
theorem bk_lab {w : World} {g : Nat} {hs : List Int} (h : Bk w g 3 (icells .i64 hs).toArray) {j : Nat} (hj : j < hs.length) : w.cell? ⟨g, j, none⟩ = some (.int .i64 (lab hs j)) := by
  rw [h.cell j, lab_in hj]
  simp [icells, hj]
theorem own_trunc {w : World} {base m cap g : Nat} {xs : List Int} {x : Int} (h : w.ownsRow base 3 1 (.slice (some ⟨g, 0, none⟩) (m + 1) cap) (m + 1) (icells .i64 (xs ++ [x]))) (hm : xs.length = m) : w.ownsRow base 3 1 (.slice (some ⟨g, 0, none⟩) m cap) m (icells .i64 xs) := by
  rcases h.2 with ⟨e, _⟩ | ⟨g', cap', cur, e, hg, hh, hn, hc, hcs, htk⟩
  · cases e
  · injection e with e1 e2 e3
    subst e3
    refine ⟨by rw [icells_length]; omega, .inr ⟨g', cap, cur, ?_, hg, hh, by omega, hc, hcs, ?_⟩⟩
    · rw [e1]
    · rw [icells_append] at htk
      have e := congrArg (List.take m) htk
      have hl : (icells .i64 xs).length = m := by rw [icells_length]; exact hm
      rw [List.take_take, show min m ((m + 1) * 1) = m * 1 by omega, List.take_append_of_le_length (by omega)] at e
      have e3 : (icells .i64 xs).take m = icells .i64 xs := List.take_of_length_le (by omega)
      rw [e3] at e
      exact e
theorem own_last {w : World} {base m cap g : Nat} {xs : List Int} {x : Int} (h : w.ownsRow base 3 1 (.slice (some ⟨g, 0, none⟩) (m + 1) cap) (m + 1) (icells .i64 (xs ++ [x]))) (hm : xs.length = m) : w.cell? ⟨g, m, none⟩ = some (.int .i64 x) := by
  rw [h.cellAt m (by omega), icells_append, List.getElem?_append_right (by rw [icells_length]; omega), icells_length, hm, Nat.sub_self]
  rfl
theorem three3 {w : World} {B n c k : Nat} {A : Option Addr} {l : List R3} (h : Rd w B (.slice A n c) n (rcells l)) (hk : k < l.length) :
    ∃ b o, A = some ⟨b, o, none⟩ ∧ b < B ∧ w.cell? ⟨b, o + k * 3, none⟩ = some (.int .i64 l[k].f) ∧ w.cell? ⟨b, o + k * 3 + 1, none⟩ = some (.int .i64 l[k].t) ∧ w.cell? ⟨b, o + k * 3 + 2, none⟩ = some (.int .i64 l[k].p) := by
  obtain ⟨g0, g1, g2⟩ := rcells_get l k hk
  obtain ⟨b, o, rfl, hbB, s0⟩ := h.at3 g0
  obtain ⟨_, _, e, _, s1⟩ := h.at3 g1
  cases e
  obtain ⟨_, _, e, _, s2⟩ := h.at3 g2
  cases e
  rw [← Nat.add_assoc] at s1 s2
  exact ⟨b, o, rfl, hbB, s0, s1, s2⟩
theorem own_ne {w : World} {gh n : Nat} {v : Value} {xs : List Value} (h : w.ownsRow (gh + 1) 3 1 v n xs) : some gh ≠ v.ownBlock := fun e => by have := (h.lt _ e.symm).1; omega
theorem own_ne' {w : World} {gh n : Nat} {v : Value} {xs : List Value} (h : w.ownsRow (gh + 1) 3 1 v n xs) : ∀ k, v.ownBlock = some k → k ≠ gh := fun k e e2 => by have := (h.lt _ e).1; omega
theorem h_take (hs : List Int) : icells .i64 hs = (icells .i64 hs).toArray.toList.take (hs.length * 1) := by
  have hl : (icells .i64 hs).length = hs.length := icells_length _ _
  rw [Nat.mul_one]
  show icells .i64 hs = (icells .i64 hs).take hs.length
  rw [← hl]; exact List.take_length.symm
theorem own_h {w : World} {g base N : Nat} {hs : List Int} (h : Bk w g 3 (icells .i64 hs).toArray) (hb : base ≤ g) (hl : hs.length = N) (hN : N ≤ 300) : w.ownsRow base 3 1 (.slice (some ⟨g, 0, none⟩) N N) hs.length (icells .i64 hs) := by
  subst hl
  exact ⟨by rw [icells_length]; omega, .inr ⟨g, hs.length, _, rfl, hb, h, Nat.le_refl _, by unfold maxLen; omega, by simp [icells], (h_take hs).symm⟩⟩
theorem own_lit {w : World} {base n : Nat} {v : Value} {xs : List Value} (h : w.ownsRow base 3 1 v (n + 1) xs) : ∃ g cap, v = .slice (some ⟨g, 0, none⟩) (n + 1) cap ∧ n + 1 ≤ cap := by
  rcases h.2 with ⟨_, e⟩ | ⟨g, cap, cur, e, _, _, hn, _⟩
  · omega
  · exact ⟨g, cap, e, hn⟩
theorem own_ne_push {w1 w8 : World} {base n : Nat} {nv ov v8 : Value} {xs : List Value} (hL : w1.ownsRow base 3 1 nv n xs) (hg : Gro w1 w8 ov v8) (hne : ∀ g, nv.ownBlock = some g → some g ≠ ov.ownBlock) : ∀ g, nv.ownBlock = some g → some g ≠ v8.ownBlock := fun g hg' e => by
  rcases hg.b with e1 | ⟨k, e1, hk⟩
  · exact hne g hg' (e.trans e1)
  · have := (hL.lt g hg').2
    rw [e1] at e
    injection e with e
    omega
/-- what lies where while heights are found: the two boxes, the heights, the places that are to be done -/
structure HtW (w wr : World) (img cod : Array Value) (gh : Nat) (hs : List Int) (op : List Nat) (ov : Value) : Prop where
  b : Below w.heap.size w wr
  i : Bk wr w.heap.size 26 img
  c : Bk wr (w.heap.size + 1) 39 cod
  h : Bk wr gh 3 (icells .i64 hs).toArray
  o : wr.ownsRow (gh + 1) 3 1 ov op.length (icells .i64 (natI op))
  g : w.heap.size + 2 ≤ gh
section
variable {w wr wz : World} {img cod : Array Value} {gh : Nat} {hs : List Int} {op : List Nat} {ov : Value}
theorem HtW.below (H : HtW w wr img cod gh hs op ov) (hb : Below wr.heap.size wr wz) : HtW w wz img cod gh hs op ov :=
  ⟨H.b.trans (hb.mono H.b.size), H.i.below hb, H.c.below hb, H.h.below hb, own_keep H.o hb, H.g⟩
theorem HtW.alloc (H : HtW w wr img cod gh hs op ov) (o : Obj) : HtW w (wr.alloc o) img cod gh hs op ov := H.below ((Below.refl _ _).alloc (Nat.le_refl _) o)
theorem HtW.drew (H : HtW w wr img cod gh hs op ov) : HtW w wr.drew img cod gh hs op ov := ⟨H.b.drew, H.i, H.c, H.h, H.o, H.g⟩
theorem HtW.seth (H : HtW w wr img cod gh hs op ov) (j : Nat) (u : Int) : HtW w (wr.setCell ⟨gh, j, none⟩ (.int .i64 u)) img cod gh (hs.set j u) op ov :=
  ⟨H.b.setCell (p := ⟨gh, j, none⟩) (by have := H.g; show w.heap.size ≤ gh; omega) _, H.i.far (by have := H.g; omega) _ _, H.c.far (by have := H.g; omega) _ _, bk_set H.h j u, own_far H.o _ (own_ne' H.o), H.g⟩
theorem HtW.push (H : HtW w wr img cod gh hs op ov) {x : Nat} {v2 : Value} (hown : wz.ownsRow (gh + 1) 3 1 v2 (op.length + 1) (icells .i64 (natI op) ++ #[Value.int .i64 (x : Int)].toList)) (hg : Gro wr wz ov v2) : HtW w wz img cod gh hs (op ++ [x]) v2 := by
  have hgb := H.g
  have hghl := H.h.lt
  refine ⟨H.b.trans ((hg.toBelow H.o (by omega)).mono (by omega)), hg.bk H.i ?_, hg.bk H.c ?_, hg.bk H.h (own_ne H.o), ?_, H.g⟩
  · intro e; have := (H.o.lt _ e.symm).1; omega
  · intro e; have := (H.o.lt _ e.symm).1; omega
  · rw [natI_append, icells_append, List.length_append]; exact hown
theorem HtW.lt (H : HtW w wr img cod gh hs op ov) : gh < wr.heap.size := H.h.lt
theorem HtW.lab (H : HtW w wr img cod gh hs op ov) {j : Nat} (hj : j < hs.length) : wr.cell? ⟨gh, j, none⟩ = some (.int .i64 (lab hs j)) := bk_lab H.h hj
end

set_option maxHeartbeats 6400000 in
theorem impl_heightsOf (xs cs : List Value) (x : ImageM) (m : CodeM) (w : World) (hx : RImage w 0 w.heap.size xs x) (hc : RCode w 0 w.heap.size cs m) (hF : Fit x.qCodes m) :
    Calls Tryz.prog 53 #[.agg xs.toArray, .agg cs.toArray] w fun e w' => ∃ v b hs, e = .returned (.tuple #[v, .bool b]) ∧ w'.ownsRow w.heap.size 3 1 v hs.length (icells .i64 hs) ∧ HtR (waysOf x.qCodes m) b hs ∧ Below w.heap.size w w' := by
  have hx0 := hx
  obtain ⟨v0, rfl, h0⟩ := hx
  obtain ⟨A, c, rfl⟩ := h0.form
  obtain ⟨v2, v3, v4, rfl, h2, h3, h4⟩ := hc
  obtain ⟨A2, c2, rfl⟩ := h2.form
  obtain ⟨A3, c3, rfl⟩ := h3.form
  obtain ⟨A4, c4, rfl⟩ := h4.form
  obtain ⟨n1, n3, fins, ftk, ftb, fnx, fpad, frl⟩ := hF
  have hWN : (waysOf x.qCodes m).N = m.qIns.length := rfl
  have hWR : (waysOf x.qCodes m).R = rootsK m.qRows m.qRows.length := rootsK_all.symm
  have hWx : ∀ a (h : a < m.qIns.length), (waysOf x.qCodes m).nx a = (nextI m.qIns[a] a).map Int.toNat := fun a h => ways_nx h
  have hWo : ∀ a (h : a < m.qIns.length) v, (waysOf x.qCodes m).out a v = outH x.qCodes m.qIns[a] v := fun a h v => ways_out h v
  have hT := fun (a : Nat) (h : a < m.qIns.length) W (hW : Below w.heap.size w W) => impl_takesPuts _ x m.qIns[a].o m.qIns[a].n W (RImage_stable.here hx0 hW) (insOk_bd (fins a h)) (ftk a h)
  have hin := h3.rd
  have hro := h4.rd
  obtain ⟨W, hW⟩ : ∃ W, W = waysOf x.qCodes m := ⟨_, rfl⟩
  rw [← hW] at hWN hWR hWx hWo ⊢
  clear hW hx0
  obtain ⟨l⟩ := x
  obtain ⟨m0, m1, l2, I, R⟩ := m
  dsimp only at *
  have hl := h0.long
  have hb1 := (Below.refl w.heap.size w).alloc (Nat.le_refl _) (.cells #[.slice A l.length c] 26)
  have hb := hb1.alloc (by rw [World.size_alloc]; omega) (.cells #[.int .i64 m0, .int .i64 m1, .slice A2 l2.length c2, .slice A3 I.length c3, .slice A4 R.length c4] 39)
  have hk1 := (Bk.new w 26 #[.slice A l.length c]).alloc (.cells #[.int .i64 m0, .int .i64 m1, .slice A2 l2.length c2, .slice A3 I.length c3, .slice A4 R.length c4] 39)
  have hk2 := Bk.new (w.alloc (.cells #[.slice A l.length c] 26)) 39 #[.int .i64 m0, .int .i64 m1, .slice A2 l2.length c2, .slice A3 I.length c3, .slice A4 R.length c4]
  rw [World.size_alloc] at hk2
  have hlit := Bk.new ((w.alloc (.cells #[.slice A l.length c] 26)).alloc (.cells #[.int .i64 m0, .int .i64 m1, .slice A2 l2.length c2, .slice A3 I.length c3, .slice A4 R.length c4] 39)) 3 #[.int .i64 (-1)]
  rw [World.size_alloc, World.size_alloc] at hlit
  have hrep := slices_Repeat (w.heap.size + 2) I.length _ n1 n3 hlit
  have hsz3 : (((w.alloc (.cells #[.slice A l.length c] 26)).alloc (.cells #[.int .i64 m0, .int .i64 m1, .slice A2 l2.length c2, .slice A3 I.length c3, .slice A4 R.length c4] 39)).alloc (.cells #[.int .i64 (-1)] 3)).heap.size = w.heap.size + 3 := by rw [World.size_alloc, World.size_alloc, World.size_alloc]
  rw [hsz3] at hrep
  have hb3 := hb.alloc (by rw [World.size_alloc, World.size_alloc]; omega) (.cells #[.int .i64 (-1)] 3)
  have hk13 := hk1.alloc (.cells #[.int .i64 (-1)] 3)
  have hk23 := hk2.alloc (.cells #[.int .i64 (-1)] 3)
  have Hrep := hide hrep; have Hb3 := hide hb3; have Hk13 := hide hk13; have Hk23 := hide hk23; have Hsz3 := hide hsz3
  have Hin := hide hin; have Hro := hide hro; have HT := Lib.hid hT; have H0 := hide h0
  have Fins := Lib.hid fins; have Ftk := Lib.hid ftk; have Ftb := Lib.hid ftb; have Fnx := Lib.hid fnx; have Fpad := Lib.hid fpad
  have HWN := hide hWN; have HWR := hide hWR; have HWx := Lib.hid hWx; have HWo := Lib.hid hWo
  clear hrep hb3 hk13 hk23 hb hb1 hk1 hk2 hlit hsz3 hin hro hT h0 h2 h3 h4 fins ftk ftb fnx fpad hWN hWR hWx hWo
  go_enter Tryz.func53, Tryz.ntmps53
  go_wp2_with (go_at_call 80; refine (Hrep.out).mono ?_; rintro e w2 ⟨rfl, hkh, hb2⟩; have Hh2 := hide hkh; have Hb2 := hide (Hb3.out.trans (hb2.mono (by omega))); have hk12 := Bk.below Hk13.out (by rw [Hsz3.out]; exact hb2); have hk22 := Bk.below Hk23.out (by rw [Hsz3.out]; exact hb2); have hz1 := hk12.lt; have hz2 := hk22.lt; have r4 := hk22.cell 4; have hzh := hkh.lt; have hc0 := bk_lab (j := 0) hkh (by rw [List.length_replicate]; omega); have hf0 := hkh.frozen 0; have Hk12 := hide hk12; have Hk22 := hide hk22; clear hkh hb2 hk12 hk22)
  have hst0 := St0.init n1
  have hown0 := World.ownsRow_lit (base := w.heap.size + 4) (e := 3) (size := 1) (w2.setCell ⟨w.heap.size + 3, 0, none⟩ (.int .i64 0)) #[.int .i64 0] 1 (by rw [World.size_setCell]; omega) (by unfold maxLen; omega) rfl
  rw [World.size_setCell] at hown0
  have hH0 : HtW w ((w2.setCell ⟨w.heap.size + 3, 0, none⟩ (.int .i64 0)).alloc (.cells #[.int .i64 0] 3)) #[.slice A l.length c] #[.int .i64 m0, .int .i64 m1, .slice A2 l2.length c2, .slice A3 I.length c3, .slice A4 R.length c4] (w.heap.size + 3) ((List.replicate I.length (-1)).set 0 0) [0] (.slice (some ⟨w2.heap.size, 0, none⟩) 1 1) :=
    ⟨(Hb2.out.setCell (p := ⟨w.heap.size + 3, 0, none⟩) (by show w.heap.size ≤ w.heap.size + 3; omega) _).alloc (by rw [World.size_setCell]; omega) _, (Hk12.out.far (by omega) _ _).alloc _, (Hk22.out.far (by omega) _ _).alloc _, (bk_set Hh2.out 0 0).alloc _, hown0, by omega⟩
  have HH0 := hide hH0; have HS0 := hide hst0
  clear hst0 hown0 hH0 Hh2 Hb2 Hk12 Hk22 hc0 hf0 r4
  go_loopw [7, 27] (fun ov i wr => ∃ (k : Nat) (hs : List Int) (op : List Nat), k ≤ R.length ∧ i = .int .i64 k ∧ St0 I.length (rootsK R k) hs op ∧ HtW w wr #[.slice A l.length c] #[.int .i64 m0, .int .i64 m1, .slice A2 l2.length c2, .slice A3 I.length c3, .slice A4 R.length c4] (w.heap.size + 3) hs op ov) (fun _ i _ => R.length - (intOf i).toNat)
  case atStart => exact ⟨0, _, _, by omega, rfl, HS0.out, HH0.out⟩
  case round =>
    obtain ⟨k, hs, op, hk, rfl, hst, hH⟩ := hrel
    have hz := hH.lt
    by_cases hlt : k < R.length
    · obtain ⟨b, o, rfl, hbB, t0, t1, t2⟩ := three3 Hro.out hlt
      obtain ⟨hp0, hp1⟩ := Fpad.out k hlt
      have hbs := hH.b.size
      have s0 := (hH.b.cell (p := ⟨b, o + k * 3, none⟩) hbB).trans t0
      have s1 := (hH.b.cell (p := ⟨b, o + k * 3 + 1, none⟩) hbB).trans t1
      have s2 := (hH.b.cell (p := ⟨b, o + k * 3 + 2, none⟩) hbB).trans t2
      have hbw : b < wr.heap.size := by omega
      have hrk := rootsK_succ hlt
      obtain ⟨p, hp⟩ := Int.eq_ofNat_of_zero_le hp0
      rw [hp] at s2 hp1
      rw [hp, Int.toNat_natCast] at hrk
      have hpN : p < I.length := by omega
      have hcell := hH.lab (j := p) (by rw [hst.1]; exact hpN)
      have hfr := hH.h.frozen p
      have hopl := hst.2.2.2.2.1
      have hpI : (p : Int) < (I.length : Int) := by omega
      have hpz : (0 : Int) ≤ (p : Int) := by omega
      have HHb := hide hH; have Hst := hide hst; have Hrk := Lib.hid hrk
      clear t0 t1 t2 hp0 hp1 hH hst hrk hp
      generalize R[k].f = r0 at *
      generalize R[k].t = r1 at *
      by_cases hneg : lab hs p < 0
      · have Hnew := hide (Hst.out.new Hrk.out hneg hpN)
        have HH2 := hide ((HHb.out.seth p 0).alloc (.cells #[.int .i64 r0, .int .i64 r1, .int .i64 p] 82))
        have hz2 : (wr.setCell ⟨w.heap.size + 3, p, none⟩ (.int .i64 0)).heap.size = wr.heap.size := World.size_setCell _ _ _
        have Hz2 := hide hz2; clear hz2 Hst Hrk HHb
        generalize lab hs p = y at *
        go_wp2_with (at_builtin; refine wpList_pushG rfl _ _ _ rfl okI64 rfl HH2.out.o #[.int .i64 p] rfl (by rw [World.size_alloc, Hz2.out]) rfl (by simp [Value.oneCell']) (by unfold maxLen; omega) (by omega) (by rw [World.size_alloc, Hz2.out]; omega) ?_; intro v5 w5 hown5 hg5; have HH5 := hide (HH2.out.push hown5 hg5); clear hown5 hg5)
        go_roundw
        case rel => exact ⟨k + 1, _, _, by omega, by go_num, Hnew.out, HH5.out⟩
        case measure => simp [intOf]; omega
      · obtain ⟨hst2, _⟩ := Hst.out.old Hrk.out (by omega)
        have Hst2 := hide hst2
        have HH2 := hide (HHb.out.alloc (.cells #[.int .i64 r0, .int .i64 r1, .int .i64 p] 82))
        clear hst2 Hst Hrk HHb
        generalize lab hs p = y at *
        go_wp2
        go_roundw
        case rel => exact ⟨k + 1, _, _, by omega, by go_num, Hst2.out, HH2.out⟩
        case measure => simp [intOf]; omega
    · obtain rfl : k = R.length := by omega
      rw [← HWR.out, ← HWN.out] at hst
      obtain ⟨hinv, hop, hcnt⟩ := St0.inv hst
      have HHb := hide hH; have Hinv := hide hinv; have Hop := hide hop; have Hcnt := hide hcnt
      rw [HWN.out] at hcnt
      have Hcnt := hide hcnt
      clear hst hinv hop hH hcnt HS0 HH0 Hro Fpad HWR
      go_wp2
      go_loopg [7] I.length (fun gk ov wr => ∃ (hs : List Int) (op : List Nat), HInv W hs op ∧ (∀ a ∈ op, 0 ≤ lab hs a) ∧ op.length + openN hs ≤ gk ∧ op.length + openN hs ≤ I.length ∧ HtW w wr #[.slice A l.length c] #[.int .i64 m0, .int .i64 m1, .slice A2 l2.length c2, .slice A3 I.length c3, .slice A4 R.length c4] (w.heap.size + 3) hs op ov)
      case atStart => exact ⟨_, _, Hinv.out, Hop.out, Nat.le_of_eq Hcnt.out, Nat.le_of_eq Hcnt.out, HHb.out⟩
      case round =>
        obtain ⟨hs, op, hinv, hop, hcnt, hcN, hH⟩ := hrel
        have hhl := hinv.1
        rw [HWN.out] at hhl
        have hz := hH.lt
        have hbs := hH.b.size
        rcases List.eq_nil_or_concat op with rfl | ⟨op', a, rfl⟩
        · obtain ⟨Ao, co, rfl⟩ := own_form hH.o
          have Hown := hide (own_h hH.h (base := w.heap.size) (by omega) hhl n3)
          have Hb := hide hH.b; have Hinv2 := hide hinv
          clear hinv hop hcnt hcN hH hhl
          go_wp2
          go_ret2
          exact ⟨_, _, _, rfl, Hown.out, .inl ⟨rfl, Hinv2.out⟩, Hb.out⟩
        · rw [List.concat_eq_append] at *
          have ha := hop a (by simp)
          have hop' : ∀ b ∈ op', 0 ≤ lab hs b := fun b hb => hop b (by simp [hb])
          have haN : a < I.length := by rw [← HWN.out]; exact hinv.lt ha
          have hle := hinv.2.2.2.1 a
          have hst : StN W a (lab hs a) 0 hs op' [] 0 := ⟨hinv.mono (fun b hb => by simp at hb ⊢; rcases hb with e | e; exact .inr e; exact .inl e), rfl, hop', fun n hn => by simp at hn⟩
          rw [List.length_append, List.length_singleton] at hcnt hcN
          have hown := hH.o
          rw [List.length_append, List.length_singleton, natI_append] at hown
          obtain ⟨go, cap, rfl, hcap⟩ := own_lit hown
          have hcap' : op'.length ≤ cap := by omega
          have hlast := own_last (x := (a : Int)) hown (natI_length op')
          have htr := own_trunc (x := (a : Int)) hown (natI_length op')
          have hHt : HtW w wr #[.slice A l.length c] #[.int .i64 m0, .int .i64 m1, .slice A2 l2.length c2, .slice A3 I.length c3, .slice A4 R.length c4] (w.heap.size + 3) hs op' (.slice (some ⟨go, 0, none⟩) op'.length cap) := ⟨hH.b, hH.i, hH.c, hH.h, htr, hH.g⟩
          obtain ⟨b3, o3, e3, hb3, t0, t1⟩ := Hin.out.two haN
          subst e3
          have hI : ∀ W', Below w.heap.size w W' → W'.cell? ⟨b3, o3 + a * 2, none⟩ = some (.int .i64 I[a].o) ∧ W'.cell? ⟨b3, o3 + a * 2 + 1, none⟩ = some (.int .i64 I[a].n) := fun W' hW' => ⟨(hW'.cell (p := ⟨b3, o3 + a * 2, none⟩) hb3).trans t0, (hW'.cell (p := ⟨b3, o3 + a * 2 + 1, none⟩) hb3).trans t1⟩
          have hC := HT.out a haN
          have hNx := fun W' => impl_nextOf I[a].o I[a].n a W' (by omega) (by omega)
          have hwx := HWx.out a haN
          have hwo := HWo.out a haN (lab hs a)
          have hnb := Fnx.out a haN
          have htb := Ftb.out a haN
          have hpb := puts_bd I[a]
          have hnil := @next_nil I[a] a
          have hnl := nextI_length I[a] a
          have ho1 : lab hs a < takes l I[a] → W.out a (lab hs a) = none := fun h => hwo.trans (outH_none (.inl h))
          have ho2 : 40 < lab hs a - takes l I[a] + puts I[a] → W.out a (lab hs a) = none := fun h => hwo.trans (outH_none (.inr h))
          have ho3 : takes l I[a] ≤ lab hs a → lab hs a - takes l I[a] + puts I[a] ≤ 40 → W.out a (lab hs a) = some (lab hs a - takes l I[a] + puts I[a]) := fun h h2 => hwo.trans (outH_some h h2)
          clear hwo t0 t1 hown htr hop hH hinv
          generalize I[a] = t at *
          obtain ⟨to, tn⟩ := t
          dsimp only at *
          generalize takes l ⟨to, tn⟩ = T at *
          generalize puts ⟨to, tn⟩ = P at *
          generalize nextI ⟨to, tn⟩ a = L at *
          have hcv := fun (W' : World) (hW' : HtW w W' #[.slice A l.length c] #[.int .i64 m0, .int .i64 m1, .slice A2 l2.length c2, .slice (some ⟨b3, o3, none⟩) I.length c3, .slice A4 R.length c4] (w.heap.size + 3) hs op' (.slice (some ⟨go, 0, none⟩) op'.length cap)) => hW'.lab (j := a) (by rw [hhl]; exact haN)
          obtain ⟨v, hv⟩ : ∃ v, v = lab hs a := ⟨_, rfl⟩
          rw [← hv] at ha hle hst ho1 ho2 ho3
          simp only [← hv] at hcv
          have hv40 : v ≤ 40 := by omega
          have haI : (a : Int) < (I.length : Int) := by omega
          have haz : (0 : Int) ≤ (a : Int) := by omega
          have hopN : op'.length ≤ 300 := by omega
          obtain ⟨mm, hmm⟩ : ∃ mm, mm = op'.length := ⟨_, rfl⟩
          have HI := Lib.hid hI; have HC := Lib.hid hC; have HNx := Lib.hid hNx; have Hwx := hide hwx; have Hnb := Lib.hid hnb; have Hnil := Lib.hid hnil; have Ho1 := Lib.hid ho1; have Ho2 := Lib.hid ho2; have Ho3 := Lib.hid ho3; have Hcv := Lib.hid hcv; have Hst := hide hst; have Hle := hide hle; have Hhl := hide hhl; have HHt := hide hHt; have Hcnt2 := hide hcnt; have HcN := hide hcN
          clear hI hC hNx hwx hnb hnil ho1 ho2 ho3 hcv hst hle hop' hHt hv hcnt hcN Hcnt Hinv Hop HHb hhl
          go_wp2_with fail
          go_region_held3 (fun w' => w'.cell? ⟨w.heap.size, 0, none⟩ = some (.slice A l.length c) ∧ w'.cell? ⟨w.heap.size + 1, 3, none⟩ = some (.slice (some ⟨b3, o3, none⟩) I.length c3) ∧ w'.cell? ⟨b3, o3 + a * 2, none⟩ = some (.int .i64 to) ∧ w'.cell? ⟨b3, o3 + a * 2 + 1, none⟩ = some (.int .i64 tn)) (first | exact ⟨HHt.out.i.cell 0, HHt.out.c.cell 3, HI.out _ HHt.out.b⟩ | exact ⟨HHt.out.i.cell 0, HHt.out.c.cell 3, HI.out _ HHt.out.b.drew⟩ | exact ⟨HH5.out.i.cell 0, HH5.out.c.cell 3, HI.out _ HH5.out.b⟩)
            ((go_at_call 32; refine (HC.out _ (by exact HHt.out.b.drew)).mono ?_; rintro e w5 ⟨rfl, hb5⟩; have HH5 := hide (HHt.out.drew.below hb5); clear hb5))
          have hz5 := HH5.out.lt
          have hc5 := Hcv.out _ HH5.out
          have hi5 := HI.out _ HH5.out.b
          have hi50 := hi5.1
          have hi51 := hi5.2
          have hr5 := HH5.out.c.cell 3
          have hbs5 := HH5.out.b.size
          clear hi5 HHt
          by_cases hvT : v < T
          · have Hbad := hide (Hst.out.1.fail1 (a := a) (by rw [Hst.out.2.1]; exact ha) (by rw [Hst.out.2.1]; exact Ho1.out hvT))
            clear Ho1 Ho2 Ho3 Hst
            go_wp2
            go_ret2
            exact ⟨_, _, _, rfl, World.ownsRow_nil _ _ _ _, .inr ⟨rfl, Hbad.out, rfl⟩, HH5.out.b⟩
          have hTv : T ≤ v := by omega
          clear hvT
          go_wp2_with (go_at_call 33; refine (HNx.out _).mono ?_; rintro e w6 ⟨nv, rfl, hown6, hb6⟩; obtain ⟨An, cn, rfl⟩ := own_form hown6; have HH6 := hide (HH5.out.below hb6); have HL6 := hide hown6; have Hne6 := hide (show ∀ g, (Value.slice An L.length cn).ownBlock = some g → some g ≠ (Value.slice (some ⟨go, 0, none⟩) op'.length cap).ownBlock from fun g hg e => by have e1 := (hown6.lt g hg).1; have e2 := (HH5.out.o.lt g e.symm).2; omega); clear hown6 hb6)
          clear hc5 hi50 hi51 hr5
          have hu1 : -10 ≤ (v - T + P) ∧ (v - T + P) ≤ 100 := by omega
          have hStL : StN W a v (v - T + P) hs op' L 0 := ⟨Hst.out.1, Hst.out.2.1, Hst.out.2.2.1, fun n hn => by simp at hn⟩
          have HStL := hide hStL
          clear hStL Hst
          go_loopw [7, 90] (fun ov i wi => ∃ (q : Nat) (hs' : List Int) (op : List Nat), q ≤ L.length ∧ i = .int .i64 q ∧ StN W a v (v - T + P) hs' op L q ∧ (0 < q → (v - T + P) ≤ 40) ∧ op.length + openN hs' = op'.length + openN hs ∧ HtW w wi #[.slice A l.length c] #[.int .i64 m0, .int .i64 m1, .slice A2 l2.length c2, .slice (some ⟨b3, o3, none⟩) I.length c3, .slice A4 R.length c4] (w.heap.size + 3) hs' op ov ∧ wi.ownsRow w5.heap.size 3 1 (.slice An L.length cn) L.length (icells .i64 L) ∧ (∀ g, (Value.slice An L.length cn).ownBlock = some g → some g ≠ ov.ownBlock)) (fun _ i _ => L.length - (intOf i).toNat)
          case atStart => exact ⟨0, hs, op', by omega, rfl, HStL.out, fun h => by omega, rfl, HH6.out, HL6.out, Hne6.out⟩
          case round =>
            obtain ⟨q, hs', op, hq, rfl, hsn, hu40, hcq, hHq, hLq, hneq⟩ := hrel
            have hhl' := hsn.1.1
            rw [HWN.out] at hhl'
            have hzq := hHq.lt
            have hbq := hHq.b.size
            by_cases hqt : q < L.length
            · obtain ⟨hp0, hp1⟩ := Hnb.out L[q] (List.getElem_mem hqt)
              obtain ⟨p, hp⟩ := Int.eq_ofNat_of_zero_le hp0
              have hpN : p < I.length := by omega
              have hpt : L[q].toNat = p := by rw [hp]; simp
              have hmem : p ∈ W.nx a := by rw [Hwx.out]; exact List.mem_map.2 ⟨L[q], List.getElem_mem hqt, hpt⟩
              obtain ⟨b9, o9, rfl, hb9, t9⟩ := (Rd.of_own hLq).at_ (j := q) (by rw [icells_length]; exact hqt)
              rw [icells_get _ _ hqt, hp] at t9
              have hlabc := hHq.lab (j := p) (by rw [hhl']; exact hpN)
              have hfrp := hHq.h.frozen p
              have hpI : (p : Int) < (I.length : Int) := by omega
              have hpz : (0 : Int) ≤ (p : Int) := by omega
              by_cases hu4 : (v - T + P) ≤ 40
              · have ho := Ho3.out hTv hu4
                by_cases hy0 : 0 ≤ lab hs' p
                · by_cases hyu : lab hs' p = (v - T + P)
                  · have hsk := hsn.skip hqt (by rw [hpt]; exact hyu)
                    rw [hyu] at hlabc hy0
                    have HSk := hide hsk; have HHq := hide hHq; have HLq := hide hLq; have HNq := hide hneq; have HCq := hide hcq
                    clear hsk hsn hHq hLq hneq hyu ho hmem hpt hp hhl' hcq hu40 Ho1 Ho2 Ho3 hp0 hp1
                    go_wp2
                    go_roundw
                    case rel => exact ⟨q + 1, hs', op, by omega, by go_num, HSk.out, fun _ => hu4, HCq.out, HHq.out, HLq.out, HNq.out⟩
                    case measure => simp [intOf]; omega
                  · have Hbad := hide (hsn.clash ha ho hmem hy0 hyu)
                    have hyb : (lab hs' p != (v - T + P)) = true := by rw [bne_iff_ne]; exact hyu
                    have Hb9 := hide hHq.b
                    clear hsn hHq hLq hneq hyu ho hmem hpt hp hhl' hcq hu40 Ho1 Ho2 Ho3 hp0 hp1
                    generalize lab hs' p = y at *
                    go_wp2
                    go_ret2
                    exact ⟨_, _, _, rfl, World.ownsRow_nil _ _ _ _, .inr ⟨rfl, Hbad.out, rfl⟩, Hb9.out⟩
                · have hset := hsn.set hqt ha ho (by rw [hpt]; exact hmem) (by rw [hpt, HWN.out]; exact hpN) (by rw [hpt]; omega)
                  rw [hpt] at hset
                  have HSet := hide hset
                  have hH2 := hHq.seth p (v - T + P)
                  have hLf := own_far hLq (p := ⟨w.heap.size + 3, p, none⟩) (.int .i64 (v - T + P)) (fun k hk e => by have := (hLq.lt k hk).1; have e' : k = w.heap.size + 3 := e; omega)
                  have hz2 : (wr.setCell ⟨w.heap.size + 3, p, none⟩ (.int .i64 (v - T + P))).heap.size = wr.heap.size := World.size_setCell _ _ _
                  have hopb : op.length ≤ 300 := by have := HcN.out; omega
                  have HH2 := hide hH2; have HLf := hide hLf; have Hz2 := hide hz2; have HNq := hide hneq; have HCq := hide hcq
                  clear hset hH2 hLf hz2 hsn hHq hLq hneq ho hmem hpt hp hhl' hcq hu40 Ho1 Ho2 Ho3 hp0 hp1
                  generalize lab hs' p = y at *
                  go_wp2_with (at_builtin; refine wpList_pushG rfl _ _ _ rfl okI64 rfl HH2.out.o #[.int .i64 p] rfl (by rw [Hz2.out]) rfl (by simp [Value.oneCell']) (by unfold maxLen; omega) (by omega) (by rw [Hz2.out]; omega) ?_; intro v8 w8 hown8 hg8; have HH8 := hide (HH2.out.push hown8 hg8); have HL8 := hide (own_gro HLf.out hg8 (fun g hg e => HNq.out g hg e.symm)); have HN8 := hide (own_ne_push HLf.out hg8 HNq.out); clear hown8 hg8)
                  go_roundw
                  case rel => exact ⟨q + 1, _, _, by omega, by go_num, HSet.out.1, fun _ => hu4, by have h1 := HSet.out.2; have h2 := HCq.out; rw [List.length_append, List.length_singleton]; omega, HH8.out, HL8.out, HN8.out⟩
                  case measure => simp [intOf]; omega
              · have Hbad := hide (hsn.1.fail1 (a := a) (by rw [hsn.2.1]; exact ha) (by rw [hsn.2.1]; exact Ho2.out (by omega)))
                have Hb9 := hide hHq.b
                have hgt : 40 < v - T + P := by omega
                clear hsn hHq hLq hneq hmem hpt hp hhl' hcq hu40 Ho1 Ho2 Ho3 hp0 hp1 hu4 hlabc hfrp
                go_wp2
                go_ret2
                exact ⟨_, _, _, rfl, World.ownsRow_nil _ _ _ _, .inr ⟨rfl, Hbad.out, rfl⟩, Hb9.out⟩
            · obtain rfl : q = L.length := by omega
              have hu4 : (v - T + P) ≤ 40 := by
                by_cases hL0 : L.length = 0
                · have := Hnil.out (List.eq_nil_of_length_eq_zero hL0)
                  omega
                · exact hu40 (by omega)
              have ho := Ho3.out hTv hu4
              have Hinv' := hide (hsn.done ho Hwx.out)
              have Hop' := hide hsn.2.2.1
              have HHq := hide hHq; have HCq := hide hcq
              clear hsn hHq hLq hneq hcq ho hu40 Ho1 Ho2 Ho3 hhl'
              go_wp2
              go_roundg (gk - 1)
              case measure => have := Hcnt2.out; omega
              case rel => exact ⟨hs', op, Hinv'.out, Hop'.out, by have h1 := Hcnt2.out; have h2 := HCq.out; omega, by have h1 := HcN.out; have h2 := HCq.out; omega, HHq.out⟩
end Go.Proofs.YtgkjakoagdkpcaaGreatDoor
set_option linter.unusedSimpArgs false
set_option linter.unusedVariables false
set_option maxRecDepth 100000
namespace Go.Proofs.YtgkjakoagdkpcaaGreatDoor
open Go.RowKit

theorem fillN_set {N k : Nat} (h : k < N) : (fillN N k).set k (.int .i64 (-1)) = fillN N (k + 1) := by
  unfold fillN
  rw [show N - k = (N - (k + 1)) + 1 by omega, List.replicate_succ, List.set_append_right _ _ (by simp), List.length_replicate, Nat.sub_self, List.set_cons_zero, List.replicate_succ', List.append_assoc]
  rfl
theorem bk_fill {w : World} {g N k : Nat} (h : Bk w g 3 (fillN N k).toArray) (hk : k < N) : Bk (w.setCell ⟨g, k, none⟩ (.int .i64 (-1))) g 3 (fillN N (k + 1)).toArray := by
  have := h.set k (.int .i64 (-1))
  rw [List.setIfInBounds_toArray, fillN_set hk] at this
  exact this
theorem fill_cell {w : World} {g N k : Nat} (h : Bk w g 3 (fillN N k).toArray) (hk : k < N) : w.cell? ⟨g, k, none⟩ = some (.int .i64 0) := by
  rw [h.cell k, List.getElem?_toArray]
  unfold fillN
  rw [List.getElem?_append_right (by simp), List.length_replicate, Nat.sub_self, List.getElem?_replicate, if_pos (by omega)]
theorem HtW.grow {w wr : World} {img cod : Array Value} {gh : Nat} {hs : List Int} {op : List Nat} {ov : Value} (H : HtW w wr img cod gh hs op ov) {p : Nat} (e : hs.set p 0 = hs) : HtW w (wr.setCell ⟨gh, p, none⟩ (.int .i64 0)) img cod gh hs op ov := by
  have := H.seth p 0
  rwa [e] at this
theorem drop_snoc {α : Type} {l : List α} {k : Nat} (h : k ≤ l.length) (x : α) : (l ++ [x]).drop k = l.drop k ++ [x] := List.drop_append_of_le_length h
set_option maxHeartbeats 6400000 in
theorem spec_l5Heights (xs cs : List Value) (x : ImageM) (m : CodeM) (w : World) (hx : RImage w 0 w.heap.size xs x) (hc : RCode w 0 w.heap.size cs m) (hF : Fit x.qCodes m) :
    Calls Tryz.prog 26 #[.agg xs.toArray, .agg cs.toArray] w fun e w' => ∃ v b hs, e = .returned (.tuple #[v, .bool b]) ∧ w'.ownsRow w.heap.size 3 1 v hs.length (icells .i64 hs) ∧ HtR (waysOf x.qCodes m) b hs ∧ Below w.heap.size w w' := by
  have hx0 := hx
  obtain ⟨v0, rfl, h0⟩ := hx
  obtain ⟨A, c, rfl⟩ := h0.form
  obtain ⟨v2, v3, v4, rfl, h2, h3, h4⟩ := hc
  obtain ⟨A2, c2, rfl⟩ := h2.form
  obtain ⟨A3, c3, rfl⟩ := h3.form
  obtain ⟨A4, c4, rfl⟩ := h4.form
  obtain ⟨n1, n3, fins, ftk, ftb, fnx, fpad, frl⟩ := hF
  have hWN : (waysOf x.qCodes m).N = m.qIns.length := rfl
  have hWR : (waysOf x.qCodes m).R = rootsK m.qRows m.qRows.length := rootsK_all.symm
  have hWx : ∀ a (h : a < m.qIns.length), (waysOf x.qCodes m).nx a = (nextI m.qIns[a] a).map Int.toNat := fun a h => ways_nx h
  have hWo : ∀ a (h : a < m.qIns.length) v, (waysOf x.qCodes m).out a v = outH x.qCodes m.qIns[a] v := fun a h v => ways_out h v
  have hT := fun (a : Nat) (h : a < m.qIns.length) W (hW : Below w.heap.size w W) => spec_l5Takes _ x m.qIns[a].o m.qIns[a].n W (RImage_stable.here hx0 hW) (insOk_bd (fins a h)) (ftk a h)
  have hin := h3.rd
  have hro := h4.rd
  obtain ⟨W, hW⟩ : ∃ W, W = waysOf x.qCodes m := ⟨_, rfl⟩
  rw [← hW] at hWN hWR hWx hWo ⊢
  clear hW hx0
  obtain ⟨l⟩ := x
  obtain ⟨m0, m1, l2, I, R⟩ := m
  dsimp only at *
  have hl := h0.long
  have hb1 := (Below.refl w.heap.size w).alloc (Nat.le_refl _) (.cells #[.slice A l.length c] 26)
  have hb := hb1.alloc (by rw [World.size_alloc]; omega) (.cells #[.int .i64 m0, .int .i64 m1, .slice A2 l2.length c2, .slice A3 I.length c3, .slice A4 R.length c4] 39)
  have hk1 := (Bk.new w 26 #[.slice A l.length c]).alloc (.cells #[.int .i64 m0, .int .i64 m1, .slice A2 l2.length c2, .slice A3 I.length c3, .slice A4 R.length c4] 39)
  have hk2 := Bk.new (w.alloc (.cells #[.slice A l.length c] 26)) 39 #[.int .i64 m0, .int .i64 m1, .slice A2 l2.length c2, .slice A3 I.length c3, .slice A4 R.length c4]
  rw [World.size_alloc] at hk2
  have hsz2 : ((w.alloc (.cells #[.slice A l.length c] 26)).alloc (.cells #[.int .i64 m0, .int .i64 m1, .slice A2 l2.length c2, .slice A3 I.length c3, .slice A4 R.length c4] 39)).heap.size = w.heap.size + 1 + 1 := by rw [World.size_alloc, World.size_alloc]
  have Hb2' := hide hb; have Hk12' := hide hk1; have Hk22' := hide hk2; have Hsz2 := hide hsz2
  have Hin := hide hin; have Hro := hide hro; have HT := Lib.hid hT; have H0 := hide h0
  have Fins := Lib.hid fins; have Ftk := Lib.hid ftk; have Ftb := Lib.hid ftb; have Fnx := Lib.hid fnx; have Fpad := Lib.hid fpad
  have HWN := hide hWN; have HWR := hide hWR; have HWx := Lib.hid hWx; have HWo := Lib.hid hWo
  clear hb hb1 hk1 hk2 hsz2 hin hro hT h0 h2 h3 h4 fins ftk ftb fnx fpad hWN hWR hWx hWo
  go_enter Tryz.func26, Tryz.ntmps26
  go_wp2_with (at_make; go_must (refine wpList_makeN rfl _ _ _ rfl okI64 I.length rfl rfl (by omega) (by unfold maxLen; omega) ?_); intro w1 hown1 hb1; rw [made_int, Hsz2.out] at hown1; have hg1 := (bk_of_own hown1).1; rw [← fillN_zero] at hg1; have Hg1 := hide hg1; have Hb1 := hide (Hb2'.out.trans (hb1.mono Hb2'.out.size)); have Hk11 := hide (Hk12'.out.below hb1); have Hk21 := hide (Hk22'.out.below hb1); clear hown1 hb1 hg1)
  go_loopw [24] (fun i wr => ∃ k : Nat, k ≤ I.length ∧ i = .int .i64 k ∧ Bk wr (w.heap.size + 1 + 1) 3 (fillN I.length k).toArray ∧ Below w.heap.size w wr ∧ Bk wr w.heap.size 26 #[.slice A l.length c] ∧ Bk wr (w.heap.size + 1) 39 #[.int .i64 m0, .int .i64 m1, .slice A2 l2.length c2, .slice A3 I.length c3, .slice A4 R.length c4]) (fun i _ => I.length - (intOf i).toNat)
  case atStart => exact ⟨0, by omega, rfl, Hg1.out, Hb1.out, Hk11.out, Hk21.out⟩
  case round =>
  obtain ⟨k, hk, rfl, hgk, hbk, hk1k, hk2k⟩ := hrel
  have hzk := hgk.lt
  by_cases hkI : k < I.length
  · have hck := fill_cell hgk hkI
    have hfk := hgk.frozen k
    have Hgk := hide (bk_fill hgk hkI); have Hbk := hide (hbk.setCell (p := ⟨w.heap.size + 1 + 1, k, none⟩) (by show w.heap.size ≤ w.heap.size + 1 + 1; omega) (.int .i64 (-1))); have Hk1k := hide (hk1k.far (show w.heap.size ≠ w.heap.size + 1 + 1 by omega) k (.int .i64 (-1))); have Hk2k := hide (hk2k.far (show w.heap.size + 1 ≠ w.heap.size + 1 + 1 by omega) k (.int .i64 (-1)))
    clear hgk hbk hk1k hk2k
    go_wp2
    go_roundw
    case rel => exact ⟨k + 1, by omega, by go_num, Hgk.out, Hbk.out, Hk1k.out, Hk2k.out⟩
    case measure => simp [intOf]; omega
  obtain rfl : k = I.length := by omega
  rw [fillN_all] at hgk
  have hz1 := hk1k.lt; have hz2 := hk2k.lt; have r4 := hk2k.cell 4
  have hc0 := bk_lab (j := 0) hgk (by rw [List.length_replicate]; omega)
  have hf0 := hgk.frozen 0
  have Hh2 := hide hgk; have Hb2 := hide hbk; have Hk12 := hide hk1k; have Hk22 := hide hk2k
  clear hgk hbk hk1k hk2k Hg1 Hb1 Hk11 Hk21 Hb2' Hk12' Hk22' Hsz2
  go_wp2
  have hst0 := St0.init n1
  have hown0 := World.ownsRow_lit (base := w.heap.size + 1 + 1 + 1) (e := 3) (size := 1) (wr.setCell ⟨w.heap.size + 1 + 1, 0, none⟩ (.int .i64 0)) #[.int .i64 0] 1 (by rw [World.size_setCell]; omega) (by unfold maxLen; omega) rfl
  rw [World.size_setCell] at hown0
  have hH0 : HtW w ((wr.setCell ⟨w.heap.size + 1 + 1, 0, none⟩ (.int .i64 0)).alloc (.cells #[.int .i64 0] 3)) #[.slice A l.length c] #[.int .i64 m0, .int .i64 m1, .slice A2 l2.length c2, .slice A3 I.length c3, .slice A4 R.length c4] (w.heap.size + 1 + 1) ((List.replicate I.length (-1)).set 0 0) [0] (.slice (some ⟨wr.heap.size, 0, none⟩) 1 1) :=
    ⟨(Hb2.out.setCell (p := ⟨w.heap.size + 1 + 1, 0, none⟩) (by show w.heap.size ≤ w.heap.size + 1 + 1; omega) _).alloc (by rw [World.size_setCell]; omega) _, (Hk12.out.far (by omega) _ _).alloc _, (Hk22.out.far (by omega) _ _).alloc _, (bk_set Hh2.out 0 0).alloc _, hown0, by omega⟩
  have HH0 := hide hH0; have HS0 := hide hst0
  clear hst0 hown0 hH0 Hh2 Hb2 Hk12 Hk22 hc0 hf0 r4
  go_loopw [8, 37] (fun ov i wr => ∃ (k : Nat) (hs : List Int) (op : List Nat), k ≤ R.length ∧ i = .int .i64 k ∧ St0 I.length (rootsK R k) hs op ∧ HtW w wr #[.slice A l.length c] #[.int .i64 m0, .int .i64 m1, .slice A2 l2.length c2, .slice A3 I.length c3, .slice A4 R.length c4] (w.heap.size + 1 + 1) hs op ov) (fun _ i _ => R.length - (intOf i).toNat)
  case atStart => exact ⟨0, _, _, by omega, rfl, HS0.out, HH0.out⟩
  case round =>
    obtain ⟨k, hs, op, hk, rfl, hst, hH⟩ := hrel
    have hz := hH.lt
    by_cases hlt : k < R.length
    · obtain ⟨b, o, rfl, hbB, t0, t1, t2⟩ := three3 Hro.out hlt
      obtain ⟨hp0, hp1⟩ := Fpad.out k hlt
      have hbs := hH.b.size
      have s0 := (hH.b.cell (p := ⟨b, o + k * 3, none⟩) hbB).trans t0
      have s1 := (hH.b.cell (p := ⟨b, o + k * 3 + 1, none⟩) hbB).trans t1
      have s2 := (hH.b.cell (p := ⟨b, o + k * 3 + 2, none⟩) hbB).trans t2
      have hbw : b < wr.heap.size := by omega
      have hrk := rootsK_succ hlt
      obtain ⟨p, hp⟩ := Int.eq_ofNat_of_zero_le hp0
      rw [hp] at s2 hp1
      rw [hp, Int.toNat_natCast] at hrk
      have hpN : p < I.length := by omega
      have hcell := hH.lab (j := p) (by rw [hst.1]; exact hpN)
      have hfr := hH.h.frozen p
      have hopl := hst.2.2.2.2.1
      have hpI : (p : Int) < (I.length : Int) := by omega
      have hpz : (0 : Int) ≤ (p : Int) := by omega
      have HHb := hide hH; have Hst := hide hst; have Hrk := Lib.hid hrk
      clear t0 t1 t2 hp0 hp1 hH hst hrk hp
      generalize R[k].f = r0 at *
      generalize R[k].t = r1 at *
      by_cases hneg : lab hs p < 0
      · have Hnew := hide (Hst.out.new Hrk.out hneg hpN)
        have HH2 := hide (HHb.out.alloc (.cells #[.int .i64 r0, .int .i64 r1, .int .i64 p] 82))
        have HR := hide (Bk.new wr 82 #[.int .i64 r0, .int .i64 r1, .int .i64 p])
        have Hnr := hide (fun (e : some wr.heap.size = _) => Nat.lt_irrefl _ (HHb.out.o.lt _ e.symm).2)
        have Hlen := hide (show p < hs.length by rw [Hst.out.1]; exact hpN)
        clear Hst Hrk HHb
        generalize lab hs p = y at *
        go_wp2_with (at_builtin; refine wpList_pushG rfl _ _ _ rfl okI64 rfl HH2.out.o #[.int .i64 p] rfl (by rw [World.size_alloc]) rfl (by simp [Value.oneCell']) (by unfold maxLen; omega) (by omega) (by rw [World.size_alloc]; omega) ?_; intro v5 w5 hown5 hg5; have HH5 := hide (HH2.out.push hown5 hg5); have hr5 := hg5.bk HR.out Hnr.out; have q2 := hr5.cell 2; have q2l := hr5.lt; have hc5 := HH5.out.lab Hlen.out; have hf5 := HH5.out.h.frozen p; have hz5 := HH5.out.lt; have HH6 := hide (HH5.out.seth p 0); clear hown5 hg5 hr5)
        go_roundw
        case rel => exact ⟨k + 1, _, _, by omega, by go_num, Hnew.out, HH6.out⟩
        case measure => simp [intOf]; omega
      · obtain ⟨hst2, hl0⟩ := Hst.out.old Hrk.out (by omega)
        have Hst2 := hide hst2
        have HH2 := hide ((HHb.out.grow (set_same hl0 (by rw [Hst.out.1]; exact hpN))).alloc (.cells #[.int .i64 r0, .int .i64 r1, .int .i64 p] 82))
        clear hst2 hl0 Hst Hrk HHb
        generalize lab hs p = y at *
        go_wp2
        go_roundw
        case rel => exact ⟨k + 1, _, _, by omega, by go_num, Hst2.out, HH2.out⟩
        case measure => simp [intOf]; omega
    · obtain rfl : k = R.length := by omega
      rw [← HWR.out, ← HWN.out] at hst
      obtain ⟨hinv, hop, hcnt⟩ := St0.inv hst
      have HHb := hide hH; have Hinv := hide hinv; have Hop := hide hop; have Hcnt := hide hcnt
      rw [HWN.out] at hcnt
      have Hcnt := hide hcnt
      clear hst hinv hop hH hcnt HS0 HH0 Hro Fpad HWR
      go_wp2
      go_loopw [8, 11] (fun ov iv wr => ∃ (kk : Nat) (hs : List Int) (met : List Nat), kk ≤ met.length ∧ iv = .int .i64 kk ∧ HInv W hs (met.drop kk) ∧ (∀ a ∈ met.drop kk, 0 ≤ lab hs a) ∧ met.length + openN hs = I.length ∧ HtW w wr #[.slice A l.length c] #[.int .i64 m0, .int .i64 m1, .slice A2 l2.length c2, .slice A3 I.length c3, .slice A4 R.length c4] (w.heap.size + 1 + 1) hs met ov) (fun _ iv _ => I.length - (intOf iv).toNat)
      case atStart => exact ⟨0, _, _, by omega, rfl, Hinv.out, Hop.out, Hcnt.out, HHb.out⟩
      case round =>
        obtain ⟨kk, hs, met, hkk, rfl, hinv, hop, hcN, hH⟩ := hrel
        have hhl := hinv.1
        rw [HWN.out] at hhl
        have hz := hH.lt
        have hbs := hH.b.size
        obtain ⟨Ao, co, rfl⟩ := own_form hH.o
        by_cases hkl : kk < met.length
        case neg =>
          obtain rfl : kk = met.length := by omega
          rw [List.drop_length] at hinv
          have Hown := hide (own_h hH.h (base := w.heap.size) (by omega) hhl n3)
          have Hb := hide hH.b; have Hinv2 := hide hinv
          clear hinv hop hcN hH hhl
          go_wp2
          go_ret2
          exact ⟨_, _, _, rfl, Hown.out, .inl ⟨rfl, Hinv2.out⟩, Hb.out⟩
        obtain ⟨b8, o8, e8, hb8, t8⟩ := (Rd.of_own hH.o).at_ (j := kk) (by rw [icells_length, natI_length]; exact hkl)
        rw [icells_get _ _ (by rw [natI_length]; exact hkl), natI_get hkl] at t8
        subst e8
        rw [List.drop_eq_getElem_cons hkl] at hinv hop
        have ha := hop met[kk] List.mem_cons_self
        have haN : met[kk] < I.length := by rw [← HWN.out]; exact hinv.lt ha
        have hle := hinv.2.2.2.1 met[kk]
        have hst : StN W met[kk] (lab hs met[kk]) 0 hs (met.drop (kk + 1)) [] 0 := ⟨hinv, rfl, fun b hb => hop b (List.mem_cons_of_mem _ hb), fun n hn => by simp at hn⟩
        clear hinv hop
        generalize met[kk] = a at *
        obtain ⟨b3, o3, e3, hb3, t0, t1⟩ := Hin.out.two haN
        subst e3
        have hI : ∀ W', Below w.heap.size w W' → W'.cell? ⟨b3, o3 + a * 2, none⟩ = some (.int .i64 I[a].o) ∧ W'.cell? ⟨b3, o3 + a * 2 + 1, none⟩ = some (.int .i64 I[a].n) := fun W' hW' => ⟨(hW'.cell (p := ⟨b3, o3 + a * 2, none⟩) hb3).trans t0, (hW'.cell (p := ⟨b3, o3 + a * 2 + 1, none⟩) hb3).trans t1⟩
        have hC := HT.out a haN
        have hNx := fun W' => spec_l5Next I[a].o I[a].n a W' (by omega) (by omega)
        have hwx := HWx.out a haN
        have hwo := HWo.out a haN (lab hs a)
        have hnb := Fnx.out a haN
        have htb := Ftb.out a haN
        have hpb := puts_bd I[a]
        have hnl := nextI_length I[a] a
        have ho1 : lab hs a < takes l I[a] → W.out a (lab hs a) = none := fun h => hwo.trans (outH_none (.inl h))
        have ho2 : 40 < lab hs a - takes l I[a] + puts I[a] → W.out a (lab hs a) = none := fun h => hwo.trans (outH_none (.inr h))
        have ho3 : takes l I[a] ≤ lab hs a → lab hs a - takes l I[a] + puts I[a] ≤ 40 → W.out a (lab hs a) = some (lab hs a - takes l I[a] + puts I[a]) := fun h h2 => hwo.trans (outH_some h h2)
        clear hwo t0 t1
        generalize I[a] = t at *
        obtain ⟨to, tn⟩ := t
        dsimp only at *
        generalize takes l ⟨to, tn⟩ = T at *
        generalize puts ⟨to, tn⟩ = P at *
        generalize nextI ⟨to, tn⟩ a = L at *
        have hcv := fun (W' : World) (hW' : HtW w W' #[.slice A l.length c] #[.int .i64 m0, .int .i64 m1, .slice A2 l2.length c2, .slice (some ⟨b3, o3, none⟩) I.length c3, .slice A4 R.length c4] (w.heap.size + 1 + 1) hs met (.slice (some ⟨b8, o8, none⟩) met.length co)) => hW'.lab (j := a) (by rw [hhl]; exact haN)
        obtain ⟨v, hv⟩ : ∃ v, v = lab hs a := ⟨_, rfl⟩
        rw [← hv] at ha hle hst ho1 ho2 ho3
        simp only [← hv] at hcv
        have hv40 : v ≤ 40 := by omega
        have haI : (a : Int) < (I.length : Int) := by omega
        have haz : (0 : Int) ≤ (a : Int) := by omega
        have HI := Lib.hid hI; have HC := Lib.hid hC; have HNx := Lib.hid hNx; have Hwx := hide hwx; have Hnb := Lib.hid hnb; have Ho1 := Lib.hid ho1; have Ho2 := Lib.hid ho2; have Ho3 := Lib.hid ho3; have Hcv := Lib.hid hcv; have Hst := hide hst; have Hle := hide hle; have Hhl := hide hhl; have HHt := hide hH; have HcN := hide hcN
        clear hI hC hNx hwx hnb ho1 ho2 ho3 hcv hst hle hH hv hcN Hcnt Hinv Hop HHb hhl
        go_wp2_with fail
        go_region_held3 (fun w' => w'.cell? ⟨w.heap.size, 0, none⟩ = some (.slice A l.length c) ∧ w'.cell? ⟨w.heap.size + 1, 3, none⟩ = some (.slice (some ⟨b3, o3, none⟩) I.length c3) ∧ w'.cell? ⟨b3, o3 + a * 2, none⟩ = some (.int .i64 to) ∧ w'.cell? ⟨b3, o3 + a * 2 + 1, none⟩ = some (.int .i64 tn)) (first | exact ⟨HHt.out.i.cell 0, HHt.out.c.cell 3, HI.out _ HHt.out.b⟩ | exact ⟨HHt.out.i.cell 0, HHt.out.c.cell 3, HI.out _ HHt.out.b.drew⟩ | exact ⟨HH5.out.i.cell 0, HH5.out.c.cell 3, HI.out _ HH5.out.b⟩)
          ((go_at_call 37; refine (HC.out _ (by exact HHt.out.b.drew)).mono ?_; rintro e w5 ⟨rfl, hb5⟩; have HH5 := hide (HHt.out.drew.below hb5); clear hb5))
        have hz5 := HH5.out.lt
        have hc5 := Hcv.out _ HH5.out
        have hi5 := HI.out _ HH5.out.b
        have hi50 := hi5.1
        have hi51 := hi5.2
        have hr5 := HH5.out.c.cell 3
        have hbs5 := HH5.out.b.size
        clear hi5 HHt t8
        by_cases hvT : v < T
        · have Hbad := hide (Hst.out.1.fail1 (a := a) (by rw [Hst.out.2.1]; exact ha) (by rw [Hst.out.2.1]; exact Ho1.out hvT))
          clear Ho1 Ho2 Ho3 Hst
          go_wp2
          go_ret2
          exact ⟨_, _, _, rfl, World.ownsRow_nil _ _ _ _, .inr ⟨rfl, Hbad.out, rfl⟩, HH5.out.b⟩
        have hTv : T ≤ v := by omega
        by_cases hgt : 40 < v - T + P
        · have Hbad := hide (Hst.out.1.fail1 (a := a) (by rw [Hst.out.2.1]; exact ha) (by rw [Hst.out.2.1]; exact Ho2.out hgt))
          clear Ho1 Ho2 Ho3 Hst
          go_wp2
          go_ret2
          exact ⟨_, .inl ⟨rfl, _, World.ownsRow_nil _ _ _ _, .inr ⟨rfl, Hbad.out, rfl⟩, HH5.out.b⟩⟩
        have hu4 : v - T + P ≤ 40 := by omega
        have ho := Ho3.out hTv hu4
        have Ho := hide ho
        have hStL : StN W a v (v - T + P) hs (met.drop (kk + 1)) L 0 := ⟨Hst.out.1, Hst.out.2.1, Hst.out.2.2.1, fun n hn => by simp at hn⟩
        have HStL := hide hStL
        clear hStL Hst ho Ho1 Ho2 Ho3
        go_wp2_with (go_at_call 39; refine (HNx.out _).mono ?_; rintro e w6 ⟨nv, rfl, hown6, hb6⟩; obtain ⟨An, cn, rfl⟩ := own_form hown6; have HH6 := hide (HH5.out.below hb6); have HL6 := hide hown6; have Hne6 := hide (show ∀ g, (Value.slice An L.length cn).ownBlock = some g → some g ≠ (Value.slice (some ⟨b8, o8, none⟩) met.length co).ownBlock from fun g hg e => by have e1 := (hown6.lt g hg).1; have e2 := (HH5.out.o.lt g e.symm).2; omega); clear hown6 hb6)
        clear hc5 hi50 hi51 hr5 hvT hgt
        go_loopw [8, 103] (fun ov i wi => ∃ (q : Nat) (hs' : List Int) (mt : List Nat), q ≤ L.length ∧ i = .int .i64 q ∧ StN W a v (v - T + P) hs' (mt.drop (kk + 1)) L q ∧ mt.length + openN hs' = I.length ∧ kk + 1 ≤ mt.length ∧ HtW w wi #[.slice A l.length c] #[.int .i64 m0, .int .i64 m1, .slice A2 l2.length c2, .slice (some ⟨b3, o3, none⟩) I.length c3, .slice A4 R.length c4] (w.heap.size + 1 + 1) hs' mt ov ∧ wi.ownsRow w5.heap.size 3 1 (.slice An L.length cn) L.length (icells .i64 L) ∧ (∀ g, (Value.slice An L.length cn).ownBlock = some g → some g ≠ ov.ownBlock)) (fun _ i _ => L.length - (intOf i).toNat)
        case atStart => exact ⟨0, hs, met, by omega, rfl, HStL.out, HcN.out, by omega, HH6.out, HL6.out, Hne6.out⟩
        case round =>
          obtain ⟨q, hs', mt, hq, rfl, hsn, hcq, hkm, hHq, hLq, hneq⟩ := hrel
          have hhl' := hsn.1.1
          rw [HWN.out] at hhl'
          have hzq := hHq.lt
          have hbq := hHq.b.size
          by_cases hqt : q < L.length
          · obtain ⟨hp0, hp1⟩ := Hnb.out L[q] (List.getElem_mem hqt)
            obtain ⟨p, hp⟩ := Int.eq_ofNat_of_zero_le hp0
            have hpN : p < I.length := by omega
            have hpt : L[q].toNat = p := by rw [hp]; simp
            have hmem : p ∈ W.nx a := by rw [Hwx.out]; exact List.mem_map.2 ⟨L[q], List.getElem_mem hqt, hpt⟩
            obtain ⟨b9, o9, rfl, hb9, t9⟩ := (Rd.of_own hLq).at_ (j := q) (by rw [icells_length]; exact hqt)
            rw [icells_get _ _ hqt, hp] at t9
            have hlabc := hHq.lab (j := p) (by rw [hhl']; exact hpN)
            have hfrp := hHq.h.frozen p
            have hpI : (p : Int) < (I.length : Int) := by omega
            have hpz : (0 : Int) ≤ (p : Int) := by omega
            by_cases hy0 : 0 ≤ lab hs' p
            · by_cases hyu : lab hs' p = v - T + P
              · have hsk := hsn.skip hqt (by rw [hpt]; exact hyu)
                rw [hyu] at hlabc hy0
                have HSk := hide hsk; have HHq := hide hHq; have HLq := hide hLq; have HNq := hide hneq; have HCq := hide hcq
                clear hsk hsn hHq hLq hneq hyu hmem hpt hp hhl' hcq hp0 hp1
                go_wp2
                go_roundw
                case rel => exact ⟨q + 1, hs', mt, by omega, by go_num, HSk.out, HCq.out, hkm, HHq.out, HLq.out, HNq.out⟩
                case measure => simp [intOf]; omega
              · have Hbad := hide (hsn.clash ha Ho.out hmem hy0 hyu)
                have hyb : (lab hs' p != v - T + P) = true := by rw [bne_iff_ne]; exact hyu
                have Hb9 := hide hHq.b
                clear hsn hHq hLq hneq hyu hmem hpt hp hhl' hcq hp0 hp1
                generalize lab hs' p = y at *
                go_wp2
                go_ret2
                exact ⟨_, _, _, rfl, World.ownsRow_nil _ _ _ _, .inr ⟨rfl, Hbad.out, rfl⟩, Hb9.out⟩
            · have hset := hsn.set hqt ha Ho.out (by rw [hpt]; exact hmem) (by rw [hpt, HWN.out]; exact hpN) (by rw [hpt]; omega)
              rw [hpt, ← drop_snoc hkm] at hset
              have HSet := hide hset
              have hmtb : mt.length ≤ 300 := by omega
              have Hhp := hide (show p < hs'.length by rw [hhl']; exact hpN)
              have HHq := hide hHq; have HLq := hide hLq; have HNq := hide hneq; have HCq := hide hcq
              clear hset hsn hHq hLq hneq hmem hpt hp hhl' hcq hp0 hp1
              generalize lab hs' p = y at *
              go_wp2_with (at_builtin; refine wpList_pushG rfl _ _ _ rfl okI64 rfl HHq.out.o #[.int .i64 p] rfl rfl rfl (by simp [Value.oneCell']) (by unfold maxLen; omega) (by omega) (by omega) ?_; intro v8 w8 hown8 hg8; have HH8 := hide (HHq.out.push hown8 hg8); have HL8 := hide (own_gro HLq.out hg8 (fun g hg e => HNq.out g hg e.symm)); have HN8 := hide (own_ne_push HLq.out hg8 HNq.out); have hc8 := HH8.out.lab Hhp.out; have hf8 := HH8.out.h.frozen p; have hz8 := HH8.out.lt; have HH9 := hide (HH8.out.seth p (v - T + P)); have HL9 := hide (own_far HL8.out (p := ⟨w.heap.size + 1 + 1, p, none⟩) (.int .i64 (v - T + P)) (fun k hk e => Nat.lt_irrefl k (Nat.lt_of_lt_of_le (show k < w5.heap.size by rw [show k = w.heap.size + 1 + 1 from e]; exact hz5) (HL8.out.lt k hk).1))); clear hown8 hg8)
              go_roundw
              case rel => exact ⟨q + 1, _, _, by omega, by go_num, HSet.out.1, by have h1 := HSet.out.2; have h2 := HCq.out; rw [List.length_append, List.length_singleton]; omega, by rw [List.length_append]; omega, HH9.out, HL9.out, HN8.out⟩
              case measure => simp [intOf]; omega
          · obtain rfl : q = L.length := by omega
            have Hinv' := hide (hsn.done Ho.out Hwx.out)
            have Hop' := hide hsn.2.2.1
            have HHq := hide hHq
            have hkN : kk < I.length := by omega
            have HCq := hide hcq
            clear hsn hHq hLq hneq hcq hhl'
            go_wp2
            go_roundw
            case rel => exact ⟨kk + 1, hs', mt, hkm, by go_num, Hinv'.out, Hop'.out, HCq.out, HHq.out⟩
            case measure => simp [intOf]; omega
end Go.Proofs.YtgkjakoagdkpcaaGreatDoor
set_option linter.unusedSimpArgs false
set_option linter.unusedVariables false
set_option maxRecDepth 100000
namespace Go.Proofs.YtgkjakoagdkpcaaGreatDoor
open Go.RowKit

theorem rows_pad {many : Int} : ∀ (l : List R3) (a : Int), rowsOk many a l = true → ∀ k (h : k < l.length), 0 ≤ l[k].p ∧ l[k].p ≤ many - 1 := by
  intro l
  induction l with
  | nil => intro a _ k h; simp at h
  | cons r l ih =>
    intro a h k hk
    by_cases hr : rowOk a many r
    · have h2 := rowsOk_yes (many := many) (a := a) (l := r :: l) (k := 0) (by simp) hr
      simp only [List.drop_zero, List.getElem_cons_zero, Nat.zero_add, List.drop_succ_cons] at h2
      rw [h2] at h
      cases k with
      | zero => exact ⟨hr.2.2.2.1, hr.2.2.2.2⟩
      | succ k => simpa using ih _ h k (by simpa using hk)
    · have h2 := rowsOk_no (many := many) (a := a) (l := r :: l) (k := 0) (by simp) hr
      simp only [List.drop_zero] at h2
      rw [h2] at h; cases h
theorem fit_of {l : List CodeM} {c : CodeM} (hs : sizedB l = true) (hc : c ∈ l) (h1 : c.qIns.all (namedI l.length c) = true) (h3 : goesL c.qIns.length 0 c.qIns = true) (h4 : rowsOk c.qIns.length 0 c.qRows = true) : Fit l c := by
  obtain ⟨_, hall⟩ := sizedB_iff.1 hs
  obtain ⟨_, _, _, hN, hR, hI⟩ := codeOk_iff.1 (hall c hc)
  have hins : ∀ k (h : k < c.qIns.length), insOk c.qIns[k] = true := fun k h => hI _ (List.getElem_mem h)
  have htk : ∀ k (h : k < c.qIns.length), c.qIns[k].o = 7 → 0 ≤ c.qIns[k].n ∧ c.qIns[k].n < l.length := fun k h h7 => by
    have e1 := hins k h
    have e2 := List.all_eq_true.1 h1 _ (List.getElem_mem h)
    unfold namedI at e2
    generalize c.qIns[k] = t at *
    obtain ⟨o, n⟩ := t
    dsimp only at h7
    subst h7
    rw [named_call] at e2
    exact ⟨insOk_7 e1, of_decide_eq_true e2⟩
  refine ⟨hN.1, hN.2, hins, htk, fun k h => ?_, fun k h n hn => ?_, fun k h => rows_pad _ _ h4 k h, hR⟩
  · have h7 := htk k h
    generalize c.qIns[k] = t at *
    unfold takes
    split
    · omega
    split
    · omega
    split
    · next ho =>
      obtain ⟨g1, g2⟩ := h7 ho
      have hk : t.n.toNat < l.length := by omega
      have := (codeOk_iff.1 (hall _ (List.getElem_mem hk))).1
      simpa [List.getD, List.getElem?_eq_getElem hk] using this
    · omega
  · have := goesL_all c.qIns 0 h3 k h n (by rw [Nat.zero_add]; exact hn)
    exact this
section
variable {l : List CodeM} {c : CodeM}
theorem codeN_1 (h1 : c.qIns.all (namedI l.length c) = false) : codeN l c = 1 := by unfold codeN; rw [if_pos h1]
theorem codeN_2 (h1 : c.qIns.all (namedI l.length c) = true) (h2 : c.qSites.all (siteI l) = false) : codeN l c = 2 := by unfold codeN; rw [if_neg (by rw [h1]; simp), if_pos h2]
theorem codeN_3 (h1 : c.qIns.all (namedI l.length c) = true) (h2 : c.qSites.all (siteI l) = true) (h3 : goesL c.qIns.length 0 c.qIns = false) : codeN l c = 3 := by unfold codeN; rw [if_neg (by rw [h1]; simp), if_neg (by rw [h2]; simp), if_pos h3]
theorem codeN_4 (h1 : c.qIns.all (namedI l.length c) = true) (h2 : c.qSites.all (siteI l) = true) (h3 : goesL c.qIns.length 0 c.qIns = true) (h4 : rowsOk c.qIns.length 0 c.qRows = false) : codeN l c = 4 := by unfold codeN; rw [if_neg (by rw [h1]; simp), if_neg (by rw [h2]; simp), if_neg (by rw [h3]; simp), if_pos h4]
theorem codeN_5 (h1 : c.qIns.all (namedI l.length c) = true) (h2 : c.qSites.all (siteI l) = true) (h3 : goesL c.qIns.length 0 c.qIns = true) (h4 : rowsOk c.qIns.length 0 c.qRows = true) (h5 : (waysOf l c).bad) : codeN l c = 5 := by
  unfold codeN; rw [if_neg (by rw [h1]; simp), if_neg (by rw [h2]; simp), if_neg (by rw [h3]; simp), if_neg (by rw [h4]; simp), Ways.heights_none h5]
theorem codeN_h {hs : List Int} (h1 : c.qIns.all (namedI l.length c) = true) (h2 : c.qSites.all (siteI l) = true) (h3 : goesL c.qIns.length 0 c.qIns = true) (h4 : rowsOk c.qIns.length 0 c.qRows = true) (h5 : HInv (waysOf l c) hs []) : codeN l c = codeH c hs := by
  unfold codeN; rw [if_neg (by rw [h1]; simp), if_neg (by rw [h2]; simp), if_neg (by rw [h3]; simp), if_neg (by rw [h4]; simp), Ways.heights_some h5]
end
theorem codeH_6 {c : CodeM} {hs : List Int} (h : anyAt (fun a v t => bad6 c.qRows a v t) 0 hs c.qIns = true) : codeH c hs = 6 := by unfold codeH; rw [if_pos h]
theorem codeH_7 {c : CodeM} {hs : List Int} (h : anyAt (fun a v t => bad6 c.qRows a v t) 0 hs c.qIns = false) (h2 : anyAt (fun _ v t => bad7 v t) 0 hs c.qIns = true) : codeH c hs = 7 := by unfold codeH; rw [if_neg (by rw [h]; simp), if_pos h2]
theorem codeH_0 {c : CodeM} {hs : List Int} (h : anyAt (fun a v t => bad6 c.qRows a v t) 0 hs c.qIns = false) (h2 : anyAt (fun _ v t => bad7 v t) 0 hs c.qIns = false) : codeH c hs = 0 := by unfold codeH; rw [if_neg (by rw [h]; simp), if_neg (by rw [h2]; simp)]
/-- the cases of the first test of a place -/
theorem bad6_neg {rows : List R3} {a v : Int} {t : P2} (h : v < 0) : bad6 rows a v t = false := by unfold bad6; rw [decide_eq_false (by omega)]; rfl
theorem bad6_calm {rows : List R3} {a v : Int} {t : P2} (h : raiseB t.o = false) : bad6 rows a v t = false := by unfold bad6; rw [h]; simp
theorem bad6_out {rows : List R3} {a v : Int} {t : P2} (h : 0 ≤ v) (h2 : raiseB t.o = true) (h3 : rowIx a rows 0 < 0) : bad6 rows a v t = true := by unfold bad6 padLow; rw [decide_eq_true h, h2, decide_eq_true h3]; rfl
theorem bad6_row {rows : List R3} {a v : Int} {t : P2} {k : Nat} (h : 0 ≤ v) (h2 : raiseB t.o = true) (h3 : rowIx a rows 0 = k) (hk : k < rows.length) : bad6 rows a v t = decide (rows[k].p ≤ a) := by
  unfold bad6 padLow; rw [decide_eq_true h, h2, h3, decide_eq_false (by omega)]
  simp [List.getD, List.getElem?_eq_getElem hk]
theorem bad7_flat {v : Int} {t : P2} (h : flatB t.o = true) : bad7 v t = decide (0 < v) := by unfold bad7; rw [h]; rfl
theorem bad7_no {v : Int} {t : P2} (h : flatB t.o = false) : bad7 v t = false := by unfold bad7; rw [h]; rfl
theorem flat_yes {o : Int} (h : flatB o = true) : o = 18 ∨ o = 16 ∨ o = 14 ∨ o = 17 := of_decide_eq_true h
theorem flat_no {o : Int} (h : flatB o = false) : o ≠ 18 ∧ o ≠ 16 ∧ o ≠ 14 ∧ o ≠ 17 := by have := of_decide_eq_false h; omega
end Go.Proofs.YtgkjakoagdkpcaaGreatDoor
