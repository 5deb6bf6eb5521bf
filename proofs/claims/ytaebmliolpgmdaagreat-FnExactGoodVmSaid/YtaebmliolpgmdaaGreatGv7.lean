
/- isVm: what the Go text returns. No condition. Printed by wip/tools/mk_gv7.py. -/
import Derived.Test.YtaebmliolpgmdaaGreatGv6
set_option linter.unusedSimpArgs false
set_option linter.unusedVariables false
set_option maxRecDepth 100000
namespace Go.Proofs.YtaebmliolpgmdaaGreat
open Go.RowKit Go.Shelf

structure Hol (w : World) (ca cv : Array Value) (W : World) : Prop where
  b : Below w.heap.size w W
  i : Bk W w.heap.size 31 ca
  v : Bk W (w.heap.size + 1) 47 cv
section
variable {w : World} {ca cv : Array Value} {W W1 : World}
theorem Hol.below (h : Hol w ca cv W) (hb : Below W.heap.size W W1) : Hol w ca cv W1 := ⟨h.b.trans (hb.mono h.b.size), h.i.below hb, h.v.below hb⟩
theorem Hol.setq (h : Hol w ca cv W) {q : Nat} (hq : w.heap.size + 1 < q) (i : Nat) (u : Value) : Hol w ca cv (W.setCell ⟨q, i, none⟩ u) := ⟨h.b.setCell (p := ⟨q, i, none⟩) (by show w.heap.size ≤ q; omega) u, h.i.far (by omega) i u, h.v.far (by omega) i u⟩
theorem Hol.frame (h : Hol w ca cv W) {l : List CodeM} {H : Nat} (hh : HtsAt l H l.length W) (cf : Array Value) : HoV w l W.heap.size H ca cv cf (W.alloc (.cells cf 102)) :=
  ⟨h.b.alloc h.b.size _, h.i.alloc _, h.v.alloc _, Bk.new W 102 cf, hh.below ((Below.refl _ _).alloc (Nat.le_refl _) _)⟩
theorem Hol.start (w : World) (ca cv : Array Value) : Hol w ca cv ((w.alloc (.cells ca 31)).alloc (.cells cv 47)) := by
  refine ⟨((Below.refl w.heap.size w).alloc (Nat.le_refl _) _).alloc (by simp) _, (Bk.new w 31 ca).alloc _, ?_⟩
  have h := Bk.new (w.alloc (.cells ca 31)) 47 cv
  simpa only [World.size_alloc] using h
theorem HoV.hol {l : List CodeM} {g H : Nat} {cf : Array Value} (h : HoV w l g H ca cv cf W) : Hol w ca cv W := ⟨h.b, h.i, h.v⟩
end
theorem cell0 {w : World} {b o : Nat} {u : Option Value} (h : w.cell? ⟨b, o + 0, none⟩ = u) : w.cell? ⟨b, o, none⟩ = u := h
theorem two_bk (W : World) (c1 c2 : Array Value) (t1 t2 : TypeId) : Bk ((W.alloc (.cells c1 t1)).alloc (.cells c2 t2)).drew W.heap.size t1 c1 ∧ Bk ((W.alloc (.cells c1 t1)).alloc (.cells c2 t2)).drew (W.heap.size + 1) t2 c2 := by
  have h := Bk.new (W.alloc (.cells c1 t1)) t2 c2
  rw [World.size_alloc] at h
  exact ⟨((Bk.new W t1 c1).alloc _).drew, h.drew⟩
set_option maxHeartbeats 16000000 in
theorem impl_isVm (xs vs : List Value) (x : ImageM) (v : VmM) (w : World) (hx : RImage w 0 w.heap.size xs x) (hv : RVm w 0 w.heap.size vs v) (hs : sizedB x.qCodes = true) (hall : ∀ c ∈ x.qCodes, codeN x.qCodes c = 0) :
    Calls Tryz.prog 37 #[.agg xs.toArray, .agg vs.toArray] w fun e w' => e = .returned (.bool (vmB x.qCodes v)) ∧ Below w.heap.size w w' := by
  have hx0 := hx
  have hl5 := (sizedB_iff.1 hs).1
  obtain ⟨v0, rfl, h0⟩ := hx
  obtain ⟨A, c, rfl⟩ := h0.form
  obtain ⟨v0, v1, v6, rfl, k0, k1, k6⟩ := hv
  have hlf := k0.long
  obtain ⟨A0, c0, rfl⟩ := k0.form; obtain ⟨A1, c1, rfl⟩ := k1.form; obtain ⟨A6, c6, rfl⟩ := k6.form
  obtain ⟨bd, hd1, hd0, r1, r2, rr⟩ := vmB_alt2 x.qCodes v
  have hck := fun (n : Nat) (hn : n < x.qCodes.length) W (hW : Below w.heap.size w W) => impl_checkCode_good _ x n W (htsOf x.qCodes x.qCodes[n]) (RImage_stable.here hx0 hW) hn hs (hall _ (List.getElem_mem hn)) (fun hs hi => hts_eq hi)
  have hfr := fun W (hW : Below w.heap.size w W) f fc (hf : RFrame w 0 w.heap.size fc f) => impl_isFrame _ fc x f W (RImage_stable.here hx0 hW) (RFrame_stable.here hf hW)
  generalize vmB x.qCodes v = R at *
  obtain ⟨fs, tr, us, cd, vl, md, nt⟩ := v
  unfold vmP at r1 rr
  unfold vmQ at hd1 hd0
  dsimp only at *
  have K0 := hide k0; clear k0
  generalize hN : fs.length = N at hlf hd1 hd0 ⊢
  have HN := hide hN; clear hN
  have hsC := fun w => impl_within cd 0 4 w
  have hsU := fun w => impl_within us 0 10 w
  have hsM := fun w => impl_within md 0 1000000 w
  have hsV := fun w => impl_isSmallB vl w
  have hsT := fun W (hW : Below w.heap.size w W) => impl_areSmall _ tr W (k1.here hW).rd
  generalize gC : inB cd 0 4 = bC at *
  generalize gU : inB us 0 10 = bU at *
  generalize gM : inB md 0 1000000 = bM at *
  generalize gV : smallB vl = bV at *
  generalize gT : b32 tr = bT at *
  have hol0 := Hol.start w #[.slice A x.qCodes.length c] #[.slice A0 N c0, .slice A1 tr.length c1, .int .i64 us, .int .i64 cd, .int .i64 vl, .int .i64 md, .slice A6 nt.length c6]
  have Hol0 := hide hol0; have H0 := hide h0; have Hs := hide hs; have Hall := Lib.hid hall; have Hl5 := hide hl5
  have HsC := Lib.hid hsC; have HsU := Lib.hid hsU; have HsM := Lib.hid hsM; have HsV := Lib.hid hsV; have HsT := Lib.hid hsT
  have Hd1 := Lib.hid hd1; have Hd0 := Lib.hid hd0; have R1 := Lib.hid r1; have R2 := Lib.hid r2; have Rr := Lib.hid rr; have Hck := Lib.hid hck; have Hfr := Lib.hid hfr
  clear hol0 h0 hs hall hl5 hsC hsU hsM hsV hsT hd1 hd0 r1 r2 rr hck hfr k1 k6 gC gU gM gV gT hx0
  cases bT
  · skip
    have HR := hide (R1.out (fun q => by have := q.2.2.2.2; cases this))
    go_enter Tryz.func37, Tryz.ntmps37
    go_wp2_with (first
      | (go_at_call 68; refine (HsT.out _ Hol0.out.b).mono ?_; rintro e w1 ⟨rfl, hb1⟩; have Hol1 := hide (Hol0.out.below hb1); have v0 := Hol1.out.v.cell 0; have v2 := Hol1.out.v.cell 2; have v3 := Hol1.out.v.cell 3; have v4 := Hol1.out.v.cell 4; have v5 := Hol1.out.v.cell 5; have vL := Hol1.out.v.lt; clear hb1))
    go_ret
    exact ⟨retB HR.out.symm, Hol1.out.b⟩
  cases bV
  · skip
    have HR := hide (R1.out (fun q => by have := q.2.2.2.1; cases this))
    go_enter Tryz.func37, Tryz.ntmps37
    go_wp2_with (first
      | (go_at_call 68; refine (HsT.out _ Hol0.out.b).mono ?_; rintro e w1 ⟨rfl, hb1⟩; have Hol1 := hide (Hol0.out.below hb1); have v0 := Hol1.out.v.cell 0; have v2 := Hol1.out.v.cell 2; have v3 := Hol1.out.v.cell 3; have v4 := Hol1.out.v.cell 4; have v5 := Hol1.out.v.cell 5; have vL := Hol1.out.v.lt; clear hb1)
      | (go_at_call 69; refine (HsV.out _).mono ?_; rintro e wx ⟨rfl, rfl⟩))
    go_ret
    exact ⟨retB HR.out.symm, Hol1.out.b⟩
  cases bU
  · skip
    have HR := hide (R1.out (fun q => by have := q.2.1; cases this))
    go_enter Tryz.func37, Tryz.ntmps37
    go_wp2_with (first
      | (go_at_call 68; refine (HsT.out _ Hol0.out.b).mono ?_; rintro e w1 ⟨rfl, hb1⟩; have Hol1 := hide (Hol0.out.below hb1); have v0 := Hol1.out.v.cell 0; have v2 := Hol1.out.v.cell 2; have v3 := Hol1.out.v.cell 3; have v4 := Hol1.out.v.cell 4; have v5 := Hol1.out.v.cell 5; have vL := Hol1.out.v.lt; clear hb1)
      | (go_at_call 69; refine (HsV.out _).mono ?_; rintro e wx ⟨rfl, rfl⟩)
      | (go_at_call_of 24 (Value.int .i64 us); refine (HsU.out _).mono ?_; rintro e wx ⟨rfl, rfl⟩))
    go_ret
    exact ⟨retB HR.out.symm, Hol1.out.b⟩
  cases bC
  · skip
    have HR := hide (R1.out (fun q => by have := q.1; cases this))
    go_enter Tryz.func37, Tryz.ntmps37
    go_wp2_with (first
      | (go_at_call 68; refine (HsT.out _ Hol0.out.b).mono ?_; rintro e w1 ⟨rfl, hb1⟩; have Hol1 := hide (Hol0.out.below hb1); have v0 := Hol1.out.v.cell 0; have v2 := Hol1.out.v.cell 2; have v3 := Hol1.out.v.cell 3; have v4 := Hol1.out.v.cell 4; have v5 := Hol1.out.v.cell 5; have vL := Hol1.out.v.lt; clear hb1)
      | (go_at_call 69; refine (HsV.out _).mono ?_; rintro e wx ⟨rfl, rfl⟩)
      | (go_at_call_of 24 (Value.int .i64 us); refine (HsU.out _).mono ?_; rintro e wx ⟨rfl, rfl⟩)
      | (go_at_call_of 24 (Value.int .i64 cd); refine (HsC.out _).mono ?_; rintro e wx ⟨rfl, rfl⟩))
    go_ret
    exact ⟨retB HR.out.symm, Hol1.out.b⟩
  cases bM
  · skip
    have HR := hide (R1.out (fun q => by have := q.2.2.1; cases this))
    go_enter Tryz.func37, Tryz.ntmps37
    go_wp2_with (first
      | (go_at_call 68; refine (HsT.out _ Hol0.out.b).mono ?_; rintro e w1 ⟨rfl, hb1⟩; have Hol1 := hide (Hol0.out.below hb1); have v0 := Hol1.out.v.cell 0; have v2 := Hol1.out.v.cell 2; have v3 := Hol1.out.v.cell 3; have v4 := Hol1.out.v.cell 4; have v5 := Hol1.out.v.cell 5; have vL := Hol1.out.v.lt; clear hb1)
      | (go_at_call 69; refine (HsV.out _).mono ?_; rintro e wx ⟨rfl, rfl⟩)
      | (go_at_call_of 24 (Value.int .i64 us); refine (HsU.out _).mono ?_; rintro e wx ⟨rfl, rfl⟩)
      | (go_at_call_of 24 (Value.int .i64 cd); refine (HsC.out _).mono ?_; rintro e wx ⟨rfl, rfl⟩)
      | (go_at_call_of 24 (Value.int .i64 md); refine (HsM.out _).mono ?_; rintro e wx ⟨rfl, rfl⟩))
    go_ret
    exact ⟨retB HR.out.symm, Hol1.out.b⟩
  go_enter Tryz.func37, Tryz.ntmps37
  go_upto_region 3 with (first
    | (go_at_call 68; refine (HsT.out _ Hol0.out.b).mono ?_; rintro e w1 ⟨rfl, hb1⟩; have Hol1 := hide (Hol0.out.below hb1); have v0 := Hol1.out.v.cell 0; have v2 := Hol1.out.v.cell 2; have v3 := Hol1.out.v.cell 3; have v4 := Hol1.out.v.cell 4; have v5 := Hol1.out.v.cell 5; have vL := Hol1.out.v.lt; clear hb1)
    | (go_at_call 69; refine (HsV.out _).mono ?_; rintro e wx ⟨rfl, rfl⟩)
    | (go_at_call_of 24 (Value.int .i64 us); refine (HsU.out _).mono ?_; rintro e wx ⟨rfl, rfl⟩)
    | (go_at_call_of 24 (Value.int .i64 cd); refine (HsC.out _).mono ?_; rintro e wx ⟨rfl, rfl⟩)
    | (go_at_call_of 24 (Value.int .i64 md); refine (HsM.out _).mono ?_; rintro e wx ⟨rfl, rfl⟩))
  go_cut [64] from 40 to 64 (fun r wx => r = .bool bd ∧ Hol w #[.slice A x.qCodes.length c] #[.slice A0 N c0, .slice A1 tr.length c1, .int .i64 us, .int .i64 cd, .int .i64 vl, .int .i64 md, .slice A6 nt.length c6] wx)
  case first =>
    clear v2 v4 v5
    by_cases hz : N = 0
    · subst hz
      have hz : fs.length = 0 := HN.out
      by_cases c0 : cd = 0
      · have HB := hide (Hd1.out (fun q => q.1 ⟨c0, rfl⟩))
        subst c0; clear hz
        go_wp2_with fail
        all_goals
          go_meet
          case rel => exact ⟨congrArg Value.bool HB.out.symm, Hol1.out⟩
      · have HB := hide (Hd0.out ⟨fun q => c0 q.1, fun q => by omega⟩)
        have e1 : (cd == 0) = false := beq_eq_false_iff_ne.2 c0
        have e2 : (cd != 0) = true := bne_iff_ne.2 c0
        clear hz
        by_cases c4 : cd = 4
        · subst c4; clear c0 e1 e2
          go_wp2_with fail
          all_goals
            go_meet
            case rel => exact ⟨congrArg Value.bool HB.out.symm, Hol1.out⟩
        · have e3 : (cd != 4) = true := bne_iff_ne.2 c4
          clear c0 c4
          go_wp2_with fail
          all_goals
            go_meet
            case rel => exact ⟨congrArg Value.bool HB.out.symm, Hol1.out⟩
    · have hz2 : 0 < N := by omega
      by_cases c0 : cd = 0
      · have HB := hide (Hd0.out ⟨fun q => by omega, fun q => by omega⟩)
        subst c0
        have e1 : ((N : Int) == 0) = false := beq_eq_false_iff_ne.2 (by omega)
        clear hz
        go_wp2_with fail
        all_goals
          go_meet
          case rel => exact ⟨congrArg Value.bool HB.out.symm, Hol1.out⟩
      · have e1 : (cd == 0) = false := beq_eq_false_iff_ne.2 c0
        have e2 : (cd != 0) = true := bne_iff_ne.2 c0
        by_cases c4 : cd = 4
        · have HB := hide (Hd0.out ⟨fun q => by omega, fun q => by omega⟩)
          subst c4; clear c0 e1 e2 hz
          go_wp2_with fail
          all_goals
            go_meet
            case rel => exact ⟨congrArg Value.bool HB.out.symm, Hol1.out⟩
        · have HB := hide (Hd1.out (fun q => q.2 ⟨c0, c4, hz2⟩))
          have e3 : (cd != 4) = true := bne_iff_ne.2 c4
          have e4 : (0 : Int) < (N : Int) := by omega
          clear c0 c4 hz
          go_wp2_with fail
          all_goals
            go_meet
            case rel => exact ⟨congrArg Value.bool HB.out.symm, Hol1.out⟩
  obtain ⟨rfl, hol⟩ := hcut
  clear v0 v2 v3 v4 v5 vL
  cases bd
  case true =>
    have HR := hide (R2.out rfl)
    have Hol := hide hol; clear hol
    go_wp2_with fail
    go_ret
    exact ⟨retB HR.out.symm, Hol.out.b⟩
  have hst := Rr.out (by simp) rfl
  have Hst := hide hst.symm
  have i0 := hol.i.cell 0; have iL := hol.i.lt
  have hHH := hol.v.lt
  have hl5 := Hl5.out
  have Hol2 := hide hol; have HHH := hide hHH
  clear hol hst hHH Rr R1 R2 Hd1 Hd0 HsC HsU HsM HsV HsT Hol1 Hol0
  go_wp2_with (at_make; go_must (refine wpList_makeN rfl _ _ _ rfl okII x.qCodes.length rfl rfl (by omega) (by unfold maxLen; omega) ?_); intro w2 hown2 hb2; have Hh2 := hide (HtsAt.made hown2); have Hol3 := hide (Hol2.out.below hb2); have i0' := Hol3.out.i.cell 0; have iL' := Hol3.out.i.lt; clear hown2 hb2)
  clear i0 iL i0' iL'
  go_loopw [72] (fun i wr => ∃ k : Nat, k ≤ x.qCodes.length ∧ i = .int .i64 k ∧ HtsAt x.qCodes wc.heap.size k wr ∧ Hol w #[.slice A x.qCodes.length c] #[.slice A0 N c0, .slice A1 tr.length c1, .int .i64 us, .int .i64 cd, .int .i64 vl, .int .i64 md, .slice A6 nt.length c6] wr) (fun i _ => x.qCodes.length - (intOf i).toNat)
  case atStart => exact ⟨0, by omega, rfl, Hh2.out, Hol3.out⟩
  case round =>
  obtain ⟨k, hk, rfl, hh, hol⟩ := hrel
  have i0 := hol.i.cell 0; have iL := hol.i.lt
  by_cases hlt : k < x.qCodes.length
  · have hkI : (k : Int) < (x.qCodes.length : Int) := by omega
    have hkI0 : (0 : Int) ≤ (k : Int) := by omega
    have hc := Hck.out k hlt
    have HC := Lib.hid hc
    have Hh := hide hh; have Hol4 := hide hol
    clear hc hh hol
    go_wp2_with (go_at_call 25; refine (HC.out _ Hol4.out.b).mono ?_; rintro e w3 ⟨u, rfl, hown, hb3⟩; obtain ⟨Au, Cu, rfl⟩ := own_form hown; have Hh3 := hide (Hh.out.below hb3); have Hol5 := hide (Hol4.out.below hb3); have Own3 := hide (own_base hown (show wc.heap.size + 1 ≤ _ from Hh.out.lt)); obtain ⟨⟨u0, q0⟩, q1⟩ := Hh3.out.cell hlt; have q2 := Hh3.out.lt; clear hown hb3)
    go_roundw
    case rel => exact ⟨k + 1, by omega, by go_num, Hh3.out.set hlt Own3.out, Hol5.out.setq HHH.out _ _⟩
    case measure => simp [intOf]; omega
  obtain rfl : k = x.qCodes.length := by omega
  clear hlt hk
  have v0 := hol.v.cell 0; have vL := hol.v.lt
  have Hh5 := hide hh; have Hol5 := hide hol
  clear hh hol Hh2 Hol3
  obtain ⟨wo, rfl⟩ : ∃ wo : World, wo = wr := ⟨_, rfl⟩
  generalize wc.heap.size = H at *
  go_wp2_with fail
  clear i0 iL v0 vL
  go_loopw [88] (fun i wr => ∃ k : Nat, k ≤ N ∧ i = .int .i64 k ∧ stackV x.qCodes fs k = R ∧ HtsAt x.qCodes H x.qCodes.length wr ∧ Hol w #[.slice A x.qCodes.length c] #[.slice A0 N c0, .slice A1 tr.length c1, .int .i64 us, .int .i64 cd, .int .i64 vl, .int .i64 md, .slice A6 nt.length c6] wr) (fun i _ => N - (intOf i).toNat)
  case atStart => exact ⟨0, by omega, rfl, Hst.out, Hh5.out, Hol5.out⟩
  case round =>
  clear Hst Hh5 Hol5 Hol2
  obtain ⟨k, hk, rfl, hst, hh, hol⟩ := hrel
  have hN := HN.out
  by_cases hlt : k < N
  case neg =>
    obtain rfl : k = N := by omega
    rw [← hN, stackV_end] at hst
    have Hst' := hide hst; have Hbb := hide hol.b
    clear hst hh hol hN
    go_wp2
    go_ret
    exact ⟨retB Hst'.out, Hbb.out⟩
  have hlt' : k < fs.length := by omega
  rw [stackV_step hlt'] at hst
  obtain ⟨b, o, P3, d3, P4, d4, P5, d5, e9, hbB, hcell, hxf⟩ := RFrame_lit K0.out hlt'
  subst e9
  obtain ⟨f0, f1, f2, f3, f4, f5, f6, f7, f8, f9, f10⟩ := eleven (o := o + k * 11) (cells_below hcell hol.b hbB)
  have hbw : b < wr.heap.size := Nat.lt_of_lt_of_le hbB hol.b.size
  have hkI : (k : Int) < (N : Int) := by omega
  have hF := fun W hW => Hfr.out W hW fs[k] _ hxf
  have i0 := hol.i.cell 0; have iL := hol.i.lt; have v0 := hol.v.cell 0; have vL := hol.v.lt
  have ho8 := hol.frame hh #[.int .i64 fs[k].qId, .int .i64 fs[k].qFn, .int .i64 fs[k].qAt, .slice P3 fs[k].qPile.length d3, .slice P4 fs[k].qVars.length d4, .slice P5 fs[k].qFlags.length d5, .int .i64 fs[k].qResult, .int .i64 fs[k].qMode, .int .i64 fs[k].qValue, .int .i64 fs[k].qBase, .bool fs[k].qOff]
  have hbw2 := hol.b.size
  cases hok : frB x.qCodes fs[k]
  · simp only [hok, Bool.false_and] at hF hst
    generalize fs[k] = f at *
    have Hst := hide hst; have HF := Lib.hid hF; have Ho8 := hide ho8
    clear hst hh hol hF ho8 hxf hcell hok hN
    go_wp2_with (go_at_call 70; refine (HF.out _ Ho8.out.b).mono ?_; rintro e w4 ⟨rfl, hb4⟩; have Ho10 := hide (Ho8.out.below hb4); clear hb4)
    go_ret
    exact ⟨retB Hst.out, Ho10.out.b⟩
  simp only [hok, Bool.true_and] at hF hst
  obtain ⟨q0, q1, q2, q3, q4, q5, q6, q7, q8, q9, q10⟩ := frB_iff hok
  clear hok q1 q3 q4 q5 q6 q7 q8 q9 q10
  obtain ⟨n, hfn, hn⟩ := in_nat q0
  rw [cF_at hfn hn] at q2
  obtain ⟨p, hpl, hp⟩ := in_nat q2
  clear q0 q2
  have hcode := Hall.out _ (List.getElem_mem hn)
  obtain ⟨hFit, hg⟩ := codeN_zero Hs.out (List.getElem_mem hn) hcode
  obtain ⟨hLl, hLb⟩ := hts_len hcode
  have hnm := List.all_eq_true.1 (codeN_named hcode)
  have st_last := stepB_last (f := fs[k]) hfn hn hpl
  have st_call := fun (a : FrameM) => stepB_call (a := a) hfn hn hpl hp
  have st_callno := fun (a : FrameM) => stepB_callno (a := a) hfn hn hpl hp
  have st_off := fun (a : FrameM) h7 (s : Nat) hs hsl ha ho => stepB_off hfn hn hpl hp (a := a) h7 (s := s) hs hsl ha ho
  have st_offno := fun (a : FrameM) h7 (s : Nat) hs hsl ha => stepB_offno hfn hn hpl hp (a := a) h7 (s := s) hs hsl ha
  have st_other := fun (a : FrameM) => stepB_other (a := a) hfn hn hpl hp
  have hLp := hLb p
  obtain ⟨bC, oC, B2, e2, B3, e3, B4, e4, e9, hbC, d0, d1, d2, d3', d4', hc⟩ := RCode_lit H0.out hn
  subst e9
  have hnmp := hnm _ (List.getElem_mem hp)
  have hins := hFit.ins p hp
  obtain ⟨_, _, _, ey, x2, x3, x4⟩ := hc
  cases ey
  have hIn := x3.rd; have hSi := x2.rd
  have hlI := x3.long
  have hpc : ∀ (m : Nat) (hm : m < x.qCodes.length), w.cell? ⟨bC, oC + m * 5, none⟩ = some (.int .i64 x.qCodes[m].qParams) ∧ takes x.qCodes ⟨7, m⟩ = x.qCodes[m].qParams ∧ 0 ≤ x.qCodes[m].qParams ∧ x.qCodes[m].qParams ≤ 2 := fun m hm => by
    obtain ⟨b', o', _, _, _, _, _, _, e9, _, d0', _⟩ := RCode_lit H0.out hm
    cases e9
    exact ⟨d0', takes_call hm, params_bd Hs.out hm⟩
  have hget := fun W (h : HtsAt x.qCodes H x.qCodes.length W) => h.get hn (show p < (htsOf x.qCodes x.qCodes[n]).length by omega)
  have hnext : ∀ h2 : k + 1 < fs.length, ∃ (E3 : Option Addr) (g3 : Nat) (E4 : Option Addr) (g4 : Nat) (E5 : Option Addr) (g5 : Nat), ∀ (i : Nat) (u : Value), #[.int .i64 fs[k + 1].qId, .int .i64 fs[k + 1].qFn, .int .i64 fs[k + 1].qAt, .slice E3 fs[k + 1].qPile.length g3, .slice E4 fs[k + 1].qVars.length g4, .slice E5 fs[k + 1].qFlags.length g5, .int .i64 fs[k + 1].qResult, .int .i64 fs[k + 1].qMode, .int .i64 fs[k + 1].qValue, .int .i64 fs[k + 1].qBase, .bool fs[k + 1].qOff][i]? = some u → w.cell? ⟨b, o + (k + 1) * 11 + i, none⟩ = some u := fun h2 => by
    obtain ⟨b', o', E3, g3, E4, g4, E5, g5, e9, _, hcell2, _⟩ := RFrame_lit K0.out h2
    cases e9
    exact ⟨E3, g3, E4, g4, E5, g5, hcell2⟩
  clear hcode hFit hg hnm hLb x2 x3 x4 d1 hxf hcell
  have hgn : ∀ h2 : k + 1 < fs.length, fs[k + 1]? = some fs[k + 1] := fun h2 => List.getElem?_eq_getElem h2
  have hge : ¬ k + 1 < fs.length → fs[k + 1]? = none := fun h2 => List.getElem?_eq_none (by omega)
  have hlP : fs[k].qPile.length ≤ 9223372036854775807 := pile_long K0.out hlt'
  generalize stepB x.qCodes fs[k] = ST at *
  generalize fs[k] = f at *
  generalize htsOf x.qCodes x.qCodes[n] = L at *
  generalize x.qCodes[n] = mC at *
  obtain ⟨p0, p1, Si, I, Q⟩ := mC
  obtain ⟨id, fn, pl, Pl, Vr, Fl, rs, mo, va, ba, off⟩ := f
  dsimp only at *
  subst hfn hpl
  obtain ⟨b3, o3, e3', hb3B, t0, t1⟩ := hIn.two hp
  subst e3'
  have hnI : (n : Int) < (x.qCodes.length : Int) := by omega
  have hn0 : (0 : Int) ≤ (n : Int) := by omega
  have hpI : (p : Int) < (I.length : Int) := by have h : p < I.length := hp; omega
  have hpL : (p : Int) < (L.length : Int) := by have h : L.length = I.length := hLl; omega
  have hp0 : (0 : Int) ≤ (p : Int) := by omega
  generalize I[p] = t at *
  obtain ⟨ot, nt'⟩ := t
  dsimp only at *
  obtain ⟨kz, hkz, hkz2⟩ : ∃ kz : Bool, ((k : Int) == 0) = kz ∧ decide (k = 0) = kz := ⟨decide (k = 0), by rw [Bool.eq_iff_iff, beq_iff_eq, decide_eq_true_iff]; omega, rfl⟩
  rw [hkz2] at hst
  have hkI2 : (k : Int) + 1 ≤ 9223372036854775807 := by omega
  have Hst := hide hst; have HF := Lib.hid hF; have Ho8 := hide ho8
  have ST1 := hide st_last; have ST2 := Lib.hid st_call; have ST3 := Lib.hid st_callno; have ST4 := Lib.hid st_off; have ST5 := Lib.hid st_offno; have ST6 := Lib.hid st_other
  have HSi := hide hSi; have Hnm := hide hnmp; have Hins := hide hins; have HLp := hide hLp; have T0 := hide t0; have T1 := hide t1; have D3 := hide d3'; have D2 := hide d2
  have Hpc := Lib.hid hpc; have Hget := Lib.hid hget; have Hnext := Lib.hid hnext; have Hgn := Lib.hid hgn; have Hge := Lib.hid hge; have HNN := hide hN; have Hkz2 := hide hkz2
  clear hst hF ho8 st_last st_call st_callno st_off st_offno st_other hSi hnmp hins hLp t0 t1 d0 d2 d3' d4' hpc hget hnext hgn hge hN hkz2 hh hol hLl hp hn hIn
  go_upto_region 14 with fail
  go_cut [104] from 93 to 104 (fun r wx => r = .bool (off && kz) ∧ HoV w x.qCodes wr.heap.size H #[.slice (some ⟨bC, oC, none⟩) x.qCodes.length c] #[.slice (some ⟨b, o, none⟩) N c0, .slice A1 tr.length c1, .int .i64 us, .int .i64 cd, .int .i64 vl, .int .i64 md, .slice A6 nt.length c6] #[.int .i64 id, .int .i64 n, .int .i64 p, .slice P3 Pl.length d3, .slice P4 Vr.length d4, .slice P5 Fl.length d5, .int .i64 rs, .int .i64 mo, .int .i64 va, .int .i64 ba, .bool off] wx)
  case first =>
    cases off
    · skip
      go_wp2_with (go_at_call 70; refine (HF.out _ Ho8.out.b).mono ?_; rintro e w4 ⟨rfl, hb4⟩; have Ho10 := hide (Ho8.out.below hb4); have kf := Ho10.out.f.cell 10; have kfl := Ho10.out.f.lt; clear hb4)
      go_meet
      case rel => exact ⟨rfl, Ho10.out⟩
    · cases kz
      all_goals
        go_wp2_with (go_at_call 70; refine (HF.out _ Ho8.out.b).mono ?_; rintro e w4 ⟨rfl, hb4⟩; have Ho10 := hide (Ho8.out.below hb4); have kf := Ho10.out.f.cell 10; have kfl := Ho10.out.f.lt; clear hb4)
        go_meet
        case rel => exact ⟨rfl, Ho10.out⟩
  obtain ⟨rfl, ho⟩ := hcut
  clear f0 f1 f2 f3 f4 f5 f6 f7 f8 f9 f10 i0 iL v0 vL hkz
  generalize lab L p = hv at *
  generalize hbo : (off && kz) = bo at *
  cases bo
  case true =>
    have HR := hide (show false = R from by have := Hst.out; simp only [Bool.not_true, Bool.false_and] at this; exact this)
    have Ho := hide ho
    clear ho hbo
    go_wp2_with fail
    go_ret
    exact ⟨retB HR.out, Ho.out.b⟩
  have hst : (ST fs[k + 1]? && stackV x.qCodes fs (k + 1)) = R := by have := Hst.out; simpa only [Bool.not_false, Bool.true_and] using this
  have Hst2 := hide hst
  have hh1 := ho.f.cell 1; have hh2 := ho.f.cell 2; have fl := ho.f.lt
  obtain ⟨bh, oh, Ch, t5, hbh, th⟩ := Hget.out _ ho.h
  have hHl := ho.h.lt
  have Ho := hide ho
  clear ho hst hbo Hst kz Hkz2 Hget HF Ho8
  go_upto_region 16 with fail
  go_cut [9] from 105 to 113 (fun r wx => r = .int .i64 hv ∧ HoV w x.qCodes wr.heap.size H #[.slice (some ⟨bC, oC, none⟩) x.qCodes.length c] #[.slice (some ⟨b, o, none⟩) N c0, .slice A1 tr.length c1, .int .i64 us, .int .i64 cd, .int .i64 vl, .int .i64 md, .slice A6 nt.length c6] #[.int .i64 id, .int .i64 n, .int .i64 p, .slice P3 Pl.length d3, .slice P4 Vr.length d4, .slice P5 Fl.length d5, .int .i64 rs, .int .i64 mo, .int .i64 va, .int .i64 ba, .bool off] wx)
  case first =>
    go_quiet (fail)
    go_wp2
    go_meet
    case rel => exact ⟨rfl, Ho.out.drewN _⟩
  obtain ⟨rfl, ho⟩ := hcut
  clear hh1 hh2 fl t5 hbh th hHl Ho bh oh Ch
  have hv1 : -1 ≤ hv := by have := HLp.out; omega
  have hv2 : hv ≤ 40 := by have := HLp.out; omega
  have v0 := ho.v.cell 0; have vL := ho.v.lt
  have Ho := hide ho; clear ho
  by_cases h2 : k + 1 < N
  case neg =>
    have hn2 : ¬ ((k : Int) + 1 < (N : Int)) := by omega
    have hh3 := Ho.out.f.cell 3; have fl := Ho.out.f.lt
    have HS := hide (show (decide (hv = (Pl.length : Int)) && stackV x.qCodes fs (k + 1)) = R from by rw [← Hst2.out, Hge.out (by have := HNN.out; omega), ST1.out])
    clear Hst2 ST1 ST2 ST3 ST4 ST5 ST6 Hge Hgn Hnext
    by_cases e : hv = (Pl.length : Int)
    · have e1 : ((Pl.length : Int) != (hv)) = false := by rw [e]; simp
      have HR := hide (show stackV x.qCodes fs (k + 1) = R from by have := HS.out; rw [decide_eq_true e, Bool.true_and] at this; exact this)
      clear e HS
      go_wp2_with fail
      go_roundw
      case rel => exact ⟨k + 1, by omega, by go_num, HR.out, Ho.out.h, Ho.out.hol⟩
      case measure => simp [intOf]; omega
    · have e1 : ((Pl.length : Int) != (hv)) = true := by rw [bne_iff_ne]; exact fun h => e h.symm
      have HR := hide (show false = R from by have := HS.out; rw [decide_eq_false e, Bool.false_and] at this; exact this)
      clear e HS
      go_wp2_with fail
      go_ret
      exact ⟨retB HR.out, Ho.out.b⟩
  have hn2 : ((k : Int) + 1 < (N : Int)) := by omega
  have h2' : k + 1 < fs.length := by have := HNN.out; omega
  obtain ⟨E3, g3, E4, g4, E5, g5, hcell2⟩ := Hnext.out h2'
  have hst : (ST (some fs[k + 1]) && stackV x.qCodes fs (k + 1)) = R := by rw [← Hgn.out h2']; exact Hst2.out
  have Hst3 := hide hst
  clear hst Hst2 Hge Hgn Hnext ST1
  generalize fs[k + 1] = a at *
  have SM : ∀ w', HoV w x.qCodes wr.heap.size H #[.slice (some ⟨bC, oC, none⟩) x.qCodes.length c] #[.slice (some ⟨b, o, none⟩) N c0, .slice A1 tr.length c1, .int .i64 us, .int .i64 cd, .int .i64 vl, .int .i64 md, .slice A6 nt.length c6] #[.int .i64 id, .int .i64 n, .int .i64 p, .slice P3 Pl.length d3, .slice P4 Vr.length d4, .slice P5 Fl.length d5, .int .i64 rs, .int .i64 mo, .int .i64 va, .int .i64 ba, .bool off] w' → w'.cell? ⟨w.heap.size, 0, none⟩ = some (.slice (some ⟨bC, oC, none⟩) x.qCodes.length c) ∧ w'.cell? ⟨w.heap.size + 1, 0, none⟩ = some (.slice (some ⟨b, o, none⟩) N c0) ∧ w'.cell? ⟨wr.heap.size, 1, none⟩ = some (.int .i64 n) ∧ w'.cell? ⟨wr.heap.size, 2, none⟩ = some (.int .i64 p) ∧ w'.cell? ⟨bC, oC + n * 5 + 3, none⟩ = some (.slice (some ⟨b3, o3, none⟩) I.length e3) ∧ w'.cell? ⟨b3, o3 + p * 2, none⟩ = some (.int .i64 ot) ∧ w'.cell? ⟨b3, o3 + p * 2 + 1, none⟩ = some (.int .i64 nt') ∧ w'.cell? ⟨b, o + (k + 1) * 11, none⟩ = some (.int .i64 a.qId) ∧ w'.cell? ⟨b, o + (k + 1) * 11 + 1, none⟩ = some (.int .i64 a.qFn) ∧ w'.cell? ⟨b, o + (k + 1) * 11 + 2, none⟩ = some (.int .i64 a.qAt) ∧ w'.cell? ⟨b, o + (k + 1) * 11 + 3, none⟩ = some (.slice E3 a.qPile.length g3) ∧ w'.cell? ⟨b, o + (k + 1) * 11 + 4, none⟩ = some (.slice E4 a.qVars.length g4) ∧ w'.cell? ⟨b, o + (k + 1) * 11 + 5, none⟩ = some (.slice E5 a.qFlags.length g5) ∧ w'.cell? ⟨b, o + (k + 1) * 11 + 6, none⟩ = some (.int .i64 a.qResult) ∧ w'.cell? ⟨b, o + (k + 1) * 11 + 7, none⟩ = some (.int .i64 a.qMode) ∧ w'.cell? ⟨b, o + (k + 1) * 11 + 8, none⟩ = some (.int .i64 a.qValue) ∧ w'.cell? ⟨b, o + (k + 1) * 11 + 9, none⟩ = some (.int .i64 a.qBase) ∧ w'.cell? ⟨b, o + (k + 1) * 11 + 10, none⟩ = some (.bool a.qOff) ∧ HoV w x.qCodes wr.heap.size H #[.slice (some ⟨bC, oC, none⟩) x.qCodes.length c] #[.slice (some ⟨b, o, none⟩) N c0, .slice A1 tr.length c1, .int .i64 us, .int .i64 cd, .int .i64 vl, .int .i64 md, .slice A6 nt.length c6] #[.int .i64 id, .int .i64 n, .int .i64 p, .slice P3 Pl.length d3, .slice P4 Vr.length d4, .slice P5 Fl.length d5, .int .i64 rs, .int .i64 mo, .int .i64 va, .int .i64 ba, .bool off] w' := fun W' h => by
    obtain ⟨x0, x1, x2, x3, x4, x5, x6, x7, x8, x9, x10⟩ := eleven (o := o + (k + 1) * 11) (cells_below hcell2 h.b hbB)
    exact ⟨h.i.cell 0, h.v.cell 0, h.f.cell 1, h.f.cell 2, (h.b.cell (p := ⟨bC, oC + n * 5 + 3, none⟩) hbC).trans D3.out, (h.b.cell (p := ⟨b3, o3 + p * 2, none⟩) hb3B).trans T0.out, (h.b.cell (p := ⟨b3, o3 + p * 2 + 1, none⟩) hb3B).trans T1.out, x0, x1, x2, x3, x4, x5, x6, x7, x8, x9, x10, h⟩
  have HSM := Lib.hid SM
  have hkn : (k : Int) + 1 < (N : Int) := hn2
  have hkn0 : (0 : Int) ≤ (k : Int) + 1 := by omega
  have hwk : IntKind.i64.wrap ((k : Int) + 1) = ((k + 1 : Nat) : Int) := by rw [IntKind.wrap_i64]; omega
  have hkI4 : ((k + 1 : Nat) : Int) < (N : Int) := by omega
  clear SM hcell2
  have Hwk := hide hwk; clear hwk
  go_upto_region 18 with fail
  have hwk := Hwk.out
  go_cut [10, 11] from 120 to 136 (fun u10 u11 wx => ∃ g10 g11 : Nat, u10 = .pointer (some ⟨g10, 0, none⟩) ∧ u11 = .pointer (some ⟨g11, 0, none⟩) ∧ Bk wx g10 84 #[.int .i64 ot, .int .i64 nt'] ∧ Bk wx g11 102 #[.int .i64 a.qId, .int .i64 a.qFn, .int .i64 a.qAt, .slice E3 a.qPile.length g3, .slice E4 a.qVars.length g4, .slice E5 a.qFlags.length g5, .int .i64 a.qResult, .int .i64 a.qMode, .int .i64 a.qValue, .int .i64 a.qBase, .bool a.qOff] ∧ HoV w x.qCodes wr.heap.size H #[.slice (some ⟨bC, oC, none⟩) x.qCodes.length c] #[.slice (some ⟨b, o, none⟩) N c0, .slice A1 tr.length c1, .int .i64 us, .int .i64 cd, .int .i64 vl, .int .i64 md, .slice A6 nt.length c6] #[.int .i64 id, .int .i64 n, .int .i64 p, .slice P3 Pl.length d3, .slice P4 Vr.length d4, .slice P5 Fl.length d5, .int .i64 rs, .int .i64 mo, .int .i64 va, .int .i64 ba, .bool off] wx)
  case first =>
    go_region_held3 (fun w' => w'.cell? ⟨w.heap.size, 0, none⟩ = some (.slice (some ⟨bC, oC, none⟩) x.qCodes.length c) ∧ w'.cell? ⟨w.heap.size + 1, 0, none⟩ = some (.slice (some ⟨b, o, none⟩) N c0) ∧ w'.cell? ⟨wr.heap.size, 1, none⟩ = some (.int .i64 n) ∧ w'.cell? ⟨wr.heap.size, 2, none⟩ = some (.int .i64 p) ∧ w'.cell? ⟨bC, oC + n * 5 + 3, none⟩ = some (.slice (some ⟨b3, o3, none⟩) I.length e3) ∧ w'.cell? ⟨b3, o3 + p * 2, none⟩ = some (.int .i64 ot) ∧ w'.cell? ⟨b3, o3 + p * 2 + 1, none⟩ = some (.int .i64 nt') ∧ w'.cell? ⟨b, o + (k + 1) * 11, none⟩ = some (.int .i64 a.qId) ∧ w'.cell? ⟨b, o + (k + 1) * 11 + 1, none⟩ = some (.int .i64 a.qFn) ∧ w'.cell? ⟨b, o + (k + 1) * 11 + 2, none⟩ = some (.int .i64 a.qAt) ∧ w'.cell? ⟨b, o + (k + 1) * 11 + 3, none⟩ = some (.slice E3 a.qPile.length g3) ∧ w'.cell? ⟨b, o + (k + 1) * 11 + 4, none⟩ = some (.slice E4 a.qVars.length g4) ∧ w'.cell? ⟨b, o + (k + 1) * 11 + 5, none⟩ = some (.slice E5 a.qFlags.length g5) ∧ w'.cell? ⟨b, o + (k + 1) * 11 + 6, none⟩ = some (.int .i64 a.qResult) ∧ w'.cell? ⟨b, o + (k + 1) * 11 + 7, none⟩ = some (.int .i64 a.qMode) ∧ w'.cell? ⟨b, o + (k + 1) * 11 + 8, none⟩ = some (.int .i64 a.qValue) ∧ w'.cell? ⟨b, o + (k + 1) * 11 + 9, none⟩ = some (.int .i64 a.qBase) ∧ w'.cell? ⟨b, o + (k + 1) * 11 + 10, none⟩ = some (.bool a.qOff) ∧ HoV w x.qCodes wr.heap.size H #[.slice (some ⟨bC, oC, none⟩) x.qCodes.length c] #[.slice (some ⟨b, o, none⟩) N c0, .slice A1 tr.length c1, .int .i64 us, .int .i64 cd, .int .i64 vl, .int .i64 md, .slice A6 nt.length c6] #[.int .i64 id, .int .i64 n, .int .i64 p, .slice P3 Pl.length d3, .slice P4 Vr.length d4, .slice P5 Fl.length d5, .int .i64 rs, .int .i64 mo, .int .i64 va, .int .i64 ba, .bool off] w')
      (first
        | with_reducible exact HSM.out _ (HoV.drew Ho.out)
        | with_reducible exact HSM.out _ (HoV.drew (HoV.alloc Ho.out _))
        | with_reducible exact HSM.out _ (HoV.drew (HoV.alloc (HoV.alloc Ho.out _) _)))
      (fail)
    · go_wp2_with fail
      go_meet
      case rel => exact ⟨_, _, rfl, rfl, (two_bk _ _ _ _ _).1, (two_bk _ _ _ _ _).2, ((Ho.out.alloc _).alloc _).drew⟩
    · go_wp2_with fail
      go_meet
      case rel => exact ⟨_, _, rfl, rfl, (two_bk _ _ _ _ _).2, (two_bk _ _ _ _ _).1, ((Ho.out.alloc _).alloc _).drew⟩
  clear hwk
  obtain ⟨g10, g11, rfl, rfl, k10, k11, ho⟩ := hcut
  clear Hwk HSM Ho v0 vL hn2 hkn hkn0 hkI4
  have i0 := ho.i.cell 0; have iL := ho.i.lt
  have y0 := k10.cell 0; have y1 := k10.cell 1; have yl := k10.lt
  have z1 := k11.cell 1; have z10 := k11.cell 10; have zl := k11.lt
  have f1 := ho.f.cell 1; have f3 := ho.f.cell 3; have fl := ho.f.lt
  have hbCw : bC < wc.heap.size := Nat.lt_of_lt_of_le hbC ho.b.size
  have dd2 := (ho.b.cell (p := ⟨bC, oC + n * 5 + 2, none⟩) hbC).trans D2.out
  have Ho := hide ho
  clear k10 k11 ho D2 D3 T0 T1
  obtain ⟨a0, a1, a2, a3, a4, a5, a6, a7, a8, a9, a10⟩ := a
  dsimp only at *
  by_cases o7 : ot = 7
  · subst o7
    have hmn : nt' < (x.qCodes.length : Int) := of_decide_eq_true (named_call.symm.trans Hnm.out)
    have hm0 := (inB_iff.1 (show inB nt' 0 1000000 = true from (insOk_n (by decide) (by decide) rfl).symm.trans Hins.out)).1
    obtain ⟨m, rfl⟩ := Int.eq_ofNat_of_zero_le hm0
    have hmX : m < x.qCodes.length := by omega
    obtain ⟨pc1, pc2, pc3, pc4⟩ := Hpc.out m hmX
    have pcw := (Ho.out.b.cell (p := ⟨bC, oC + m * 5, none⟩) hbC).trans pc1
    clear Hnm Hins pc1
    by_cases e1 : a1 = (m : Int)
    · cases a10
      · have hq := ST2.out ⟨a0, a1, a2, a3, a4, a5, a6, a7, a8, a9, false⟩ rfl e1 rfl
        rw [pc2] at hq
        have HS := hide (show (decide (hv - x.qCodes[m].qParams = (Pl.length : Int)) && stackV x.qCodes fs (k + 1)) = R from by rw [← Hst3.out, hq])
        subst e1
        clear hq pc2 Hst3 ST2 ST3 ST4 ST5 ST6 Hpc
        generalize x.qCodes[m].qParams = prm at *
        by_cases e : hv - prm = (Pl.length : Int)
        · have e1 : ((Pl.length : Int) != (hv - prm)) = false := by rw [e]; simp
          have HR := hide (show stackV x.qCodes fs (k + 1) = R from by have := HS.out; rw [decide_eq_true e, Bool.true_and] at this; exact this)
          clear e HS
          go_wp2_with fail
          go_roundw
          case rel => exact ⟨k + 1, by omega, by go_num, HR.out, Ho.out.h, Ho.out.hol⟩
          case measure => simp [intOf]; omega
        · have e1 : ((Pl.length : Int) != (hv - prm)) = true := by rw [bne_iff_ne]; exact fun h => e h.symm
          have HR := hide (show false = R from by have := HS.out; rw [decide_eq_false e, Bool.false_and] at this; exact this)
          clear e HS
          go_wp2_with fail
          go_ret
          exact ⟨retB HR.out, Ho.out.b⟩
      · have HR := hide (show false = R from by rw [← Hst3.out, ST3.out ⟨a0, a1, a2, a3, a4, a5, a6, a7, a8, a9, true⟩ rfl (by simp)]; rfl)
        clear pc2 pc3 pc4 Hst3 ST2 ST3 ST4 ST5 ST6 Hpc e1
        go_wp2_with fail
        go_quiet (fail)
        go_wp2
        go_ret
        exact ⟨retB HR.out, below_drewN Ho.out.b _⟩
    · have HR := hide (show false = R from by rw [← Hst3.out, ST3.out ⟨a0, a1, a2, a3, a4, a5, a6, a7, a8, a9, a10⟩ rfl (fun h => e1 h.1)]; rfl)
      have q1 : ((m : Int) == a1) = false := beq_eq_false_iff_ne.2 (fun h => e1 h.symm)
      clear pc2 pc3 pc4 Hst3 ST2 ST3 ST4 ST5 ST6 Hpc e1
      cases a10
      all_goals
        go_wp2_with fail
        go_quiet (fail)
        go_wp2
        go_ret
        exact ⟨retB HR.out, below_drewN Ho.out.b _⟩
  have b7 : (ot == 7) = false := beq_eq_false_iff_ne.2 o7
  clear Hpc ST2 ST3
  by_cases o17 : ot = 17
  · subst o17
    have hn0' := (inB_iff.1 (show inB nt' 0 1000000 = true from (insOk_n (by decide) (by decide) rfl).symm.trans Hins.out)).1
    have hn1' : nt' < (Si.length : Int) := of_decide_eq_true ((named_site (.inr rfl)).symm.trans Hnm.out)
    obtain ⟨s, rfl⟩ := Int.eq_ofNat_of_zero_le hn0'
    have hsS : s < Si.length := by omega
    obtain ⟨b2, o2, eb2, hb2B, ts⟩ := HSi.out.at_ (j := s) (by rw [icells_length]; exact hsS)
    rw [icells_get _ _ hsS] at ts
    subst eb2
    have ts2 := (Ho.out.b.cell (p := ⟨b2, o2 + s, none⟩) hb2B).trans ts
    have b2w : b2 < wc.heap.size := Nat.lt_of_lt_of_le hb2B Ho.out.b.size
    have st4 := fun ha ho => ST4.out ⟨a0, a1, a2, a3, a4, a5, a6, a7, a8, a9, a10⟩ rfl s rfl hsS ha ho
    have st5 := fun ha => ST5.out ⟨a0, a1, a2, a3, a4, a5, a6, a7, a8, a9, a10⟩ rfl s rfl hsS ha
    have st4' := Lib.hid st4; have st5' := Lib.hid st5
    clear st4 st5 ts Hnm Hins ST4 ST5 ST6 HSi b7
    generalize Si[s] = sv at *
    by_cases e1 : a1 = sv
    · cases a10
      · have HR := hide (show false = R from by rw [← Hst3.out, st5'.out (by simp)]; rfl)
        clear e1 o7 st4' st5' Hst3
        go_wp2_with fail
        go_quiet (fail)
        go_wp2
        go_ret
        exact ⟨retB HR.out, below_drewN Ho.out.b _⟩
      · have HS := hide (show (decide (hv = (Pl.length : Int)) && stackV x.qCodes fs (k + 1)) = R from by rw [← Hst3.out, st4'.out e1 rfl])
        have q1 : (sv != a1) = false := by rw [e1]; simp
        clear e1 o7 st4' st5' Hst3
        go_upto_region 21 with fail
        go_cut [162] from 163 to 186 (fun r wx => r = .bool false ∧ HoV w x.qCodes wr.heap.size H #[.slice (some ⟨bC, oC, none⟩) x.qCodes.length c] #[.slice (some ⟨b, o, none⟩) N c0, .slice A1 tr.length c1, .int .i64 us, .int .i64 cd, .int .i64 vl, .int .i64 md, .slice A6 nt.length c6] #[.int .i64 id, .int .i64 n, .int .i64 p, .slice P3 Pl.length d3, .slice P4 Vr.length d4, .slice P5 Fl.length d5, .int .i64 rs, .int .i64 mo, .int .i64 va, .int .i64 ba, .bool off] wx)
        case first =>
          go_quiet (fail)
          go_wp2
          go_meet
          case rel => exact ⟨rfl, Ho.out.drewN _⟩
        obtain ⟨rfl, ho⟩ := hcut
        clear i0 iL y0 y1 yl z1 z10 zl f1 f3 fl hbCw dd2 ts2 b2w Ho
        have f3 := ho.f.cell 3; have fl := ho.f.lt
        have Ho := hide ho; clear ho
        by_cases e : hv = (Pl.length : Int)
        · have e1 : ((Pl.length : Int) != (hv)) = false := by rw [e]; simp
          have HR := hide (show stackV x.qCodes fs (k + 1) = R from by have := HS.out; rw [decide_eq_true e, Bool.true_and] at this; exact this)
          clear e HS
          go_wp2_with fail
          go_roundw
          case rel => exact ⟨k + 1, by omega, by go_num, HR.out, Ho.out.h, Ho.out.hol⟩
          case measure => simp [intOf]; omega
        · have e1 : ((Pl.length : Int) != (hv)) = true := by rw [bne_iff_ne]; exact fun h => e h.symm
          have HR := hide (show false = R from by have := HS.out; rw [decide_eq_false e, Bool.false_and] at this; exact this)
          clear e HS
          go_wp2_with fail
          go_ret
          exact ⟨retB HR.out, Ho.out.b⟩
    · have HR := hide (show false = R from by rw [← Hst3.out, st5'.out (fun h => e1 h.1)]; rfl)
      have q1 : (sv != a1) = true := bne_iff_ne.2 (fun h => e1 h.symm)
      clear e1 o7 st4' st5' Hst3
      cases a10
      all_goals
        go_wp2_with fail
        go_quiet (fail)
        go_wp2
        go_ret
        exact ⟨retB HR.out, below_drewN Ho.out.b _⟩
  · have b17 : (ot != 17) = true := bne_iff_ne.2 o17
    have HR := hide (show false = R from by rw [← Hst3.out, ST6.out ⟨a0, a1, a2, a3, a4, a5, a6, a7, a8, a9, a10⟩ o7 o17]; rfl)
    clear o7 o17 Hst3 ST4 ST5 ST6
    go_wp2_with fail
    go_quiet (fail)
    go_wp2
    go_ret
    exact ⟨retB HR.out, below_drewN Ho.out.b _⟩
end Go.Proofs.YtaebmliolpgmdaaGreat
set_option linter.unusedSimpArgs false
set_option linter.unusedVariables false
set_option maxRecDepth 100000
namespace Go.Proofs.YtaebmliolpgmdaaGreat
open Go.RowKit Go.Shelf

noncomputable def gvB (x : ImageM) (v : VmM) : Bool := imgB x.qCodes && vmB x.qCodes v
theorem gvB_no {x : ImageM} {v : VmM} (h : imgB x.qCodes = false) : gvB x v = false := by unfold gvB; rw [h]; rfl
theorem gvB_yes {x : ImageM} {v : VmM} (h : imgB x.qCodes = true) : gvB x v = vmB x.qCodes v := by unfold gvB; rw [h]; rfl
set_option maxHeartbeats 1600000 in
theorem spec_GoodVm (xs vs : List Value) (x : ImageM) (v : VmM) (w : World) (hx : RImage w 0 w.heap.size xs x) (hv : RVm w 0 w.heap.size vs v) :
    Calls Tryz.prog 15 #[.agg xs.toArray, .agg vs.toArray] w fun e w' => e = .returned (.bool (gvB x v)) ∧ Below w.heap.size w w' := by
  have hx0 := hx; have hv0 := hv
  obtain ⟨v0, rfl, h0⟩ := hx
  obtain ⟨A, c, rfl⟩ := h0.form
  obtain ⟨v0, v1, v6, rfl, k0, k1, k6⟩ := hv
  obtain ⟨A0, c0, rfl⟩ := k0.form; obtain ⟨A1, c1, rfl⟩ := k1.form; obtain ⟨A6, c6, rfl⟩ := k6.form
  have hol0 := Hol.start w #[.slice A x.qCodes.length c] #[.slice A0 v.qFrames.length c0, .slice A1 v.qTrace.length c1, .int .i64 v.qUsed, .int .i64 v.qCode, .int .i64 v.qValue, .int .i64 v.qMade, .slice A6 v.qNotes.length c6]
  have hI := fun W (hW : Below w.heap.size w W) => spec_GoodImage _ x W (RImage_stable.here hx0 hW)
  have hno := @gvB_no x v; have hyes := @gvB_yes x v
  generalize gvB x v = R at *
  cases hi : imgB x.qCodes
  · have HR := hide (hno hi)
    simp only [hi] at hI
    have HI := Lib.hid hI; have Hol0 := hide hol0
    clear hI hol0 hno hyes hi hx0 hv0 h0 k0 k1 k6
    go_enter Tryz.func15, Tryz.ntmps15
    go_wp2_with (go_at_call 31; refine (HI.out _ Hol0.out.b).mono ?_; rintro e w1 ⟨rfl, hb1⟩; have Hol1 := hide (Hol0.out.below hb1); clear hb1)
    go_ret
    exact ⟨retB HR.out.symm, Hol1.out.b⟩
  · obtain ⟨hs, hall⟩ := imgB_all hi
    have hV := fun W (hW : Below w.heap.size w W) => spec_l8Good _ _ x v W (RImage_stable.here hx0 hW) (RVm_stable.here hv0 hW) hs hall
    have HR := hide (hyes hi)
    simp only [hi] at hI
    have HI := Lib.hid hI; have Hol0 := hide hol0; have HV := Lib.hid hV
    clear hI hV hol0 hno hyes hi hx0 hv0 h0 k0 k1 k6 hs hall
    go_enter Tryz.func15, Tryz.ntmps15
    go_wp2_with (first
      | (go_at_call 31; refine (HI.out _ Hol0.out.b).mono ?_; rintro e w1 ⟨rfl, hb1⟩; have Hol1 := hide (Hol0.out.below hb1); have i0 := Hol1.out.i.cell 0; have iL := Hol1.out.i.lt; have v0 := Hol1.out.v.cell 0; have v1 := Hol1.out.v.cell 1; have v2 := Hol1.out.v.cell 2; have v3 := Hol1.out.v.cell 3; have v4 := Hol1.out.v.cell 4; have v5 := Hol1.out.v.cell 5; have v6 := Hol1.out.v.cell 6; have vL := Hol1.out.v.lt; clear hb1)
      | (go_at_call 32; refine (HV.out _ Hol1.out.b).mono ?_; rintro e w2 ⟨rfl, hb2⟩; have Hb2 := hide (Hol1.out.b.trans (hb2.mono Hol1.out.b.size)); clear hb2))
    go_ret
    exact ⟨retB HR.out.symm, Hb2.out⟩
set_option maxHeartbeats 1600000 in
theorem impl_GoodVm (xs vs : List Value) (x : ImageM) (v : VmM) (w : World) (hx : RImage w 0 w.heap.size xs x) (hv : RVm w 0 w.heap.size vs v) :
    Calls Tryz.prog 17 #[.agg xs.toArray, .agg vs.toArray] w fun e w' => e = .returned (.bool (gvB x v)) ∧ Below w.heap.size w w' := by
  have hx0 := hx; have hv0 := hv
  obtain ⟨v0, rfl, h0⟩ := hx
  obtain ⟨A, c, rfl⟩ := h0.form
  obtain ⟨v0, v1, v6, rfl, k0, k1, k6⟩ := hv
  obtain ⟨A0, c0, rfl⟩ := k0.form; obtain ⟨A1, c1, rfl⟩ := k1.form; obtain ⟨A6, c6, rfl⟩ := k6.form
  have hol0 := Hol.start w #[.slice A x.qCodes.length c] #[.slice A0 v.qFrames.length c0, .slice A1 v.qTrace.length c1, .int .i64 v.qUsed, .int .i64 v.qCode, .int .i64 v.qValue, .int .i64 v.qMade, .slice A6 v.qNotes.length c6]
  have hI := fun W (hW : Below w.heap.size w W) => impl_isImage _ x W (RImage_stable.here hx0 hW)
  have hno := @gvB_no x v; have hyes := @gvB_yes x v
  generalize gvB x v = R at *
  cases hi : imgB x.qCodes
  · have HR := hide (hno hi)
    simp only [hi] at hI
    have HI := Lib.hid hI; have Hol0 := hide hol0
    clear hI hol0 hno hyes hi hx0 hv0 h0 k0 k1 k6
    go_enter Tryz.func17, Tryz.ntmps17
    go_wp2_with (go_at_call 36; refine (HI.out _ Hol0.out.b).mono ?_; rintro e w1 ⟨rfl, hb1⟩; have Hol1 := hide (Hol0.out.below hb1); clear hb1)
    go_ret
    exact ⟨retB HR.out.symm, Hol1.out.b⟩
  · obtain ⟨hs, hall⟩ := imgB_all hi
    have hV := fun W (hW : Below w.heap.size w W) => impl_isVm _ _ x v W (RImage_stable.here hx0 hW) (RVm_stable.here hv0 hW) hs hall
    have HR := hide (hyes hi)
    simp only [hi] at hI
    have HI := Lib.hid hI; have Hol0 := hide hol0; have HV := Lib.hid hV
    clear hI hV hol0 hno hyes hi hx0 hv0 h0 k0 k1 k6 hs hall
    go_enter Tryz.func17, Tryz.ntmps17
    go_wp2_with (first
      | (go_at_call 36; refine (HI.out _ Hol0.out.b).mono ?_; rintro e w1 ⟨rfl, hb1⟩; have Hol1 := hide (Hol0.out.below hb1); have i0 := Hol1.out.i.cell 0; have iL := Hol1.out.i.lt; have v0 := Hol1.out.v.cell 0; have v1 := Hol1.out.v.cell 1; have v2 := Hol1.out.v.cell 2; have v3 := Hol1.out.v.cell 3; have v4 := Hol1.out.v.cell 4; have v5 := Hol1.out.v.cell 5; have v6 := Hol1.out.v.cell 6; have vL := Hol1.out.v.lt; clear hb1)
      | (go_at_call 37; refine (HV.out _ Hol1.out.b).mono ?_; rintro e w2 ⟨rfl, hb2⟩; have Hb2 := hide (Hol1.out.b.trans (hb2.mono Hol1.out.b.size)); clear hb2))
    go_ret
    exact ⟨retB HR.out.symm, Hb2.out⟩
end Go.Proofs.YtaebmliolpgmdaaGreat
