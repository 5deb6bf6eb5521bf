
/- l8FrameGood of a frame that is as said: what the Go text returns. No condition. -/
import Derived.Test.YtaebmliolpgmdaaGreatGvP
import Derived.Deep.Cut
import Derived.Deep.CutRange
import Derived.Deep.QuietTactic
import Derived.BigQuiet
set_option linter.unusedSimpArgs false
set_option linter.unusedVariables false
set_option maxRecDepth 100000
namespace Go.Proofs.YtaebmliolpgmdaaGreat
open Go.RowKit Go.Shelf

theorem codeN_hts {l : List CodeM} {c : CodeM} (h : codeN l c = 0) : ∃ hs, HInv (waysOf l c) hs [] := by
  by_cases hex : ∃ hs, HInv (waysOf l c) hs []
  · exact hex
  · exfalso
    have hn : (waysOf l c).heights = none := by unfold Ways.heights; rw [dif_neg hex]
    cases h1 : c.qIns.all (namedI l.length c)
    · rw [codeN_1 h1] at h; omega
    cases h2 : c.qSites.all (siteI l)
    · rw [codeN_2 h1 h2] at h; omega
    cases h3 : goesL c.qIns.length 0 c.qIns
    · rw [codeN_3 h1 h2 h3] at h; omega
    cases h4 : rowsOk c.qIns.length 0 c.qRows
    · rw [codeN_4 h1 h2 h3 h4] at h; omega
    have : codeN l c = 5 := by
      unfold codeN; rw [if_neg (by rw [h1]; simp), if_neg (by rw [h2]; simp), if_neg (by rw [h3]; simp), if_neg (by rw [h4]; simp), hn]
    omega
theorem hts_len {l : List CodeM} {c : CodeM} (h : codeN l c = 0) : (htsOf l c).length = c.qIns.length ∧ ∀ a, lab (htsOf l c) a = -1 ∨ (0 ≤ lab (htsOf l c) a ∧ lab (htsOf l c) a ≤ 40) := by
  obtain ⟨hs, hi⟩ := codeN_hts h
  rw [hts_eq hi]
  exact ⟨hi.1, hi.2.2.2.1⟩
theorem hts_cell {w : World} {base : Nat} {v : Value} {L : List Int} {N p : Nat} (ho : w.ownsRow base 3 1 v L.length (icells .i64 L)) (hl : L.length = N) (hp : p < N) :
    ∃ bh oh Ch, v = .slice (some ⟨bh, oh, none⟩) L.length Ch ∧ bh < w.heap.size ∧ w.cell? ⟨bh, oh + p, none⟩ = some (.int .i64 (lab L p)) := by
  obtain ⟨Ah, Ch, rfl⟩ := own_form ho
  have hk : p < L.length := by omega
  obtain ⟨bh, oh, eh, hbh, th⟩ := (Rd.of_own ho).at_ (j := p) (by rw [icells_length]; exact hk)
  rw [icells_get _ _ hk, ← lab_in hk] at th
  subst eh
  exact ⟨bh, oh, Ch, rfl, hbh, th⟩
theorem bk_f2 {w : World} {g : Nat} {t : TypeId} {a b c d e f h i j k l : Value} (hk : Bk w g t #[a, b, c, d, e, f, h, i, j, k, l]) : w.cell? ⟨g, 1, none⟩ = some b ∧ w.cell? ⟨g, 2, none⟩ = some c ∧ w.cell? ⟨g, 3, none⟩ = some d ∧ w.cell? ⟨g, 10, none⟩ = some l ∧ g < w.heap.size := ⟨hk.cell 1, hk.cell 2, hk.cell 3, hk.cell 10, hk.lt⟩
theorem bk_c5 {w : World} {g : Nat} {t : TypeId} {a b c d e : Value} (hk : Bk w g t #[a, b, c, d, e]) : w.cell? ⟨g, 0, none⟩ = some a ∧ w.cell? ⟨g, 1, none⟩ = some b ∧ w.cell? ⟨g, 2, none⟩ = some c ∧ w.cell? ⟨g, 3, none⟩ = some d ∧ w.cell? ⟨g, 4, none⟩ = some e ∧ g < w.heap.size := ⟨hk.cell 0, hk.cell 1, hk.cell 2, hk.cell 3, hk.cell 4, hk.lt⟩
set_option maxHeartbeats 64000000 in
theorem spec_frame_yes (xs fs us : List Value) (x : ImageM) (f a : FrameM) (last : Bool) (w : World) (hx : RImage w 0 w.heap.size xs x) (hf : RFrame w 0 w.heap.size fs f) (ha : RFrame w 0 w.heap.size us a) (hs : sizedB x.qCodes = true) (hall : ∀ c ∈ x.qCodes, codeN x.qCodes c = 0) (hok : frB x.qCodes f = true) :
    Calls Tryz.prog 64 #[.agg xs.toArray, .agg fs.toArray, .agg us.toArray, .bool last] w fun e w' => e = .returned (.bool (stepB x.qCodes f (if last then none else some a))) ∧ Below w.heap.size w w' := by
  have hx0 := hx
  obtain ⟨v0, rfl, h0⟩ := hx
  have hl := h0.long
  obtain ⟨A, c, rfl⟩ := h0.form
  obtain ⟨v3, v4, v5, rfl, f3, f4, f5⟩ := hf
  obtain ⟨A3, c3, rfl⟩ := f3.form; obtain ⟨A4, c4, rfl⟩ := f4.form; obtain ⟨A5, c5, rfl⟩ := f5.form
  obtain ⟨v3, v4, v5, rfl, k3, k4, k5⟩ := ha
  obtain ⟨E3, g3, rfl⟩ := k3.form; obtain ⟨E4, g4, rfl⟩ := k4.form; obtain ⟨E5, g5, rfl⟩ := k5.form
  clear k3 k4 k5
  obtain ⟨q0, q1, q2, q3, q4, q5, q6, q7, q8, q9, q10⟩ := frB_iff hok
  clear hok
  obtain ⟨n, hfn, hn⟩ := in_nat q0
  rw [cF_at hfn hn] at q2 q5 q6
  obtain ⟨p, hpl, hp⟩ := in_nat q2
  have hcode := hall _ (List.getElem_mem hn)
  obtain ⟨hF, hg⟩ := codeN_zero hs (List.getElem_mem hn) hcode
  obtain ⟨hLl, hLb⟩ := hts_len hcode
  have hnm := List.all_eq_true.1 (codeN_named hcode)
  have st_last := stepB_last (f := f) hfn hn hpl
  have st_call := fun (a : FrameM) => stepB_call (a := a) hfn hn hpl hp
  have st_callno := fun (a : FrameM) => stepB_callno (a := a) hfn hn hpl hp
  have st_off := fun (a : FrameM) h7 (s : Nat) hs hsl ha ho => stepB_off hfn hn hpl hp (a := a) h7 (s := s) hs hsl ha ho
  have st_offno := fun (a : FrameM) h7 (s : Nat) hs hsl ha => stepB_offno hfn hn hpl hp (a := a) h7 (s := s) hs hsl ha
  have st_other := fun (a : FrameM) => stepB_other (a := a) hfn hn hpl hp
  have hLp := hLb p
  obtain ⟨b, o, B2, e2, B3, e3, B4, e4, e9, hbB, d0, d1, d2, d3, d4, hc⟩ := RCode_lit h0 hn
  subst e9
  have hT := fun W (hW : Below w.heap.size w W) => spec_l5Takes _ x x.qCodes[n].qIns[p].o x.qCodes[n].qIns[p].n W (RImage_stable.here hx0 hW) (insOk_bd (hF.ins p hp)) (hF.tk p hp)
  have hHt := fun W (hW : Below w.heap.size w W) => spec_l5Heights_good _ _ x x.qCodes[n] W (htsOf x.qCodes x.qCodes[n]) (RImage_stable.here hx0 hW) (RCode_stable.here hc hW) hF hg (fun hs hi => hts_eq hi)
  have htb := hF.tb p hp
  have htk := hF.tk p hp
  have hno := insOk_bd (hF.ins p hp)
  have hnmp := hnm _ (List.getElem_mem hp)
  have hins := hF.ins p hp
  obtain ⟨_, _, _, ey, x2, x3, x4⟩ := hc
  cases ey
  have hIn := x3.rd; have hSi := x2.rd
  have hlI := x3.long
  have hP := fun W (hW : Below w.heap.size w W) => spec_l8Bounds _ f.qPile W _ (f3.here hW).rd
  have hV := fun W (hW : Below w.heap.size w W) => spec_l8Bounds _ f.qVars W _ (f4.here hW).rd
  have hwF := fun w => spec_l1In f.qFn 0 (x.qCodes.length - 1) w
  have hwM := fun w => spec_l1In f.qMode 0 3 w
  have hsI := fun w => spec_l2Bound f.qId w
  have hsR := fun w => spec_l2Bound f.qResult w
  have hsU := fun w => spec_l2Bound f.qValue w
  have hwA := fun w => spec_l1In f.qAt 0 (x.qCodes[n].qIns.length - 1) w
  simp only [q0, q1, q2, q3, q4, q7, q8, q9] at hP hV hwF hwM hsI hsR hsU hwA
  have hlP := f3.long
  generalize stepB x.qCodes f = ST at *
  clear q0 q1 q2 q3 q4 q7 q8 q9 f3 f4 f5 x2 x3 x4 hx0 h0 hall hs hcode hF hg hnm hLb
  generalize hLL : htsOf x.qCodes x.qCodes[n] = L at *
  clear hLL
  generalize takes x.qCodes = TK at *
  generalize puts = PU at *
  generalize x.qCodes[n] = m at *
  obtain ⟨p0, p1, S, I, Q⟩ := m
  obtain ⟨id, fn, pl, P, V, F, rs, md, vl, bs, off⟩ := f
  obtain ⟨a0, a1, a2, a3, a4, a5, a6, a7, a8, a9, a10⟩ := a
  dsimp only at *
  subst hfn hpl
  have hb3 := (((Below.refl w.heap.size w).alloc (Nat.le_refl _) (.cells #[.slice (some ⟨b, o, none⟩) x.qCodes.length c] 31)).alloc (by simp) (.cells #[.int .i64 id, .int .i64 n, .int .i64 p, .slice A3 P.length c3, .slice A4 V.length c4, .slice A5 F.length c5, .int .i64 rs, .int .i64 md, .int .i64 vl, .int .i64 bs, .bool off] 102)).alloc (by simp; omega) (.cells #[.int .i64 a0, .int .i64 a1, .int .i64 a2, .slice E3 a3.length g3, .slice E4 a4.length g4, .slice E5 a5.length g5, .int .i64 a6, .int .i64 a7, .int .i64 a8, .int .i64 a9, .bool a10] 102)
  have s0 := (hb3.cell (p := ⟨b, o + n * 5, none⟩) hbB).trans d0
  have s1 := (hb3.cell (p := ⟨b, o + n * 5 + 1, none⟩) hbB).trans d1
  have s2 := (hb3.cell (p := ⟨b, o + n * 5 + 2, none⟩) hbB).trans d2
  have s3 := (hb3.cell (p := ⟨b, o + n * 5 + 3, none⟩) hbB).trans d3
  have s4 := (hb3.cell (p := ⟨b, o + n * 5 + 4, none⟩) hbB).trans d4
  have hb4 := hb3.alloc (by simp; omega) (.cells #[.int .i64 p0, .int .i64 p1, .slice B2 S.length e2, .slice B3 I.length e3, .slice B4 Q.length e4] 58)
  have hk1 := (((Bk.new w 31 #[.slice (some ⟨b, o, none⟩) x.qCodes.length c]).alloc (.cells #[.int .i64 id, .int .i64 n, .int .i64 p, .slice A3 P.length c3, .slice A4 V.length c4, .slice A5 F.length c5, .int .i64 rs, .int .i64 md, .int .i64 vl, .int .i64 bs, .bool off] 102)).alloc (.cells #[.int .i64 a0, .int .i64 a1, .int .i64 a2, .slice E3 a3.length g3, .slice E4 a4.length g4, .slice E5 a5.length g5, .int .i64 a6, .int .i64 a7, .int .i64 a8, .int .i64 a9, .bool a10] 102)).alloc (.cells #[.int .i64 p0, .int .i64 p1, .slice B2 S.length e2, .slice B3 I.length e3, .slice B4 Q.length e4] 58)
  have hk2 := ((Bk.new (w.alloc (.cells #[.slice (some ⟨b, o, none⟩) x.qCodes.length c] 31)) 102 #[.int .i64 id, .int .i64 n, .int .i64 p, .slice A3 P.length c3, .slice A4 V.length c4, .slice A5 F.length c5, .int .i64 rs, .int .i64 md, .int .i64 vl, .int .i64 bs, .bool off]).alloc (.cells #[.int .i64 a0, .int .i64 a1, .int .i64 a2, .slice E3 a3.length g3, .slice E4 a4.length g4, .slice E5 a5.length g5, .int .i64 a6, .int .i64 a7, .int .i64 a8, .int .i64 a9, .bool a10] 102)).alloc (.cells #[.int .i64 p0, .int .i64 p1, .slice B2 S.length e2, .slice B3 I.length e3, .slice B4 Q.length e4] 58)
  have hk3 := (Bk.new ((w.alloc (.cells #[.slice (some ⟨b, o, none⟩) x.qCodes.length c] 31)).alloc (.cells #[.int .i64 id, .int .i64 n, .int .i64 p, .slice A3 P.length c3, .slice A4 V.length c4, .slice A5 F.length c5, .int .i64 rs, .int .i64 md, .int .i64 vl, .int .i64 bs, .bool off] 102)) 102 #[.int .i64 a0, .int .i64 a1, .int .i64 a2, .slice E3 a3.length g3, .slice E4 a4.length g4, .slice E5 a5.length g5, .int .i64 a6, .int .i64 a7, .int .i64 a8, .int .i64 a9, .bool a10]).alloc (.cells #[.int .i64 p0, .int .i64 p1, .slice B2 S.length e2, .slice B3 I.length e3, .slice B4 Q.length e4] 58)
  have hk4 := Bk.new (((w.alloc (.cells #[.slice (some ⟨b, o, none⟩) x.qCodes.length c] 31)).alloc (.cells #[.int .i64 id, .int .i64 n, .int .i64 p, .slice A3 P.length c3, .slice A4 V.length c4, .slice A5 F.length c5, .int .i64 rs, .int .i64 md, .int .i64 vl, .int .i64 bs, .bool off] 102)).alloc (.cells #[.int .i64 a0, .int .i64 a1, .int .i64 a2, .slice E3 a3.length g3, .slice E4 a4.length g4, .slice E5 a5.length g5, .int .i64 a6, .int .i64 a7, .int .i64 a8, .int .i64 a9, .bool a10] 102)) 58 #[.int .i64 p0, .int .i64 p1, .slice B2 S.length e2, .slice B3 I.length e3, .slice B4 Q.length e4]
  simp only [World.size_alloc] at hk2 hk3 hk4
  have hnI : (n : Int) < (x.qCodes.length : Int) := by omega
  have hn0 : (0 : Int) ≤ (n : Int) := by omega
  have hpI : (p : Int) < (I.length : Int) := by have h : p < I.length := hp; omega
  have hpL : (p : Int) < (L.length : Int) := by have h : L.length = I.length := hLl; omega
  have hp0 : (0 : Int) ≤ (p : Int) := by omega
  obtain ⟨b3, o3, e3', hb3B, t0, t1⟩ := hIn.two hp
  subst e3'
  generalize I[p] = t at *
  obtain ⟨ot, nt⟩ := t
  dsimp only at *
  have qLV : ((V.length : Int) != p1) = false := by rw [q5]; simp
  have qLF : ((F.length : Int) != (S.length : Int)) = false := by rw [q6]; simp
  have Hq10 := hide q10; have HpL := hide hLl; have Hp := hide hp
  have Hb3 := hide hb3; have Hb4 := hide hb4; have Hk1 := hide hk1; have Hk2 := hide hk2; have Hk3 := hide hk3; have Hk4 := hide hk4
  have HT := Lib.hid hT; have HHt := Lib.hid hHt; have HP := Lib.hid hP; have HV := Lib.hid hV; have HwF := Lib.hid hwF; have HwM := Lib.hid hwM; have HsI := Lib.hid hsI; have HsR := Lib.hid hsR; have HsU := Lib.hid hsU; have HwA := Lib.hid hwA
  have ST1 := hide st_last; have ST2 := Lib.hid st_call; have ST3 := Lib.hid st_callno; have ST4 := Lib.hid st_off; have ST5 := Lib.hid st_offno; have ST6 := Lib.hid st_other
  have HSi := hide hSi; have Hnm := hide hnmp; have Hins := hide hins; have Htb := hide htb; have Htk := Lib.hid htk; have Hno := hide hno; have HLp := hide hLp
  have T0 := hide t0; have T1 := hide t1
  clear hT hHt hP hV hwF hwM hsI hsR hsU hwA st_last st_call st_callno st_off st_offno st_other hSi hnmp hins htb htk hno hLp hIn hp hn hLl q5 q6 q10 hb3 hb4 hk1 hk2 hk3 hk4 d0 d1 d2 d3 d4 t0 t1
  go_enter Tryz.func64, Tryz.ntmps64
  go_upto_region 1 with fail
  go_cut [56] from 15 to 56 (fun r wx => r = .bool false ∧ wx = (((w.alloc (.cells #[.slice (some ⟨b, o, none⟩) x.qCodes.length c] 31)).alloc (.cells #[.int .i64 id, .int .i64 n, .int .i64 p, .slice A3 P.length c3, .slice A4 V.length c4, .slice A5 F.length c5, .int .i64 rs, .int .i64 md, .int .i64 vl, .int .i64 bs, .bool off] 102)).alloc (.cells #[.int .i64 a0, .int .i64 a1, .int .i64 a2, .slice E3 a3.length g3, .slice E4 a4.length g4, .slice E5 a5.length g5, .int .i64 a6, .int .i64 a7, .int .i64 a8, .int .i64 a9, .bool a10] 102)))
  case first =>
    obtain rfl | rfl := Hq10.out
    all_goals
      go_wp2_with (first
        | (go_at_call_of 42 (Value.int .i64 n); refine (HwF.out _).mono ?_; rintro e w1 ⟨rfl, rfl⟩)
        | (go_at_call_of 62 (Value.int .i64 id); refine (HsI.out _).mono ?_; rintro e w1 ⟨rfl, rfl⟩)
        | (go_at_call_of 62 (Value.int .i64 rs); refine (HsR.out _).mono ?_; rintro e w1 ⟨rfl, rfl⟩)
        | (go_at_call_of 62 (Value.int .i64 vl); refine (HsU.out _).mono ?_; rintro e w1 ⟨rfl, rfl⟩)
        | (go_at_call_of 42 (Value.int .i64 md); refine (HwM.out _).mono ?_; rintro e w1 ⟨rfl, rfl⟩))
      go_meet
      case rel => exact ⟨rfl, rfl⟩
  obtain ⟨rfl, rfl⟩ := hcut
  go_upto_region 6 with (first
    | (go_at_call_of 42 (Value.int .i64 p); refine (HwA.out _).mono ?_; rintro e w1 ⟨rfl, rfl⟩)
    | (go_at_call_of 63 (Value.slice A4 V.length c4); refine (HV.out _ (by exact Hb4.out)).mono ?_; rintro e w5 ⟨rfl, rfl⟩)
    | (go_at_call_of 63 (Value.slice A3 P.length c3); refine (HP.out _ (by exact Hb4.out)).mono ?_; rintro e w4 ⟨rfl, rfl⟩))
  go_upto_region 8 with (go_at_call 21; refine (HHt.out _ (by exact Hb4.out)).mono ?_; rintro e w1 ⟨v, rfl, hown, hb1⟩; obtain ⟨bh, oh, Ch, rfl, hbh, th⟩ := hts_cell hown HpL.out Hp.out; have Hb5 := hide (Hb4.out.trans (hb1.mono Hb4.out.size)); have Hk1a := hide (Hk1.out.below hb1); have Hk2a := hide (Hk2.out.below hb1); have Hk3a := hide (Hk3.out.below hb1); have Hk4a := hide (Hk4.out.below hb1); obtain ⟨y1, y2, y3, y10, yl⟩ := bk_f2 Hk2a.out; obtain ⟨z0, z1, z2, z3, z4, zl⟩ := bk_c5 Hk4a.out; have i0 := (Hb5.out.cell (p := ⟨b3, o3 + p * 2, none⟩) hb3B).trans T0.out; have i1 := (Hb5.out.cell (p := ⟨b3, o3 + p * 2 + 1, none⟩) hb3B).trans T1.out; have b3w := Nat.lt_of_lt_of_le hb3B Hb5.out.size; have Th := hide th; clear hown hb1 th)
  clear y1 y2 y3 y10 yl z0 z1 z2 z3 z4 zl i0 i1
  have Hb6 := hide (Hb5.out.alloc Hb5.out.size (.cells #[.int .i64 ot, .int .i64 nt] 84))
  have Hk1b := hide (Hk1a.out.alloc (.cells #[.int .i64 ot, .int .i64 nt] 84)); have Hk2b := hide (Hk2a.out.alloc (.cells #[.int .i64 ot, .int .i64 nt] 84)); have Hk3b := hide (Hk3a.out.alloc (.cells #[.int .i64 ot, .int .i64 nt] 84)); have Hk4b := hide (Hk4a.out.alloc (.cells #[.int .i64 ot, .int .i64 nt] 84))
  have HkI := hide (Bk.new w1 84 #[.int .i64 ot, .int .i64 nt])
  have th := (((Below.refl w1.heap.size w1).alloc (Nat.le_refl _) (.cells #[.int .i64 ot, .int .i64 nt] 84)).cell (p := ⟨bh, oh + p, none⟩) hbh).trans Th.out
  obtain ⟨y1, y2, y3, y10, yl⟩ := bk_f2 Hk2b.out
  cases last
  case true =>
    clear y1 y10 Th
    generalize lab L p = hv at *
    go_wp2_with fail
    go_quiet (fail)
    go_wp2
    go_ret
    exact ⟨retB ST1.out.symm, below_drewN Hb6.out _⟩
  clear y1 y2 y3 y10 yl th
  have m0 := Hk1b.out.cell 0
  have m0l := Hk1b.out.lt
  go_upto_region 11 with (go_at_call 44; refine (HT.out _ (by exact Hb6.out)).mono ?_; rintro e w2 ⟨rfl, hb2⟩; have Hb7 := hide (Hb6.out.trans (hb2.mono Hb6.out.size)); have Hk2c := hide (Hk2b.out.below hb2); have Hk3c := hide (Hk3b.out.below hb2); have Hk4c := hide (Hk4b.out.below hb2); have HkIc := hide (HkI.out.below hb2); have th := (hb2.cell (p := ⟨bh, oh + p, none⟩) (Nat.lt_of_lt_of_le hbh (by simp))).trans (((Below.refl w1.heap.size w1).alloc (Nat.le_refl _) (.cells #[.int .i64 ot, .int .i64 nt] 84)).cell (p := ⟨bh, oh + p, none⟩) hbh |>.trans Th.out); have hbh2 : bh < w2.heap.size := Nat.lt_of_lt_of_le hbh (by have := hb2.size; simp at this; omega); obtain ⟨y1, y2, y3, y10, yl⟩ := bk_f2 Hk2c.out; obtain ⟨x1, x2, x3, x10, xl⟩ := bk_f2 Hk3c.out; obtain ⟨z0, z1, z2, z3, z4, zl⟩ := bk_c5 Hk4c.out; have i0 := HkIc.out.cell 0; have i1 := HkIc.out.cell 1; have il := HkIc.out.lt; clear hb2)
  have hLw : ∀ v : Int, 0 ≤ v ∧ v ≤ 2 → IntKind.i64.wrap (lab L p - v) = lab L p - v := fun v hv => by
    rw [IntKind.wrap_i64]; have := HLp.out; omega
  have hwr := hLw _ Htb.out
  clear hLw
  by_cases o7 : ot = 7
  · subst o7
    generalize lab L p = hv at *
    generalize TK ⟨7, nt⟩ = tk at *
    by_cases e1 : a1 = nt
    · have q1 : (a1 == nt) = true := beq_iff_eq.2 e1
      cases a10
      · have HR := hide (ST2.out ⟨a0, a1, a2, a3, a4, a5, a6, a7, a8, a9, false⟩ rfl e1 rfl)
        clear e1
        go_wp2_with fail
        go_quiet (fail)
        go_wp2
        go_ret
        exact ⟨retB HR.out.symm, below_drewN Hb7.out _⟩
      · have HR := hide (ST3.out ⟨a0, a1, a2, a3, a4, a5, a6, a7, a8, a9, true⟩ rfl (by simp))
        clear e1
        go_wp2_with fail
        go_quiet (fail)
        go_wp2
        go_ret
        exact ⟨retB HR.out.symm, below_drewN Hb7.out _⟩
    · have q1 : (a1 == nt) = false := beq_eq_false_iff_ne.2 e1
      have HR := hide (ST3.out ⟨a0, a1, a2, a3, a4, a5, a6, a7, a8, a9, a10⟩ rfl (fun h => e1 h.1))
      clear e1
      go_wp2_with fail
      go_quiet (fail)
      go_wp2
      go_ret
      exact ⟨retB HR.out.symm, below_drewN Hb7.out _⟩
  have b7 : (ot == 7) = false := beq_eq_false_iff_ne.2 o7
  by_cases o17 : ot = 17
  · subst o17
    have hn0 := (inB_iff.1 (show inB nt 0 1000000 = true from (insOk_n (by decide) (by decide) rfl).symm.trans Hins.out)).1
    have hn1 : nt < (S.length : Int) := of_decide_eq_true ((named_site (.inr rfl)).symm.trans Hnm.out)
    obtain ⟨s, rfl⟩ := Int.eq_ofNat_of_zero_le hn0
    have hsS : s < S.length := by omega
    obtain ⟨b2, o2, eb2, hb2B, ts⟩ := HSi.out.at_ (j := s) (by rw [icells_length]; exact hsS)
    rw [icells_get _ _ hsS] at ts
    subst eb2
    have ts2 := (Hb7.out.cell (p := ⟨b2, o2 + s, none⟩) hb2B).trans ts
    have b2w : b2 < w2.heap.size := Nat.lt_of_lt_of_le hb2B Hb7.out.size
    have st4 := fun ha ho => ST4.out ⟨a0, a1, a2, a3, a4, a5, a6, a7, a8, a9, a10⟩ rfl s rfl hsS ha ho
    have st5 := fun ha => ST5.out ⟨a0, a1, a2, a3, a4, a5, a6, a7, a8, a9, a10⟩ rfl s rfl hsS ha
    have st4' := Lib.hid st4; have st5' := Lib.hid st5
    clear st4 st5 ts
    generalize S[s] = sv at *
    generalize lab L p = hv at *
    by_cases e1 : a1 = sv
    · have q1 : (a1 == sv) = true := beq_iff_eq.2 e1
      cases a10
      · have HR := hide (st5'.out (by simp))
        clear e1 o7
        go_wp2_with fail
        go_quiet (fail)
        go_wp2
        go_ret
        exact ⟨retB HR.out.symm, below_drewN Hb7.out _⟩
      · have HR := hide (st4'.out e1 rfl)
        clear e1 o7
        go_wp2_with fail
        go_quiet (fail)
        go_wp2
        go_ret
        exact ⟨retB HR.out.symm, below_drewN Hb7.out _⟩
    · have q1 : (a1 == sv) = false := beq_eq_false_iff_ne.2 e1
      have HR := hide (st5'.out (fun h => e1 h.1))
      clear e1 o7
      go_wp2_with fail
      go_quiet (fail)
      go_wp2
      go_ret
      exact ⟨retB HR.out.symm, below_drewN Hb7.out _⟩
  · have b17 : (ot == 17) = false := beq_eq_false_iff_ne.2 o17
    have HR := hide (ST6.out ⟨a0, a1, a2, a3, a4, a5, a6, a7, a8, a9, a10⟩ o7 o17)
    clear o7 o17
    go_wp2_with fail
    go_ret
    exact ⟨retB HR.out.symm, Hb7.out⟩
end Go.Proofs.YtaebmliolpgmdaaGreat
