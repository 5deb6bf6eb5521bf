
/- laws.FnRows: it answers true. No condition. -/
import Derived.Test.YtheddnjhkcpmnaaRo2
import Derived.Test.YtheddnjhkcpmnaaLrs
import Derived.Test.YtheddnjhkcpmnaaJn
import Derived.Test.YtheddnjhkcpmnaaCv
import Derived.Test.YtheddnjhkcpmnaaLps
set_option linter.unusedSimpArgs false
set_option linter.unusedVariables false
set_option maxRecDepth 100000
namespace Go.Proofs.Ytheddnjhkcpmnaa
open Go.RowKit Go.WideShapes Go.ChangeShapes

/-- the rows, the joined rows twice, the covers twice -/
structure RwS (w : World) (vr vj vk vc vd : Value) (l jl : List R3) (cl : List Int) (W : World) : Prop where
  b : Below w.heap.size w W
  r : Rd W W.heap.size vr l.length (rcells l)
  j : Rd W W.heap.size vj jl.length (rcells jl)
  k : Rd W W.heap.size vk jl.length (rcells jl)
  c : Rd W W.heap.size vc cl.length (icells .i64 cl)
  d : Rd W W.heap.size vd cl.length (icells .i64 cl)
section
variable {w : World} {vr vj vk vc vd : Value} {l jl : List R3} {cl : List Int} {W W' : World}
theorem RwS.step (H : RwS w vr vj vk vc vd l jl cl W) (hb : Below W.heap.size W W') : RwS w vr vj vk vc vd l jl cl W' := ⟨H.b.trans (hb.mono H.b.size), H.r.here hb, H.j.here hb, H.k.here hb, H.c.here hb, H.d.here hb⟩
theorem RwS.drw (H : RwS w vr vj vk vc vd l jl cl W) : RwS w vr vj vk vc vd l jl cl W.drew := H.step (Below.refl _ _).drew
end

set_option maxHeartbeats 6400000 in
theorem law_FnRows (w : World) (v1 : Value) (i1 : IsU8s w v1) (v2 : Value) (i2 : IsU8s w v2) :
    Calls Try.prog 6 #[v1, v2] w fun e w' => e = .returned (.bool true) ∧ Below w.heap.size w w' := by
  obtain ⟨z1, hr1, hz1⟩ := i1
  obtain ⟨z2, hr2, hz2⟩ := i2
  have hy1 : ∀ z ∈ z1, 0 ≤ z ∧ z ≤ 255 := fun z h => bd_u8 (hz1 z h)
  have hy2 : ∀ z ∈ z2, 0 ≤ z ∧ z ≤ 255 := fun z h => bd_u8 (hz2 z h)
  have hd1 := fun W (hW : Below w.heap.size w W) => spec_DrawJoinRows _ z1 W (hr1.here hW) hy1
  have hd2 := fun W (hW : Below w.heap.size w W) => spec_DrawPadFor _ z2 W (hr2.here hW) hy2
  obtain ⟨A1, c1, rfl, p1, p2, _⟩ := id hr1
  obtain ⟨A2, c2, rfl, p3, p4, _⟩ := id hr2
  have hB := fun W => laws_big A1 A2 c1 c2 z1.length z2.length (by unfold maxLen at p2; omega) (by unfold maxLen at p4; omega) W
  have D1 := Lib.hid hd1; have D2 := Lib.hid hd2
  clear hr1 hr2 hz1 hz2 hy1 hy2 hd1 hd2 p1 p2 p3 p4
  cases hbig : bigB z1.length z2.length
  case true =>
    simp only [hbig] at hB
    have HB := Lib.hid hB
    clear hB hbig D1 D2
    go_enter Try.func6, Try.ntmps6
    go_wp2_with (go_at_call 8; refine (HB.out _).mono ?_; rintro e w1 ⟨rfl, rfl⟩)
    go_ret
    exact ⟨rfl, Below.refl _ _⟩
  simp only [hbig] at hB
  have HB := Lib.hid hB; have Hb := hide (Below.refl w.heap.size w)
  clear hB hbig
  go_enter Try.func6, Try.ntmps6
  go_upto_region 4 with (first
    | (go_at_call 8; refine (HB.out _).mono ?_; rintro e w0 ⟨rfl, h0⟩; rw [h0]; clear h0)
    | (go_at_call 44; refine (D1.out _ Hb.out).mono ?_; rintro e w1 ⟨rA, rc, l, many, rfl, hl5, hm, hr, hb⟩; have Hb := hide hb; have HR := hide hr; clear hr hb))
  have hl9 : l.length ≤ 9223372036854775807 := by omega
  have e1 := fun W (h : Rd W W.heap.size (.slice rA l.length rc) l.length (rcells l)) => impl_JoinRows _ l many W h hl9
  have e2 := fun W (h : Rd W W.heap.size (.slice rA l.length rc) l.length (rcells l)) => spec_JoinRows _ l many W h hl9
  have e3 := fun W (h : Rd W W.heap.size (.slice rA l.length rc) l.length (rcells l)) => impl_CoverOf _ l many W h hl9
  have e4 := fun W (h : Rd W W.heap.size (.slice rA l.length rc) l.length (rcells l)) => spec_CoverOf _ l many W h hl9
  have e5 := fun W (h : Rd W W.heap.size (.slice rA l.length rc) l.length (rcells l)) => impl_GoodRows _ l many W h hl9
  have e6 := fun W (h : Rd W W.heap.size (.slice rA l.length rc) l.length (rcells l)) => spec_GoodRows _ l many W h hl9
  generalize hjl : joinRows l many = jl at *
  generalize hcl : coverOf l many = cl at *
  generalize hgl : goodRows l many = gl at *
  have Hjl := Lib.hid hjl; have Hcl := Lib.hid hcl; have Hgl := Lib.hid hgl
  have E1 := Lib.hid e1; have E2 := Lib.hid e2; have E3 := Lib.hid e3; have E4 := Lib.hid e4; have E5 := Lib.hid e5; have E6 := Lib.hid e6
  clear e1 e2 e3 e4 e5 e6 hjl hcl hgl
  go_upto_region 8 with (first
    | (go_at_call 45; refine (E1.out _ HR.out).mono ?_; rintro e w2 ⟨u1, rfl, ho, hb⟩; obtain ⟨jA, jc, rfl⟩ := own_form ho; have HJ := hide (Rd.of_own ho); have HR := hide (HR.out.here hb); have Hb := hide (Hb.out.trans (hb.mono Hb.out.size)); clear ho hb)
    | (go_at_call 46; refine (E2.out _ HR.out).mono ?_; rintro e w3 ⟨u2, rfl, ho, hb⟩; obtain ⟨kA, kc, rfl⟩ := own_form ho; have HK := hide (Rd.of_own ho); have HJ := hide (HJ.out.here hb); have HR := hide (HR.out.here hb); have Hb := hide (Hb.out.trans (hb.mono Hb.out.size)); clear ho hb)
    | (go_at_call 47; refine (E3.out _ HR.out).mono ?_; rintro e w4 ⟨u3, rfl, ho, hb⟩; obtain ⟨cA, cc, rfl⟩ := own_form ho; have HC := hide (Rd.of_own ho); have HK := hide (HK.out.here hb); have HJ := hide (HJ.out.here hb); have HR := hide (HR.out.here hb); have Hb := hide (Hb.out.trans (hb.mono Hb.out.size)); clear ho hb)
    | (go_at_call 48; refine (E4.out _ HR.out).mono ?_; rintro e w5 ⟨u4, rfl, ho, hb⟩; obtain ⟨dA, dc, rfl⟩ := own_form ho; have HD := hide (Rd.of_own ho); have HC := hide (HC.out.here hb); have HK := hide (HK.out.here hb); have HJ := hide (HJ.out.here hb); have HR := hide (HR.out.here hb); have Hb := hide (Hb.out.trans (hb.mono Hb.out.size)); clear ho hb))
  have HW := hide (RwS.mk (w := w) Hb.out HR.out HJ.out HK.out HC.out HD.out)
  clear Hb HR HJ HK HC HD
  go_cut [94] (fun t wx => t = .bool false ∧ RwS w (.slice rA l.length rc) (.slice jA jl.length jc) (.slice kA jl.length kc) (.slice cA cl.length cc) (.slice dA cl.length dc) l jl cl wx)
  case first =>
    go_wp2_with (first
      | (go_at_call_of 49 (Value.slice kA jl.length kc); refine (laws_sameRows _ _ jl _ _ _ HW.out.j HW.out.k).mono ?_; rintro e w6 ⟨rfl, hb⟩; have HW := hide (HW.out.step hb); clear hb)
      | (go_at_call_of 36 (Value.slice dA cl.length dc); refine (laws_sameInts _ _ cl _ _ _ HW.out.c HW.out.d).mono ?_; rintro e w7 ⟨rfl, hb⟩; have HW := hide (HW.out.step hb); clear hb)
      | (go_at_call 50; refine (E5.out _ HW.out.r).mono ?_; rintro e w8 ⟨rfl, hb⟩; have HW := hide (HW.out.step hb); clear hb)
      | (go_at_call 51; refine (E6.out _ HW.out.r).mono ?_; rintro e w9 ⟨rfl, hb⟩; have HW := hide (HW.out.step hb); clear hb))
    all_goals
      go_meet
      first
        | exact ⟨rfl, HW.out⟩
        | exact ⟨by simp, HW.out⟩
  case rest =>
    obtain ⟨rfl, hs⟩ := hcut
    have HW := hide hs
    clear hs
    go_upto_if 95 with fail
    go_cut [] (fun wx => Below w.heap.size w wx)
    case first =>
      cases gl
      · go_wp2_with fail
        go_meet
        exact HW.out.b
      have hg : goodRows l many = true := Hgl.out
      have hjl : jl = joinL l := by rw [← Hjl.out]; unfold joinRows; rw [if_pos hg]
      have hgj : goodRows jl many = true := by rw [hjl]; exact goodRows_join hg
      have hjn : jl.length ≤ l.length := by rw [hjl]; have := foldl_len l []; simpa [joinL] using this
      obtain ⟨-, q1, q2, -⟩ := small_of_good hg
      obtain ⟨n, rfl⟩ := Int.eq_ofNat_of_zero_le hm.1
      have hcl : cl = coverL l n := by rw [← Hcl.out]; unfold coverOf; rw [if_pos hg]; rfl
      have g1 := fun W (h : Rd W W.heap.size (.slice jA jl.length jc) jl.length (rcells jl)) => impl_GoodRows _ jl (n : Int) W h (by omega)
      rw [hgj] at g1
      have g2 := fun W (a : Int) (h : Rd W W.heap.size (.slice rA l.length rc) l.length (rcells l)) => impl_PadFor _ l (n : Int) a W h (by omega) (by omega) (by omega)
      have g3 := fun W (a : Int) (h : Rd W W.heap.size (.slice jA jl.length jc) jl.length (rcells jl)) => impl_PadFor _ jl (n : Int) a W h (by omega) (by omega) (by omega)
      have hpj : ∀ a : Int, 0 ≤ a ∧ a < n → padFor jl n a = padFor l n a := by
        intro a ha
        have := padFor_join hg ha
        rwa [Hjl.out] at this
      have hpl : ∀ k : Nat, k < n → (padFor l n k = (0, false) ∧ rowIx k l 0 = -1) ∨ ∃ (i : Nat) (h : i < l.length), padFor l n k = ((l[i]).p, true) ∧ rowIx k l 0 = (i : Int) := by
        intro k hk
        rcases rowIx_pad (k : Int) l 0 with ⟨h3, h4⟩ | ⟨i, hi, h3, h4⟩
        · exact .inl ⟨padFor_no3 h4, h4⟩
        · exact .inr ⟨i, hi, padFor_yes hg (by omega) (by rw [h4]; simp) hi, by rw [h4]; simp⟩
      have hcn : cl.length = n := by rw [hcl, coverL_length]
      have G1 := Lib.hid g1; have G2 := Lib.hid g2; have G3 := Lib.hid g3; have HPJ := Lib.hid hpj; have HPL := Lib.hid hpl; have HCL := Lib.hid hcl; have HCN := Lib.hid hcn
      clear g1 g2 g3 hpj hpl hjl hcl hg hgj hcn Hjl Hcl Hgl
      have hjI : ¬ (l.length : Int) < (jl.length : Int) := by omega
      go_upto_if 106 with (go_at_call 50; refine (G1.out _ HW.out.j).mono ?_; rintro e w10 ⟨rfl, hb⟩; have HW := hide (HW.out.step hb); clear hb)
      have hz : decide (l.length < jl.length) = false := decide_eq_false (by omega)
      simp only [hz]
      clear hz
      go_wp2_with fail
      go_loopw [15] (fun i wr => ∃ k : Nat, k ≤ n ∧ i = .int .i64 k ∧ RwS w (.slice rA l.length rc) (.slice jA jl.length jc) (.slice kA jl.length kc) (.slice cA cl.length cc) (.slice dA cl.length dc) l jl cl wr) (fun i _ => n - (intOf i).toNat)
      case atStart => exact ⟨0, by omega, rfl, HW.out⟩
      case round =>
        obtain ⟨k, hk, rfl, hs⟩ := hrel
        clear HW
        have HW := hide hs
        clear hs
        by_cases hlt : k < n
        · have hkI : (k : Int) < (n : Int) := by omega
          have hk0 : (0 : Int) ≤ (k : Int) := by omega
          have hkc : k < cl.length := by have := HCN.out; omega
          have hkcI : (k : Int) < (cl.length : Int) := by omega
          have ga := fun W h => G2.out W (k : Int) h
          have gb := fun W h => G3.out W (k : Int) h
          rw [HPJ.out k ⟨hk0, hkI⟩] at gb
          have hck : cl[k] = rowIx k l 0 := by have := HCL.out; subst this; exact coverL_get l n k hlt
          rcases HPL.out k hlt with ⟨h1, h2⟩ | ⟨i, hi, h1, h2⟩
          · rw [h1] at ga gb
            rw [h2] at hck
            have GA := Lib.hid ga; have GB := Lib.hid gb
            clear ga gb h1 h2
            have HCK := Lib.hid hck
            clear hck
            go_upto_region 18 with (first
              | (go_at_call_of 52 (Value.slice rA l.length rc); refine (GA.out _ HW.out.r).mono ?_; rintro e w11 ⟨rfl, hb⟩; have HW := hide (HW.out.step hb); clear hb)
              | (go_at_call_of 52 (Value.slice jA jl.length jc); refine (GB.out _ HW.out.j).mono ?_; rintro e w12 ⟨rfl, hb⟩; have HW := hide (HW.out.step hb); clear hb))
            obtain ⟨cb, co, rfl, hcb, hcc⟩ := HW.out.c.at_ (j := k) (by rw [icells_length]; exact hkc)
            rw [icells_get _ _ hkc, HCK.out] at hcc
            clear hcb HCK
            have HX := hide HW.out.drw
            go_wp2_with fail
            all_goals
              go_roundw
              case rel => exact ⟨k + 1, by omega, by go_num, by first | exact HW.out | exact HX.out⟩
              case measure => simp [intOf]; omega
          · rw [h1] at ga gb
            rw [h2] at hck
            have GA := Lib.hid ga; have GB := Lib.hid gb
            clear ga gb h1 h2
            have HCK := Lib.hid hck
            clear hck
            go_upto_region 18 with (first
              | (go_at_call_of 52 (Value.slice rA l.length rc); refine (GA.out _ HW.out.r).mono ?_; rintro e w11 ⟨rfl, hb⟩; have HW := hide (HW.out.step hb); clear hb)
              | (go_at_call_of 52 (Value.slice jA jl.length jc); refine (GB.out _ HW.out.j).mono ?_; rintro e w12 ⟨rfl, hb⟩; have HW := hide (HW.out.step hb); clear hb))
            obtain ⟨cb, co, rfl, hcb, hcc⟩ := HW.out.c.at_ (j := k) (by rw [icells_length]; exact hkc)
            rw [icells_get _ _ hkc, HCK.out] at hcc
            clear hcb HCK
            obtain ⟨-, -, g2⟩ := rcells_get l i hi
            obtain ⟨rb, ro, rfl, hrb, s2⟩ := HW.out.r.at3 g2
            rw [← Nat.add_assoc] at s2
            have hiI : (i : Int) < (l.length : Int) := by omega
            have hi0 : (0 : Int) ≤ (i : Int) := by omega
            clear g2 hrb
            generalize l[i] = r at *
            have HX := hide HW.out.drw
            go_wp2_with fail
            all_goals
              go_roundw
              case rel => exact ⟨k + 1, by omega, by go_num, by first | exact HW.out | exact HX.out⟩
              case measure => simp [intOf]; omega
        · obtain rfl : k = n := by omega
          go_wp2_with fail
          go_meet
          exact HW.out.b
    case rest =>
      have Hb := hide hcut
      clear hcut HW
      go_upto_region 21 with (go_at_call 53; refine (D2.out _ Hb.out).mono ?_; rintro e w20 ⟨dA2, dc2, dl, n2, at2, rfl, hl6, hm2, hr, hb⟩; have Hb := hide (Hb.out.trans (hb.mono Hb.out.size)); have HR := hide hr; clear hr hb)
      have hl10 : dl.length ≤ 9223372036854775807 := by omega
      have f1 := fun W (h : Rd W W.heap.size (.slice dA2 dl.length dc2) dl.length (rcells dl)) => impl_PadFor _ dl n2 at2 W h hl10 (by omega) (by omega)
      have f2 := fun W (h : Rd W W.heap.size (.slice dA2 dl.length dc2) dl.length (rcells dl)) => spec_PadFor _ dl n2 at2 W h hl10 (by omega) (by omega)
      generalize padFor dl n2 at2 = pf at *
      obtain ⟨px, pb⟩ := pf
      have F1 := Lib.hid f1; have F2 := Lib.hid f2
      clear f1 f2
      go_wp2_with (first
        | (go_at_call 52; refine (F1.out _ HR.out).mono ?_; rintro e w21 ⟨rfl, hb⟩; have HR := hide (HR.out.here hb); have Hb := hide (Hb.out.trans (hb.mono Hb.out.size)); clear hb)
        | (go_at_call 54; refine (F2.out _ HR.out).mono ?_; rintro e w22 ⟨rfl, hb⟩; have HR := hide (HR.out.here hb); have Hb := hide (Hb.out.trans (hb.mono Hb.out.size)); clear hb))
      all_goals
        go_ret
        first
          | exact ⟨rfl, Hb.out⟩
          | exact ⟨by simp, Hb.out⟩
end Go.Proofs.Ytheddnjhkcpmnaa
