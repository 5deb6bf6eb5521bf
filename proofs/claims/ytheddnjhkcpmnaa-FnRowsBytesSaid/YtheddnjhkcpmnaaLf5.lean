
/- spec.LowerProg of a drawn program. No condition. -/
import Derived.Test.YtheddnjhkcpmnaaLf
import Derived.Test.YtheddnjhkcpmnaaPg9
import Derived.Test.YtheddnjhkcpmnaaSh
set_option linter.unusedSimpArgs false
set_option linter.unusedVariables false
set_option maxRecDepth 100000
namespace Go.Proofs.Ytheddnjhkcpmnaa
open Go.RowKit

theorem okCodeL : SliceOk Try.prog 136 142 (.agg #[.int .i64 0, .int .i64 0, .slice none 0 0, .slice none 0 0, .slice none 0 0]) 5 88 := .mk Try.underlying136 (by kernel_rfl) rfl (by decide)
/-- a code's cells: what hangs on it lies from block lo on -/
def CdC (lo : Nat) (w : World) (cs : List Value) : Prop := ∃ (P V : Int) (sA : Option Addr) (sc : Nat) (sl : List Int) (iA : Option Addr) (ic : Nat) (il : List P2) (rA : Option Addr) (rc : Nat) (rl : List R3),
  cs = [.int .i64 P, .int .i64 V, .slice sA sl.length sc, .slice iA il.length ic, .slice rA rl.length rc] ∧ (sl.length ≤ 4 ∧ (1 ≤ il.length ∧ il.length ≤ 222) ∧ rl.length ≤ 5) ∧ w.ownsRow lo 3 1 (.slice sA sl.length sc) sl.length (icells .i64 sl) ∧ w.ownsRow lo 162 2 (.slice iA il.length ic) il.length (pcells il) ∧ w.ownsRow lo 72 3 (.slice rA rl.length rc) rl.length (rcells rl)
/-- blocks of other types than codes' and images' lie as they did -/
def KC (lo : Nat) (w w' : World) : Prop := ∀ k, lo ≤ k → (∃ xs t z, w.heap[k]? = some (.cells xs t z) ∧ t ≠ 142 ∧ t ≠ 138) → w'.heap[k]? = w.heap[k]?
section
variable {lo q : Nat} {w w1 w2 : World} {v v1 : Value}
theorem KC.own {base n size : Nat} {e : TypeId} {u : Value} {xs : List Value} (h : KC lo w w1) (ho : w.ownsRow base e size u n xs) (hb : lo ≤ base) (he : e ≠ 142 ∧ e ≠ 138) : w1.ownsRow base e size u n xs := by
  refine ⟨ho.1, ?_⟩
  rcases ho.2 with hn | ⟨k, cap, cur, hv, hk, hh, r⟩
  · exact .inl hn
  · exact .inr ⟨k, cap, cur, hv, hk, (h k (by omega) ⟨_, _, _, hh, he⟩).trans hh, r⟩
theorem CdC.kc {cs : List Value} (h : CdC lo w cs) (hk : KC lo w w1) : CdC lo w1 cs := by
  obtain ⟨P, V, sA, sc, sl, iA, ic, il, rA, rc, rl, e, hb, h1, h2, h3⟩ := h
  exact ⟨P, V, sA, sc, sl, iA, ic, il, rA, rc, rl, e, hb, hk.own h1 (Nat.le_refl _) (by decide), hk.own h2 (Nat.le_refl _) (by decide), hk.own h3 (Nat.le_refl _) (by decide)⟩
theorem KC.below (h : Below w.heap.size w w1) : KC lo w w1 := fun k _ ⟨_, _, _, hh, _⟩ => h.block k (Array.getElem?_eq_some_iff.1 hh).1
theorem KC.set {t : TypeId} {cs : Array Value} (hq : Bk w q t cs) (ht : t = 142 ∨ t = 138) (i : Nat) (u : Value) : KC lo w (w.setCell ⟨q, i, none⟩ u) := by
  rintro k _ ⟨ys, t', z, hh, ht'⟩
  refine Below.heap_setCell _ _ _ _ fun e => ?_
  have e : k = q := e
  subst e
  rw [show w.heap[k]? = _ from hq] at hh
  injection hh with hh; injection hh with _ hh _
  subst hh
  rcases ht with h | h
  · exact ht'.1 h
  · exact ht'.2 h
theorem KC.gro {n base : Nat} {xs : List Value} (ho : w.ownsRow base 142 5 v n xs) (hg : Gro w w1 v v1) : KC lo w w1 := by
  rintro k _ ⟨ys, t', z, hh, ht'⟩
  refine hg.g.block k (Array.getElem?_eq_some_iff.1 hh).1 fun e => ?_
  rcases ho.2 with ⟨rfl, _⟩ | ⟨g, _, c, rfl, _, h2, _⟩
  · cases e
  · injection e with e; subst e
    rw [hh] at h2; injection h2 with h2; injection h2 with _ h2 _; exact ht'.1 h2
end
theorem CdC.len {lo : Nat} {w : World} {cs : List Value} (h : CdC lo w cs) : cs.length = 5 := by obtain ⟨_, _, _, _, _, _, _, _, _, _, _, rfl, _⟩ := h; rfl
theorem CdC.base {lo lo' : Nat} {w : World} {cs : List Value} (h : CdC lo w cs) (hl : lo' ≤ lo) : CdC lo' w cs := by
  obtain ⟨P, V, sA, sc, sl, iA, ic, il, rA, rc, rl, e, hb, h1, h2, h3⟩ := h
  exact ⟨P, V, sA, sc, sl, iA, ic, il, rA, rc, rl, e, hb, own_base h1 hl, own_base h2 hl, own_base h3 hl⟩
theorem own_img {lo n q : Nat} {v : Value} {w : World} {xs : List Value} {cs : Array Value} (ho : w.ownsRow lo 142 5 v n xs) (hb : Bk w q 138 cs) : some q ≠ v.ownBlock := fun e => by
  rcases ho.2 with ⟨rfl, _⟩ | ⟨g, _, c, rfl, _, h2, _⟩
  · cases e
  · injection e with e; subst e
    rw [show w.heap[_]? = _ from hb] at h2; injection h2 with h2; injection h2 with _ h2 _; exact absurd h2 (by decide)
/-- an image's row of codes -/
def IRow (lo : Nat) (v : Value) (w : World) (n : Nat) : Prop := ∃ css : List (List Value), css.length = n ∧ w.ownsRow lo 142 5 v n css.flatten ∧ ∀ c ∈ css, CdC lo w c
theorem IRow.keep {lo n : Nat} {v : Value} {w w1 : World} (h : IRow lo v w n) (hk : KC lo w w1) (hv : ∀ k, v.ownBlock = some k → w1.heap[k]? = w.heap[k]?) : IRow lo v w1 n := by
  obtain ⟨css, h1, h2, h3⟩ := h
  refine ⟨css, h1, ⟨h2.1, ?_⟩, fun c hc => (h3 c hc).kc hk⟩
  rcases h2.2 with hn | ⟨k, cap, cur, hv', hb, hh, r⟩
  · exact .inl hn
  · exact .inr ⟨k, cap, cur, hv', hb, (hv k (by rw [hv']; rfl)).trans hh, r⟩
theorem IRow.own {lo n : Nat} {v : Value} {w : World} (h : IRow lo v w n) : ∃ xs, w.ownsRow lo 142 5 v n xs := by obtain ⟨css, _, h2, _⟩ := h; exact ⟨_, h2⟩
theorem IRow.below {lo n : Nat} {v : Value} {w w1 : World} (h : IRow lo v w n) (hb : Below w.heap.size w w1) : IRow lo v w1 n := by
  obtain ⟨xs, ho⟩ := h.own
  exact h.keep (.below hb) fun k hk => hb.block k (ho.lt k hk).2
theorem IRow.push {lo n : Nat} {v v1 : Value} {w w1 : World} {cs xs : List Value} (h : IRow lo v w n) (hc : CdC lo w cs) (hown : w.ownsRow lo 142 5 v n xs) (ho : w1.ownsRow lo 142 5 v1 (n + 1) (xs ++ cs)) (hg : Gro w w1 v v1) : IRow lo v1 w1 (n + 1) := by
  obtain ⟨css, h1, h2, h3⟩ := h
  have hx := own_inj h2 hown
  subst hx
  refine ⟨css ++ [cs], by simp [h1], by simpa using ho, fun c hm => ?_⟩
  rcases List.mem_append.1 hm with hm | hm
  · exact (h3 c hm).kc (.gro hown hg)
  · rw [List.mem_singleton] at hm; subst hm; exact hc.kc (.gro hown hg)
theorem IRow.nil (lo : Nat) (w : World) : IRow lo (.slice none 0 0) w 0 := ⟨[], rfl, World.ownsRow_nil _ _ _ _, fun c h => by simp at h⟩
/-- the image under way -/
structure LwS (pA : Option Addr) (pc : Nat) (fs : List FuncM) (w : World) (h : Nat) (v : Value) (n : Nat) (W : World) : Prop where
  b : Below w.heap.size w W
  p : Bk W w.heap.size 45 #[.slice pA fs.length pc]
  res : Bk W (w.heap.size + 1) 138 #[.slice none 0 0]
  x : Bk W h 138 #[v]
  lt : w.heap.size + 1 < h
  row : IRow (w.heap.size + 1 + 1) v W n
  r : RL RFunc 4 W 0 w.heap.size (.slice pA fs.length pc) fs
section
variable {pA : Option Addr} {pc : Nat} {fs : List FuncM} {w : World} {h n : Nat} {v v' : Value} {W W' : World}
theorem LwS.below (H : LwS pA pc fs w h v n W) (hb : Below W.heap.size W W') : LwS pA pc fs w h v n W' :=
  ⟨H.b.trans (hb.mono H.b.size), H.p.below hb, H.res.below hb, H.x.below hb, H.lt, H.row.below hb, H.r.keep RFunc_stable ((KeptB.refl _ _ _).below hb H.b.size)⟩
theorem LwS.rp (H : LwS pA pc fs w h v n W) : RL RFunc 4 W 0 W.heap.size (.slice pA fs.length pc) fs := H.r.more RFunc_stable (Nat.le_refl _) H.b.size
theorem LwS.push {cs xs : List Value} (H : LwS pA pc fs w h v n W) (hc : CdC (w.heap.size + 1 + 1) W cs) (hown : W.ownsRow (w.heap.size + 1 + 1) 142 5 v n xs) (ho : W'.ownsRow (w.heap.size + 1 + 1) 142 5 v' (n + 1) (xs ++ cs)) (hg : Gro W W' v v') : LwS pA pc fs w h v' (n + 1) (W'.setCell ⟨h, 0, none⟩ v') := by
  have hl := H.lt
  have hne : ∀ {k : Nat} {cs : Array Value}, Bk W k 138 cs → some k ≠ v.ownBlock := fun hb e => by
    rcases hown.2 with ⟨rfl, _⟩ | ⟨g, _, c, rfl, _, h2, _⟩
    · cases e
    · injection e with e; subst e
      rw [show W.heap[_]? = _ from hb] at h2; injection h2 with h2; injection h2 with _ h2 _; exact absurd h2 (by decide)
  have hb : Below (w.heap.size + 1 + 1) W W' := hg.toBelow hown (by have := H.x.lt; omega)
  have hx := hg.bk H.x (hne H.x)
  have hp' : Bk W' w.heap.size 45 #[.slice pA fs.length pc] := (hb.block _ (by omega)).trans H.p
  have hrow := H.row.push hc hown ho hg
  obtain ⟨ys, hy⟩ := hrow.own
  refine ⟨(H.b.trans (hb.mono (by omega))).setCell (p := ⟨h, 0, none⟩) (by show w.heap.size ≤ h; omega) _, hp'.far (by omega) _ _, (hg.bk H.res (hne H.res)).far (by omega) _ _, hx.set 0 v', hl, ?_, H.r.keep RFunc_stable ((KeptB.refl _ _ _).below ((hb.mono (Nat.le_succ_of_le (Nat.le_succ _)) : Below w.heap.size W W').setCell (p := ⟨h, 0, none⟩) (by show w.heap.size ≤ h; omega) v') (Nat.le_refl _))⟩
  refine hrow.keep (.set hx (.inr rfl) 0 v') fun k hk => Below.heap_setCell _ _ _ _ fun e => ?_
  have e : k = h := e
  subst e
  rcases hy.2 with ⟨rfl, _⟩ | ⟨g, _, c, rfl, _, h2, _⟩
  · cases hk
  · injection hk with hk; subst hk
    rw [show W'.heap[_]? = _ from hx] at h2; injection h2 with h2; injection h2 with _ h2 _; exact absurd h2 (by decide)
end
def LowP (n : Nat) (w : World) (e : Ending) (w' : World) : Prop := ∃ (iA : Option Addr) (ic : Nat), e = .returned (.tuple #[.agg #[.slice iA n ic], .bool true]) ∧ IRow (w.heap.size + 1 + 1) (.slice iA n ic) w' n ∧ Below w.heap.size w w'
end Go.Proofs.Ytheddnjhkcpmnaa
set_option linter.unusedSimpArgs false
set_option linter.unusedVariables false
set_option maxRecDepth 100000
namespace Go.Proofs.Ytheddnjhkcpmnaa
open Go.RowKit

set_option maxHeartbeats 6400000 in
theorem spec_LowerProgN (pA : Option Addr) (pc : Nat) (fs : List FuncM) (w : World) (hr : RL RFunc 4 w 0 w.heap.size (.slice pA fs.length pc) fs) (hz : szFuncsN fs ≤ 1048576) (hg : progS fs = true) (h5 : fs.length ≤ 5) (hok : ∀ f ∈ fs, f.qStmts.length ≤ 12 ∧ (∀ s ∈ f.qStmts, s.qEx.length ≤ 15 ∧ s.qThen.length ≤ 3 ∧ s.qElse.length ≤ 3) ∧ f.qBody.length ≤ 3 ∧ (0 < f.qStmts.length → 0 < f.qBody.length) ∧ (sitesF 0 f.qStmts).length ≤ 4 ∧ Seg (atS f.qStmts) 0 f.qStmts.length f.qBody) :
    Calls Try.prog 141 #[.agg #[.slice pA fs.length pc]] w (LowP fs.length w) := by
  have hfn := fun n (hn : n < fs.length) W h => spec_l6FuncN pA pc fs n hn W h (hok _ (List.getElem_mem hn)).1 (fun s hs => ((hok _ (List.getElem_mem hn)).2.1 s hs).1) (hok _ (List.getElem_mem hn)).2.2.2.2.1 (hok _ (List.getElem_mem hn)).2.2.2.2.2
  have HFn := Lib.hid hfn
  have hb0 := ((Below.refl w.heap.size w).alloc (Nat.le_refl _) (.cells #[.slice pA fs.length pc] 45)).alloc (by simp) (.cells #[.slice none 0 0] 138)
  have n1 := Bk.new (w.alloc (.cells #[.slice pA fs.length pc] 45)) 138 #[.slice none 0 0]
  rw [World.size_alloc] at n1
  have n0 := (Bk.new w 45 #[.slice pA fs.length pc]).alloc (.cells #[.slice none 0 0] 138)
  have hgp := spec_GoodProg [.slice pA fs.length pc] ⟨fs⟩ _ ⟨_, rfl, hr.here RFunc_stable hb0⟩ hz
  dsimp only at hgp
  rw [hg] at hgp
  have HG := hide hgp; have HB := hide hb0; have N0 := hide n0; have N1 := hide n1; have HR := hide hr
  have p0 := n0.cell 0; have pl := n0.lt
  clear hfn hgp hb0 n0 n1 hr hg hok
  go_enter Try.func141, Try.ntmps141
  go_upto_region 5 with (go_at_call 38; refine HG.out.mono ?_; rintro e w1 ⟨rfl, hb1⟩; have hz1 := hb1.size; have HL := hide (show LwS pA pc fs w w1.heap.size (.slice none 0 0) 0 (w1.alloc (.cells #[.slice none 0 0] 138)) from ⟨(HB.out.trans (hb1.mono HB.out.size)).alloc (Nat.le_trans HB.out.size hb1.size) _, (N0.out.below hb1).alloc _, (N1.out.below hb1).alloc _, Bk.new _ _ _, (N1.out.below hb1).lt, IRow.nil _ _, (HR.out.keep RFunc_stable ((KeptB.refl _ _ _).below ((HB.out.trans (hb1.mono HB.out.size)).alloc (Nat.le_trans HB.out.size hb1.size) (.cells #[.slice none 0 0] 138)) (Nat.le_refl _)))⟩); have p0 := HL.out.p.cell 0; have pl := HL.out.p.lt; clear hb1 hz1)
  generalize hh : w1.heap.size = h at *
  generalize w1.alloc (.cells #[.slice none 0 0] 138) = W1 at *
  clear p0 pl HG HB N0 N1 HR
  go_loopw [14] (fun i wr => ∃ (k : Nat) (v : Value), i = .int .i64 k ∧ k ≤ fs.length ∧ LwS pA pc fs w h v k wr) (fun i _ => fs.length - (intOf i).toNat)
  case atStart => exact ⟨0, _, rfl, by omega, HL.out⟩
  case round =>
    obtain ⟨k, v, rfl, hk, hlw⟩ := hrel
    obtain ⟨xs0, ho0⟩ := hlw.row.own
    obtain ⟨iA, ic, rfl⟩ := own_form ho0
    have HL := hide hlw
    have hlt2 := hlw.lt; have hxw := hlw.x.lt
    clear hlw ho0
    have p0 := HL.out.p.cell 0; have pl := HL.out.p.lt
    by_cases hlt : k < fs.length
    · have hkI : (k : Int) < (fs.length : Int) := by omega
      go_wp2_with (first
        | (go_at_call 147; refine (HFn.out k hlt _ HL.out.rp).mono ?_; rintro e w2 ⟨sA, sc, sl, iA2, ic2, il, rA, rc, rl, rfl, hbd, o1, o2, o3, hb2⟩; have hil : ¬ (300 : Int) < (il.length : Int) := (by omega); have HL := hide ((HL.out.below hb2).below ((Below.refl _ _).alloc (Nat.le_refl _) (.cells #[.int .i64 fs[k].qParams, .int .i64 fs[k].qVars, .slice sA sl.length sc, .slice iA2 il.length ic2, .slice rA rl.length rc] 142))); have hz2 : w.heap.size + 1 + 1 ≤ wr.heap.size := (by omega); have HC := hide (CdC.kc (lo := w.heap.size + 1 + 1) (w := w2) (cs := [.int .i64 fs[k].qParams, .int .i64 fs[k].qVars, .slice sA sl.length sc, .slice iA2 il.length ic2, .slice rA rl.length rc]) ⟨_, _, sA, sc, sl, iA2, ic2, il, rA, rc, rl, rfl, hbd, own_base o1 hz2, own_base o2 hz2, own_base o3 hz2⟩ (.below ((Below.refl _ _).alloc (Nat.le_refl _) (.cells #[.int .i64 fs[k].qParams, .int .i64 fs[k].qVars, .slice sA sl.length sc, .slice iA2 il.length ic2, .slice rA rl.length rc] 142)))); have x0 := HL.out.x.cell 0; have xl := HL.out.x.lt; obtain ⟨xs2, ho2⟩ := HL.out.row.own; have Ho := hide ho2; clear o1 o2 o3 hb2 ho2)
        | (at_builtin; refine wpList_pushG rfl _ _ _ rfl okCodeL rfl Ho.out _ rfl (World.size_alloc _ _).symm rfl (by simp [Value.oneCell']) (by unfold maxLen; omega) (by omega) (by have := HL.out.lt; have := HL.out.x.lt; omega) ?_; intro v9 w9 hown9 hg9; obtain ⟨iA9, ic9, rfl⟩ := own_form hown9; have hx9 := hg9.bk HL.out.x (own_img Ho.out HL.out.x); have y0 := hx9.cell 0; have yf := hx9.frozen 0; have yl := hx9.lt; have HL9 := hide (HL.out.push HC.out Ho.out hown9 hg9); clear hown9 hg9 hx9))
      go_roundw
      case rel => exact ⟨k + 1, _, by go_num, by omega, HL9.out⟩
      case measure => simp [intOf]; omega
    · have hkl : k = fs.length := by omega
      have hkI : ¬ (k : Int) < (fs.length : Int) := by omega
      have x0 := HL.out.x.cell 0; have xl := HL.out.x.lt
      have r0 := HL.out.res.cell 0; have rf := HL.out.res.frozen 0; have rl := HL.out.res.lt
      obtain ⟨xs2, ho2⟩ := HL.out.row.own
      have hrow := HL.out.row.keep (.set HL.out.res (.inr rfl) 0 (.slice iA k ic)) fun q hq => Below.heap_setCell _ _ _ _ fun e => own_img ho2 HL.out.res (by rw [hq]; exact congrArg some (show w.heap.size + 1 = q from e.symm))
      have Hrow := hide hrow; have Hb := hide (HL.out.b.setCell (p := ⟨w.heap.size + 1, 0, none⟩) (Nat.le_succ _) (.slice iA k ic))
      clear ho2 hrow
      go_wp2_with fail
      refine bodyPost_ret (v := .tuple #[.agg #[.slice iA k ic], .bool true]) ?_ rfl (by subst hkl; exact ⟨iA, ic, rfl, Hrow.out, Hb.out⟩)
      simp [results, Try.results141, go_sem, r0, rl]; omega
end Go.Proofs.Ytheddnjhkcpmnaa
set_option linter.unusedSimpArgs false
set_option linter.unusedVariables false
set_option maxRecDepth 100000
namespace Go.Proofs.Ytheddnjhkcpmnaa
open Go.RowKit

theorem PRow.rl {g : Nat} {v : Value} {w : World} {fs : List FuncM} (h : PRow g v w fs) : RL RFunc 4 w 0 w.heap.size v fs := by
  obtain ⟨css, h1, h2, h3⟩ := h
  have h4 := PRow.four (v := .slice none 0 0) h1 h3
  rcases h2.2 with ⟨rfl, h0⟩ | ⟨q, cap, cur, rfl, hq, hh, hn, hc, _⟩
  · have hL : fs = [] := List.eq_nil_of_length_eq_zero h0
    subst hL
    exact RL.nil
  · refine ⟨_, _, rfl, hn, hc, fun i hi => ?_⟩
    have hi' : i < css.length := by omega
    have hf : RFunc w 0 w.heap.size css[i] fs[i] := by
      obtain ⟨bv, v, e, hb, hv⟩ := h3 i hi hi'
      rw [e]
      exact ⟨bv, v, rfl, (Rg.of_own hb).more (Nat.zero_le _) (Nat.le_refl _), hv.rl.more RStmt_stable (Nat.zero_le _) (Nat.le_refl _)⟩
    refine ⟨q, 0, css[i], rfl, ⟨Nat.zero_le _, (Array.getElem?_eq_some_iff.1 hh).1⟩, h4 _ (List.getElem_mem hi'), fun k u hu => ?_, hf⟩
    have hk : k < 4 := by have := (List.getElem?_eq_some_iff.1 hu).1; rw [h4 _ (List.getElem_mem hi')] at this; exact this
    have := row_cell h2 h4 hi' hk hu
    rw [show 0 + i * 4 + k = i * 4 + k by omega]; exact this
theorem PrgD.sz {g : Nat} {w : World} {pv : Value} {fs : List FuncM} (h : PrgD g w pv fs) : szFuncsN fs ≤ 1048576 := by
  have hs : ∀ f ∈ fs, szFuncN f ≤ 291 := fun f hf => by
    obtain ⟨a1, a2, a3, _⟩ := h.ok f hf
    have hB : ∀ s ∈ f.qStmts, szStmtN s ≤ 21 := fun s hs => by obtain ⟨b1, b2, b3⟩ := a2 s hs; unfold szStmtN; omega
    have := szStmtsL_le f.qStmts hB
    have h5 : f.qStmts.length * 21 ≤ 12 * 21 := Nat.mul_le_mul_right _ a1
    have e : szFuncN f = f.qBody.length + (f.qStmts.length + szStmtsL f.qStmts) := rfl
    omega
  have := szFuncsL_le fs hs
  have h5 : fs.length * 291 ≤ 5 * 291 := Nat.mul_le_mul_right _ h.len.2
  have e : szFuncsN fs = fs.length + szFuncsL fs := rfl
  omega
theorem IRow.base {lo lo' n : Nat} {v : Value} {w : World} (h : IRow lo v w n) (hl : lo' ≤ lo) : IRow lo' v w n := by
  obtain ⟨css, h1, h2, h3⟩ := h
  exact ⟨css, h1, own_base h2 hl, fun c hc => (h3 c hc).base hl⟩
theorem IRow.dw {g n : Nat} {v : Value} {w w1 : World} (h : IRow (g + 1) v w n) (hd : Dw g w w1) : IRow (g + 1) v w1 n := by
  obtain ⟨xs, ho⟩ := h.own
  exact h.keep (fun k hk ⟨_, _, _, hh, _⟩ => hd.block k (by omega) (Array.getElem?_eq_some_iff.1 hh).1) fun k hk => hd.block k (by have := (ho.lt k hk).1; omega) (ho.lt k hk).2
theorem IRow.setI {lo n q : Nat} {v : Value} {w : World} {cs : Array Value} (h : IRow lo v w n) (hq : Bk w q 138 cs) (i : Nat) (u : Value) : IRow lo v (w.setCell ⟨q, i, none⟩ u) n := by
  obtain ⟨xs, ho⟩ := h.own
  refine h.keep (.set hq (.inr rfl) i u) fun k hk => Below.heap_setCell _ _ _ _ fun e => own_img ho hq (by rw [hk]; exact congrArg some (show q = k from e.symm))
/-- an image as it is drawn -/
def ImgP (g : Nat) (A : Option Addr) (c : Nat) (zs : List Int) (K : Nat) (w : World) (e : Ending) (w' : World) : Prop := ∃ (iA : Option Addr) (ic n : Nat), e = .returned (.agg #[.slice iA n ic]) ∧ (1 ≤ n ∧ n ≤ 5) ∧ IRow (g + 1) (.slice iA n ic) w' n ∧ Cur g A c zs (K + 200002) w' ∧ Dw g w w'
set_option maxHeartbeats 1600000 in
theorem cur_image (g : Nat) (A : Option Addr) (c : Nat) (zs : List Int) (K : Nat) (w : World) (hc : Cur g A c zs K w) (hK : K ≤ 80000000000000000) :
    Calls Try.prog 129 #[.pointer (some ⟨g, 0, none⟩)] w (ImgP g A c zs K w) := by
  have hgl := hc.lt
  have Hc := hide (hc.below ((Below.refl w.heap.size w).alloc (Nat.le_refl _) (.cells #[.slice none 0 0] 138)))
  have Hr := hide (Bk.new w 138 #[.slice none 0 0])
  have Hd := hide ((Dw.refl g w).alloc (.cells #[.slice none 0 0] 138))
  clear hc
  go_enter Try.func129, Try.ntmps129
  go_wp2_with (first
    | (go_at_call 114; go_must (refine (cur_program g A c zs _ _ Hc.out (by omega)).mono ?_); rintro e w1 ⟨pA, pc, fs, rfl, hD, hc1, hd1⟩; have HD := hide hD; have Hr := hide (hd1.bk Hr.out (by omega)); have Hd := hide (Hd.out.trans hd1); have Hc := hide hc1; clear hD hc1 hd1)
    | (go_at_call 141; refine (spec_LowerProgN pA pc fs _ HD.out.row.rl HD.out.sz HD.out.good HD.out.len.2 HD.out.ok).mono ?_; rintro e w2 ⟨iA, ic, rfl, hi, hb⟩; have hg2 := Hc.out.lt; have Hc := hide ((Hc.out.below hb).below ((Below.refl _ _).alloc (Nat.le_refl _) (.cells #[.slice iA fs.length ic] 138))); have hr := (Hr.out.below hb).alloc (.cells #[.slice iA fs.length ic] 138); have r0 := hr.cell 0; have rf := hr.frozen 0; have rl := hr.lt; have Hr := hide hr; have Hd := hide ((Hd.out.then hb).alloc (.cells #[.slice iA fs.length ic] 138)); have Hi := hide ((hi.base (show g + 1 ≤ _ by omega)).below ((Below.refl _ _).alloc (Nat.le_refl _) (.cells #[.slice iA fs.length ic] 138))); clear hi hb hr))
  have hB : Below w.heap.size (w2.alloc (.cells #[.slice iA fs.length ic] 138)) ((w2.alloc (.cells #[.slice iA fs.length ic] 138)).setCell ⟨w.heap.size, 0, none⟩ (.slice iA fs.length ic)) := (Below.refl _ _).setCell (p := ⟨w.heap.size, 0, none⟩) (Nat.le_refl _) _
  have hP : ImgP g A c zs K w (.returned (.agg #[.slice iA fs.length ic])) ((w2.alloc (.cells #[.slice iA fs.length ic] 138)).setCell ⟨w.heap.size, 0, none⟩ (.slice iA fs.length ic)) := ⟨iA, ic, fs.length, rfl, HD.out.len, Hi.out.setI Hr.out 0 _, Hc.out.keepG2 hB hgl, Hd.out.belowW hB (Nat.le_refl _)⟩
  refine bodyPost_ret (v := .agg #[.slice iA fs.length ic]) ?_ rfl hP
  simp [results, Try.results129, go_sem, r0, rl]; done
end Go.Proofs.Ytheddnjhkcpmnaa
