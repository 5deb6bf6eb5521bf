
/- Drawn programs in memory: a row of functions, each with its own. No condition. -/
import Derived.Test.YtgkjakoagdkpcaaGreatDoorFd2
import Derived.Test.YtgkjakoagdkpcaaGreatDoorPg9P
import Derived.Deep.DeepCutAuto
set_option linter.unusedSimpArgs false
set_option linter.unusedVariables false
set_option maxRecDepth 100000
namespace Go.Proofs.YtgkjakoagdkpcaaGreatDoor
open Go.RowKit

def NoX (k : Nat) : Prop := False
/-- a function's cells: what hangs on it lies behind block g -/
def FnC (g : Nat) (w : World) (cs : List Value) (f : FuncM) : Prop := ∃ bv v, cs = [.int .i64 f.qParams, .int .i64 f.qVars, bv, v] ∧ w.ownsRow (g + 1) 3 1 bv f.qBody.length (icells .i64 f.qBody) ∧ FRow NoX g v w f.qStmts
/-- blocks of other types than functions' and programs' lie as they did -/
def KP (g : Nat) (w w' : World) : Prop := ∀ k, g < k → (∃ xs t z, w.heap[k]? = some (.cells xs t z) ∧ t ≠ 135 ∧ t ≠ 103) → w'.heap[k]? = w.heap[k]?
section
variable {g : Nat} {w w1 w2 : World} {v v1 : Value}
theorem KP.own {base n size : Nat} {e : TypeId} {u : Value} {xs : List Value} (h : KP g w w1) (ho : w.ownsRow base e size u n xs) (hb : g < base) (he : e ≠ 135 ∧ e ≠ 103) : w1.ownsRow base e size u n xs := by
  refine ⟨ho.1, ?_⟩
  rcases ho.2 with hn | ⟨k, cap, cur, hv, hk, hh, r⟩
  · exact .inl hn
  · exact .inr ⟨k, cap, cur, hv, hk, (h k (by omega) ⟨_, _, _, hh, he⟩).trans hh, r⟩
theorem KP.dw (h : Dw g w w1) : KP g w w1 := fun k h1 ⟨xs, t, z, hh, _⟩ => h.block k (by omega) (Array.getElem?_eq_some_iff.1 hh).1
theorem KP.trans (h : KP g w w1) (k : KP g w1 w2) : KP g w w2 := fun i h1 ⟨xs, t, z, hh, ht⟩ => (k i h1 ⟨xs, t, z, (h i h1 ⟨xs, t, z, hh, ht⟩).trans hh, ht⟩).trans (h i h1 ⟨xs, t, z, hh, ht⟩)
/-- a row of statements whose own blocks are kept -/
theorem FRow.kp {L : List StmtM} (h : FRow NoX g v w L) (hk : KP g w w1) : FRow NoX g v w1 L := by
  obtain ⟨css, h1, h2, h3⟩ := h
  refine ⟨css, h1, hk.own h2 (Nat.lt_succ_self _) (by decide), fun i a b => ?_⟩
  obtain ⟨x, y, z, e, r1, r2, r3⟩ := h3 i a b
  exact ⟨x, y, z, e, ⟨hk.own r1.own (Nat.lt_succ_self _) (by decide), r1.nx⟩, ⟨hk.own r2.own (Nat.lt_succ_self _) (by decide), r2.nx⟩, ⟨hk.own r3.own (Nat.lt_succ_self _) (by decide), r3.nx⟩⟩
theorem FnC.kp {cs : List Value} {f : FuncM} (h : FnC g w cs f) (hk : KP g w w1) : FnC g w1 cs f := by
  obtain ⟨bv, v, e, h1, h2⟩ := h
  exact ⟨bv, v, e, hk.own h1 (Nat.lt_succ_self _) (by decide), h2.kp hk⟩
theorem FRow.base {X : Nat → Prop} {fb : Nat} {L : List StmtM} (h : FRow X fb v w L) (hg : g ≤ fb) : FRow NoX g v w L := by
  obtain ⟨css, h1, h2, h3⟩ := h
  refine ⟨css, h1, own_base h2 (by omega), fun i a b => ?_⟩
  obtain ⟨x, y, z, e, r1, r2, r3⟩ := h3 i a b
  exact ⟨x, y, z, e, ⟨own_base r1.own (by omega), fun _ _ h => h⟩, ⟨own_base r2.own (by omega), fun _ _ h => h⟩, ⟨own_base r3.own (by omega), fun _ _ h => h⟩⟩
/-- the functions' row -/
def PRow (g : Nat) (v : Value) (w : World) (fs : List FuncM) : Prop := ∃ css : List (List Value), css.length = fs.length ∧ w.ownsRow (g + 1) 135 4 v fs.length css.flatten ∧ ∀ i (h : i < fs.length) (h' : i < css.length), FnC g w css[i] fs[i]
theorem PRow.nil (g : Nat) (w : World) : PRow g (.slice none 0 0) w [] := ⟨[], rfl, World.ownsRow_nil _ _ _ _, fun i h => by simp at h⟩
theorem PRow.own {fs : List FuncM} (h : PRow g v w fs) : ∃ xs, w.ownsRow (g + 1) 135 4 v fs.length xs := by obtain ⟨css, _, h2, _⟩ := h; exact ⟨_, h2⟩
theorem PRow.keep {fs : List FuncM} (h : PRow g v w fs) (hf : KP g w w1) (hk : ∀ k, v.ownBlock = some k → w1.heap[k]? = w.heap[k]?) : PRow g v w1 fs := by
  obtain ⟨css, h1, h2, h3⟩ := h
  refine ⟨css, h1, ⟨h2.1, ?_⟩, fun i a b => (h3 i a b).kp hf⟩
  rcases h2.2 with hn | ⟨k, cap, cur, hv, hb, hh, r⟩
  · exact .inl hn
  · exact .inr ⟨k, cap, cur, hv, hb, (hk k (by rw [hv]; rfl)).trans hh, r⟩
theorem PRow.dw {fs : List FuncM} (h : PRow g v w fs) (hd : Dw g w w1) : PRow g v w1 fs := by
  obtain ⟨xs, ho⟩ := h.own
  exact h.keep (.dw hd) fun k hk => hd.block k (by have := (ho.lt k hk).1; omega) (ho.lt k hk).2
theorem PRow.push {fs : List FuncM} {f : FuncM} {cs xs : List Value} (h : PRow g v w fs) (hs : FnC g w cs f) (hown : w.ownsRow (g + 1) 135 4 v fs.length xs) (ho : w1.ownsRow (g + 1) 135 4 v1 (fs.length + 1) (xs ++ cs)) (hgr : Gro w w1 v v1) : PRow g v1 w1 (fs ++ [f]) := by
  have hf : KP g w w1 := fun k h1 ⟨ys, t, z, hh, ht⟩ => hgr.g.block k (Array.getElem?_eq_some_iff.1 hh).1 fun e => by
    rcases hown.2 with ⟨rfl, _⟩ | ⟨q, _, c, rfl, _, hq, _⟩
    · cases e
    · injection e with e; subst e
      rw [hh] at hq; injection hq with hq; injection hq with _ hq _; exact ht.1 hq
  obtain ⟨css, h1, h2, h3⟩ := h
  have hx := own_inj h2 hown
  subst hx
  refine ⟨css ++ [cs], by simp [h1], by simpa using ho, fun i a b => ?_⟩
  by_cases hi : i < fs.length
  · rw [List.getElem_append_left (by omega), List.getElem_append_left hi]; exact (h3 i hi (by omega)).kp hf
  · obtain rfl : i = fs.length := by simp at a; omega
    rw [List.getElem_append_right (by omega), List.getElem_append_right (by omega)]
    simpa using hs.kp hf
end
end Go.Proofs.YtgkjakoagdkpcaaGreatDoor
set_option linter.unusedSimpArgs false
set_option linter.unusedVariables false
set_option maxRecDepth 100000
namespace Go.Proofs.YtgkjakoagdkpcaaGreatDoor
open Go.RowKit

section
variable {g fb : Nat} {w w1 W W' : World} {fv v' : Value} {fs : List FuncM}
theorem PRow.stmts {cs : Array Value} (h : PRow g fv W fs) (hg : g < fb) (hfb : Bk W fb 135 cs) (hlt : ∀ k, fv.ownBlock = some k → k < fb) (fw : Fw g fb W W' (.slice none 0 0) v') : PRow g fv W' fs := by
  obtain ⟨xs, ho⟩ := h.own
  refine h.keep (fun k h1 ⟨ys, t, z, hh, ht⟩ => fw.block k (by omega) (fun e => ?_) (fun e => by cases e) (Array.getElem?_eq_some_iff.1 hh).1) fun k hk => fw.block k (by have := (ho.lt k hk).1; omega) (by have := hlt k hk; omega) (fun e => by cases e) (ho.lt k hk).2
  subst e
  rw [show W.heap[k]? = _ from hfb] at hh
  injection hh with hh; injection hh with _ hh _; exact ht.1 hh.symm
theorem PRow.setf {cs : Array Value} (h : PRow g fv W fs) (hfb : Bk W fb 135 cs) (hlt : ∀ k, fv.ownBlock = some k → k < fb) (i : Nat) (u : Value) : PRow g fv (W.setCell ⟨fb, i, none⟩ u) fs := by
  refine h.keep (fun k h1 ⟨ys, t, z, hh, ht⟩ => Below.heap_setCell _ _ _ _ fun e => ?_) fun k hk => Below.heap_setCell _ _ _ _ (by have := hlt k hk; show k ≠ fb; omega)
  have e : k = fb := e
  subst e
  rw [show W.heap[k]? = _ from hfb] at hh
  injection hh with hh; injection hh with _ hh _; exact ht.1 hh.symm
theorem KP.setf {cs : Array Value} (hfb : Bk W fb 135 cs) (i : Nat) (u : Value) : KP g W (W.setCell ⟨fb, i, none⟩ u) := by
  rintro k h1 ⟨ys, t, z, hh, ht⟩
  refine Below.heap_setCell _ _ _ _ fun e => ?_
  have e : k = fb := e
  subst e
  rw [show W.heap[k]? = _ from hfb] at hh
  injection hh with hh; injection hh with _ hh _; exact ht.1 hh.symm
end
/-- a function as it is drawn -/
structure FunOk (ps : List Int) (f : FuncM) : Prop where
  p : inB f.qParams 0 2 = true
  v : inB f.qVars f.qParams 6 = true
  ok : OkL f.qVars ps f.qStmts
  seg : Seg (atS f.qStmts) 0 f.qStmts.length f.qBody
  b3 : f.qBody.length ≤ 3
theorem FunOk.body {ps : List Int} {f : FuncM} (h : FunOk ps f) (hl : 0 < f.qStmts.length) : 0 < f.qBody.length := by
  have hs := h.seg
  cases hb : f.qBody with
  | nil =>
    rw [hb] at hs
    have : ∀ {a b : Nat}, Seg (atS f.qStmts) a b [] → a = b := fun h => by cases h; rfl
    have := this hs
    omega
  | cons a l => simp
theorem prog_good {ps : List Int} {fs : List FuncM} (hl : fs.length = ps.length) (hp : ∀ i (h : i < fs.length) (h' : i < ps.length), fs[i].qParams = ps[i]) (h5 : ps.length ≤ 5) (h0 : ps.getD 0 1 = 0) (h2 : ∀ x ∈ ps, 0 ≤ x ∧ x ≤ 2) (hf : ∀ f ∈ fs, FunOk ps f) : parL fs = ps ∧ progS fs = true := by
  have hpar : parL fs = ps := by
    apply List.ext_getElem (by simp [parL, hl])
    intro i a b
    simp only [parL, List.getElem_map]
    exact hp i (by omega) b
  refine ⟨hpar, ?_⟩
  have h1 : 1 ≤ ps.length := by
    rcases Nat.eq_zero_or_pos ps.length with h | h
    · rw [List.eq_nil_of_length_eq_zero h] at h0; simp at h0
    · exact h
  have hok : parOk ps = true := parOk_iff.2 ⟨h5, h2⟩
  unfold progS
  rw [hpar, hok, inB_iff.2 (show (1 : Int) ≤ (fs.length : Int) ∧ (fs.length : Int) ≤ 5 by omega)]
  have h00 : ps.getD 0 0 = 0 := by
    simp only [List.getD, List.getElem?_eq_getElem (show 0 < ps.length by omega), Option.getD_some] at *; exact h0
  rw [decide_eq_true h00]
  simp only [Bool.true_and, List.all_eq_true]
  intro f hm
  have := hf f hm
  exact funcG hok this.p this.v this.ok this.seg
/-- a drawn program -/
structure PrgD (g : Nat) (w' : World) (pv : Value) (fs : List FuncM) : Prop where
  row : PRow g pv w' fs
  good : progS fs = true
  len : 1 ≤ fs.length ∧ fs.length ≤ 5
  ok : ∀ f ∈ fs, f.qStmts.length ≤ 12 ∧ (∀ s ∈ f.qStmts, s.qEx.length ≤ 15 ∧ s.qThen.length ≤ 3 ∧ s.qElse.length ≤ 3) ∧ f.qBody.length ≤ 3 ∧ (0 < f.qStmts.length → 0 < f.qBody.length) ∧ (sitesF 0 f.qStmts).length ≤ 4 ∧ Seg (atS f.qStmts) 0 f.qStmts.length f.qBody
def PrgP (g : Nat) (A : Option Addr) (c : Nat) (zs : List Int) (K : Nat) (w : World) (e : Ending) (w' : World) : Prop := ∃ (pv : Value) (fs : List FuncM), e = .returned (.agg #[pv]) ∧ PrgD g w' pv fs ∧ Cur g A c zs (K + 200000) w' ∧ Dw g w w'
theorem FunOk.d {ps : List Int} {f : FuncM} (h : FunOk ps f) : f.qStmts.length ≤ 12 ∧ (∀ s ∈ f.qStmts, s.qEx.length ≤ 15 ∧ s.qThen.length ≤ 3 ∧ s.qElse.length ≤ 3) ∧ f.qBody.length ≤ 3 ∧ (0 < f.qStmts.length → 0 < f.qBody.length) ∧ (sitesF 0 f.qStmts).length ≤ 4 ∧ Seg (atS f.qStmts) 0 f.qStmts.length f.qBody :=
  ⟨h.ok.len, fun s hs => ⟨(h.ok.ok s hs).ex, (h.ok.ok s hs).th, (h.ok.ok s hs).el⟩, h.b3, h.body, by rw [sites_count]; exact h.ok.sites, h.seg⟩
set_option maxHeartbeats 400000 in
theorem spec_l1Least (a b : Int) (w : World) : Calls Tryz.prog 120 #[.int .i64 a, .int .i64 b] w fun e w' => e = .returned (.int .i64 (min a b)) ∧ w = w' := by
  by_cases h : a < b
  · go_enter Tryz.func120, Tryz.ntmps120
    go_wp2
    go_ret
    exact ⟨retI (by omega), rfl⟩
  · go_enter Tryz.func120, Tryz.ntmps120
    go_wp2
    go_ret
    exact ⟨retI (by omega), rfl⟩
theorem okFunc : SliceOk Tryz.prog 101 135 (.agg #[.int .i64 0, .int .i64 0, .slice none 0 0, .slice none 0 0]) 4 64 := .mk Tryz.underlying101 (by kernel_rfl) rfl (by decide)
end Go.Proofs.YtgkjakoagdkpcaaGreatDoor
set_option linter.unusedSimpArgs false
set_option linter.unusedVariables false
set_option maxRecDepth 100000
namespace Go.Proofs.YtgkjakoagdkpcaaGreatDoor
open Go.RowKit

theorem sT3 {d : Nat} (h : d ≤ 2) : sT d ≤ 39000 := by
  obtain rfl | rfl | rfl : d = 0 ∨ d = 1 ∨ d = 2 := by omega
  all_goals decide
def parTab : List Int := [0, 0, 0, 1, 2]
theorem parTab_rng {z : Int} (h : z ∈ parTab) : 0 ≤ z ∧ z ≤ 2 := (show ∀ z ∈ parTab, 0 ≤ z ∧ z ≤ 2 by decide) z h
theorem cur_am5 {g : Nat} {A : Option Addr} {c : Nat} {zs : List Int} {K : Nat} {w : World} (hc : Cur g A c zs K w) (hK : K ≤ 2000000000000000000) :
    Calls Tryz.prog 38 #[.pointer (some ⟨g, 0, none⟩), .slice (some ⟨w.heap.size, 0, none⟩) 5 5] (w.alloc (.cells (icells .i64 parTab).toArray 3)) (AmP g A c zs K (w.alloc (.cells (icells .i64 parTab).toArray 3)) parTab) :=
  cur_among g A c zs K _ w.heap.size 3 parTab (hc.below ((Below.refl _ _).alloc (Nat.le_refl _) (.cells (icells .i64 parTab).toArray 3))) (by omega) (Bk.new w 3 _) (Nat.ne_of_gt hc.lt) (by decide) (by decide)
/-- the params so far -/
structure ParS (g : Nat) (A : Option Addr) (c : Nat) (zs : List Int) (w : World) (K : Nat) (pv : Value) (ps : List Int) (W : World) : Prop where
  own : W.ownsRow (w.heap.size + 1) 3 1 pv ps.length (icells .i64 ps)
  cur : Cur g A c zs K W
  dw : Dw g w W
  res : Bk W w.heap.size 103 #[.slice none 0 0]
section
variable {g : Nat} {A : Option Addr} {c : Nat} {zs : List Int} {w : World} {K K' : Nat} {pv pv' : Value} {ps ps' : List Int} {W W' : World}
theorem ParS.step (h : ParS g A c zs w K pv ps W) (hg : g < w.heap.size) (hc : Cur g A c zs K' W') (hd : Dw g W W') : ParS g A c zs w K' pv ps W' := ⟨hd.own h.own (by omega), hc, h.dw.trans hd, hd.bk h.res (by omega)⟩
theorem ParS.push (h : ParS g A c zs w K pv ps W) (hg : g < w.heap.size) (ho : W'.ownsRow (w.heap.size + 1) 3 1 pv' ps'.length (icells .i64 ps')) (hgr : Gro W W' pv pv') : ParS g A c zs w K pv' ps' W' := by
  have hb := hgr.toBelow h.own (by have := h.res.lt; omega)
  exact ⟨ho, h.cur.keepG2 hb (by omega), h.dw.belowW hb (by omega), (hb.block w.heap.size (by omega)).trans h.res⟩
theorem ParS.more (h : ParS g A c zs w K pv ps W) (hK : K ≤ K') : ParS g A c zs w K' pv ps W := ⟨h.own, h.cur.more hK, h.dw, h.res⟩
end
/-- the functions so far -/
structure FunS (g : Nat) (A : Option Addr) (c : Nat) (zs : List Int) (w : World) (K : Nat) (pv : Value) (ps : List Int) (pb : Nat) (fv : Value) (fs : List FuncM) (W : World) : Prop where
  par : ParS g A c zs w K pv ps W
  pbk : Bk W pb 103 #[fv]
  row : PRow g fv W fs
  prm : ∀ i (h : i < fs.length) (h' : i < ps.length), fs[i].qParams = ps[i]
  ok : ∀ f ∈ fs, FunOk ps f
section
variable {g : Nat} {A : Option Addr} {c : Nat} {zs : List Int} {w : World} {K K' : Nat} {pv pv' fv fv' : Value} {ps ps' : List Int} {pb fb : Nat} {fs : List FuncM} {W W' : World} {m V : Int}
theorem FunS.step (h : FunS g A c zs w K pv ps pb fv fs W) (hg : g < w.heap.size) (hpb : w.heap.size < pb) (hc : Cur g A c zs K' W') (hd : Dw g W W') : FunS g A c zs w K' pv ps pb fv fs W' := ⟨h.par.step hg hc hd, hd.bk h.pbk (by omega), h.row.dw hd, h.prm, h.ok⟩
theorem FunS.more (h : FunS g A c zs w K pv ps pb fv fs W) (hK : K ≤ K') : FunS g A c zs w K' pv ps pb fv fs W := ⟨h.par.more hK, h.pbk, h.row, h.prm, h.ok⟩
/-- a function more: what was drawn for it is stored, and it is appended -/
theorem FunS.func {bv v' : Value} {b : List Int} {L : List StmtM} {cs0 : Array Value} (h : FunS g A c zs w K pv ps pb fv fs W) (hg : g < w.heap.size) (hpv : ∀ k, pv.ownBlock = some k → k < fb) (hpb : pb < fb ∧ w.heap.size < pb) (hfb : Bk W fb 135 cs0) (hlt : ∀ k, fv.ownBlock = some k → k < fb)
    (hn : NestS NoX g A c zs fb m V ps K' W (.slice none 0 0) [] false bv b v' L W') : FunS g A c zs w K' pv ps pb fv fs (W'.setCell ⟨fb, 2, none⟩ bv) ∧ Bk (W'.setCell ⟨fb, 2, none⟩ bv) fb 135 #[.int .i64 m, .int .i64 V, bv, v'] ∧ FnC g (W'.setCell ⟨fb, 2, none⟩ bv) [.int .i64 m, .int .i64 V, bv, v'] ⟨m, V, b, L⟩ := by
  have hfl := hfb.lt
  have hgf : g < fb := by omega
  have hkk : ∀ k, k ≠ fb → (W'.setCell ⟨fb, 2, none⟩ bv).heap[k]? = W'.heap[k]? := fun k hk => Below.heap_setCell _ _ _ _ hk
  have hfn := hn.fn.set 2 bv
  have hbv := hn.own
  have hne : ∀ k, bv.ownBlock = some k → k ≠ fb := fun k hk => by have := (hbv.lt k hk).1; omega
  refine ⟨⟨⟨?_, ?_, ?_, ?_⟩, ?_, ?_, h.prm, h.ok⟩, hfn, bv, v', rfl, own_far (own_base hbv (by omega)) bv (fun k hk => hne k hk), (hn.row.base (by omega)).kp (.setf hn.fn 2 bv)⟩
  · exact own_far (hn.fw.own h.par.own fun k hk => ⟨by have := (h.par.own.lt k hk).1; omega, by have := hpv k hk; omega, fun e => by cases e⟩) bv fun k hk e => by have := hpv k hk; simp only at e; omega
  · exact hn.cur.keepG2 (B := fb) ⟨rfl, rfl, rfl, by simp [World.setCell], fun k hk => hkk k (by omega)⟩ hgf
  · exact ⟨hn.fw.os.trans h.par.dw.os, hn.fw.tape.trans h.par.dw.tape, hn.fw.output.trans h.par.dw.output, by rw [World.size_setCell]; exact Nat.le_trans h.par.dw.size hn.fw.size, fun k hk hs => (hkk k (by omega)).trans ((hn.fw.block k hk (by omega) (fun e => by cases e) (by have := h.par.dw.size; omega)).trans (h.par.dw.block k hk hs))⟩
  · exact (hkk _ (by omega)).trans (hn.fw.bk h.par.res (by omega) (by omega) (fun e => by cases e))
  · exact (hkk _ (by omega)).trans (hn.fw.bk h.pbk (by omega) (by omega) (fun e => by cases e))
  · exact (h.row.stmts hgf hfb hlt hn.fw).setf hn.fn hlt 2 bv
theorem FunS.push {f : FuncM} {cs xs : List Value} (h : FunS g A c zs w K pv ps pb fv fs W) (hg : g < w.heap.size) (hpb : w.heap.size < pb) (hf : FnC g W cs f) (hm : ∀ h' : fs.length < ps.length, f.qParams = ps[fs.length]) (hok : FunOk ps f) (hown : W.ownsRow (g + 1) 135 4 fv fs.length xs) (hfv : ∀ k, fv.ownBlock = some k → w.heap.size < k) (ho : W'.ownsRow (g + 1) 135 4 fv' (fs.length + 1) (xs ++ cs)) (hgr : Gro W W' fv fv') :
    FunS g A c zs w K pv ps pb fv' (fs ++ [f]) (W'.setCell ⟨pb, 0, none⟩ fv') := by
  have hkk : ∀ k, k ≠ pb → (W'.setCell ⟨pb, 0, none⟩ fv').heap[k]? = W'.heap[k]? := fun k hk => Below.heap_setCell _ _ _ _ hk
  have hne : fv.ownBlock ≠ some pb := fun e => by
    rcases hown.2 with ⟨rfl, _⟩ | ⟨q, _, c', rfl, _, hq, _⟩
    · cases e
    · injection e with e; subst e
      rw [show W.heap[q]? = _ from h.pbk] at hq
      injection hq with hq; injection hq with _ hq _; exact absurd hq (by decide)
  have hb : Below (w.heap.size + 1) W W' := ⟨hgr.g.os, hgr.g.tape, hgr.g.output, hgr.g.size, fun k hk => hgr.g.block k (by have := h.par.dw.size; have := h.par.res.lt; omega) (fun e => by have := hfv k e.symm; omega)⟩
  have hb2 : Below (w.heap.size + 1) W (W'.setCell ⟨pb, 0, none⟩ fv') := ⟨hb.os, hb.tape, hb.output, by rw [World.size_setCell]; exact hb.size, fun k hk => (hkk k (by omega)).trans (hb.block k hk)⟩
  have hpk : Bk W' pb 103 #[fv] := hgr.bk h.pbk hne.symm
  have hrow := h.row.push hf hown ho hgr
  obtain ⟨xs2, ho2⟩ := hrow.own
  refine ⟨⟨?_, h.par.cur.keepG2 hb2 (by omega), h.par.dw.belowW hb2 (by omega), (hb2.block _ (by omega)).trans h.par.res⟩, hpk.set 0 fv', ?_, ?_, ?_⟩
  · refine own_far (own_gro h.par.own hgr fun q hq => own_types h.par.own hown (by decide) hq) fv' fun k hk e => ?_
    have e : k = pb := e
    subst e
    rcases h.par.own.2 with ⟨rfl, _⟩ | ⟨q, _, c', rfl, _, hq, _⟩
    · cases hk
    · injection hk with hk; subst hk
      rw [show W.heap[q]? = _ from h.pbk] at hq
      injection hq with hq; injection hq with _ hq _; exact absurd hq (by decide)
  · refine hrow.keep (fun k h1 ⟨ys, t, z, hh, ht⟩ => ?_) fun k hk => hkk k fun e => ?_
    · by_cases e : k = pb
      · subst e
        rw [show W'.heap[k]? = _ from hpk] at hh
        injection hh with hh; injection hh with _ hh _; exact absurd hh.symm ht.2
      · exact hkk k e
    · subst e
      rcases ho2.2 with ⟨rfl, _⟩ | ⟨q, _, c', rfl, _, hq, _⟩
      · cases hk
      · injection hk with hk; subst hk
        rw [show W'.heap[q]? = _ from hpk] at hq
        injection hq with hq; injection hq with _ hq _; exact absurd hq (by decide)
  · intro i a b
    by_cases hi : i < fs.length
    · rw [List.getElem_append_left hi]; exact h.prm i hi b
    · obtain rfl : i = fs.length := by simp at a; omega
      rw [List.getElem_append_right (Nat.le_refl _)]
      simpa using hm b
  · intro x hx
    rcases List.mem_append.1 hx with hx | hx
    · exact h.ok x hx
    · rw [List.mem_singleton] at hx; subst hx; exact hok
end
theorem PRow.setp {g : Nat} {v : Value} {w : World} {fs : List FuncM} {q : Nat} {cs : Array Value} (h : PRow g v w fs) (hq : Bk w q 103 cs) (i : Nat) (u : Value) : PRow g v (w.setCell ⟨q, i, none⟩ u) fs := by
  obtain ⟨xs, ho⟩ := h.own
  refine h.keep (fun k h1 ⟨ys, t, z, hh, ht⟩ => Below.heap_setCell _ _ _ _ fun e => ?_) fun k hk => Below.heap_setCell _ _ _ _ fun e => ?_
  · have e : k = q := e
    subst e
    rw [show w.heap[k]? = _ from hq] at hh
    injection hh with hh; injection hh with _ hh _; exact ht.2 hh.symm
  · have e : k = q := e
    subst e
    rcases ho.2 with ⟨rfl, _⟩ | ⟨r, _, c', rfl, _, hr, _⟩
    · cases hk
    · injection hk with hk; subst hk
      rw [show w.heap[r]? = _ from hq] at hr
      injection hr with hr; injection hr with _ hr _; exact absurd hr (by decide)
/-- a function's statements, from none on -/
theorem cur_stmts0 (g : Nat) (A : Option Addr) (c : Nat) (zs : List Int) (P V : Int) (hv0 : 0 ≤ V) (hv6 : V ≤ 6) (params : List Int) (hpar : parOk params = true) (hz0 : params.getD 0 1 = 0) (fb base : Nat) (pA : Option Addr) (pc : Nat) (y : Nat) (hy : y < 2) (dI : Int) (hdI : dI = 1 + (y : Int)) (K : Nat) (w : World) (hc : Cur g A c zs K w) (hK : K ≤ 800000000000000000) (hg : g < base ∧ g < fb ∧ fb < w.heap.size)
    (hpB : ∀ k, (Value.slice pA params.length pc).ownBlock = some k → k < fb) (ho : w.ownsRow base 3 1 (.slice pA params.length pc) params.length (icells .i64 params)) (hfn : Bk w fb 135 #[.int .i64 P, .int .i64 V, .slice none 0 0, .slice none 0 0]) :
    Calls Tryz.prog 121 #[.pointer (some ⟨g, 0, none⟩), .pointer (some ⟨fb, 0, none⟩), .slice pA params.length pc, .int .i64 dI, .bool false] w fun e w' =>
      ∃ (bA : Option Addr) (bc : Nat) (b : List Int) (vA : Option Addr) (vc : Nat) (L : List StmtM), e = .returned (.slice bA b.length bc) ∧ NestS NoX g A c zs fb P V params (K + 39000) w (.slice none 0 0) [] false (.slice bA b.length bc) b (.slice vA L.length vc) L w' := by
  have h := cur_stmts g A c zs P V hv0 hv6 params hpar hz0 fb base pA pc (1 + y) (by omega)
  unfold StmtsC at h
  have hT := sT3 (d := 1 + y) (by omega)
  refine (h dI (by omega) NoX false K w (.slice none 0 0) [] hc (by omega) hg (fun k h => h.elim) hpB ho hfn (FRow.nil _ _ _) OkL.nil).mono ?_
  rintro e w' ⟨u, b, v', L, rfl, hn⟩
  obtain ⟨bA, bc, rfl⟩ := own_form hn.own
  obtain ⟨x, hx⟩ := hn.row.own
  obtain ⟨vA, vc, rfl⟩ := own_form hx
  exact ⟨bA, bc, b, vA, vc, L, rfl, hn.own, hn.len, hn.cur.more (by omega), hn.fn, hn.row, hn.ok, hn.pre, hn.seg, hn.noD, hn.fw⟩
end Go.Proofs.YtgkjakoagdkpcaaGreatDoor
set_option linter.unusedSimpArgs false
set_option linter.unusedVariables false
set_option maxRecDepth 100000
namespace Go.Proofs.YtgkjakoagdkpcaaGreatDoor
open Go.RowKit

set_option maxHeartbeats 6400000 in
theorem cur_prog (g : Nat) (A : Option Addr) (c : Nat) (zs : List Int) (K : Nat) (w : World) (hc : Cur g A c zs K w) (hK : K ≤ 100000000000000000) :
    Calls Tryz.prog 105 #[.pointer (some ⟨g, 0, none⟩)] w (PrgP g A c zs K w) := by
  have hgl := hc.lt
  have hc0 := hc.below (((Below.refl w.heap.size w).alloc (Nat.le_refl _) (.cells #[.slice none 0 0] 103)).alloc (by simp) (.cells #[.int .i64 0] 3))
  have hp0 : ((w.alloc (.cells #[.slice none 0 0] 103)).alloc (.cells #[.int .i64 0] 3)).ownsRow (w.heap.size + 1) 3 1 (.slice (some ⟨w.heap.size + 1, 0, none⟩) 1 1) 1 [.int .i64 0] := by
    have := World.ownsRow_lit (base := w.heap.size + 1) (e := 3) (size := 1) (w.alloc (.cells #[.slice none 0 0] 103)) #[.int .i64 0] 1 (by rw [World.size_alloc]; exact Nat.le_refl _) (by unfold maxLen; omega) rfl
    rw [World.size_alloc] at this
    exact this
  have hr0 := (Bk.new w 103 #[.slice none 0 0]).alloc (.cells #[.int .i64 0] 3)
  have HP := hide (ParS.mk (g := g) (A := A) (c := c) (zs := zs) (ps := [0]) hp0 hc0 (((Dw.refl g w).alloc _).alloc _) hr0)
  clear hc hc0 hp0 hr0
  go_enter Tryz.func105, Tryz.ntmps105
  go_wp2_with (go_at_call 44; go_must (refine (cur_pick g A c zs K _ _ HP.out.cur (by omega) (by omega)).mono ?_); rintro e w1 ⟨x, rfl, hx, hc1, hd1⟩; obtain ⟨x, rfl, hx4⟩ := pick_nat (n := 4) hx (by decide); have HP := hide (HP.out.step hgl hc1 hd1); clear hc1 hd1 hx)
  go_loopw [3, 4] (fun pv nv wr => ∃ (n : Nat) (ps : List Int), nv = .int .i64 n ∧ n + ps.length ≤ 4 ∧ (ps.getD 0 1 = 0 ∧ ∀ x ∈ ps, 0 ≤ x ∧ x ≤ 2) ∧ 1 ≤ ps.length ∧ ParS g A c zs w (K + 2 + 2 * ps.length) pv ps wr) (fun _ nv _ => (intOf nv).toNat)
  case atStart => exact ⟨x, [0], rfl, by simp; omega, ⟨rfl, fun y hy => by simp at hy; omega⟩, by simp, HP.out.more (by simp)⟩
  case round =>
    obtain ⟨n, ps, rfl, hn, hps, hp1, hP⟩ := hrel
    obtain ⟨pA, pc, rfl⟩ := own_form hP.own
    have Hps := hide hps; have HP := hide hP
    have hrs := hP.res.lt
    clear hps hP
    by_cases hn0 : n = 0
    case neg =>
      have hnI : (0 : Int) < (n : Int) := by omega
      have hb1 : w.heap.size + 1 ≤ wr.heap.size := hrs
      go_wp2_with (first
        | (go_at_call 38; go_must (refine (cur_am5 HP.out.cur (by omega)).mono ?_); rintro e w2 ⟨z, rfl, hz, hc1, hd1⟩; have HP2 := hide ((HP.out.step hgl (HP.out.cur.below ((Below.refl _ _).alloc (Nat.le_refl _) (.cells (icells .i64 parTab).toArray 3))) ((Dw.refl g wr).alloc _)).step hgl hc1 hd1); have hzr := parTab_rng hz; have hrs2 := HP2.out.res.lt; clear hc1 hd1 hz)
        | (at_builtin; refine wpList_pushG rfl _ _ _ rfl okI64 rfl HP2.out.own _ rfl rfl rfl (by simp [Value.oneCell']) (by unfold maxLen; omega) (by omega) hrs2 ?_; intro v2 w9 hown9 hg9; have HP3 := hide (HP2.out.push (ps' := ps ++ [z]) hgl (by rw [List.length_append, icells_append]; exact hown9) hg9); clear hown9 hg9))
      go_roundw
      case rel =>
        refine ⟨n - 1, ps ++ [z], congrArg (Value.int .i64) (by omega), by simp; omega, ⟨?_, fun y hy => ?_⟩, by simp, HP3.out.more (by simp; omega)⟩
        · have := Hps.out.1
          simp only [List.getD] at *
          rw [List.getElem?_append_left (by omega)]; exact this
        · rcases List.mem_append.1 hy with hy | hy
          · exact Hps.out.2 y hy
          · rw [List.mem_singleton] at hy; subst hy; exact hzr
      case measure => simp [intOf]; omega
    case pos =>
      subst hn0
      have hpar : parOk ps = true := parOk_iff.2 ⟨by omega, Hps.out.2⟩
      have Hpar := hide hpar
      have hpB := fun k (hk : (Value.slice pA ps.length pc).ownBlock = some k) => (HP.out.own.lt k hk).2
      obtain ⟨wo, hwo⟩ : ∃ wo : World, wo = wr := ⟨_, rfl⟩
      subst hwo
      have HpB := Lib.hid hpB
      have HF0 := hide (show FunS g A c zs w (K + 2 + 2 * ps.length) (.slice pA ps.length pc) ps wo.heap.size (.slice none 0 0) [] (wo.alloc (.cells #[.slice none 0 0] 103)) from ⟨HP.out.step hgl (HP.out.cur.below ((Below.refl _ _).alloc (Nat.le_refl _) _)) ((Dw.refl g wo).alloc _), Bk.new _ _ _, .nil _ _, fun i h => by simp at h, fun f h => by simp at h⟩)
      clear hpar hpB
      go_wp2_with fail
      go_loopw [24] (fun kv wr => ∃ (k : Nat) (fv : Value) (fs : List FuncM), kv = .int .i64 k ∧ k ≤ ps.length ∧ fs.length = k ∧ FunS g A c zs w (K + 10 + 40000 * k) (.slice pA ps.length pc) ps wo.heap.size fv fs wr ∧ (∀ q, fv.ownBlock = some q → wo.heap.size < q)) (fun kv _ => ps.length - (intOf kv).toNat)
      case atStart => exact ⟨0, .slice none 0 0, [], rfl, by omega, rfl, HF0.out.more (by omega), fun q hq => by cases hq⟩
      case round =>
        obtain ⟨k, fv, fs, rfl, hk, rfl, hF, hfq⟩ := hrel
        obtain ⟨xsF, hoF⟩ := hF.row.own
        obtain ⟨fA, fc, rfl⟩ := own_form hoF
        have HF := hide hF; have Hfq := Lib.hid hfq
        have hpl := hF.pbk.lt
        have HoF := hide hoF
        have hwpb : w.heap.size < wo.heap.size := hrs
        have HFS := hide (show fs.length ≤ 5 by omega)
        clear hF hfq hoF
        by_cases hlt : fs.length < ps.length
        case pos =>
          have hltI : (fs.length : Int) < (ps.length : Int) := by omega
          obtain ⟨pb, po, hpe, hpbB, hcell⟩ := (Rd.of_own HF.out.par.own).at_ (j := fs.length) (by rw [icells_length]; exact hlt)
          rw [icells_get _ _ hlt] at hcell
          have hm2 := Hps.out.2 _ (List.getElem_mem hlt)
          obtain ⟨m, hm⟩ : ∃ m, m = ps[fs.length] := ⟨_, rfl⟩
          rw [← hm] at hcell hm2
          have Hm := hide hm
          obtain ⟨hm0, hm2⟩ := hm2
          cases hpe
          clear hm
          go_wp2_with (first
            | (go_at_call_of 44 (Value.int .i64 3); refine (cur_pick g A c zs (K + 10 + 40000 * fs.length) _ _ HF.out.par.cur (by omega) (by omega)).mono ?_; rintro e w2 ⟨x2, rfl, hx2, hc1, hd1⟩; obtain ⟨x2, rfl, hx3⟩ := pick_nat (n := 3) hx2 (by decide); have HF2 := hide (HF.out.step hgl hwpb hc1 hd1); have hz2 := hd1.size; clear hc1 hd1 hx2)
            | (go_at_call 120; refine (spec_l1Least _ _ _).mono ?_; rintro e w3 ⟨he, rfl⟩; obtain ⟨V, hV⟩ : ∃ V, V = min 6 (m + (x2 : Int)) := ⟨_, rfl⟩; rw [← hV] at he; subst he; have hV1 : m ≤ V := (by omega); have hV2 : V ≤ 6 := (by omega); clear hV)
            | (go_at_call_of 44 (Value.int .i64 2); refine (cur_pick g A c zs (K + 10 + 40000 * fs.length + 2) _ _ (HF2.out.par.cur.below ((Below.refl _ _).alloc (Nat.le_refl _) _)) (by omega) (by omega)).mono ?_; rintro e w4 ⟨y4, rfl, hy4, hc1, hd1⟩; obtain ⟨y4, rfl, hy5⟩ := pick_nat (n := 2) hy4 (by decide); have HF4 := hide ((HF2.out.step hgl hwpb (HF2.out.par.cur.below ((Below.refl _ _).alloc (Nat.le_refl _) (.cells #[.int .i64 m, .int .i64 V, .slice none 0 0, .slice none 0 0] 135))) ((Dw.refl g _).alloc (.cells #[.int .i64 m, .int .i64 V, .slice none 0 0, .slice none 0 0] 135))).step hgl hwpb hc1 hd1); have hb4 := hd1.bk (Bk.new _ 135 #[.int .i64 m, .int .i64 V, .slice none 0 0, .slice none 0 0]) (by omega); have Hb4 := hide hb4; have hl4 := hb4.lt; clear hc1 hd1 hy4 hb4)
            | (go_at_call 121; refine (cur_stmts0 g A c zs m V (by omega) hV2 ps Hpar.out Hps.out.1 _ (w.heap.size + 1) _ _ y4 hy5 _ rfl (K + 10 + 40000 * fs.length + 4) _ HF4.out.par.cur (by omega) (by omega) (fun q hq => by have := HpB.out q hq; omega) HF4.out.par.own Hb4.out).mono ?_; rintro e w5 ⟨bA, bc, b, vA, vc, L, rfl, hn⟩; have hfu := HF4.out.func hgl (fun q hq => by have := HpB.out q hq; omega) (by omega) Hb4.out (fun q hq => by have := HoF.out.lt q hq; omega) hn; have s0 := hn.fn.cell 0; have s1 := hn.fn.cell 1; have s2 := hn.fn.cell 2; have s3 := hn.fn.cell 3; have z2 := hn.fn.frozen 2; have sl := hn.fn.lt; have n1 : ¬ wo.heap.size = w2.heap.size := (by omega); have n2 : ¬ w2.heap.size = wo.heap.size := (by omega); have p5 := hn.fw.bk HF4.out.pbk (by omega) (by omega) (fun e => by cases e); have p0 := p5.cell 0; have y0 := p5.frozen 0; have pl := p5.lt; have Hn := hide hn; clear p5; have HF5 := hide hfu.1; have Hb5 := hide hfu.2.1; have Hc5 := hide hfu.2.2; obtain ⟨xs5, ho5⟩ := hfu.1.row.own; have Ho5 := hide ho5; have hbase5 : g + 1 ≤ _ := hfu.1.par.cur.lt; clear hfu hn ho5)
            | (at_builtin; go_must (refine wpList_pushG rfl _ _ _ rfl okFunc rfl Ho5.out _ rfl (by simp) rfl (by simp [Value.oneCell']) (Nat.le_trans (Nat.succ_le_succ HFS.out) (by decide)) (Nat.le_trans (Nat.mul_le_mul_right 64 (Nat.succ_le_succ HFS.out)) (by decide)) hbase5 ?_); intro v9 w9 hown9 hg9; obtain ⟨fA9, fc9, rfl⟩ := own_form hown9; have p9 := hg9.bk HF5.out.pbk (fun e => by have := Hfq.out _ e.symm; omega); have pc9 := p9.cell 0; have pf9 := p9.frozen 0; have pl9 := p9.lt; have Ho9 := hide hown9; have Hg9 := hide (show Gro _ w9 (.slice fA fs.length fc) _ from hg9); clear hown9 hg9 p9))
          have hfk : ∀ h' : fs.length < ps.length, m = ps[fs.length] := fun h' => Hm.out
          have HF9 := hide (HF5.out.push (f := ⟨m, V, b, L⟩) hgl hwpb Hc5.out hfk ⟨inB_iff.2 ⟨hm0, hm2⟩, inB_iff.2 ⟨hV1, hV2⟩, Hn.out.ok, Hn.out.seg, Hn.out.len⟩ Ho5.out (fun q hq => by have := Hfq.out q hq; omega) Ho9.out Hg9.out)
          go_roundw
          case rel =>
            refine ⟨_, _, .int .i64 ((fs.length : Int) + 1), ⟨fs.length + 1, by go_num, by omega, .slice fA9 (fs.length + 1) fc9, fs ++ [⟨m, V, b, L⟩], by simp, HF9.out.more (by omega), fun q hq => ?_⟩, rfl, rfl, rfl⟩
            rcases Hg9.out.b with e | ⟨j, e, hj⟩
            · exact Hfq.out q (by rw [← e]; exact hq)
            · rw [e] at hq; injection hq with hq; have := HF5.out.pbk.lt; omega
          case measure => simp [intOf]; omega
        case neg =>
          have hltI : ¬ (fs.length : Int) < (ps.length : Int) := by omega
          have hfl' : fs.length = ps.length := by omega
          have hr0 := HF.out.par.res.cell 0; have hy0 := HF.out.par.res.frozen 0; have hrl := HF.out.par.res.lt
          have hpc0 := HF.out.pbk.cell 0
          have HG := hide (prog_good hfl' HF.out.prm (by omega) Hps.out.1 Hps.out.2 HF.out.ok)
          have hfs5 : 1 ≤ fs.length ∧ fs.length ≤ 5 := ⟨by omega, by omega⟩
          clear hfl'
          go_wp2_with fail
          refine bodyPost_ret (v := .agg #[.slice fA fs.length fc]) ?_ rfl ?_
          · simp [results, Tryz.results105, go_sem, hr0, hrl]; done
          · exact ⟨_, fs, rfl, ⟨HF.out.row.setp HF.out.par.res 0 _, HG.out.2, hfs5, fun f hf => (HF.out.ok f hf).d⟩, (HF.out.par.cur.more (by omega)).keepG2 (B := w.heap.size) ⟨rfl, rfl, rfl, by simp [World.setCell], fun k hk => Below.heap_setCell _ _ _ _ (by show k ≠ w.heap.size; omega)⟩ hgl, ⟨HF.out.par.dw.os, HF.out.par.dw.tape, HF.out.par.dw.output, by rw [World.size_setCell]; exact HF.out.par.dw.size, fun k hk hs => (Below.heap_setCell _ _ _ _ (by show k ≠ w.heap.size; omega)).trans (HF.out.par.dw.block k hk hs)⟩⟩
end Go.Proofs.YtgkjakoagdkpcaaGreatDoor
