
/- Drawn statements: the state of the draw between its steps. No condition. -/
import Derived.Test.YtgkjakoagdkpcaaGreatDoorFu
import Derived.Test.YtgkjakoagdkpcaaGreatDoorExg
import Derived.Test.YtgkjakoagdkpcaaGreatDoorPg3
set_option linter.unusedSimpArgs false
set_option linter.unusedVariables false
set_option maxRecDepth 100000
namespace Go.Proofs.YtgkjakoagdkpcaaGreatDoor
open Go.RowKit

/-- how many choices a block of statements takes at most, and a round -/
def sT : Nat → Nat
  | 0 => 700
  | d + 1 => 700 + 6 * sT d
def sR : Nat → Nat
  | 0 => 230
  | d + 1 => 230 + 2 * sT d
theorem sT_sR (d : Nat) : 2 + 3 * sR d ≤ sT d := by
  cases d with
  | zero => simp only [sT, sR]; omega
  | succ d => simp only [sT, sR]; omega
theorem sT2 {d : Nat} (h : d ≤ 2) : sT d ≤ 40000 := by
  obtain rfl | rfl | rfl : d = 0 ∨ d = 1 ∨ d = 2 := by omega
  all_goals decide
theorem sR2 {d : Nat} (h : d ≤ 2) : sR d ≤ 20000 := by
  obtain rfl | rfl | rfl : d = 0 ∨ d = 1 ∨ d = 2 := by omega
  all_goals decide
theorem sR_pos (d : Nat) : 230 ≤ sR d := by cases d <;> simp [sR]
/-- what a row is made of -/
theorem own_inj {w : World} {b1 b2 n s : Nat} {e : TypeId} {v : Value} {xs ys : List Value} (h : w.ownsRow b1 e s v n xs) (k : w.ownsRow b2 e s v n ys) : xs = ys := by
  rcases h.2 with ⟨rfl, rfl⟩ | ⟨g, cap, cur, rfl, _, hh, _, _, _, hx⟩
  · have h1 := h.1; have h2 := k.1
    simp at h1 h2; rw [h1, h2]
  · rcases k.2 with ⟨e1, _⟩ | ⟨g2, cap2, cur2, e1, _, hh2, _, _, _, hy⟩
    · cases e1
    · cases e1
      rw [hh] at hh2
      cases hh2
      rw [← hx, ← hy]
/-- a row that grew: what lay elsewhere lies as it did -/
theorem Fw.gron {g fb : Nat} {w0 w w1 : World} {v0 v u u1 : Value} {base n s : Nat} {e : TypeId} {xs : List Value} (h : Fw g fb w0 w v0 v) (ho : w.ownsRow base e s u n xs) (hb : w0.heap.size ≤ base) (hg : Gro w w1 u u1) : Fw g fb w0 w1 v0 v :=
  ⟨hg.g.os.trans h.os, hg.g.tape.trans h.tape, hg.g.output.trans h.output, Nat.le_trans h.size hg.g.size, fun k h1 h2 h3 h4 => (hg.g.block k (Nat.lt_of_lt_of_le h4 h.size) (fun e => by have := (ho.lt k e.symm).1; omega)).trans (h.block k h1 h2 h3 h4), h.b⟩
/-- the state: what the draw has, from world w0 on -/
structure StS (X : Nat → Prop) (g : Nat) (A : Option Addr) (c : Nat) (zs : List Int) (fb : Nat) (P V : Int) (params : List Int) (pv : Value) (base : Nat) (w0 : World) (v0 : Value) (K : Nat) (bv : Value) (b : List Int) (v : Value) (L : List StmtM) (W : World) : Prop where
  gf : g < base ∧ g < fb ∧ fb < w0.heap.size
  xlt : ∀ k, X k → k < w0.heap.size
  own : W.ownsRow w0.heap.size 3 1 bv b.length (icells .i64 b)
  cur : Cur g A c zs K W
  fn : Bk W fb 135 #[.int .i64 P, .int .i64 V, .slice none 0 0, v]
  row : FRow (Xv X bv) fb v W L
  ok : OkL V params L
  fw : Fw g fb w0 W v0 v
  par : W.ownsRow base 3 1 pv params.length (icells .i64 params)
  parB : ∀ k, pv.ownBlock = some k → k < fb
section
variable {X : Nat → Prop} {g : Nat} {A : Option Addr} {c : Nat} {zs : List Int} {fb : Nat} {P V : Int} {params : List Int} {pv : Value} {base : Nat} {w0 : World} {v0 : Value} {K K' : Nat} {bv : Value} {b : List Int} {v : Value} {L : List StmtM} {W W' : World}
theorem StS.dw (h : StS X g A c zs fb P V params pv base w0 v0 K bv b v L W) (hc : Cur g A c zs K' W') (hd : Dw g W W') : StS X g A c zs fb P V params pv base w0 v0 K' bv b v L W' :=
  ⟨h.gf, h.xlt, hd.own h.own (by have := h.gf; omega), hc, hd.bk h.fn (by have := h.gf; omega), h.row.dw h.gf.2.1 hd, h.ok, h.fw.trans (.dw hd), hd.own h.par h.gf.1, h.parB⟩
theorem StS.alloc (h : StS X g A c zs fb P V params pv base w0 v0 K bv b v L W) (o : Obj) : StS X g A c zs fb P V params pv base w0 v0 K bv b v L (W.alloc o) :=
  h.dw (h.cur.below ((Below.refl _ _).alloc (Nat.le_refl _) o)) ((Dw.refl g W).alloc o)
theorem StS.below (h : StS X g A c zs fb P V params pv base w0 v0 K bv b v L W) (hb : Below W.heap.size W W') : StS X g A c zs fb P V params pv base w0 v0 K bv b v L W' :=
  h.dw (h.cur.below hb) (.of hb)
theorem StS.drewN (h : StS X g A c zs fb P V params pv base w0 v0 K bv b v L W) (q : Nat) : StS X g A c zs fb P V params pv base w0 v0 K bv b v L (W.drewN q) := h.below (below_drewN (Below.refl _ _) q)
theorem StS.more (h : StS X g A c zs fb P V params pv base w0 v0 K bv b v L W) (hK : K ≤ K') : StS X g A c zs fb P V params pv base w0 v0 K' bv b v L W := h.dw (h.cur.more hK) (.refl g W)
theorem StS.size (h : StS X g A c zs fb P V params pv base w0 v0 K bv b v L W) : w0.heap.size ≤ W.heap.size := h.fw.size
/-- a write in a block made since, which is not the row's nor the block's -/
theorem StS.set {cs : Array Value} (h : StS X g A c zs fb P V params pv base w0 v0 K bv b v L W) {q : Nat} (hq : w0.heap.size ≤ q) (hv : v.ownBlock ≠ some q) (hb : bv.ownBlock ≠ some q) (hs : Bk W q 140 cs) (i : Nat) (u : Value) : StS X g A c zs fb P V params pv base w0 v0 K bv b v L (W.setCell ⟨q, i, none⟩ u) := by
  obtain ⟨h1, h2, h3⟩ := h.gf
  have hkk : ∀ k, k ≠ q → (W.setCell ⟨q, i, none⟩ u).heap[k]? = W.heap[k]? := fun k hk => Below.heap_setCell _ _ _ _ hk
  have hB : Below w0.heap.size W (W.setCell ⟨q, i, none⟩ u) := ⟨rfl, rfl, rfl, by simp [World.setCell], fun k hk => hkk k (by omega)⟩
  refine ⟨h.gf, h.xlt, own_far h.own u (fun k hk e => hb (by rw [hk, e])), h.cur.keepG2 hB (by omega), (hkk fb (by omega)).trans h.fn, ?_, h.ok, h.fw.setn hq i u, own_far h.par u (fun k hk e => by have := h.parB k hk; simp only at e; omega), h.parB⟩
  exact h.row.keep (.sets hs i u) fun k hk => hkk k (fun e => hv (by rw [hk, e]))
theorem StS.rfunc (h : StS X g A c zs fb P V params pv base w0 v0 K bv b v L W) : RFunc W 0 W.heap.size [.int .i64 P, .int .i64 V, .slice none 0 0, v] ⟨P, V, [], L⟩ :=
  ⟨_, _, rfl, ⟨none, 0, rfl, Nat.le_refl _, by unfold maxLen; omega, fun j x h => by simp [icells] at h⟩, h.row.rl.more RStmt_stable (Nat.zero_le _) (Nat.le_refl _)⟩
/-- the row's block and the block's are two -/
theorem StS.vb (h : StS X g A c zs fb P V params pv base w0 v0 K bv b v L W) {k : Nat} (hk : v.ownBlock = some k) : bv.ownBlock ≠ some k := by
  obtain ⟨xs, ho⟩ := h.row.own
  exact own_types ho h.own (by decide) hk
/-- what a list in a block of the call's own holds hangs on no other -/
theorem StS.notX (h : StS X g A c zs fb P V params pv base w0 v0 K bv b v L W) {k : Nat} (hk : W.heap.size ≤ k) : ¬ Xv X bv k := by
  rintro (hx | hx)
  · have := h.xlt k hx; have := h.size; omega
  · have := (h.own.lt k hx).2; omega
/-- the block grew -/
theorem StS.pushB {bv1 : Value} {b1 : List Int} (h : StS X g A c zs fb P V params pv base w0 v0 K bv b v L W) (ho : W'.ownsRow w0.heap.size 3 1 bv1 b1.length (icells .i64 b1)) (hg : Gro W W' bv bv1) : StS X g A c zs fb P V params pv base w0 v0 K bv1 b1 v L W' := by
  obtain ⟨h1, h2, h3⟩ := h.gf
  refine ⟨h.gf, h.xlt, ho, h.cur.gro h.own (by omega) h.size hg, hg.bk h.fn (fun e => by have := (h.own.lt fb e.symm).1; omega), ?_, h.ok, h.fw.gron h.own (Nat.le_refl _) hg, own_gro h.par hg (fun q hq e => by have := h.parB q hq; have := (h.own.lt q e).1; omega), h.parB⟩
  refine h.row.keepX (.gro hg) (fun k hk hx => ?_) fun k hk => hg.g.block k (h.row.lt hk).2 fun e => h.vb hk e.symm
  rintro (e | e)
  · exact hx (.inl e)
  · rcases hg.b with e2 | ⟨j, e2, hj⟩
    · exact hx (.inr (by rw [← e2]; exact e))
    · rw [e2] at e; injection e with e; omega
/-- the row grew -/
theorem StS.pushL {s : StmtM} {cs xs : List Value} {v1 : Value} (h : StS X g A c zs fb P V params pv base w0 v0 K bv b v L W) (hs : SC (Xv X bv) fb W cs s) (hok : OkL V params (L ++ [s])) (hown : W.ownsRow (fb + 1) 140 5 v L.length xs) (ho : W'.ownsRow (fb + 1) 140 5 v1 (L.length + 1) (xs ++ cs)) (hg : Gro W W' v v1) :
    StS X g A c zs fb P V params pv base w0 v0 K bv b v1 (L ++ [s]) (W'.setCell ⟨fb, 3, none⟩ v1) := by
  obtain ⟨h1, h2, h3⟩ := h.gf
  have hr := h.row.push h2 hs hg fun css _ h5 => by rw [own_inj h5 hown]; exact ho
  have hkk : ∀ k, k ≠ fb → (W'.setCell ⟨fb, 3, none⟩ v1).heap[k]? = W'.heap[k]? := fun k hk => Below.heap_setCell _ _ _ _ hk
  have hB : Below (g + 1) W' (W'.setCell ⟨fb, 3, none⟩ v1) := ⟨rfl, rfl, rfl, by simp [World.setCell], fun k hk => hkk k (by omega)⟩
  have hfn : Bk W' fb 135 #[.int .i64 P, .int .i64 V, .slice none 0 0, v] := hg.bk h.fn (fun e => by have := (h.row.lt e.symm).1; omega)
  refine ⟨h.gf, h.xlt, own_far (own_gro h.own hg fun q hq e => h.vb e hq) v1 (fun k hk e => by have := (h.own.lt k hk).1; simp only at e; omega), (h.cur.gro hown (by omega) (by have := h.size; omega) hg).keepG2 hB (by omega), hfn.set 3 v1, ?_, hok, (h.fw.trans (.gro hg)).trans (.setf _ _ _), own_far (own_gro h.par hg (fun q hq e => by have := h.parB q hq; have := (h.row.lt e).1; omega)) v1 (fun k hk e => by have := h.parB k hk; simp only at e; omega), h.parB⟩
  exact hr.keep (.setf _ _ _) fun k hk => hkk k (by have := (hr.lt hk).1; omega)
/-- what a draw of statements within leaves -/
structure NestS (X : Nat → Prop) (g : Nat) (A : Option Addr) (c : Nat) (zs : List Int) (fb : Nat) (P V : Int) (params : List Int) (K : Nat) (w : World) (v : Value) (L : List StmtM) (loop : Bool) (bv' : Value) (b' : List Int) (v' : Value) (L' : List StmtM) (w' : World) : Prop where
  own : w'.ownsRow w.heap.size 3 1 bv' b'.length (icells .i64 b')
  len : b'.length ≤ 3
  cur : Cur g A c zs K w'
  fn : Bk w' fb 135 #[.int .i64 P, .int .i64 V, .slice none 0 0, v']
  row : FRow X fb v' w' L'
  ok : OkL V params L'
  pre : ∃ T, L' = L ++ T
  seg : Seg (atS L') L.length L'.length b'
  noD : loop = true → ∀ j, L.length ≤ j → j < L'.length → (atS L' j).qKind ≠ 3
  fw : Fw g fb w w' v v'
theorem StS.nest {loop : Bool} {bv' v' : Value} {b' : List Int} {L' : List StmtM} (h : StS X g A c zs fb P V params pv base w0 v0 K bv b v L W) (k : NestS (Xv X bv) g A c zs fb P V params K' W v L loop bv' b' v' L' W') : StS X g A c zs fb P V params pv base w0 v0 K' bv b v' L' W' := by
  obtain ⟨h1, h2, h3⟩ := h.gf
  refine ⟨h.gf, h.xlt, k.fw.own h.own fun q hq => ⟨?_, ?_, fun e => h.vb e hq⟩, k.cur, k.fn, k.row, k.ok, h.fw.trans k.fw, k.fw.own h.par fun q hq => ⟨?_, ?_, ?_⟩, h.parB⟩
  · have := (h.own.lt q hq).1; omega
  · have := (h.own.lt q hq).1; omega
  · have := (h.par.lt q hq).1; omega
  · have := h.parB q hq; omega
  · intro e; have := h.parB q hq; have := (h.row.lt e).1; omega
/-- a slice that was drawn hangs on a statement -/
theorem StS.rk {u : Value} {n base' size : Nat} {e : TypeId} {cs : List Value} (h : StS X g A c zs fb P V params pv base w0 v0 K bv b v L W) (ho : W'.ownsRow base' e size u n cs) (hb : W.heap.size ≤ base') : Rk (Xv X bv) fb e size W' u n cs :=
  Rk.of_own ho (by have := h.gf; have := h.size; omega) (fun k hk => h.notX (Nat.le_trans hb hk))
/-- five cells of a row laid anew -/
theorem own_set5 {w : World} {base n cap q k : Nat} {xs : List Value} {a0 a1 a2 a3 a4 : Value} (h : w.ownsRow base 140 5 (.slice (some ⟨q, 0, none⟩) n cap) n xs) :
    (((((w.setCell ⟨q, k * 5, none⟩ a0).setCell ⟨q, k * 5 + 1, none⟩ a1).setCell ⟨q, k * 5 + 2, none⟩ a2).setCell ⟨q, k * 5 + 3, none⟩ a3).setCell ⟨q, k * 5 + 4, none⟩ a4).ownsRow base 140 5 (.slice (some ⟨q, 0, none⟩) n cap) n (setAll xs (k * 5) [a0, a1, a2, a3, a4] 0) :=
  own_set (own_set (own_set (own_set (own_set h (k * 5) a0) (k * 5 + 1) a1) (k * 5 + 2) a2) (k * 5 + 3) a3) (k * 5 + 4) a4
end
end Go.Proofs.YtgkjakoagdkpcaaGreatDoor
set_option linter.unusedSimpArgs false
set_option linter.unusedVariables false
set_option maxRecDepth 100000
namespace Go.Proofs.YtgkjakoagdkpcaaGreatDoor
open Go.RowKit

def kdTab : List Int := [1, 2, 2, 3, 3, 4, 5, 6, 7, 8, 9]
theorem kdTab_rng {z : Int} (h : z ∈ kdTab) : 1 ≤ z ∧ z ≤ 9 := (show ∀ z ∈ kdTab, 1 ≤ z ∧ z ≤ 9 by decide) z h
theorem cur_am11 {g : Nat} {A : Option Addr} {c : Nat} {zs : List Int} {K : Nat} {w : World} (hc : Cur g A c zs K w) (hK : K ≤ 2000000000000000000) :
    Calls Tryz.prog 38 #[.pointer (some ⟨g, 0, none⟩), .slice (some ⟨w.heap.size, 0, none⟩) 11 11] (w.alloc (.cells (icells .i64 kdTab).toArray 3)) (AmP g A c zs K (w.alloc (.cells (icells .i64 kdTab).toArray 3)) kdTab) :=
  cur_among g A c zs K _ w.heap.size 3 kdTab (hc.below ((Below.refl _ _).alloc (Nat.le_refl _) (.cells (icells .i64 kdTab).toArray 3))) (by omega) (Bk.new w 3 _) (Nat.ne_of_gt hc.lt) (by decide) (by decide)
/-- what a drawn kind is, after it was bent -/
structure KdOk (V : Int) (L : List StmtM) (d : Nat) (loop : Bool) (kd : Int) : Prop where
  rng : 1 ≤ kd ∧ kd ≤ 9
  l : loop = true → kd ≠ 3
  d : d = 0 → kd ≠ 7 ∧ kd ≠ 8
  v : V = 0 → kd ≠ 1
  s : (L.map StmtM.qKind).count 3 = 4 → kd ≠ 3
theorem KdOk.two {V : Int} {L : List StmtM} {d : Nat} {loop : Bool} : KdOk V L d loop 2 := ⟨by omega, fun _ => by omega, fun _ => by omega, fun _ => by omega, fun _ => by omega⟩
theorem KdOk.nine {V : Int} {L : List StmtM} {d : Nat} {loop : Bool} : KdOk V L d loop 9 := ⟨by omega, fun _ => by omega, fun _ => by omega, fun _ => by omega, fun _ => by omega⟩
/-- the block's statements so far -/
def SegD (n0 : Nat) (loop : Bool) (L : List StmtM) (b : List Int) : Prop := (Seg (atS L) n0 L.length b ∧ ∃ T0 T, L = T0 ++ T ∧ T0.length = n0) ∧ (loop = true → ∀ j, n0 ≤ j → j < L.length → (atS L j).qKind ≠ 3)
def StmtsP (X : Nat → Prop) (g : Nat) (A : Option Addr) (c : Nat) (zs : List Int) (K : Nat) (w : World) (fb : Nat) (P V : Int) (params : List Int) (v : Value) (L : List StmtM) (d : Nat) (loop : Bool) (e : Ending) (w' : World) : Prop :=
  ∃ (bv : Value) (b : List Int) (v' : Value) (L' : List StmtM), e = .returned bv ∧ NestS X g A c zs fb P V params (K + sT d) w v L loop bv b v' L' w'
/-- what a draw of statements, so deep, does -/
def StmtsC (g : Nat) (A : Option Addr) (c : Nat) (zs : List Int) (P V : Int) (params : List Int) (fb base : Nat) (pA : Option Addr) (pc : Nat) (d : Nat) : Prop :=
  ∀ (dI : Int), dI = (d : Int) → ∀ (X : Nat → Prop) (loop : Bool) (K : Nat) (w : World) (v : Value) (L : List StmtM), Cur g A c zs K w → K + sT d ≤ 900000000000000000 → g < base ∧ g < fb ∧ fb < w.heap.size → (∀ k, X k → k < w.heap.size) → (∀ k, (Value.slice pA params.length pc).ownBlock = some k → k < fb) → w.ownsRow base 3 1 (.slice pA params.length pc) params.length (icells .i64 params) →
      Bk w fb 135 #[.int .i64 P, .int .i64 V, .slice none 0 0, v] → FRow X fb v w L → OkL V params L →
      Calls Tryz.prog 121 #[.pointer (some ⟨g, 0, none⟩), .pointer (some ⟨fb, 0, none⟩), .slice pA params.length pc, .int .i64 dI, .bool loop] w (StmtsP X g A c zs K w fb P V params v L d loop)
theorem Cur.drw {g : Nat} {A : Option Addr} {c : Nat} {zs : List Int} {K : Nat} {w : World} (h : Cur g A c zs K w) : Cur g A c zs K w.drew := h.below (Below.refl _ _).drew
theorem StS.drw {X : Nat → Prop} {g : Nat} {A : Option Addr} {c : Nat} {zs : List Int} {fb : Nat} {P V : Int} {params : List Int} {pv : Value} {base : Nat} {w0 : World} {v0 : Value} {K : Nat} {bv : Value} {b : List Int} {v : Value} {L : List StmtM} {W : World} (h : StS X g A c zs fb P V params pv base w0 v0 K bv b v L W) : StS X g A c zs fb P V params pv base w0 v0 K bv b v L W.drew := h.below (Below.refl _ _).drew
/-- the functions that may be put off, by their numbers -/
structure FreeS (sb : Nat) (params : List Int) (fv : Value) (fl : List Int) (W : World) : Prop where
  own : W.ownsRow (sb + 1) 3 1 fv fl.length (icells .i64 fl)
  pos : 0 < fl.length
  len : fl.length ≤ 5
  mem : ∀ x ∈ fl, ∃ (m : Nat) (h : m < params.length), x = (m : Int) ∧ params[m] = 0
theorem FreeS.dw {g sb : Nat} {params fl : List Int} {fv : Value} {W W1 : World} (h : FreeS sb params fv fl W) (hd : Dw g W W1) (hg : g < sb) : FreeS sb params fv fl W1 := ⟨hd.own h.own (by omega), h.pos, h.len, h.mem⟩
theorem FreeS.set {sb : Nat} {params fl : List Int} {fv : Value} {W : World} (h : FreeS sb params fv fl W) (i : Nat) (u : Value) : FreeS sb params fv fl (W.setCell ⟨sb, i, none⟩ u) := ⟨own_far h.own u fun k hk e => by have := (h.own.lt k hk).1; simp only at e; omega, h.pos, h.len, h.mem⟩
/-- a statement's expression as it is drawn -/
def ExOk (V : Int) (params : List Int) (kd : Int) (ex : List P2) : Prop := ((kd = 3 ∨ kd = 6) → ex = []) ∧ (kd ≠ 3 → kd ≠ 6 → goodExpr ex V params = true ∧ ex.length ≤ 12)
theorem eL2 {d : Nat} (h : d ≤ 2) : eL d ≤ 12 := by
  obtain rfl | rfl | rfl : d = 0 ∨ d = 1 ∨ d = 2 := by omega
  all_goals decide
theorem eT2 {d : Nat} (h : d ≤ 2) : eT d ≤ 180 := by
  obtain rfl | rfl | rfl : d = 0 ∨ d = 1 ∨ d = 2 := by omega
  all_goals decide
theorem cur_exprI (g : Nat) (A : Option Addr) (c : Nat) (zs : List Int) (vars : Int) (hv0 : 0 ≤ vars) (hv6 : vars ≤ 6) (params : List Int) (hpar : parOk params = true) (x : Nat) (hx : x < 2) (dI : Int) (hdI : dI = 1 + (x : Int)) (K : Nat) (w : World) (pv : Value) (base : Nat) (pure : Bool) (hc : Cur g A c zs K w) (hK : K ≤ 950000000000000000) (ho : w.ownsRow base 3 1 pv params.length (icells .i64 params)) (hg : g < base) :
    Calls Tryz.prog 131 #[.pointer (some ⟨g, 0, none⟩), .int .i64 dI, .int .i64 vars, pv, .bool pure] w fun e w' => ∃ (v : Value) (l : List P2), e = .returned v ∧ w'.ownsRow w.heap.size 142 2 v l.length (pcells l) ∧ (goodExpr l vars params = true ∧ l.length ≤ 12) ∧ Cur g A c zs (K + 180) w' ∧ Dw g w w' := by
  have h := cur_expr g A c zs vars hv0 hv6 params hpar (1 + x) (by omega) K w pv base pure hc (by have := eT2 (d := 1 + x) (by omega); omega) ho hg
  rw [show ((1 + x : Nat) : Int) = dI by omega] at h
  refine h.mono ?_
  rintro e w' ⟨v, l, rfl, ho, hp, _, hl, hc, hd⟩
  have h1 := eL2 (d := 1 + x) (by omega)
  have h2 := eT2 (d := 1 + x) (by omega)
  exact ⟨v, l, rfl, ho, ⟨puts_good ⟨hv0, hv6⟩ hpar hp (by omega), by omega⟩, hc.more (by omega), hd⟩
/-- a statement that has no block yet -/
theorem stG_of {V : Int} {params : List Int} {kd : Int} {ex : List P2} (hr : 1 ≤ kd ∧ kd ≤ 9) (h1 : kd ≠ 1) (h3 : kd ≠ 3) (h : ExOk V params kd ex) : StG V params ⟨kd, 0, ex, [], []⟩ := by
  by_cases h6 : kd = 6
  · subst h6
    obtain rfl := h.1 (.inr rfl)
    exact stG_exit
  obtain ⟨hg, hl⟩ := h.2 h3 h6
  by_cases h7 : kd = 7
  · subst h7; exact stG_if hg (by omega) (by simp) (by simp)
  by_cases h8 : kd = 8
  · subst h8; exact stG_while hg (by omega) (by simp)
  exact stG_plain hg (by omega) (by omega)
/-- what a statement's blocks came to -/
structure AftS (V : Int) (params : List Int) (loop : Bool) (L1 : List StmtM) (m0 m : StmtM) (L2 : List StmtM) : Prop where
  pre : ∃ T, L2 = L1 ++ [m0] ++ T
  g : StG V params m
  k : m.qKind = m0.qKind
  seg : ∃ m1, Seg (atS L2) (L1.length + 1) m1 m.qThen ∧ Seg (atS L2) m1 L2.length m.qElse ∧ (m.qKind = 8 → ∀ j, L1.length < j → j < m1 → (atS L2 j).qKind ≠ 3)
  noD : loop = true → ∀ j, L1.length < j → j < L2.length → (atS L2 j).qKind ≠ 3
section
variable {X : Nat → Prop} {g : Nat} {A : Option Addr} {c : Nat} {zs : List Int} {fb : Nat} {P V : Int} {params : List Int} {K : Nat} {w w' : World} {v : Value} {loop : Bool} {L1 L2 L3 : List StmtM} {m0 : StmtM} {bv' v' : Value} {b1 b2 : List Int} {ex : List P2} {N : Int}
theorem AftS.none (hg : StG V params m0) (h1 : m0.qThen = []) (h2 : m0.qElse = []) : AftS V params loop L1 m0 m0 (L1 ++ [m0]) :=
  ⟨⟨[], by simp⟩, hg, rfl, ⟨L1.length + 1, by rw [h1]; exact .nil _, by rw [h2, List.length_append]; exact .nil _, fun _ j a b => by omega⟩, fun _ j a b => by simp at b; omega⟩
theorem AftS.then7 (hx : goodExpr ex V params = true) (hl : ex.length ≤ 12) (h : NestS X g A c zs fb P V params K w v (L1 ++ [⟨7, 0, ex, [], []⟩]) loop bv' b1 v' L2 w') : AftS V params loop L1 ⟨7, 0, ex, [], []⟩ ⟨7, 0, ex, b1, []⟩ L2 := by
  have e : (L1 ++ [(⟨7, 0, ex, [], []⟩ : StmtM)]).length = L1.length + 1 := by simp
  refine ⟨h.pre, stG_if hx (by omega) h.len (by simp), rfl, ⟨L2.length, by rw [← e]; exact h.seg, .nil _, fun h => by simp at h⟩, fun hp j a b => h.noD hp j (by omega) b⟩
theorem AftS.else7 (hx : goodExpr ex V params = true) (hl : ex.length ≤ 12) (a1 : AftS V params loop L1 ⟨7, 0, ex, [], []⟩ ⟨7, 0, ex, b1, []⟩ L2) (h : NestS X g A c zs fb P V params K w v L2 loop bv' b2 v' L3 w') : AftS V params loop L1 ⟨7, 0, ex, [], []⟩ ⟨7, 0, ex, b1, b2⟩ L3 := by
  obtain ⟨T, rfl⟩ := a1.pre
  obtain ⟨T2, rfl⟩ := h.pre
  obtain ⟨m1, s1, s2, _⟩ := a1.seg
  have hle := s2.le
  have he : (L1 ++ [(⟨7, 0, ex, [], []⟩ : StmtM)] ++ T).length = m1 := by cases s2; rfl
  refine ⟨⟨T ++ T2, by simp⟩, stG_if hx (by omega) a1.g.th h.len, rfl, ⟨m1, s1.congr fun j _ hj => (atS_app (by omega)).symm, by rw [← he]; exact h.seg, fun h => by simp at h⟩, fun hp j a b => ?_⟩
  by_cases hj : j < (L1 ++ [(⟨7, 0, ex, [], []⟩ : StmtM)] ++ T).length
  · rw [atS_app hj]; exact a1.noD hp j a hj
  · exact h.noD hp j (by omega) b
theorem AftS.while8 (hx : goodExpr ex V params = true) (hl : ex.length ≤ 12) (h : NestS X g A c zs fb P V params K w v (L1 ++ [⟨8, 0, ex, [], []⟩]) true bv' b1 v' L2 w') : AftS V params loop L1 ⟨8, 0, ex, [], []⟩ ⟨8, 0, ex, b1, []⟩ L2 := by
  have e : (L1 ++ [(⟨8, 0, ex, [], []⟩ : StmtM)]).length = L1.length + 1 := by simp
  have hn := h.seg.le
  refine ⟨h.pre, stG_while hx (by omega) h.len, rfl, ⟨L2.length, by rw [← e]; exact h.seg, .nil _, fun _ j a b => h.noD rfl j (by omega) b⟩, fun _ j a b => h.noD rfl j (by omega) b⟩
theorem AftS.done {n0 : Nat} {b : List Int} {m : StmtM} {L : List StmtM} (h : AftS V params loop L1 m0 m L2) (hs : SegD n0 loop L1 b) (h3 : loop = true → m0.qKind ≠ 3) (hp : ∃ T, L1 = L ++ T) (hL : n0 = L.length) :
    SegD n0 loop (L2.set L1.length m) (b ++ [(L1.length : Int)]) ∧ ∃ T, L2.set L1.length m = L ++ T := by
  obtain ⟨T, rfl⟩ := h.pre
  obtain ⟨m1, s1, s2, s3⟩ := h.seg
  obtain ⟨T0, rfl⟩ := hp
  have e0 : ∀ j, j < (L ++ T0).length → atS (L ++ T0 ++ [m0] ++ T) j = atS (L ++ T0) j := fun j hj => by rw [atS_app (by simp at hj ⊢; omega), atS_app hj]
  have hlt : (L ++ T0).length < (L ++ T0 ++ [m0] ++ T).length := by simp
  have key := hs.1.1.snoc hlt e0 s1 s2 s3
  have hset : (L ++ T0 ++ [m0] ++ T).set (L ++ T0).length m = L ++ (T0 ++ [m] ++ T) := by
    rw [List.append_assoc (L ++ T0), List.set_append_right _ _ (Nat.le_refl _), Nat.sub_self]
    simp
  refine ⟨⟨⟨by rw [List.length_set]; exact key, L, _, hset, hL.symm⟩, fun hp j a b => ?_⟩, _, hset⟩
  rw [List.length_set] at b
  by_cases hj : j = (L ++ T0).length
  · subst hj; rw [atS_same hlt, h.k]; exact h3 hp
  · rw [atS_set (Ne.symm hj)]
    by_cases hj2 : j < (L ++ T0).length
    · rw [e0 j hj2]; exact hs.2 hp j a hj2
    · exact h.noD hp j (by omega) b
end
theorem okStmt : SliceOk Tryz.prog 133 140 (.agg #[.int .i64 0, .int .i64 0, .slice none 0 0, .slice none 0 0, .slice none 0 0]) 5 88 := .mk Tryz.underlying133 (by kernel_rfl) rfl (by decide)
section
variable {X : Nat → Prop} {g : Nat} {A : Option Addr} {c : Nat} {zs : List Int} {fb : Nat} {P V : Int} {params : List Int} {pv : Value} {base : Nat} {w0 : World} {v0 : Value} {K K' : Nat} {bv : Value} {b : List Int} {v : Value} {L : List StmtM} {W W' : World}
/-- a statement of the row laid anew -/
theorem StS.setLW {q cap k : Nat} {s : StmtM} {cs : List Value} {W5 : World} (h : StS X g A c zs fb P V params pv base w0 v0 K bv b (.slice (some ⟨q, 0, none⟩) L.length cap) L W) (hk : k < L.length) (hs : SC (Xv X bv) fb W cs s) (hg : StG V params s) (he : s.qKind = (atS L k).qKind)
    (hkk : ∀ k', k' ≠ q → W5.heap[k']? = W.heap[k']?) (hsz : W5.heap.size = W.heap.size) (hos : W5.os = W.os ∧ W5.tape = W.tape ∧ W5.output = W.output) (hset : ∀ xs, W.ownsRow (fb + 1) 140 5 (.slice (some ⟨q, 0, none⟩) L.length cap) L.length xs → W5.ownsRow (fb + 1) 140 5 (.slice (some ⟨q, 0, none⟩) L.length cap) L.length (setAll xs (k * 5) cs 0)) :
    StS X g A c zs fb P V params pv base w0 v0 K bv b (.slice (some ⟨q, 0, none⟩) L.length cap) (L.set k s) W5 := by
  obtain ⟨h1, h2, h3⟩ := h.gf
  have hq := (h.row.lt (k := q) rfl)
  have hbq : bv.ownBlock ≠ some q := h.vb rfl
  obtain ⟨xs, hown⟩ := h.row.own
  have hset := hset xs hown
  obtain ⟨e1, e2, e3⟩ := hos
  have hB : Below (g + 1) W W5 := ⟨e1, e2, e3, by omega, fun k' hk' => hkk k' (by omega)⟩
  have hks : KS (Xv X bv) fb W W5 := fun k' _ _ ht => hkk k' (fun e => ht.own hown (by rw [e]; rfl))
  have hkeep : ∀ {b0 n0 s0 : Nat} {t0 : TypeId} {u0 : Value} {x0 : List Value}, W.ownsRow b0 t0 s0 u0 n0 x0 → u0.ownBlock ≠ some q → W5.ownsRow b0 t0 s0 u0 n0 x0 := by
    intro b0 n0 s0 t0 u0 x0 ho hne
    refine ⟨ho.1, ?_⟩
    rcases ho.2 with hn | ⟨k', cap', cur', hv', hb', hh', r'⟩
    · exact .inl hn
    · exact .inr ⟨k', cap', cur', hv', hb', (hkk k' (fun e => hne (by rw [hv', ← e]; rfl))).trans hh', r'⟩
  refine ⟨h.gf, h.xlt, hkeep h.own hbq, h.cur.keepG2 hB (by omega), (hkk fb (by omega)).trans h.fn, ?_, h.ok.set hk hg he, ?_, hkeep h.par (fun e => by have := h.parB q e; omega), h.parB⟩
  · have hr := h.row.set hk hs hks fun css h1 h5 ho => by
      have hx := own_inj ho hown
      subst hx
      rw [flatten_set css k _ 5 h5 hs.len (by omega)] at hset
      exact hset
    exact hr
  · refine ⟨e1.trans h.fw.os, e2.trans h.fw.tape, e3.trans h.fw.output, by have := h.fw.size; omega, fun k' a1 a2 a3 a4 => (hkk k' ?_).trans (h.fw.block k' a1 a2 a3 a4), h.fw.b⟩
    rintro rfl
    rcases h.fw.b with e | ⟨j, e, hj⟩
    · exact a3 (by rw [← e]; rfl)
    · simp only [Value.ownBlock, Option.some.injEq] at e
      omega
theorem heap_set5 (W : World) (q k : Nat) (a0 a1 a2 a3 a4 : Value) {k' : Nat} (hk' : k' ≠ q) : (((((W.setCell ⟨q, k * 5, none⟩ a0).setCell ⟨q, k * 5 + 1, none⟩ a1).setCell ⟨q, k * 5 + 2, none⟩ a2).setCell ⟨q, k * 5 + 3, none⟩ a3).setCell ⟨q, k * 5 + 4, none⟩ a4).heap[k']? = W.heap[k']? := by
  rw [Below.heap_setCell _ _ _ _ hk', Below.heap_setCell _ _ _ _ hk', Below.heap_setCell _ _ _ _ hk', Below.heap_setCell _ _ _ _ hk', Below.heap_setCell _ _ _ _ hk']
theorem set_os (W : World) (p : Addr) (u : Value) : (W.setCell p u).os = W.os := rfl
theorem set_tape (W : World) (p : Addr) (u : Value) : (W.setCell p u).tape = W.tape := rfl
theorem set_output (W : World) (p : Addr) (u : Value) : (W.setCell p u).output = W.output := rfl
theorem StS.setL {q cap k : Nat} {s : StmtM} {a0 a1 a2 a3 a4 : Value} (h : StS X g A c zs fb P V params pv base w0 v0 K bv b (.slice (some ⟨q, 0, none⟩) L.length cap) L W) (hk : k < L.length) (hs : SC (Xv X bv) fb W [a0, a1, a2, a3, a4] s) (hg : StG V params s) (he : s.qKind = (atS L k).qKind) :
    StS X g A c zs fb P V params pv base w0 v0 K bv b (.slice (some ⟨q, 0, none⟩) L.length cap) (L.set k s) (((((W.setCell ⟨q, k * 5, none⟩ a0).setCell ⟨q, k * 5 + 1, none⟩ a1).setCell ⟨q, k * 5 + 2, none⟩ a2).setCell ⟨q, k * 5 + 3, none⟩ a3).setCell ⟨q, k * 5 + 4, none⟩ a4) := by
  refine h.setLW hk hs hg he (fun k' hk' => heap_set5 W q k a0 a1 a2 a3 a4 hk') ?_ ⟨?_, ?_, ?_⟩ fun xs hx => own_set5 hx
  · simp only [World.size_setCell]
  · iterate 5 rw [set_os]
  · iterate 5 rw [set_tape]
  · iterate 5 rw [set_output]
end
theorem own_dr {w : World} {base n : Nat} {e : TypeId} {size : Nat} {v : Value} {xs : List Value} (h : w.ownsRow base e size v n xs) : w.drew.ownsRow base e size v n xs := h
theorem five_one {a b : Int} {u v x : Value} (h1 : u.oneCell' = true) (h2 : v.oneCell' = true) (h3 : x.oneCell' = true) : ∀ y ∈ (#[.int .i64 a, .int .i64 b, u, v, x] : Array Value).toList, y.oneCell' = true := by
  intro y hy
  simp at hy
  rcases hy with rfl | rfl | rfl | rfl | rfl
  · rfl
  · rfl
  · exact h1
  · exact h2
  · exact h3
section
variable {X : Nat → Prop} {g : Nat} {A : Option Addr} {c : Nat} {zs : List Int} {fb : Nat} {P V : Int} {params : List Int} {pv : Value} {base : Nat} {w0 : World} {v0 : Value} {K K' : Nat} {bv : Value} {b : List Int} {v : Value} {L : List StmtM} {W W' : World}
theorem StS.xvlt (h : StS X g A c zs fb P V params pv base w0 v0 K bv b v L W) : ∀ k, Xv X bv k → k < W.heap.size := fun k hk => Nat.lt_of_not_le fun hl => h.notX hl hk
theorem StS.gfw (h : StS X g A c zs fb P V params pv base w0 v0 K bv b v L W) : g < base ∧ g < fb ∧ fb < W.heap.size := ⟨h.gf.1, h.gf.2.1, by have := h.gf; have := h.size; omega⟩
theorem StS.toNest {L0 : List StmtM} {loop : Bool} (h : StS X g A c zs fb P V params pv base w0 v0 K bv b v L W) (hb : b.length ≤ 3) (hs : SegD L0.length loop L b) (hp : ∃ T, L = L0 ++ T) : NestS X g A c zs fb P V params K w0 v0 L0 loop bv b v L W :=
  ⟨h.own, hb, h.cur, h.fn, h.row.toX fun k _ hk hx => hk (.inl hx), h.ok, hp, hs.1.1, hs.2, h.fw⟩
theorem stG_N0 {kd N : Int} {ex : List P2} {b1 b2 : List Int} (h : StG V params ⟨kd, N, ex, b1, b2⟩) (hk : kd = 7 ∨ kd = 8) : N = 0 := by
  have := h.ok
  unfold stmtOk at this
  simp only at this
  rw [if_neg (by omega), if_neg (by omega), if_neg (by omega), if_neg (by omega)] at this
  rcases hk with rfl | rfl
  · rw [if_pos rfl] at this; simp only [Bool.and_eq_true, decide_eq_true_eq] at this; exact this.2
  · rw [if_neg (by omega), if_pos rfl] at this; simp only [Bool.and_eq_true, decide_eq_true_eq] at this; exact this.2.1
theorem own_frozen {w : World} {bs n cap q sz : Nat} {e : TypeId} {xs : List Value} (h : w.ownsRow bs e sz (.slice (some ⟨q, 0, none⟩) n cap) n xs) (j : Nat) : w.frozen? ⟨q, j, none⟩ = false := by
  rcases h.2 with ⟨e, _⟩ | ⟨g', cap', cur, e, _, hh, _⟩
  · cases e
  · cases e; exact Bk.frozen (cs := cur) hh j
theorem own_five {w : World} {bs n cap q k : Nat} {xs : List Value} (h : w.ownsRow bs 140 5 (.slice (some ⟨q, 0, none⟩) n cap) n xs) (hk : k < n) (j : Nat) (hj : j < 5) : ∃ u, w.cell? ⟨q, k * 5 + j, none⟩ = some u ∧ w.frozen? ⟨q, k * 5 + j, none⟩ = false := by
  have h5 : (k + 1) * 5 ≤ n * 5 := Nat.mul_le_mul_right _ hk
  obtain ⟨u, hu⟩ := own_at h (j := k * 5 + j) (by omega)
  exact ⟨u, hu, own_frozen h _⟩
end
/-- what a draw within leaves to the round -/
structure NestD (X : Nat → Prop) (g : Nat) (A : Option Addr) (c : Nat) (zs : List Int) (fb : Nat) (P V : Int) (params : List Int) (pv : Value) (base : Nat) (w0 : World) (v0 : Value) (K : Nat) (bv : Value) (b : List Int) (v : Value) (L : List StmtM) (W : World) (sb : Nat) (cs : Array Value) (lp : Bool) (u : Value) (lT : List Int) (v' : Value) (L' : List StmtM) (W' : World) : Prop where
  nst : NestS (Xv X bv) g A c zs fb P V params K W v L lp u lT v' L' W'
  st : StS X g A c zs fb P V params pv base w0 v0 K bv b v' L' W'
  sbk : Bk W' sb 140 cs
  v : v'.ownBlock ≠ some sb
  rk : Rk (Xv X bv) fb 3 1 W' u lT.length (icells .i64 lT)
  ks : KS (Xv X bv) fb W W'
/-- the state behind the store of what was drawn -/
structure NestE (X : Nat → Prop) (g : Nat) (A : Option Addr) (c : Nat) (zs : List Int) (fb : Nat) (P V : Int) (params : List Int) (pv : Value) (base : Nat) (w0 : World) (v0 : Value) (K : Nat) (bv : Value) (b : List Int) (v' : Value) (L' : List StmtM) (sb : Nat) (cs : Array Value) (W : World) : Prop where
  st : StS X g A c zs fb P V params pv base w0 v0 K bv b v' L' W
  sbk : Bk W sb 140 cs
  v : v'.ownBlock ≠ some sb
section
variable {X : Nat → Prop} {g : Nat} {A : Option Addr} {c : Nat} {zs : List Int} {fb : Nat} {P V : Int} {params : List Int} {pA : Option Addr} {pc : Nat} {pv : Value} {base : Nat} {w0 : World} {v0 : Value} {K K' : Nat} {bv : Value} {b : List Int} {v v' u : Value} {L L' : List StmtM} {W W' : World} {sb : Nat} {cs : Array Value} {lp : Bool} {lT : List Int}
theorem NestE.one (h : NestE X g A c zs fb P V params pv base w0 v0 K bv b v' L' sb cs W) (hc : Cur g A c zs K' W') (hd : Dw g W W') (hs : sb ≠ g) : NestE X g A c zs fb P V params pv base w0 v0 K' bv b v' L' sb cs W' := ⟨h.st.dw hc hd, hd.bk h.sbk hs, h.v⟩
theorem NestD.e (h : NestD X g A c zs fb P V params pv base w0 v0 K bv b v L W sb cs lp u lT v' L' W') (h0 : w0.heap.size ≤ sb) (hb : bv.ownBlock ≠ some sb) (i : Nat) (x : Value) : NestE X g A c zs fb P V params pv base w0 v0 K bv b v' L' sb (cs.setIfInBounds i x) (W'.setCell ⟨sb, i, none⟩ x) := ⟨h.st.set h0 h.v hb h.sbk i x, h.sbk.set i x, h.v⟩
theorem nest_call {d d' : Nat} (HIH : ∀ d', d' + 1 = d → StmtsC g A c zs P V params fb base pA pc d') (hd : d' + 1 = d) (dI : Int) (hdI : dI = (d' : Int)) (lp : Bool) (h : NestE X g A c zs fb P V params (.slice pA params.length pc) base w0 v0 K bv b v L sb cs W) (hK : K + sT d' ≤ 900000000000000000) (hsg : sb ≠ g) (hsf : sb ≠ fb) :
    Calls Tryz.prog 121 #[.pointer (some ⟨g, 0, none⟩), .pointer (some ⟨fb, 0, none⟩), .slice pA params.length pc, .int .i64 dI, .bool lp] W fun e w' =>
      ∃ (bA : Option Addr) (bc : Nat) (lT : List Int) (vA : Option Addr) (vc : Nat) (L' : List StmtM), e = .returned (.slice bA lT.length bc) ∧ NestD X g A c zs fb P V params (.slice pA params.length pc) base w0 v0 (K + sT d') bv b v L W sb cs lp (.slice bA lT.length bc) lT (.slice vA L'.length vc) L' w' := by
  have hC : StmtsC g A c zs P V params fb base pA pc d' := HIH d' hd
  unfold StmtsC at hC
  refine (hC dI hdI (Xv X bv) lp K W v L h.st.cur hK h.st.gfw h.st.xvlt h.st.parB h.st.par h.st.fn h.st.row h.st.ok).mono ?_
  rintro e w' ⟨u, lT, v', L', rfl, hn⟩
  obtain ⟨bA, bc, rfl⟩ := own_form hn.own
  obtain ⟨x, hx⟩ := hn.row.own
  obtain ⟨vA, vc, rfl⟩ := own_form hx
  exact ⟨bA, bc, lT, vA, vc, L', rfl, hn, h.st.nest hn, hn.fw.bk h.sbk hsg hsf h.v, hn.fw.ne h.sbk.lt h.v, h.st.rk hn.own (Nat.le_refl _), h.st.row.ks h.st.gf.2.1 hn.fw⟩
end
end Go.Proofs.YtgkjakoagdkpcaaGreatDoor
