
/- The function under way in memory: its statements' row grows, what hangs on it lies still. No condition. -/
import Derived.Test.YtgkjakoagdkpcaaGreatDoorPgD
import Derived.Test.YtgkjakoagdkpcaaGreatDoorSl6
import Derived.Test.YtgkjakoagdkpcaaGreatDoorDr
import Derived.Test.YtgkjakoagdkpcaaGreatDoorNst
set_option linter.unusedSimpArgs false
set_option linter.unusedVariables false
set_option maxRecDepth 100000
namespace Go.Proofs.YtgkjakoagdkpcaaGreatDoor
open Go.RowKit

/-- but for blocks g and fb and the row's, what was there is as it was -/
structure Fw (g fb : Nat) (w w' : World) (v v' : Value) : Prop where
  os : w'.os = w.os
  tape : w'.tape = w.tape
  output : w'.output = w.output
  size : w.heap.size ≤ w'.heap.size
  block : ∀ k, k ≠ g → k ≠ fb → v.ownBlock ≠ some k → k < w.heap.size → w'.heap[k]? = w.heap[k]?
  b : v'.ownBlock = v.ownBlock ∨ ∃ k, v'.ownBlock = some k ∧ w.heap.size ≤ k
section
variable {g fb : Nat} {w w1 w2 : World} {v v1 v2 : Value}
theorem Fw.refl (g fb : Nat) (w : World) (v : Value) : Fw g fb w w v v := ⟨rfl, rfl, rfl, Nat.le_refl _, fun _ _ _ _ _ => rfl, .inl rfl⟩
theorem Fw.ne (h : Fw g fb w w1 v v1) {k : Nat} (hk : k < w.heap.size) (hv : v.ownBlock ≠ some k) : v1.ownBlock ≠ some k := by
  rcases h.b with e | ⟨j, e, hj⟩
  · rw [e]; exact hv
  · rw [e]; intro e2; injection e2 with e2; omega
theorem Fw.trans (h : Fw g fb w w1 v v1) (k : Fw g fb w1 w2 v1 v2) : Fw g fb w w2 v v2 := by
  refine ⟨k.os.trans h.os, k.tape.trans h.tape, k.output.trans h.output, Nat.le_trans h.size k.size, fun i h1 h2 h3 h4 => (k.block i h1 h2 (h.ne h4 h3) (Nat.lt_of_lt_of_le h4 h.size)).trans (h.block i h1 h2 h3 h4), ?_⟩
  rcases k.b with e | ⟨j, e, hj⟩
  · rcases h.b with e2 | ⟨j, e2, hj⟩
    · exact .inl (e.trans e2)
    · exact .inr ⟨j, e.trans e2, hj⟩
  · exact .inr ⟨j, e, Nat.le_trans h.size hj⟩
theorem Fw.dw (h : Dw g w w1) : Fw g fb w w1 v v := ⟨h.os, h.tape, h.output, h.size, fun k h1 _ _ h4 => h.block k h1 h4, .inl rfl⟩
theorem Fw.gro (h : Gro w w1 v v1) : Fw g fb w w1 v v1 := ⟨h.g.os, h.g.tape, h.g.output, h.g.size, fun k _ _ h3 h4 => h.g.block k h4 (fun e => h3 e.symm), h.b⟩
theorem Fw.below (h : Below w.heap.size w w1) : Fw g fb w w1 v v := .dw (.of h)
theorem Fw.alloc (w : World) (o : Obj) : Fw g fb w (w.alloc o) v v := .dw ((Dw.refl g w).alloc o)
theorem Fw.setf (w : World) (i : Nat) (u : Value) : Fw g fb w (w.setCell ⟨fb, i, none⟩ u) v v := ⟨rfl, rfl, rfl, by simp [World.setCell], fun k _ h2 _ _ => Below.heap_setCell _ _ _ _ h2, .inl rfl⟩
theorem Fw.setv (w : World) {q : Nat} (hq : v.ownBlock = some q) (i : Nat) (u : Value) : Fw g fb w (w.setCell ⟨q, i, none⟩ u) v v := ⟨rfl, rfl, rfl, by simp [World.setCell], fun k _ _ h3 _ => Below.heap_setCell _ _ _ _ (by rintro rfl; exact h3 hq), .inl rfl⟩
/-- a write in a block made since -/
theorem Fw.setn {w0 : World} {v0 : Value} (h : Fw g fb w0 w v0 v) {q : Nat} (hq : w0.heap.size ≤ q) (i : Nat) (u : Value) : Fw g fb w0 (w.setCell ⟨q, i, none⟩ u) v0 v := ⟨h.os, h.tape, h.output, by simp [World.setCell]; exact h.size, fun k h1 h2 h3 h4 => (Below.heap_setCell _ _ _ _ (show k ≠ q by omega)).trans (h.block k h1 h2 h3 h4), h.b⟩
theorem Fw.vnew (h : Fw g fb w w1 v v1) (hb : v2.ownBlock = v1.ownBlock ∨ ∃ k, v2.ownBlock = some k ∧ w.heap.size ≤ k) : Fw g fb w w1 v v2 := by
  refine ⟨h.os, h.tape, h.output, h.size, h.block, ?_⟩
  rcases hb with e | e
  · rcases h.b with e2 | ⟨j, e2, hj⟩
    · exact .inl (e.trans e2)
    · exact .inr ⟨j, e.trans e2, hj⟩
  · exact .inr e
theorem Fw.bk {k : Nat} {t : TypeId} {cs : Array Value} (h : Fw g fb w w1 v v1) (hb : Bk w k t cs) (h1 : k ≠ g) (h2 : k ≠ fb) (h3 : v.ownBlock ≠ some k) : Bk w1 k t cs := (h.block k h1 h2 h3 hb.lt).trans hb
theorem Fw.own {base n : Nat} {e : TypeId} {size : Nat} {u : Value} {xs : List Value} (h : Fw g fb w w1 v v1) (ho : w.ownsRow base e size u n xs) (hu : ∀ k, u.ownBlock = some k → k ≠ g ∧ k ≠ fb ∧ v.ownBlock ≠ some k) : w1.ownsRow base e size u n xs := by
  refine ⟨ho.1, ?_⟩
  rcases ho.2 with hn | ⟨k, cap, cur, hv, hk, hh, r⟩
  · exact .inl hn
  · obtain ⟨a1, a2, a3⟩ := hu k (by rw [hv]; rfl)
    exact .inr ⟨k, cap, cur, hv, hk, (h.block k a1 a2 a3 (Array.getElem?_eq_some_iff.1 hh).1).trans hh, r⟩
/-- a block of another type than the row's -/
def Tk (w : World) (k : Nat) : Prop := ∃ xs t z, w.heap[k]? = some (.cells xs t z) ∧ t ≠ 140
theorem Tk.ne {k : Nat} {cs : Array Value} (h : Tk w k) (hb : Bk w k 140 cs) : False := by
  obtain ⟨xs, t, z, h1, h2⟩ := h
  rw [show w.heap[k]? = _ from hb] at h1
  injection h1 with h1; injection h1 with _ h1 _; exact h2 h1.symm
theorem Tk.own {k n base : Nat} {xs : List Value} (h : Tk w k) (ho : w.ownsRow base 140 5 v n xs) : v.ownBlock ≠ some k := by
  intro e
  obtain ⟨xs', t, z, h1, h2⟩ := h
  rcases ho.2 with ⟨rfl, _⟩ | ⟨q, cap, cur, rfl, _, hh, _⟩
  · cases e
  · injection e with e; subst e
    rw [hh] at h1
    injection h1 with h1; injection h1 with _ h1 _; exact h2 h1.symm
/-- the blocks behind fb of another type, but for those of X, lie as they did -/
def KS (X : Nat → Prop) (fb : Nat) (w w' : World) : Prop := ∀ k, fb < k → ¬ X k → Tk w k → w'.heap[k]? = w.heap[k]?
theorem Tk.lt {k : Nat} (h : Tk w k) : k < w.heap.size := by obtain ⟨_, _, _, h1, _⟩ := h; exact (Array.getElem?_eq_some_iff.1 h1).1
theorem Tk.keep {k : Nat} (h : Tk w k) (e : w1.heap[k]? = w.heap[k]?) : Tk w1 k := by obtain ⟨xs, t, z, h1, h2⟩ := h; exact ⟨xs, t, z, e.trans h1, h2⟩
theorem KS.refl (X : Nat → Prop) (fb : Nat) (w : World) : KS X fb w w := fun _ _ _ _ => rfl
theorem KS.trans {X : Nat → Prop} (h : KS X fb w w1) (k : KS X fb w1 w2) : KS X fb w w2 := fun i h1 hx h2 => (k i h1 hx (h2.keep (h i h1 hx h2))).trans (h i h1 hx h2)
theorem KS.dw {X : Nat → Prop} (hg : g < fb) (h : Dw g w w1) : KS X fb w w1 := fun k h1 _ h2 => h.block k (by omega) h2.lt
theorem KS.fw {X : Nat → Prop} {n base : Nat} {xs : List Value} (hg : g < fb) (ho : w.ownsRow base 140 5 v n xs) (h : Fw g fb w w1 v v1) : KS X fb w w1 := fun k h1 _ h2 => h.block k (by omega) (by omega) (h2.own ho) h2.lt
theorem KS.setf {X : Nat → Prop} (w : World) (i : Nat) (u : Value) : KS X fb w (w.setCell ⟨fb, i, none⟩ u) := fun k h1 _ _ => Below.heap_setCell _ _ _ _ (show k ≠ fb by omega)
theorem KS.sets {X : Nat → Prop} {q : Nat} {cs : Array Value} (hb : Bk w q 140 cs) (i : Nat) (u : Value) : KS X fb w (w.setCell ⟨q, i, none⟩ u) := fun k _ _ h2 => Below.heap_setCell _ _ _ _ (by rintro rfl; exact h2.ne hb)
/-- the blocks of X, and that of a row -/
def Xv (X : Nat → Prop) (u : Value) (k : Nat) : Prop := X k ∨ u.ownBlock = some k
theorem KS.gro {X : Nat → Prop} {u u1 : Value} (h : Gro w w1 u u1) : KS (Xv X u) fb w w1 := fun k _ hx h2 => h.g.block k h2.lt (fun e => hx (.inr e.symm))
/-- a slice that hangs on the function: it lies behind fb, in a block of its own, that is none of X -/
structure Rk (X : Nat → Prop) (fb : Nat) (t : TypeId) (size : Nat) (w : World) (u : Value) (n : Nat) (cs : List Value) : Prop where
  own : w.ownsRow (fb + 1) t size u n cs
  nx : ∀ k, u.ownBlock = some k → ¬ X k
theorem Rk.nil (X : Nat → Prop) (fb : Nat) (t : TypeId) (size : Nat) (w : World) : Rk X fb t size w (.slice none 0 0) 0 [] := ⟨World.ownsRow_nil _ _ _ _, fun k h => by cases h⟩
section
variable {X X' : Nat → Prop}
theorem Rk.keepX {t : TypeId} {size : Nat} {u : Value} {n : Nat} {cs : List Value} (h : Rk X fb t size w u n cs) (ht : t ≠ 140) (hf : KS X fb w w1) (hX : ∀ b, b < w.heap.size → ¬ X b → ¬ X' b) : Rk X' fb t size w1 u n cs := by
  refine ⟨⟨h.1.1, ?_⟩, fun k hk => hX k (h.1.lt k hk).2 (h.2 k hk)⟩
  rcases h.1.2 with hn | ⟨k, cap, cur, hv, hb, hh, r⟩
  · exact .inl hn
  · exact .inr ⟨k, cap, cur, hv, hb, (hf k hb (h.2 k (by rw [hv]; rfl)) ⟨_, _, _, hh, ht⟩).trans hh, r⟩
theorem Rk.keep {t : TypeId} {size : Nat} {u : Value} {n : Nat} {cs : List Value} (h : Rk X fb t size w u n cs) (ht : t ≠ 140) (hf : KS X fb w w1) : Rk X fb t size w1 u n cs := h.keepX ht hf fun _ _ h => h
theorem Rk.of_own {u : Value} {n base size : Nat} {e : TypeId} {cs : List Value} (h : w.ownsRow base e size u n cs) (hb : fb < base) (hX : ∀ b, base ≤ b → ¬ X b) : Rk X fb e size w u n cs := ⟨own_base h hb, fun k hk => hX k (h.lt k hk).1⟩
theorem Rk.rg {t : TypeId} {size : Nat} {u : Value} {n : Nat} {cs : List Value} (h : Rk X fb t size w u n cs) : Rg w (fb + 1) w.heap.size u n cs := .of_own h.1
/-- a statement's cells -/
def SC (X : Nat → Prop) (fb : Nat) (w : World) (cs : List Value) (m : StmtM) : Prop := ∃ v2 v3 v4, cs = [.int .i64 m.qKind, .int .i64 m.qN, v2, v3, v4] ∧ Rk X fb 142 2 w v2 m.qEx.length (pcells m.qEx) ∧ Rk X fb 3 1 w v3 m.qThen.length (icells .i64 m.qThen) ∧ Rk X fb 3 1 w v4 m.qElse.length (icells .i64 m.qElse)
theorem SC.keepX {cs : List Value} {m : StmtM} (h : SC X fb w cs m) (hf : KS X fb w w1) (hX : ∀ b, b < w.heap.size → ¬ X b → ¬ X' b) : SC X' fb w1 cs m := by
  obtain ⟨a, b, c, e, h1, h2, h3⟩ := h
  exact ⟨a, b, c, e, h1.keepX (by decide) hf hX, h2.keepX (by decide) hf hX, h3.keepX (by decide) hf hX⟩
theorem SC.keep {cs : List Value} {m : StmtM} (h : SC X fb w cs m) (hf : KS X fb w w1) : SC X fb w1 cs m := h.keepX hf fun _ _ h => h
theorem SC.len {cs : List Value} {m : StmtM} (h : SC X fb w cs m) : cs.length = 5 := by obtain ⟨_, _, _, rfl, _⟩ := h; rfl
theorem SC.stmt {cs : List Value} {m : StmtM} (h : SC X fb w cs m) : RStmt w (fb + 1) w.heap.size cs m := by
  obtain ⟨a, b, c, e, h1, h2, h3⟩ := h
  exact ⟨a, b, c, e, h1.rg, h2.rg, h3.rg⟩
/-- the statements' row -/
def FRow (X : Nat → Prop) (fb : Nat) (v : Value) (w : World) (L : List StmtM) : Prop := ∃ css : List (List Value), css.length = L.length ∧ w.ownsRow (fb + 1) 140 5 v L.length css.flatten ∧ ∀ i (h : i < L.length) (h' : i < css.length), SC X fb w css[i] L[i]
theorem FRow.nil (X : Nat → Prop) (fb : Nat) (w : World) : FRow X fb (.slice none 0 0) w [] := ⟨[], rfl, World.ownsRow_nil _ _ _ _, fun i h => by simp at h⟩
theorem FRow.own {L : List StmtM} (h : FRow X fb v w L) : ∃ xs, w.ownsRow (fb + 1) 140 5 v L.length xs := by obtain ⟨css, _, h2, _⟩ := h; exact ⟨_, h2⟩
theorem FRow.lt {L : List StmtM} (h : FRow X fb v w L) {k : Nat} (hk : v.ownBlock = some k) : fb < k ∧ k < w.heap.size := by obtain ⟨xs, h2⟩ := h.own; exact h2.lt k hk
theorem FRow.five {L : List StmtM} {css : List (List Value)} (h1 : css.length = L.length) (h : ∀ i (h : i < L.length) (h' : i < css.length), SC X fb w css[i] L[i]) : ∀ x ∈ css, x.length = 5 := by
  intro x hx
  obtain ⟨i, hi, rfl⟩ := List.mem_iff_getElem.1 hx
  exact (h i (by omega) hi).len
/-- nothing of the row was touched -/
theorem FRow.keepX {L : List StmtM} (h : FRow X fb v w L) (hf : KS X fb w w1) (hX : ∀ b, b < w.heap.size → ¬ X b → ¬ X' b) (hk : ∀ k, v.ownBlock = some k → w1.heap[k]? = w.heap[k]?) : FRow X' fb v w1 L := by
  obtain ⟨css, h1, h2, h3⟩ := h
  refine ⟨css, h1, ⟨h2.1, ?_⟩, fun i a b => (h3 i a b).keepX hf hX⟩
  rcases h2.2 with hn | ⟨k, cap, cur, hv, hb, hh, r⟩
  · exact .inl hn
  · exact .inr ⟨k, cap, cur, hv, hb, (hk k (by rw [hv]; rfl)).trans hh, r⟩
theorem FRow.keep {L : List StmtM} (h : FRow X fb v w L) (hf : KS X fb w w1) (hk : ∀ k, v.ownBlock = some k → w1.heap[k]? = w.heap[k]?) : FRow X fb v w1 L := h.keepX hf (fun _ _ h => h) hk
theorem FRow.toX {L : List StmtM} (h : FRow X fb v w L) (hX : ∀ b, b < w.heap.size → ¬ X b → ¬ X' b) : FRow X' fb v w L := h.keepX (.refl _ _ _) hX fun _ _ => rfl
theorem FRow.dw {L : List StmtM} (h : FRow X fb v w L) (hg : g < fb) (hd : Dw g w w1) : FRow X fb v w1 L :=
  h.keep (.dw hg hd) fun k hk => hd.block k (by have := h.lt hk; omega) (h.lt hk).2
theorem FRow.ks {L : List StmtM} (h : FRow X fb v w L) (hg : g < fb) (hf : Fw g fb w w1 v v1) : KS X fb w w1 := by obtain ⟨xs, h2⟩ := h.own; exact .fw hg h2 hf
theorem FRow.push {L : List StmtM} {s : StmtM} {cs : List Value} (h : FRow X fb v w L) (hg : g < fb) (hs : SC X fb w cs s) (hgr : Gro w w1 v v1) (ho : ∀ css : List (List Value), css.length = L.length → w.ownsRow (fb + 1) 140 5 v L.length css.flatten → w1.ownsRow (fb + 1) 140 5 v1 (L.length + 1) (css.flatten ++ cs)) : FRow X fb v1 w1 (L ++ [s]) := by
  have hf : KS X fb w w1 := h.ks hg (Fw.gro (g := g) hgr)
  obtain ⟨css, h1, h2, h3⟩ := h
  refine ⟨css ++ [cs], by simp [h1], ?_, fun i a b => ?_⟩
  · have := ho css h1 h2
    simpa using this
  · by_cases hi : i < L.length
    · rw [List.getElem_append_left (by omega), List.getElem_append_left hi]; exact (h3 i hi (by omega)).keep hf
    · obtain rfl : i = L.length := by simp at a; omega
      rw [List.getElem_append_right (by omega), List.getElem_append_right (by omega)]
      simpa using hs.keep hf
theorem FRow.set {L : List StmtM} {s : StmtM} {cs : List Value} {k : Nat} (h : FRow X fb v w L) (hk : k < L.length) (hs : SC X fb w cs s) (hf : KS X fb w w1)
    (ho : ∀ css : List (List Value), css.length = L.length → (∀ x ∈ css, x.length = 5) → w.ownsRow (fb + 1) 140 5 v L.length css.flatten → w1.ownsRow (fb + 1) 140 5 v L.length (css.set k cs).flatten) : FRow X fb v w1 (L.set k s) := by
  obtain ⟨css, h1, h2, h3⟩ := h
  refine ⟨css.set k cs, by simp [h1], ?_, fun i a b => ?_⟩
  · have := ho css h1 (FRow.five h1 h3) h2
    simpa using this
  · rw [List.getElem_set, List.getElem_set]
    split
    · exact hs.keep hf
    · exact (h3 i (by simpa using a) (by simpa [h1] using a)).keep hf
theorem FRow.rl {L : List StmtM} (h : FRow X fb v w L) : RL RStmt 5 w (fb + 1) w.heap.size v L := by
  obtain ⟨css, h1, h2, h3⟩ := h
  have h5 := FRow.five h1 h3
  rcases h2.2 with ⟨rfl, h0⟩ | ⟨q, cap, cur, rfl, hq, hh, hn, hc, _⟩
  · have hL : L = [] := List.eq_nil_of_length_eq_zero h0
    subst hL
    exact RL.nil
  · refine ⟨_, _, rfl, hn, hc, fun i hi => ?_⟩
    have hi' : i < css.length := by omega
    refine ⟨q, 0, css[i], rfl, ⟨hq, (Array.getElem?_eq_some_iff.1 hh).1⟩, (h3 i hi hi').len, fun k u hu => ?_, (h3 i hi hi').stmt⟩
    have hk : k < 5 := by have := (List.getElem?_eq_some_iff.1 hu).1; rw [(h3 i hi hi').len] at this; exact this
    have hx : css.flatten[i * 5 + k]? = some u := by rw [flatten_get h5 i k hi' hk, List.getElem?_eq_getElem hi']; exact hu
    have := h2.cells (g := q) rfl (i * 5 + k) u hx
    have hp : ((⟨q, 0, none⟩ : Addr).add (i * 5 + k)) = ⟨q, 0 + (i * 5 + k), none⟩ := by unfold Addr.add; split <;> simp_all
    rw [hp] at this
    rw [show 0 + i * 5 + k = 0 + (i * 5 + k) by omega]; exact this
end
end
end Go.Proofs.YtgkjakoagdkpcaaGreatDoor
