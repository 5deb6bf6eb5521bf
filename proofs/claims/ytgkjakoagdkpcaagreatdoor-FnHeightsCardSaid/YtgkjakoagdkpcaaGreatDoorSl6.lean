
/- toIntS, eqIntS, markIntS, heldIntS, szIntS: what the Go text does. No condition. -/
import Derived.Test.YtgkjakoagdkpcaaGreatDoorMem
import Derived.Test.YtgkjakoagdkpcaaGreatDoorChecked
import Derived.Handy
import Derived.Deep.Light
import Derived.Deep.QuietTactic
import Derived.BigQuiet
import Derived.Test.YtgkjakoagdkpcaaGreatDoorBlk
import Derived.Laws.AppendOwnNone
import Derived.Deep.RegionHeld3
import Derived.Deep.RegionWith
import Derived.StillTailTactics
set_option linter.unusedSimpArgs false
set_option linter.unusedVariables false
set_option maxRecDepth 100000
namespace Go.Proofs.YtgkjakoagdkpcaaGreatDoor
open Go.RowKit

theorem okI64 : SliceOk Tryz.prog 29 3 (.int .i64 0) 1 8 := .mk Tryz.underlying29 (by kernel_rfl) rfl (by decide)

def iota (k : Int) (n : Nat) : List Int := (List.range n).map fun (j : Nat) => k + (j : Int)
theorem iota_length (k : Int) (n : Nat) : (iota k n).length = n := by simp [iota]
theorem iota_get (k : Int) (n j : Nat) (h : j < n) : (iota k n)[j]'(by rw [iota_length]; exact h) = k + j := by simp [iota]
theorem iota_succ (k : Int) (n : Nat) : iota k (n + 1) = iota k n ++ [k + n] := by simp [iota, List.range_succ]
theorem mark_set (zs : List Int) (k : Int) (j : Nat) (h : j < zs.length) : (iota k j ++ zs.drop j).set j (k + j) = iota k (j + 1) ++ zs.drop (j + 1) := by
  rw [List.set_append, if_neg (by rw [iota_length]; omega), iota_length, Nat.sub_self, List.drop_eq_getElem_cons h, iota_succ, List.set_cons_zero, List.append_assoc]
  rfl
theorem grown_set {a w : World} {g : Nat} (h : a.grownBy w (some g)) {p : Addr} (hp : p.block = g) (u : Value) : a.grownBy (w.setCell p u) (some g) :=
  ⟨h.os, h.tape, h.output, by simpa [World.setCell] using h.size, fun i hi hne => (Below.heap_setCell w p u i (by rintro rfl; exact hne (by rw [hp]))).trans (h.block i hi hne)⟩

end Go.Proofs.YtgkjakoagdkpcaaGreatDoor
set_option linter.unusedVariables false
namespace Go.Proofs.YtgkjakoagdkpcaaGreatDoor
open Go.RowKit
end Go.Proofs.YtgkjakoagdkpcaaGreatDoor
set_option linter.unusedSimpArgs false
set_option linter.unusedVariables false
set_option maxRecDepth 100000
namespace Go.Proofs.YtgkjakoagdkpcaaGreatDoor
open Go.RowKit

/-- what an append leaves, with the block of the row before it -/
structure Gro (w w' : World) (v v' : Value) : Prop where
  g : w.grownBy w' v.ownBlock
  b : v'.ownBlock = v.ownBlock ∨ ∃ k, v'.ownBlock = some k ∧ w.heap.size ≤ k
theorem Gro.refl (w : World) (v : Value) : Gro w w v v := ⟨⟨rfl, rfl, rfl, Nat.le_refl _, fun _ _ _ => rfl⟩, .inl rfl⟩
theorem Gro.trans {a b c : World} {u v x : Value} (h : Gro a b u v) (k : Gro b c v x) : Gro a c u x := by
  refine ⟨⟨k.g.os.trans h.g.os, k.g.tape.trans h.g.tape, k.g.output.trans h.g.output, Nat.le_trans h.g.size k.g.size, fun i hi hne => ?_⟩, ?_⟩
  · refine (k.g.block i (Nat.lt_of_lt_of_le hi h.g.size) ?_).trans (h.g.block i hi hne)
    rcases h.b with e | ⟨j, e, hj⟩
    · rw [e]; exact hne
    · rw [e]; intro e2; injection e2 with e2; omega
  · rcases k.b with e | ⟨j, e, hj⟩
    · rcases h.b with e2 | ⟨j, e2, hj⟩
      · exact .inl (e.trans e2)
      · exact .inr ⟨j, e.trans e2, hj⟩
    · exact .inr ⟨j, e, Nat.le_trans h.g.size hj⟩
theorem Gro.undrew {w w' : World} {v v' : Value} (h : Gro w.drew w' v v') : Gro w w' v v' := ⟨⟨h.g.os, h.g.tape, h.g.output, h.g.size, h.g.block⟩, h.b⟩
theorem Gro.below {w w' : World} (v : Value) (h : Below w.heap.size w w') : Gro w w' v v := ⟨⟨h.os, h.tape, h.output, h.size, fun i hi _ => h.block i hi⟩, .inl rfl⟩
theorem Gro.toBelow {w w' : World} {base n size : Nat} {e : TypeId} {xs : List Value} {v v' : Value} (h : Gro w w' v v') (ho : w.ownsRow base e size v n xs) (hb : base ≤ w.heap.size) : Below base w w' :=
  ⟨h.g.os, h.g.tape, h.g.output, h.g.size, fun i hi => h.g.block i (by omega) (fun e => by have := (ho.lt i e.symm).1; omega)⟩
theorem Gro.bk {w w' : World} {v v' : Value} {g : Nat} {t : TypeId} {cs : Array Value} (h : Gro w w' v v') (hk : Bk w g t cs) (hne : some g ≠ v.ownBlock) : Bk w' g t cs := (h.g.block g hk.lt hne).trans hk
/-- 'append(s, x)', one element, with what it leaves -/
theorem wpList_pushG {P : Program} {ops : Array Oper} {rest : List Oper} {o : Oper} {a : Act} {Q : Exit → Act → World → Prop} (hgd : o.guard = none) (s x : Operand) (t : TypeId)
    (ho : o.op = .call { callee := .builtin .append, args := #[s, x], argTypes := #[t, t] }) {e : TypeId} {z : Value} {size bytes : Nat} (hT : SliceOk P t e z size bytes)
    {w : World} {base : Nat} {v : Value} {n : Nat} {xs : List Value} (hs : a.eval s = v) (hown : w.ownsRow base e size v n xs) (cs : Array Value) {b : Nat} (hx : a.eval x = .slice (some ⟨b, 0, none⟩) 1 1) (hb : b = w.heap.size)
    (hl : cs.size = size) (h1 : ∀ u ∈ cs.toList, u.oneCell' = true) (h63 : n + 1 ≤ maxLen) (hbytes : (n + 1) * bytes ≤ 140737488355328) (hbase : base ≤ w.heap.size)
    (h : ∀ v' w', w'.ownsRow base e size v' (n + 1) (xs ++ cs.toList) → Gro w w' v v' → wpList P ops Q rest (a.put o.dst v') w') :
    wpList P ops Q (o :: rest) a (w.alloc (.cells cs e)) := by
  subst hb
  obtain ⟨ht, i, hi, hz, hsz, hby, hzs, hs0⟩ := hT
  refine wpList_append_own_at (w := w.alloc (.cells cs e)) hgd s x t ho base e i z size bytes ht hi hz hsz hby hzs hs0 v n xs hs (hown.alloc _) ⟨w.heap.size, 0, none⟩ 1 1 cs.toList hx (by simpa using hl) cells_new h1 h63 hbytes ?_ (fun v' w' h1 h2 _ h4 => h v' w' h1 ?_)
  · rw [World.size_alloc]; omega
  · have hA : Gro w (w.alloc (.cells cs e)) v v := Gro.below v ((Below.refl _ _).alloc (Nat.le_refl _) _)
    refine hA.trans ⟨h2, ?_⟩
    rcases h4 with e | e
    · exact .inl e
    · exact .inr ⟨_, e, Nat.le_refl _⟩

/-- 'append(s, x...)' where both are the call's own -/
theorem wpList_catOwn {P : Program} {ops : Array Oper} {rest : List Oper} {o : Oper} {a : Act} {Q : Exit → Act → World → Prop} (hgd : o.guard = none) (s x : Operand) (t : TypeId)
    (ho : o.op = .call { callee := .builtin .append, args := #[s, x], argTypes := #[t, t] }) {e : TypeId} {z : Value} {size bytes : Nat} (hT : SliceOk P t e z size bytes)
    {w : World} {base base2 : Nat} {v u : Value} {n m : Nat} {xs news : List Value} (hs : a.eval s = v) (hown : w.ownsRow base e size v n xs) (hx : a.eval x = u) (hu : w.ownsRow base2 e size u m news)
    (h1 : ∀ u ∈ news, u.oneCell' = true) (h63 : n + m ≤ maxLen) (hbytes : (n + m) * bytes ≤ 140737488355328) (hbase : base ≤ w.heap.size)
    (h : ∀ v' w', w'.ownsRow base e size v' (n + m) (xs ++ news) → Gro w w' v v' → wpList P ops Q rest (a.put o.dst v') w') :
    wpList P ops Q (o :: rest) a w := by
  obtain ⟨ht, i, hi, hz, hsz, hby, hzs, hs0⟩ := hT
  rcases id hu.2 with ⟨rfl, rfl⟩ | ⟨g, cap, cur, rfl, hg, hh, hn, hc, hcs, htk⟩
  · have hnews : news = [] := List.eq_nil_of_length_eq_zero (by rw [hu.1]; simp)
    subst hnews
    refine wpList_append_own_none hgd s x t ho base e i size ht hi v n xs hs hown hx (h v w (by simpa using hown) (Gro.refl _ _))
  · refine wpList_append_own_at (w := w) hgd s x t ho base e i z size bytes ht hi hz hsz hby hzs hs0 v n xs hs hown ⟨g, 0, none⟩ m cap news hx hu.1 (hu.cells rfl) h1 h63 hbytes hbase (fun v' w' k1 k2 _ k4 => h v' w' k1 ⟨k2, ?_⟩)
    rcases k4 with e | e
    · exact .inl e
    · exact .inr ⟨_, e, Nat.le_refl _⟩
theorem one_icells {l : List Int} : ∀ u ∈ icells .i64 l, u.oneCell' = true := by
  intro u hu; obtain ⟨z, _, rfl⟩ := List.mem_map.1 hu; simp [Value.oneCell']

/-- 'append(s, x, y ..)': m elements of a new block -/
theorem wpList_pushM {P : Program} {ops : Array Oper} {rest : List Oper} {o : Oper} {a : Act} {Q : Exit → Act → World → Prop} (hgd : o.guard = none) (s x : Operand) (t : TypeId)
    (ho : o.op = .call { callee := .builtin .append, args := #[s, x], argTypes := #[t, t] }) {e : TypeId} {z : Value} {size bytes : Nat} (hT : SliceOk P t e z size bytes)
    {w : World} {base : Nat} {v : Value} {n m : Nat} {xs : List Value} (hs : a.eval s = v) (hown : w.ownsRow base e size v n xs) (cs : Array Value) {b : Nat} (hx : a.eval x = .slice (some ⟨b, 0, none⟩) m m) (hb : b = w.heap.size)
    (hl : cs.size = m * size) (h1 : ∀ u ∈ cs.toList, u.oneCell' = true) (h63 : n + m ≤ maxLen) (hbytes : (n + m) * bytes ≤ 140737488355328) (hbase : base ≤ w.heap.size)
    (h : ∀ v' w', w'.ownsRow base e size v' (n + m) (xs ++ cs.toList) → Gro w w' v v' → wpList P ops Q rest (a.put o.dst v') w') :
    wpList P ops Q (o :: rest) a (w.alloc (.cells cs e)) := by
  subst hb
  obtain ⟨ht, i, hi, hz, hsz, hby, hzs, hs0⟩ := hT
  refine wpList_append_own_at (w := w.alloc (.cells cs e)) hgd s x t ho base e i z size bytes ht hi hz hsz hby hzs hs0 v n xs hs (hown.alloc _) ⟨w.heap.size, 0, none⟩ m m cs.toList hx (by simpa using hl) cells_new h1 h63 hbytes ?_ (fun v' w' h1 h2 _ h4 => h v' w' h1 ?_)
  · rw [World.size_alloc]; omega
  · have hA : Gro w (w.alloc (.cells cs e)) v v := Gro.below (w := w) v ((Below.refl _ _).alloc (Nat.le_refl _) _)
    refine hA.trans ⟨h2, ?_⟩
    rcases h4 with e | e
    · exact .inl e
    · exact .inr ⟨_, e, Nat.le_refl _⟩
/-- rows of different types lie in different blocks -/
theorem own_types {w : World} {b1 b2 n1 n2 s1 s2 : Nat} {e1 e2 : TypeId} {v1 v2 : Value} {x1 x2 : List Value} (h1 : w.ownsRow b1 e1 s1 v1 n1 x1) (h2 : w.ownsRow b2 e2 s2 v2 n2 x2) (hne : e1 ≠ e2) {g : Nat} (hg : v1.ownBlock = some g) : v2.ownBlock ≠ some g := by
  intro h
  rcases h1.2 with ⟨rfl, _⟩ | ⟨g1, _, c1, rfl, _, hh1, _⟩
  · simp [Value.ownBlock] at hg
  · rcases h2.2 with ⟨rfl, _⟩ | ⟨g2, _, c2, rfl, _, hh2, _⟩
    · simp [Value.ownBlock] at h
    · simp [Value.ownBlock] at hg h
      subst hg h
      rw [hh1] at hh2
      injection hh2 with hh2
      injection hh2 with _ hh2 _
      exact hne hh2
theorem own_gro {w w' : World} {b1 n1 s1 : Nat} {e1 : TypeId} {v1 v v' : Value} {x1 : List Value} (h1 : w.ownsRow b1 e1 s1 v1 n1 x1) (hg : Gro w w' v v') (hne : ∀ g, v1.ownBlock = some g → v.ownBlock ≠ some g) : w'.ownsRow b1 e1 s1 v1 n1 x1 :=
  h1.kept hg.g (by
    rcases hv : v1.ownBlock with _ | g
    · exact .inl rfl
    · exact .inr (fun e => hne g hv e.symm))
/-- 'append(s, x...)' where s is the call's own and x is read -/
theorem wpList_catRd {P : Program} {ops : Array Oper} {rest : List Oper} {o : Oper} {a : Act} {Q : Exit → Act → World → Prop} (hgd : o.guard = none) (s x : Operand) (t : TypeId)
    (ho : o.op = .call { callee := .builtin .append, args := #[s, x], argTypes := #[t, t] }) {e : TypeId} {z : Value} {bytes : Nat} (hT : SliceOk P t e z 1 bytes)
    {w : World} {base : Nat} {v : Value} {b o' c n m : Nat} {xs news : List Value} (hs : a.eval s = v) (hown : w.ownsRow base e 1 v n xs) (hx : a.eval x = .slice (some ⟨b, o', none⟩) m c) (hu : ∀ j u, news[j]? = some u → w.cell? ⟨b, o' + j, none⟩ = some u) (hm : news.length = m)
    (h1 : ∀ u ∈ news, u.oneCell' = true) (h63 : n + m ≤ maxLen) (hbytes : (n + m) * bytes ≤ 140737488355328) (hbase : base ≤ w.heap.size)
    (h : ∀ v' w', w'.ownsRow base e 1 v' (n + m) (xs ++ news) → Gro w w' v v' → wpList P ops Q rest (a.put o.dst v') w') :
    wpList P ops Q (o :: rest) a w := by
  obtain ⟨ht, i, hi, hz, hsz, hby, hzs, hs0⟩ := hT
  refine wpList_append_own_at (w := w) hgd s x t ho base e i z 1 bytes ht hi hz hsz hby hzs hs0 v n xs hs hown ⟨b, o', none⟩ m c news hx (by omega) (fun j u hj => ?_) h1 h63 hbytes hbase (fun v' w' k1 k2 _ k4 => h v' w' k1 ⟨k2, ?_⟩)
  · have hp : ((⟨b, o', none⟩ : Addr).add j) = ⟨b, o' + j, none⟩ := by unfold Addr.add; split <;> simp_all
    rw [hp]; exact hu j u hj
  · rcases k4 with e | e
    · exact .inl e
    · exact .inr ⟨_, e, Nat.le_refl _⟩
/-- 'append(s, x...)' where x is nil -/
theorem wpList_catNone {P : Program} {ops : Array Oper} {rest : List Oper} {o : Oper} {a : Act} {Q : Exit → Act → World → Prop} (hgd : o.guard = none) (s x : Operand) (t : TypeId)
    (ho : o.op = .call { callee := .builtin .append, args := #[s, x], argTypes := #[t, t] }) {e : TypeId} {z : Value} {size bytes : Nat} (hT : SliceOk P t e z size bytes)
    {w : World} {base : Nat} {v : Value} {n : Nat} {xs : List Value} (hs : a.eval s = v) (hown : w.ownsRow base e size v n xs) (hx : a.eval x = .slice none 0 0)
    (h : wpList P ops Q rest (a.put o.dst v) w) : wpList P ops Q (o :: rest) a w := by
  obtain ⟨ht, i, hi, hz, hsz, hby, hzs, hs0⟩ := hT
  exact wpList_append_own_none hgd s x t ho base e i size ht hi v n xs hs hown hx h
theorem own0 (w : World) : (w.alloc (.cells #[] 3)).ownsRow w.heap.size 3 1 (.slice (some ⟨w.heap.size, 0, none⟩) 0 0) 0 [] :=
  ⟨rfl, .inr ⟨w.heap.size, 0, #[], rfl, Nat.le_refl _, heap_alloc_new w _, Nat.le_refl _, by unfold maxLen; omega, rfl, rfl⟩⟩
end Go.Proofs.YtgkjakoagdkpcaaGreatDoor
