
/- FnExprs: for every input the call returns true, the argument and the listed variable read afterwards as before. The row's condition: the listed variables hold what the program lays; the card ties that to the program's text. -/
import Derived.Test.YtheddnjhkcpmnaaGreatDoorRows
import Derived.Test.YtheddnjhkcpmnaaGreatDoorCards
import Derived.Test.YtheddnjhkcpmnaaGreatDoorTie
import Derived.Test.YtheddnjhkcpmnaaGreatDoorLai
import Derived.Test.YtheddnjhkcpmnaaGreatDoorFnExprsL
import Derived.Stop.LaidErr
import Derived.Shelf.Vars
import Derived.WalkKit
import Derived.ProofKit
import Derived.OpenShut
import Derived.ChangeOld
import Derived.ChangeVars
import Derived.Handed
import Derived.LaidLaws
import Derived.SevenTiedAt
import Derived.Below
set_option linter.unusedVariables false
set_option linter.unusedSimpArgs false
namespace Go.Proofs.YtheddnjhkcpmnaaGreatDoor.fnExprs
open Go.ChangeShapes Go.WideShapes Go.ChangeAt Go.RowKit Go.Shelf
open Go.ChangeMaps (open_string shut_string)
theorem own : ownKnob Tryz.prog.godebug = none := by kernel_rfl
theorem laidOut : laidOutB Tryz.prog = true := by kernel_rfl
theorem star : "*" ++ "errors.errorString" = "*errors.errorString" := by decide
theorem rowE (u : TypeId) (h : Tryz.prog.typeName? 3 u = some "*errors.errorString") : u = 127 :=
  typeName_ptr_named (nm := "errors.errorString") (by rw [star]; kernel_rfl) (by kernel_rfl) (by decide) u (by rw [star]; exact h)
noncomputable def low : Nat := (World.holding Tryz.prog default ⟨#[], #[], []⟩).heap.size
def rangeS : ByteArray := ⟨#[118, 97, 108, 117, 101, 32, 111, 117, 116, 32, 111, 102, 32, 114, 97, 110, 103, 101]⟩
def syntaxS : ByteArray := ⟨#[105, 110, 118, 97, 108, 105, 100, 32, 115, 121, 110, 116, 97, 120]⟩
def zs2 : DataW Unit → List Int
  | .agg l => l.flatMap zsOf
  | _ => []
/-- a started world in which the row's eight variables lie as the program lays them -/
noncomputable def laidWorld (os : Os) : World :=
  setB 0 (exW.map Value.string).toArray (setB 5 (u8Cells (zsOf Rows.laid_unicode_utf8_first)) (setB 6 (u8Cells (zs2 Rows.laid_unicode_utf8_acceptRanges))
    (setB 2 #[.iface 127 (.pointer (some ⟨low, 0, none⟩))] (setB 1 #[.iface 127 (.pointer (some ⟨low + 1, 0, none⟩))]
      (setB 7 (u8Cells (zsOf Rows.laid_math_bits_deBruijn32tab)) (setB 8 (u8Cells (zsOf Rows.laid_math_bits_deBruijn64tab)) (setB 3 (u64Cells (zsOf Rows.laid_internal_strconv_uint64pow10))
        (World.holding Tryz.prog os ⟨#[.cells #[.string rangeS] 129, .cells #[.string syntaxS] 129], #[], []⟩))))))))
theorem err_of {W : World} {n : String} {text : List UInt8} {r : List (String × DataW Unit)} {g : Nat} (h : laidMet Tryz.prog ((n, .iface "*errors.errorString" (.ptr (.agg [.lit (.string text)]))) :: r) W)
    (hg : Tryz.prog.globalNamed n = some g) (ht : (Tryz.prog.globals[g]?).map (·.type) = some 73) : g < W.heap.size ∧ ∃ v, W.cell? ⟨g, 0, none⟩ = some v ∧ IsErr v := by
  obtain ⟨a, s, hv, _⟩ := laid_sentinel h hg ht Tryz.underlying73 rowE Tryz.underlying127 Tryz.underlying129 rfl rfl Tryz.underlying9 (by kernel_rfl) (by kernel_rfl)
  exact ⟨var_old hg hv, _, World.var?_cell hg hv 0, .inr ⟨_, _, rfl⟩⟩
section
variable {H : Type} {enc : TypeId × Value → H}
/-- the kit's wrap, the laid variables and the world's shape kept -/
theorem handed_and_shaped {a : Assume} {C : Checked} {os : Os} {f : FuncId} {fn : Func} {s : ChangeSpec} {conds : List PathCond} {apart fresh handsOn again : Bool} {X : World → Array Value → Prop}
    (hX : ∀ (w w' : World) (args : Array Value), w.heap = w'.heap → X w args → X w' args)
    (own : ownKnob C.prog.godebug = none) (started : os.Started) (noInit : C.prog.inits.idxOf? f = none) (hfn : C.prog.funcs[f]? = some fn)
    (witness : ∃ (w : World) (tape : Tape) (i : Input), w.os = os ∧ (w.forCall tape i).Shaped C.prog ∧ i.vars = [] ∧ Input.okWide C.prog (w.forCall tape i) .any w.heap.size f i ∧
      ((s.pre enc C.prog fn conds apart (w.forCall tape i).memory i.args ∧ X (w.forCall tape i).memory i.args) ∧ sizedMet enc C.prog fn (OpenSpec.ofChange s) apart (w.forCall tape i).memory i.args) ∧ a.holds C.prog (lone (Frame.enter C.prog f i.args .normal) [] (w.forCall tape i)))
    (contract : ∀ (W : World) (base : Nat) (args : Array Value) (ds gs : List (DataW H)) (before : List MemPlace),
      (∀ (j : Nat) t v, fn.params[j]? = some t → args[j]? = some v → Value.okWide C.prog W .any base t v) →
      DataW.Whole enc C.prog fn.params.toList s.vars apart W args.toList ds gs before →
      X W args → W.ShapedOpen C.prog →
      Calls C.prog f args W fun e W' => ∃ v, e = .returned v ∧ s.post enc C.prog fn apart fresh handsOn again W args v W') :
    ReturnsInHanded a C os f .any (fun w args => (s.pre enc C.prog fn conds apart w args ∧ X w args) ∧ sizedMet enc C.prog fn (OpenSpec.ofChange s) apart w args) (s.post enc C.prog fn apart fresh handsOn again) := by
  refine returnsInHanded_of_calls own started noInit witness ?_
  intro w tape i _ hsh _ hok hpre hholds
  obtain ⟨_, _, _, fn', hfn', _, _, _, _, hval⟩ := hok
  have e : fn' = fn := Option.some.inj (hfn'.symm.trans hfn)
  subst e
  obtain ⟨⟨⟨ds, gs, before, hw, hc⟩, hx⟩, hz⟩ := hpre
  have hw' := DataW.Whole.of_heap (w' := w.forCall tape i) (by rfl) hw
  refine (contract (w.forCall tape i) w.heap.size i.args ds gs before hval hw' (hX _ _ _ (by rfl) hx) hsh).mono fun e W' ⟨v, he, hp⟩ => ?_
  subst he
  exact ChangeSpec.post_blind hp
end
theorem maxL_of {W : World} (h : W.ShapedOpen Tryz.prog) : MaxL W := cell_of_shapedOpen_int h (of_decide_eq_true (by kernel_rfl)) (t := 3) (zero := #[.int .i64 0]) (by kernel_rfl) rfl (by kernel_rfl) (by kernel_rfl) Tryz.underlying3
theorem lt_of_cell {W : World} {g : Nat} {v : Value} (h : W.cell? ⟨g, 0, none⟩ = some v) : g < W.heap.size := by
  rcases Nat.lt_or_ge g W.heap.size with h' | h'
  · exact h'
  · simp [World.cell?, Array.getElem?_eq_none h'] at h
theorem laidWorld_met (os : Os) (args : Array Value) : laidMet Tryz.prog Rows.fnExprsRow.laid ((laidWorld os).forCall (fun _ _ => 0) ⟨#[], args, []⟩).memory :=
  laidMet_of_run' 8 (by kernel_rfl) (by kernel_rfl)
theorem words_of_laid {W : World} (h : laidMet Tryz.prog Rows.fnExprsRow.laid W) : W.var? Tryz.prog "loop.example/g00745/impl.exprWords" = some (exW.map Value.string).toArray :=
  words_of_head (g := 0) (t := 77) (e := 9) (n := 12) (by kernel_rfl) (by kernel_rfl) (by kernel_rfl) (by kernel_rfl) (by kernel_rfl) (by kernel_rfl) h.tail.tail.tail.tail.tail.tail
abbrev wordsH {H : Type} : DataW H := wordsData exW
theorem reads_words {H : Type} (enc : TypeId × Value → H) (W : World) (sp : Nat → Bool) : DataW.trod enc Tryz.prog W 0 sp true 3 77 (exW.map Value.string).toArray.toList = some (wordsH, []) := by kernel_rfl
set_option maxRecDepth 100000 in
theorem lifted (os : Os) (started : os.Started) (H : Type) (enc : TypeId × Value → H) :
    ReturnsInHanded {} Tryz.checked os 3 .any (fun w args => (Rows.fnExprsSpec.pre enc Tryz.prog Tryz.f3 Rows.fnExprsRow.domain false w args ∧ laidMet Tryz.prog Rows.fnExprsRow.laid w) ∧ sizedMet enc Tryz.prog Tryz.f3 (OpenSpec.ofChange Rows.fnExprsSpec) false w args)
      (Rows.fnExprsSpec.post enc Tryz.prog Tryz.f3 false true false false) := by
  refine handed_and_shaped (C := Tryz.checked) (X := fun w _ => laidMet Tryz.prog Rows.fnExprsRow.laid w) (fun _ _ _ hh h => h.of_heap hh) own started (by kernel_rfl) Tryz.func3
    (ChangeSpec.witness_at (enc := enc) (C := Tryz.checked) (os := os) (X := fun w _ => laidMet Tryz.prog Rows.fnExprsRow.laid w) false (laidWorld os) #[.slice none 0 0, .slice none 0 0] 8 rfl (by kernel_rfl) (by kernel_rfl) (by kernel_rfl) (by kernel_rfl) (by kernel_rfl) (laidWorld_met os _)) ?_
  intro W base args ds gs before hval0 hW hL hsh
  have hval : ∀ (j : Nat) t v, Tryz.f3.params[j]? = some t → args[j]? = some v → Value.okWide Tryz.prog W .any base t v := hval0
  have hW' := hW
  obtain ⟨p, q, hA0, hV0, rfl, hfz, hnd⟩ := hW
  have hA : DataW.TrodAll enc Tryz.prog W 0 (fun _ => true) true Tryz.f3.params.toList args.toList ds p := hA0
  rw [Tryz.params3] at hA hval
  obtain ⟨v0, vs0, d0, ds0, p0, q0, hargs, rfl, rfl, h0, r0⟩ := trodAll_cons hA
  obtain ⟨v1, vs1, d1, ds1, p1, q1, rfl, rfl, rfl, h1, r1⟩ := trodAll_cons r0
  obtain ⟨rfl, rfl, rfl⟩ := trodAll_nil r1
  obtain rfl : args = #[v0, v1] := by cases args; simp_all
  have hV : DataW.TrodVars enc Tryz.prog W (fun _ => true) ["loop.example/g00745/impl.exprWords"] gs q := hV0
  have hww := words_of_laid hL
  obtain ⟨g, t, cs, fuel, d, p', rfl, hg, ht, hvar, hd, rfl⟩ := trodVars_one hV
  obtain rfl : 0 = g := Option.some.inj ((show Tryz.prog.globalNamed "loop.example/g00745/impl.exprWords" = some 0 by kernel_rfl).symm.trans hg)
  obtain rfl : 77 = t := Option.some.inj ((show (Tryz.prog.globals[0]?).map (·.type) = some 77 by kernel_rfl).symm.trans ht)
  obtain rfl : cs = (exW.map Value.string).toArray := Option.some.inj (hvar.symm.trans hww)
  obtain ⟨rfl, rfl⟩ := DataW.Trod.unique (v := .agg (exW.map Value.string).toArray) ⟨fuel, hd⟩ ⟨3, reads_words enc W _⟩
  obtain ⟨hp, hgo⟩ := p10_of_laid hL
  have k0 := h0
  have lt0 : ∀ x ∈ p0, x.block < W.heap.size := by obtain ⟨m, hm⟩ := k0; exact DataW.trod_lt m _ _ _ hm
  have i0 := open_u8s (hval 0 22 v0 rfl rfl) k0 lt0
  have k1 := h1
  have lt1 : ∀ x ∈ p1, x.block < W.heap.size := by obtain ⟨m, hm⟩ := k1; exact DataW.trod_lt m _ _ _ hm
  have i1 := open_u8s (hval 1 22 v1 rfl rfl) k1 lt1
  have hE : ErrV W := ⟨err_of hL.tail.tail.tail.tail.tail (by kernel_rfl) (by kernel_rfl), err_of hL.tail.tail.tail.tail (by kernel_rfl) (by kernel_rfl)⟩
  have hM := maxL_of hsh
  have hMl : 4 < W.heap.size := by obtain ⟨m, hm⟩ := hM; exact lt_of_cell hm
  clear hA0 hV0 hval0
  refine (law_FnExprs W v0 i0 v1 i1 hM hMl hp hgo ⟨var_old hg hww, fun k hk => by simpa [List.getElem?_eq_getElem hk] using World.var?_cell hg hww k⟩ hE).mono fun e W' ⟨he, bel⟩ => ?_
  subst he
  have hw2 := var?_below bel hg (var_old hg hww) hww
  have hvars : ∀ sp : Nat → Bool, DataW.TrodVars enc Tryz.prog W' sp ["loop.example/g00745/impl.exprWords"] [wordsH] (MemPlace.row ⟨0, 0, none⟩ (exW.map Value.string).toArray.size ++ [] ++ []) := fun sp =>
    ⟨_, _, _, 3, [], [], hg, ht, hw2, reads_words enc W' sp, rfl, rfl⟩
  exact ⟨_, rfl, _, _, _, [], _, _, hW', trodAll_mk1 (shut_bool Tryz.underlying4 _), (trodAll_cons_mk (Below.trod laidOut (by kernel_rfl) (of_decide_eq_true (by kernel_rfl)) k0 bel lt0) (trodAll_cons_mk (Below.trod laidOut (by kernel_rfl) (of_decide_eq_true (by kernel_rfl)) k1 bel lt1) trodAll_mk0)), (hvars _), bel.frame _, fun h => by cases h⟩
theorem over : Rows.fnExprsRow.holds Tryz.pinned (OpenSpec.ofChange Rows.fnExprsSpec) :=
  OpenClaim.holds_of_wide 3 Tryz.f3 rfl rfl rfl rfl rfl rfl rfl ⟨rfl, rfl, rfl, rfl, rfl⟩ rfl rfl rfl rfl rfl (by kernel_rfl) Tryz.func3 (by kernel_rfl)
    (of_decide_eq_true (by kernel_rfl)) (by unfold Func.isWrapper; first | (rw [if_pos (by decide +kernel)]; kernel_rfl) | (rw [if_neg (by decide +kernel)]; exact ⟨rfl, rfl⟩))
    (fun os started H enc _ => lifted os started H enc)
/-- the statement -/
theorem proved : Rows.FnExprsCardSaid :=
  Claim7.holds_tied_plain_at .later [] [.data, .data, .data, .data, .sentinel, .sentinel, .widerDeep, .pinned] true (true, "3208ea4337d76dd5ef2fb46dc539a4689206695aab02ac13a6c342c802f68e2c") true
    over (fun _ h => by cases h) (by kernel_rfl) (fun _ h => by cases h) fnExprs_row_tie rfl ⟨rfl, rfl⟩ (by kernel_rfl) rfl
    (fun f fn hf hfn => by
      obtain rfl : f = 3 := Option.some.inj ((show Tryz.prog.funcNamed "loop.example/g00745/laws.FnExprs" = some 3 by kernel_rfl).symm.trans hf) |>.symm
      obtain rfl : fn = Tryz.f3 := (Option.some.inj (Tryz.func3.symm.trans hfn)).symm
      exact ⟨by kernel_rfl, fun j t ht => by
        rw [Tryz.params3] at ht
        have h3 : t = 22 := by
          rcases j with _ | _ | j
          · simpa using ht.symm
          · simpa using ht.symm
          · simp at ht
        subst h3
        exact (show Tryz.prog.wantsStandIn 22 = false by kernel_rfl)⟩)
    (by kernel_rfl)
#print axioms proved
end Go.Proofs.YtheddnjhkcpmnaaGreatDoor.fnExprs
