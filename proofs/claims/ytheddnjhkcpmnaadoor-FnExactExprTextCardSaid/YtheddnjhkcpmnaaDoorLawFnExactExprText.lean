
/- FnExactExprText: for every input the call returns true, the argument and the listed variable read afterwards as before. The row's condition: the listed variables hold what the program lays; the card ties that to the program's text. -/
import Derived.Test.YtheddnjhkcpmnaaDoorRows
import Derived.Test.YtheddnjhkcpmnaaDoorCards
import Derived.Test.YtheddnjhkcpmnaaDoorTie
import Derived.Test.YtheddnjhkcpmnaaDoorLai
import Derived.Test.YtheddnjhkcpmnaaDoorExprTextL
import Derived.WalkKit
import Derived.ProofKit
import Derived.OpenShut
import Derived.ChangeOld
import Derived.ChangeVars
import Derived.Handed
import Derived.LaidLaws
import Derived.SevenTiedAt
import Derived.Below
set_option linter.unusedVariables false
set_option linter.unusedSimpArgs false
namespace Go.Proofs.YtheddnjhkcpmnaaDoor.fnExactExprText
open Go.ChangeShapes Go.WideShapes Go.ChangeAt Go.RowKit
theorem own : ownKnob Tryd.prog.godebug = none := by kernel_rfl
theorem laidOut : laidOutB Tryd.prog = true := by kernel_rfl
noncomputable def laidWorld (os : Os) : World := setB 1 (exW.map Value.string).toArray (tabWorld os)
theorem laidWorld_met (os : Os) (args : Array Value) : laidMet Tryd.prog Rows.fnExactExprTextRow.laid ((laidWorld os).forCall (fun _ _ => 0) ⟨#[], args, []⟩).memory :=
  laidMet_of_run' 8 (by kernel_rfl) (by kernel_rfl)
theorem words_of_laid {W : World} (h : laidMet Tryd.prog Rows.fnExactExprTextRow.laid W) : W.var? Tryd.prog "loop.example/g00745/impl.exprWords" = some (exW.map Value.string).toArray :=
  words_of_head (g := 1) (t := 88) (e := 9) (n := 12) (by kernel_rfl) (by kernel_rfl) (by kernel_rfl) (by kernel_rfl) (by kernel_rfl) (by kernel_rfl) h.tail.tail.tail
abbrev wordsH {H : Type} : DataW H := wordsData exW
theorem reads_words {H : Type} (enc : TypeId × Value → H) (W : World) (sp : Nat → Bool) : DataW.trod enc Tryd.prog W 0 sp true 3 88 (exW.map Value.string).toArray.toList = some (wordsH, []) := by kernel_rfl
set_option maxRecDepth 100000 in
theorem lifted (os : Os) (started : os.Started) (H : Type) (enc : TypeId × Value → H) :
    ReturnsInHanded {} Tryd.checked os 5 .any (fun w args => (Rows.fnExactExprTextSpec.pre enc Tryd.prog Tryd.f5 Rows.fnExactExprTextRow.domain false w args ∧ laidMet Tryd.prog Rows.fnExactExprTextRow.laid w) ∧ sizedMet enc Tryd.prog Tryd.f5 (OpenSpec.ofChange Rows.fnExactExprTextSpec) false w args)
      (Rows.fnExactExprTextSpec.post enc Tryd.prog Tryd.f5 false true false false) := by
  refine returnsInHanded_of_change_and (C := Tryd.checked) (X := fun w _ => laidMet Tryd.prog Rows.fnExactExprTextRow.laid w) (fun _ _ _ hh h => h.of_heap hh) own started (by kernel_rfl) Tryd.func5
    (ChangeSpec.witness_at (enc := enc) (C := Tryd.checked) (os := os) (X := fun w _ => laidMet Tryd.prog Rows.fnExactExprTextRow.laid w) false (laidWorld os) #[.slice none 0 0] 8 rfl (by kernel_rfl) (by kernel_rfl) (by kernel_rfl) (by kernel_rfl) (by kernel_rfl) (laidWorld_met os _)) ?_
  intro W base args ds gs before hval0 hW _ _ hL _
  have hval : ∀ (j : Nat) t v, Tryd.f5.params[j]? = some t → args[j]? = some v → Value.okWide Tryd.prog W .any base t v := hval0
  have hW' := hW
  obtain ⟨p, q, hA0, hV0, rfl, hfz, hnd⟩ := hW
  have hA : DataW.TrodAll enc Tryd.prog W 0 (fun _ => true) true Tryd.f5.params.toList args.toList ds p := hA0
  rw [Tryd.params5] at hA hval
  obtain ⟨v0, vs0, d0, ds0, p0, q0, hargs, rfl, rfl, h0, r0⟩ := trodAll_cons hA
  obtain ⟨rfl, rfl, rfl⟩ := trodAll_nil r0
  obtain rfl : args = #[v0] := by cases args; simp_all
  have hV : DataW.TrodVars enc Tryd.prog W (fun _ => true) ["loop.example/g00745/impl.exprWords"] gs q := hV0
  have hww := words_of_laid hL
  obtain ⟨g, t, cs, fuel, d, p', rfl, hg, ht, hvar, hd, rfl⟩ := trodVars_one hV
  obtain rfl : 1 = g := Option.some.inj ((show Tryd.prog.globalNamed "loop.example/g00745/impl.exprWords" = some 1 by kernel_rfl).symm.trans hg)
  obtain rfl : 88 = t := Option.some.inj ((show (Tryd.prog.globals[1]?).map (·.type) = some 88 by kernel_rfl).symm.trans ht)
  obtain rfl : cs = (exW.map Value.string).toArray := Option.some.inj (hvar.symm.trans hww)
  obtain ⟨rfl, rfl⟩ := DataW.Trod.unique (v := .agg (exW.map Value.string).toArray) ⟨fuel, hd⟩ ⟨3, reads_words enc W _⟩
  obtain ⟨hp, hgo⟩ := p10_of_laid hL
  have k0 := h0
  have lt0 : ∀ x ∈ p0, x.block < W.heap.size := by obtain ⟨m, hm⟩ := k0; exact DataW.trod_lt m _ _ _ hm
  have i0 := open_toks (hval 0 38 v0 rfl rfl) k0 lt0
  clear hA0 hV0 hval0
  refine (law_FnExactExprText W v0 i0 hp hgo ⟨var_old hg hww, fun k hk => by simpa [List.getElem?_eq_getElem hk] using World.var?_cell hg hww k⟩).mono fun e W' ⟨he, bel⟩ => ?_
  subst he
  have hw2 := var?_below bel hg (var_old hg hww) hww
  have hvars : ∀ sp : Nat → Bool, DataW.TrodVars enc Tryd.prog W' sp ["loop.example/g00745/impl.exprWords"] [wordsH] (MemPlace.row ⟨1, 0, none⟩ (exW.map Value.string).toArray.size ++ [] ++ []) := fun sp =>
    ⟨_, _, _, 3, [], [], hg, ht, hw2, reads_words enc W' sp, rfl, rfl⟩
  exact ⟨_, rfl, _, _, _, [], _, _, hW', trodAll_mk1 (shut_bool Tryd.underlying4 _), (trodAll_cons_mk (Below.trod laidOut (by kernel_rfl) (of_decide_eq_true (by kernel_rfl)) k0 bel lt0) trodAll_mk0), (hvars _), bel.frame _, fun h => by cases h⟩
theorem over : Rows.fnExactExprTextRow.holds Tryd.pinned (OpenSpec.ofChange Rows.fnExactExprTextSpec) :=
  OpenClaim.holds_of_wide 5 Tryd.f5 rfl rfl rfl rfl rfl rfl rfl ⟨rfl, rfl, rfl, rfl, rfl⟩ rfl rfl rfl rfl rfl (by kernel_rfl) Tryd.func5 (by kernel_rfl)
    (of_decide_eq_true (by kernel_rfl)) (by unfold Func.isWrapper; first | (rw [if_pos (by decide +kernel)]; kernel_rfl) | (rw [if_neg (by decide +kernel)]; exact ⟨rfl, rfl⟩))
    (fun os started H enc _ => lifted os started H enc)
/-- the statement -/
theorem proved : Rows.FnExactExprTextCardSaid :=
  Claim7.holds_tied_plain_at .later [] [.data, .data, .data, .widerDeep] true (true, "b527615eb6bd56f914a6b71f06188b5009270784dcd5b71e397d67a80bf8dbc9") true
    over (fun _ h => by cases h) (by kernel_rfl) (fun _ h => by cases h) fnExactExprText_row_tie rfl ⟨rfl, rfl⟩ (by kernel_rfl) rfl
    (fun f fn hf hfn => by
      obtain rfl : f = 5 := Option.some.inj ((show Tryd.prog.funcNamed "loop.example/g00745/laws.FnExactExprText" = some 5 by kernel_rfl).symm.trans hf) |>.symm
      obtain rfl : fn = Tryd.f5 := (Option.some.inj (Tryd.func5.symm.trans hfn)).symm
      exact ⟨by kernel_rfl, fun j t ht => by
        rw [Tryd.params5] at ht
        have h3 : t = 38 := by
          rcases j with _ | j
          · simpa using ht.symm
          · simp at ht
        subst h3
        exact (show Tryd.prog.wantsStandIn 38 = false by kernel_rfl)⟩)
    (by kernel_rfl)
#print axioms proved
end Go.Proofs.YtheddnjhkcpmnaaDoor.fnExactExprText
