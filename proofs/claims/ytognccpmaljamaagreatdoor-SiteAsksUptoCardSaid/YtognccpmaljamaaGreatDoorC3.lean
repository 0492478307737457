/- SiteAsks answers true for every input whose arguments hold together at most 1048576 values and letters, and leaves its arguments as they were; the listed package-level tables hold what the program's text lays. -/
import Derived.Test.YtognccpmaljamaaGreatDoorC2
set_option linter.unusedVariables false
set_option linter.unusedSimpArgs false
set_option linter.unusedSectionVars false
set_option linter.unnecessarySimpa false
set_option linter.constructorNameAsVariable false
set_option maxRecDepth 100000
/- SiteAsks: the row and the card, from the contract. -/
namespace Go.Proofs.YtognccpmaljamaaGreatDoor.Sa
open Go Go.ChangeShapes Go.WideShapes Go.ChangeAt Go.RowKit

mutual
noncomputable def datumCells : DataW Unit → List Value
  | .lit (.int k n) => [.int k n]
  | .agg ps => datumsCells ps
  | _ => []
noncomputable def datumsCells : List (DataW Unit) → List Value
  | [] => []
  | d :: ds => datumCells d ++ datumsCells ds
end

noncomputable def laidAt (d : DataW Unit) : Obj → Obj
  | .cells _ t frozen => .cells (datumCells d).toArray t frozen
  | o => o
/-- A world for the witness: the listed variables hold what their initialisers lay. -/
noncomputable def laidWorld (os : Os) : World :=
  { World.holding Tryz.prog os ⟨#[], #[], []⟩ with heap := (((((World.holding Tryz.prog os ⟨#[], #[], []⟩).heap.modify 1 (laidAt YtognccpmaljamaaGreatDoor.Rows.laid_internal_strconv_uint64pow10)).modify 2 (laidAt YtognccpmaljamaaGreatDoor.Rows.laid_math_bits_deBruijn32tab)).modify 3 (laidAt YtognccpmaljamaaGreatDoor.Rows.laid_math_bits_deBruijn64tab)).modify 4 (laidAt YtognccpmaljamaaGreatDoor.Rows.laid_unicode_utf8_first)).modify 5 (laidAt YtognccpmaljamaaGreatDoor.Rows.laid_unicode_utf8_acceptRanges) }

noncomputable def zeroURL : Value := .agg #[.string ⟨#[]⟩, .string ⟨#[]⟩, .string ⟨#[]⟩, .bool false, .int .i64 0, .string ⟨#[]⟩, .int .u32 0, .int .u16 0, .int .u16 0, .int .u16 0, .int .u16 0, .int .u16 0, .int .u16 0, .int .u16 0, .int .u16 0, .int .i64 0, .bool false, .string ⟨#[]⟩, .slice none 0 0, .bool false, .string ⟨#[]⟩, .bool false, .string ⟨#[]⟩]
def zeroURLD {H : Type} : DataW H := .agg [.lit (.string []), .lit (.string []), .lit (.string []), .lit (.bool false), .agg [.lit (.int .i64 0), .lit (.string []), .lit (.int .u32 0), .agg [.lit (.int .u16 0), .lit (.int .u16 0), .lit (.int .u16 0), .lit (.int .u16 0), .lit (.int .u16 0), .lit (.int .u16 0), .lit (.int .u16 0), .lit (.int .u16 0)]], .lit (.int .i64 0), .lit (.bool false), .lit (.string []), .nil, .lit (.bool false), .lit (.string []), .lit (.bool false), .lit (.string [])]
noncomputable def zeroArgs : Array Value := #[zeroURL, zeroURL, .slice none 0 0, .string ⟨#[]⟩]

theorem laid_met (os : Os) : laidMet Tryz.prog YtognccpmaljamaaGreatDoor.Rows.siteAsksUptoRow.laid ((laidWorld os).forCall (fun _ _ => 0) ⟨#[], zeroArgs, []⟩).memory :=
  laidMet_of_run' 8 (by kernel_rfl) (by kernel_rfl)
theorem reads (os : Os) {H : Type} (enc : TypeId × Value → H) : ∃ places, DataW.whole enc Tryz.prog ((laidWorld os).forCall (fun _ _ => 0) ⟨#[], zeroArgs, []⟩).memory Tryz.f4.params.toList YtognccpmaljamaaGreatDoor.Rows.siteAsksSpec.vars false zeroArgs.toList 8 = some ([zeroURLD, zeroURLD, .nil, .lit (.string [])], [], places) :=
  ⟨[], by kernel_rfl⟩

theorem liftedUpto (os : Os) (started : os.Started) (H : Type) (enc : TypeId × Value → H) (F : Stop.Interp) :
    ReturnsInHanded {} Tryz.checked os 4 .any ((YtognccpmaljamaaGreatDoor.Rows.OpenSpec.upto YtognccpmaljamaaGreatDoor.Rows.siteAsksSpec).preRow enc Tryz.prog Tryz.f4 YtognccpmaljamaaGreatDoor.Rows.siteAsksUptoRow.domain false YtognccpmaljamaaGreatDoor.Rows.siteAsksUptoRow.laid) (((YtognccpmaljamaaGreatDoor.Rows.OpenSpec.upto YtognccpmaljamaaGreatDoor.Rows.siteAsksSpec).at F).post enc Tryz.prog Tryz.f4 false true false false) := by
  obtain ⟨places, hx⟩ := reads os enc
  refine returnsInHanded_of_row (C := Tryz.checked) (s := YtognccpmaljamaaGreatDoor.Rows.OpenSpec.upto YtognccpmaljamaaGreatDoor.Rows.siteAsksSpec) own started (by kernel_rfl) Tryz.func4
    (witness_row_at (enc := enc) (C := Tryz.checked) false (laidWorld os) zeroArgs rfl (by kernel_rfl) (by kernel_rfl) (by kernel_rfl)
      (OpenSpec.preRow_of_cond 8 hx (by kernel_rfl) (fun k hk => by cases hk; kernel_rfl) (by kernel_rfl) (laid_met os))) ?_
  intro W base args ds gs before hval hW _ hcond _ hL _ _
  exact contract H enc W base args ds gs before hval hW hL (hcond _ rfl)

theorem siteAsks_said : YtognccpmaljamaaGreatDoor.Rows.SiteAsksUptoSaid :=
  OpenClaim.holds_of_cond 4 Tryz.f4 rfl rfl rfl rfl rfl rfl rfl ⟨rfl, rfl, rfl, rfl, rfl⟩ rfl rfl rfl rfl rfl (by kernel_rfl) Tryz.func4 (by kernel_rfl)
    (of_decide_eq_true (by kernel_rfl)) (by unfold Func.isWrapper; first | (rw [if_pos (by decide +kernel)]; kernel_rfl) | (rw [if_neg (by decide +kernel)]; exact ⟨rfl, rfl⟩))
    (fun os started H enc _ F => by rw [OpenClaim.pre_eq_preRow]; exact liftedUpto os started H enc F)

theorem plain (f : FuncId) (fn : Func) (hf : YtognccpmaljamaaGreatDoor.Tryz.pinned.checked.prog.funcNamed "springhouse/sprlaw11.SiteAsks" = some f) (hfn : YtognccpmaljamaaGreatDoor.Tryz.pinned.checked.prog.funcs[f]? = some fn) :
    false = YtognccpmaljamaaGreatDoor.Tryz.pinned.checked.prog.looks [] ∧ ∀ (j : Nat) t, fn.params[j]? = some t → YtognccpmaljamaaGreatDoor.Tryz.pinned.checked.prog.wantsStandIn t = false := by
  obtain rfl : f = 4 := Option.some.inj ((show Tryz.prog.funcNamed "springhouse/sprlaw11.SiteAsks" = some 4 by kernel_rfl).symm.trans hf) |>.symm
  obtain rfl : fn = Tryz.f4 := (Option.some.inj (Tryz.func4.symm.trans hfn)).symm
  refine ⟨by kernel_rfl, fun j t ht => ?_⟩
  rw [Tryz.params4] at ht
  have hm : t = 29 ∨ t = 27 ∨ t = 9 := by
    have := Array.mem_of_getElem? ht
    simp at this
    omega
  rcases hm with rfl | rfl | rfl
  · exact (show Tryz.prog.wantsStandIn 29 = false by kernel_rfl)
  · exact (show Tryz.prog.wantsStandIn 27 = false by kernel_rfl)
  · exact (show Tryz.prog.wantsStandIn 9 = false by kernel_rfl)

theorem siteAsks_card : YtognccpmaljamaaGreatDoor.Rows.SiteAsksUptoCardSaid :=
  Claim7.holds_tied_plain_at .later [] _ _ _ _ siteAsks_said (fun _ h => by cases h) (by kernel_rfl) (fun _ h => by cases h) YtognccpmaljamaaGreatDoor.siteAsksUpto_row_tie rfl ⟨rfl, rfl⟩ (by kernel_rfl) rfl plain (by kernel_rfl)
end Go.Proofs.YtognccpmaljamaaGreatDoor.Sa
