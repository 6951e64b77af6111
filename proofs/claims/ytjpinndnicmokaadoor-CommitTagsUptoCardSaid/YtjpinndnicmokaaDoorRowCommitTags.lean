/- CommitTags holds of every readable input whose bulk is at most 1048576. -/
import Derived.Test.YtjpinndnicmokaaDoorCmRow
import Derived.Test.YtjpinndnicmokaaDoorCmTagP
import Derived.Test.YtjpinndnicmokaaDoorRowA
set_option linter.all false
namespace Go.Proofs.YtjpinndnicmokaaDoor
open Go.ChangeShapes Go.WideShapes Go.ChangeAt Go.RowKit Go.Lib Go.Deep
namespace Cm
set_option maxRecDepth 100000
theorem commitTags_witness (os : Os) {H : Type} (enc : TypeId × Value → H) :
    (Rows.OpenSpec.upto Rows.commitTagsSpec).preRow enc Tryd.prog Tryd.f7 Rows.commitTagsUptoRow.domain false Rows.commitTagsUptoRow.laid ((laidWorld os).forCall (fun _ _ => 0) ⟨#[], #[.agg #[.string ⟨#[]⟩, .int .i64 0, .string ⟨#[]⟩, .string ⟨#[]⟩, .int .i64 0, .int .i64 0, .string ⟨#[]⟩], .string ⟨#[]⟩], []⟩).memory #[.agg #[.string ⟨#[]⟩, .int .i64 0, .string ⟨#[]⟩, .string ⟨#[]⟩, .int .i64 0, .int .i64 0, .string ⟨#[]⟩], .string ⟨#[]⟩] := by
  have hw : (DataW.whole enc Tryd.prog ((laidWorld os).forCall (fun _ _ => 0) ⟨#[], #[.agg #[.string ⟨#[]⟩, .int .i64 0, .string ⟨#[]⟩, .string ⟨#[]⟩, .int .i64 0, .int .i64 0, .string ⟨#[]⟩], .string ⟨#[]⟩], []⟩).memory Tryd.f7.params.toList (Rows.OpenSpec.upto Rows.commitTagsSpec).vars false (#[.agg #[.string ⟨#[]⟩, .int .i64 0, .string ⟨#[]⟩, .string ⟨#[]⟩, .int .i64 0, .int .i64 0, .string ⟨#[]⟩], .string ⟨#[]⟩] : Array Value).toList 8).map (fun x => (x.1, x.2.1)) =
      some ([.agg [.lit (.string []), .lit (.int .i64 0), .lit (.string []), .agg [.lit (.string []), .lit (.int .i64 0), .lit (.int .i64 0)], .lit (.string [])], .lit (.string [])], []) := by kernel_rfl
  obtain ⟨⟨x1, x2, x3⟩, hx, hx1⟩ := Option.map_eq_some_iff.1 hw
  simp only [Prod.mk.injEq] at hx1
  obtain ⟨rfl, rfl⟩ := hx1
  exact OpenSpec.preRow_of_cond 8 hx (by kernel_rfl) (fun k hk => by cases hk; kernel_rfl) (by kernel_rfl) (laid_met os _)
theorem commitTags_lifted (os : Os) (started : os.Started) (H : Type) (enc : TypeId × Value → H) (F : Stop.Interp) :
    ReturnsInHanded {} Tryd.checked os 7 .any ((Rows.OpenSpec.upto Rows.commitTagsSpec).preRow enc Tryd.prog Tryd.f7 Rows.commitTagsUptoRow.domain false Rows.commitTagsUptoRow.laid) (((Rows.OpenSpec.upto Rows.commitTagsSpec).at F).post enc Tryd.prog Tryd.f7 false true false false) := by
  refine returnsInHanded_of_row (C := Tryd.checked) (s := (Rows.OpenSpec.upto Rows.commitTagsSpec)) Row.own started (by kernel_rfl) Tryd.func7
    (witness_row_atRef (enc := enc) (C := Tryd.checked) false (laidWorld os) #[.agg #[.string ⟨#[]⟩, .int .i64 0, .string ⟨#[]⟩, .string ⟨#[]⟩, .int .i64 0, .int .i64 0, .string ⟨#[]⟩], .string ⟨#[]⟩] rfl (by kernel_rfl) (by kernel_rfl) (by kernel_rfl) (commitTags_witness os enc)) ?_
  intro W base args ds gs before hval0 hW _ hcond hsz0 hL _ _
  have hval : ∀ (j : Nat) t v, Tryd.f7.params[j]? = some t → args[j]? = some v → Value.okWide Tryd.prog W .any base t v := hval0
  have hW' := hW
  obtain ⟨p, q, hA0, hV0, rfl, _, _⟩ := hW
  have hA : DataW.TrodAll enc Tryd.prog W 0 (fun _ => true) true Tryd.f7.params.toList args.toList ds p := hA0
  have hA1 := hA
  have hok : (Tryd.f7.params.toList).all (Row.okT Tryd.prog) = true := by kernel_rfl
  have hsz : (DataW.weightsEach Tryd.prog (Tryd.f7.params.toList ++ []) (ds ++ gs)).all (· ≤ reachBytes) = true := hsz0
  rw [Tryd.params7] at hA hval hsz
  obtain ⟨v0, v1, d0, d1, p0, p1, rfl, rfl, rfl, h0, h1⟩ := trodAll_two hA
  obtain ⟨rfl, rfl⟩ := trodVars_none hV0
  obtain ⟨a0, b0, m0, r0⟩ := Row.arg_struct Tryd.underlying45 Row.opens_label (hval 0 _ v0 rfl rfl) h0 (Row.wt hsz (j := 0) rfl rfl)
  obtain ⟨a1, b1, m1, r1⟩ := Row.arg_str Tryd.underlying9 (hval 1 _ v1 rfl rfl) h1 (Row.wt hsz (j := 1) rfl rfl)
  have hk0 := of_decide_eq_true (hcond _ rfl)
  have hk : Rows.uptoBulkAll [d0, d1] ≤ 1048576 := by simpa using hk0
  simp only [Rows.uptoBulkAll] at hk
  have k0 : Rows.uptoBulk d0 ≤ 1048576 := by omega
  have k1 : Rows.uptoBulk d1 ≤ 1048576 := by omega
  have hs := tags_ok a0 (tgB_sz b0) (by omega) a1 (by omega)
  refine (Row.spec_below_of (Row.amb_of hL) ?_ hs).mono ?_
  · exact .cons r0 (.cons r1 .nil)
  rintro e W' ⟨rfl, bel⟩
  refine ⟨_, rfl, Row.post_of_below hW' (pv := []) (fun b sp hd => ?_) (fun sp hsp => ?_) (fun sp hsp => rfl) (by simp only [List.append_nil, List.nil_append]; rfl) bel ?_⟩
  · exact trodAll_mk1 (shut_bool Tryd.underlying4 _)
  · exact Row.trodAll_stays Row.laidOut hok hA1 (fun x hx => bel.same (hW'.lt x (List.mem_append_left _ hx))) (fun x hx => hsp x (List.mem_append_left _ hx))
  · exact ok_one (by kernel_rfl) rfl (okWide_bool_mk Tryd.underlying4 _)
theorem commitTags_said : Rows.CommitTagsUptoSaid :=
  OpenClaim.holds_of_cond 7 Tryd.f7 rfl rfl rfl rfl rfl rfl rfl ⟨rfl, rfl, rfl, rfl, rfl⟩ rfl rfl rfl rfl rfl (by kernel_rfl) Tryd.func7 (by kernel_rfl)
    (of_decide_eq_true (by kernel_rfl)) (by unfold Func.isWrapper; rw [if_neg (of_decide_eq_false (by kernel_rfl))]; exact ⟨rfl, rfl⟩)
    (fun os started H enc _ F0 => by rw [OpenClaim.pre_eq_preRow]; exact commitTags_lifted os started H enc F0)
end Cm
end Go.Proofs.YtjpinndnicmokaaDoor
