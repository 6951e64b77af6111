/- The proof, part 24 of 24. -/
import Derived.Test.YtjoefngnjoofeaaDoorPackOneK
import Derived.Test.YtjoefngnjoofeaaDoorPackOneV
import Derived.Test.YtjoefngnjoofeaaDoorPackOneW
set_option linter.all false
namespace Go.Proofs.YtjoefngnjoofeaaDoor
open Go.ChangeShapes Go.WideShapes Go.ChangeAt Go.RowKit Go.Lib Go.Deep
namespace Pk
set_option maxRecDepth 100000
theorem packOne_witness (os : Os) {H : Type} (enc : TypeId × Value → H) :
    (OpenSpec.ofChange Rows.packOneSpec).preRow enc Tryd.prog Tryd.f3 Rows.packOneRow.domain false Rows.packOneRow.laid ((laidWorld os).forCall (fun _ _ => 0) ⟨#[], #[.agg #[.int .i64 0, .string ⟨#[]⟩]], []⟩).memory #[.agg #[.int .i64 0, .string ⟨#[]⟩]] := by
 have hw : (DataW.whole enc Tryd.prog ((laidWorld os).forCall (fun _ _ => 0) ⟨#[], #[.agg #[.int .i64 0, .string ⟨#[]⟩]], []⟩).memory Tryd.f3.params.toList (OpenSpec.ofChange Rows.packOneSpec).vars false (#[.agg #[.int .i64 0, .string ⟨#[]⟩]] : Array Value).toList 8).map (fun x => (x.1, x.2.1)) =
     some ([.agg [.lit (.int .i64 0), .lit (.string [])]], []) := by kernel_rfl
 obtain ⟨⟨x1, x2, x3⟩, hx, hx1⟩ := Option.map_eq_some_iff.1 hw
 simp only [Prod.mk.injEq] at hx1
 obtain ⟨rfl, rfl⟩ := hx1
 exact OpenSpec.preRow_of_cond 8 hx (by kernel_rfl) (fun k hk => by cases hk) (by kernel_rfl) (laid_met os _)
theorem packOne_lifted (os : Os) (started : os.Started) (H : Type) (enc : TypeId × Value → H) (F : Stop.Interp) :
    ReturnsInHanded {} Tryd.checked os 3 .any ((OpenSpec.ofChange Rows.packOneSpec).preRow enc Tryd.prog Tryd.f3 Rows.packOneRow.domain false Rows.packOneRow.laid) (((OpenSpec.ofChange Rows.packOneSpec).at F).post enc Tryd.prog Tryd.f3 false true false false) := by
 refine returnsInHanded_of_row (C := Tryd.checked) (s := (OpenSpec.ofChange Rows.packOneSpec)) Row.own started (by kernel_rfl) Tryd.func3
  (witness_row_atRef (enc := enc) (C := Tryd.checked) false (laidWorld os) #[.agg #[.int .i64 0, .string ⟨#[]⟩]] rfl (by kernel_rfl) (by kernel_rfl) (by kernel_rfl) (packOne_witness os enc)) ?_
 intro W base args ds gs before hval0 hW _ hcond hsz0 hL _ _
 have hval : ∀ (j : Nat) t v, Tryd.f3.params[j]? = some t → args[j]? = some v → Value.okWide Tryd.prog W .any base t v := hval0
 have hW' := hW
 obtain ⟨p, q, hA0, hV0, rfl, _, _⟩ := hW
 have hA : DataW.TrodAll enc Tryd.prog W 0 (fun _ => true) true Tryd.f3.params.toList args.toList ds p := hA0
 have hA1 := hA
 have hok : (Tryd.f3.params.toList).all (Row.okT Tryd.prog) = true := by kernel_rfl
 have hsz : (DataW.weightsEach Tryd.prog (Tryd.f3.params.toList ++ []) (ds ++ gs)).all (· ≤ reachBytes) = true := hsz0
 rw [Tryd.params3] at hA hval hsz
 obtain ⟨v0, d0, rfl, rfl, h0⟩ := trodAll_one hA
 obtain ⟨rfl, rfl⟩ := trodVars_none hV0
 obtain ⟨a0, b0, m0, r0⟩ := Row.arg_struct Tryd.underlying23 Row.opens_object (hval 0 _ v0 rfl rfl) h0 (Row.wt hsz (j := 0) rfl rfl)
 have hs := Pk.packone_ok a0.1 a0.2 b0.1 b0.2
 refine (Row.spec_below_of (Row.amb_of hL) ?_ hs).mono ?_
 ·exact .cons r0 .nil
 rintro e W' ⟨rfl, bel⟩
 refine ⟨_, rfl, Row.post_of_below hW' (pv := []) (fun b sp hd => ?_) (fun sp hsp => ?_) (fun sp hsp => rfl) (by simp only [List.append_nil, List.nil_append]; rfl) bel ?_⟩
 ·exact trodAll_mk1 (shut_bool Tryd.underlying4 _)
 ·exact Row.trodAll_stays Row.laidOut hok hA1 (fun x hx => bel.same (hW'.lt x (List.mem_append_left _ hx))) (fun x hx => hsp x (List.mem_append_left _ hx))
 ·exact ok_one (by kernel_rfl) rfl (okWide_bool_mk Tryd.underlying4 _)
theorem packOne_said : Rows.PackOneSaid :=
 OpenClaim.holds_of_cond 3 Tryd.f3 rfl rfl rfl rfl rfl rfl rfl ⟨rfl, rfl, rfl, rfl, rfl⟩ rfl rfl rfl rfl rfl (by kernel_rfl) Tryd.func3 (by kernel_rfl)
  (of_decide_eq_true (by kernel_rfl)) (by unfold Func.isWrapper; rw [if_neg (of_decide_eq_false (by kernel_rfl))]; exact ⟨rfl, rfl⟩)
  (fun os started H enc _ F0 => by rw [OpenClaim.pre_eq_preRow]; exact packOne_lifted os started H enc F0)
end Pk
end Go.Proofs.YtjoefngnjoofeaaDoor
