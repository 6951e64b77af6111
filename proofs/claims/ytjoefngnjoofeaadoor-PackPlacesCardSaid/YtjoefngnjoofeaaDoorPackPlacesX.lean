/- The proof, part 24 of 24. -/
import Derived.Test.YtjoefngnjoofeaaDoorPackPlacesK
import Derived.Test.YtjoefngnjoofeaaDoorPackPlacesV
import Derived.Test.YtjoefngnjoofeaaDoorPackPlacesW
set_option linter.all false
namespace Go.Proofs.YtjoefngnjoofeaaDoor
open Go.ChangeShapes Go.WideShapes Go.ChangeAt Go.RowKit Go.Lib Go.Deep
namespace Pk
set_option maxRecDepth 100000
theorem packPlaces_witness (os : Os) {H : Type} (enc : TypeId × Value → H) :
    (OpenSpec.ofChange Rows.packPlacesSpec).preRow enc Tryd.prog Tryd.f5 Rows.packPlacesRow.domain false Rows.packPlacesRow.laid ((laidWorld os).forCall (fun _ _ => 0) ⟨#[], #[.string ⟨#[]⟩, .slice none 0 0], []⟩).memory #[.string ⟨#[]⟩, .slice none 0 0] := by
 have hw : (DataW.whole enc Tryd.prog ((laidWorld os).forCall (fun _ _ => 0) ⟨#[], #[.string ⟨#[]⟩, .slice none 0 0], []⟩).memory Tryd.f5.params.toList (OpenSpec.ofChange Rows.packPlacesSpec).vars false (#[.string ⟨#[]⟩, .slice none 0 0] : Array Value).toList 8).map (fun x => (x.1, x.2.1)) =
     some ([.lit (.string []), .nil], []) := by kernel_rfl
 obtain ⟨⟨x1, x2, x3⟩, hx, hx1⟩ := Option.map_eq_some_iff.1 hw
 simp only [Prod.mk.injEq] at hx1
 obtain ⟨rfl, rfl⟩ := hx1
 exact OpenSpec.preRow_of_cond 8 hx (by kernel_rfl) (fun k hk => by cases hk) (by kernel_rfl) (laid_met os _)
theorem packPlaces_lifted (os : Os) (started : os.Started) (H : Type) (enc : TypeId × Value → H) (F : Stop.Interp) :
    ReturnsInHanded {} Tryd.checked os 5 .any ((OpenSpec.ofChange Rows.packPlacesSpec).preRow enc Tryd.prog Tryd.f5 Rows.packPlacesRow.domain false Rows.packPlacesRow.laid) (((OpenSpec.ofChange Rows.packPlacesSpec).at F).post enc Tryd.prog Tryd.f5 false true false false) := by
 refine returnsInHanded_of_row (C := Tryd.checked) (s := (OpenSpec.ofChange Rows.packPlacesSpec)) Row.own started (by kernel_rfl) Tryd.func5
  (witness_row_atRef (enc := enc) (C := Tryd.checked) false (laidWorld os) #[.string ⟨#[]⟩, .slice none 0 0] rfl (by kernel_rfl) (by kernel_rfl) (by kernel_rfl) (packPlaces_witness os enc)) ?_
 intro W base args ds gs before hval0 hW _ hcond hsz0 hL _ _
 have hval : ∀ (j : Nat) t v, Tryd.f5.params[j]? = some t → args[j]? = some v → Value.okWide Tryd.prog W .any base t v := hval0
 have hW' := hW
 obtain ⟨p, q, hA0, hV0, rfl, _, _⟩ := hW
 have hA : DataW.TrodAll enc Tryd.prog W 0 (fun _ => true) true Tryd.f5.params.toList args.toList ds p := hA0
 have hA1 := hA
 have hok : (Tryd.f5.params.toList).all (Row.okT Tryd.prog) = true := by kernel_rfl
 have hsz : (DataW.weightsEach Tryd.prog (Tryd.f5.params.toList ++ []) (ds ++ gs)).all (· ≤ reachBytes) = true := hsz0
 rw [Tryd.params5] at hA hval hsz
 obtain ⟨v0, v1, d0, d1, p0, p1, rfl, rfl, rfl, h0, h1⟩ := trodAll_two hA
 obtain ⟨rfl, rfl⟩ := trodVars_none hV0
 obtain ⟨a0, b0, m0, r0⟩ := Row.arg_str Tryd.underlying9 (hval 0 _ v0 rfl rfl) h0 (Row.wt hsz (j := 0) rfl rfl)
 obtain ⟨a1, b1, m1, r1⟩ := Row.arg_slice Tryd.underlying30 Row.opens_items (hval 1 _ v1 rfl rfl) h1 (Row.wt hsz (j := 1) rfl rfl)
 have hs := Pk.packplaces_ok a0 a1 b0 (fun x hx => (b1.2.2 x hx).1) b1.1
 refine (Row.spec_below_of (Row.amb_of hL) ?_ hs).mono ?_
 ·exact .cons r0 (.cons r1 .nil)
 rintro e W' ⟨rfl, bel⟩
 refine ⟨_, rfl, Row.post_of_below hW' (pv := []) (fun b sp hd => ?_) (fun sp hsp => ?_) (fun sp hsp => rfl) (by simp only [List.append_nil, List.nil_append]; rfl) bel ?_⟩
 ·exact trodAll_mk1 (shut_bool Tryd.underlying4 _)
 ·exact Row.trodAll_stays Row.laidOut hok hA1 (fun x hx => bel.same (hW'.lt x (List.mem_append_left _ hx))) (fun x hx => hsp x (List.mem_append_left _ hx))
 ·exact ok_one (by kernel_rfl) rfl (okWide_bool_mk Tryd.underlying4 _)
theorem packPlaces_said : Rows.PackPlacesSaid :=
 OpenClaim.holds_of_cond 5 Tryd.f5 rfl rfl rfl rfl rfl rfl rfl ⟨rfl, rfl, rfl, rfl, rfl⟩ rfl rfl rfl rfl rfl (by kernel_rfl) Tryd.func5 (by kernel_rfl)
  (of_decide_eq_true (by kernel_rfl)) (by unfold Func.isWrapper; rw [if_neg (of_decide_eq_false (by kernel_rfl))]; exact ⟨rfl, rfl⟩)
  (fun os started H enc _ F0 => by rw [OpenClaim.pre_eq_preRow]; exact packPlaces_lifted os started H enc F0)
end Pk
end Go.Proofs.YtjoefngnjoofeaaDoor
