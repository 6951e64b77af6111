/- The proof, part 25 of 25. -/
import Derived.Test.YtjoefngnjoofeaaGreatDoorPackBuildsX
set_option linter.all false
namespace Go.Proofs.YtjoefngnjoofeaaGreatDoor
open Go.ChangeShapes Go.WideShapes Go.ChangeAt Go.RowKit Go.Lib Go.Deep
namespace Pk
set_option maxRecDepth 100000
theorem acM (os : Os) {H : Type} (enc : TypeId × Value → H) :
    (OpenSpec.ofChange Rows.packBuildsSpec).preRow enc Tryz.prog Tryz.f4 Rows.packBuildsRow.domain false Rows.packBuildsRow.laid ((pX os).forCall (fun _ _ => 0) ⟨#[], #[.slice none 0 0], []⟩).memory #[.slice none 0 0] := by
 have hw : (DataW.whole enc Tryz.prog ((pX os).forCall (fun _ _ => 0) ⟨#[], #[.slice none 0 0], []⟩).memory Tryz.f4.params.toList (OpenSpec.ofChange Rows.packBuildsSpec).vars false (#[.slice none 0 0] : Array Value).toList 8).map (fun x => (x.1, x.2.1)) =
     some ([.nil], []) := by kernel_rfl
 obtain ⟨⟨x1, x2, x3⟩, hx, hx1⟩ := Option.map_eq_some_iff.1 hw
 simp only [Prod.mk.injEq] at hx1
 obtain ⟨rfl, rfl⟩ := hx1
 exact OpenSpec.preRow_of_cond 8 hx (by kernel_rfl) (fun k hk => by cases hk) (by kernel_rfl) (ZJ os _)
theorem acK (os : Os) (started : os.Started) (H : Type) (enc : TypeId × Value → H) (F : Stop.Interp) :
    ReturnsInHanded {} Tryz.checked os 4 .any ((OpenSpec.ofChange Rows.packBuildsSpec).preRow enc Tryz.prog Tryz.f4 Rows.packBuildsRow.domain false Rows.packBuildsRow.laid) (((OpenSpec.ofChange Rows.packBuildsSpec).at F).post enc Tryz.prog Tryz.f4 false true false false) := by
 refine returnsInHanded_of_row (C := Tryz.checked) (s := (OpenSpec.ofChange Rows.packBuildsSpec)) Row.own started (by kernel_rfl) Tryz.func4
  (witness_row_atRef (enc := enc) (C := Tryz.checked) false (pX os) #[.slice none 0 0] rfl (by kernel_rfl) (by kernel_rfl) (by kernel_rfl) (acM os enc)) ?_
 intro W base args ds gs before hval0 hW _ hcond hsz0 hL _ _
 have hval : ∀ (j : Nat) t v, Tryz.f4.params[j]? = some t → args[j]? = some v → Value.okWide Tryz.prog W .any base t v := hval0
 have hW' := hW
 obtain ⟨p, q, hA0, hV0, rfl, _, _⟩ := hW
 have hA : DataW.TrodAll enc Tryz.prog W 0 (fun _ => true) true Tryz.f4.params.toList args.toList ds p := hA0
 have hA1 := hA
 have hok : (Tryz.f4.params.toList).all (Row.tF Tryz.prog) = true := by kernel_rfl
 have aN : (DataW.weightsEach Tryz.prog (Tryz.f4.params.toList ++ []) (ds ++ gs)).all (· ≤ reachBytes) = true := hsz0
 rw [Tryz.params4] at hA hval aN
 obtain ⟨v0, d0, rfl, rfl, h0⟩ := trodAll_one hA
 obtain ⟨rfl, rfl⟩ := trodVars_none hV0
 obtain ⟨a0, b0, m0, r0⟩ := Row.Fy Tryz.underlying45 Row.acr (hval 0 _ v0 rfl rfl) h0 (Row.wt aN (j := 0) rfl rfl)
 have hs := Pk.ads a0 (fun x hx => (b0.2.2 x hx).1) b0.1 (fun x hx => (b0.2.2 x hx).2)
 refine (Row.ayf (Row.EY hL) ?_ hs).mono ?_
 ·exact .cons r0 .nil
 rintro e W' ⟨rfl, bel⟩
 refine ⟨_, rfl, Row.af2 hW' (pv := []) (fun b sp hd => ?_) (fun sp hsp => ?_) (fun sp hsp => rfl) (by simp only [List.append_nil, List.nil_append]; rfl) bel ?_⟩
 ·exact trodAll_mk1 (shut_bool Tryz.underlying4 _)
 ·exact Row.Dx Row.laidOut hok hA1 (fun x hx => bel.same (hW'.lt x (List.mem_append_left _ hx))) (fun x hx => hsp x (List.mem_append_left _ hx))
 ·exact ok_one (by kernel_rfl) rfl (okWide_bool_mk Tryz.underlying4 _)
theorem acL : Rows.PackBuildsSaid :=
 OpenClaim.holds_of_cond 4 Tryz.f4 rfl rfl rfl rfl rfl rfl rfl ⟨rfl, rfl, rfl, rfl, rfl⟩ rfl rfl rfl rfl rfl (by kernel_rfl) Tryz.func4 (by kernel_rfl)
  (of_decide_eq_true (by kernel_rfl)) (by unfold Func.isWrapper; rw [if_neg (of_decide_eq_false (by kernel_rfl))]; exact ⟨rfl, rfl⟩)
  (fun os started H enc _ F0 => by rw [OpenClaim.pre_eq_preRow]; exact acK os started H enc F0)
end Pk
end Go.Proofs.YtjoefngnjoofeaaGreatDoor
