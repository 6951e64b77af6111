/- The proof, part 42 of 42. -/
import Derived.Test.YtoalcafkffmiiaaGreatDoorOdbKindsN
import Derived.Test.YtoalcafkffmiiaaGreatDoorOdbKindsZO
set_option linter.all false
namespace Go.Proofs.YtoalcafkffmiiaaGreatDoor
open Go.ChangeShapes Go.WideShapes Go.ChangeAt Go.RowKit Go.Lib Go.Deep
namespace Ls
set_option maxRecDepth 100000
theorem abY (os : Os) {H : Type} (enc : TypeId × Value → H) :
    (OpenSpec.ofChange Rows.odbKindsSpec).preRow enc Tryz.prog Tryz.f5 Rows.odbKindsRow.domain false Rows.odbKindsRow.laid ((qb os).forCall (fun _ _ => 0) ⟨#[], #[.slice none 0 0], []⟩).memory #[.slice none 0 0] := by
 have hw : (DataW.whole enc Tryz.prog ((qb os).forCall (fun _ _ => 0) ⟨#[], #[.slice none 0 0], []⟩).memory Tryz.f5.params.toList (OpenSpec.ofChange Rows.odbKindsSpec).vars false (#[.slice none 0 0] : Array Value).toList 8).map (fun x => (x.1, x.2.1)) =
     some ([.nil], []) := by kernel_rfl
 obtain ⟨⟨x1, x2, x3⟩, hx, hx1⟩ := Option.map_eq_some_iff.1 hw
 simp only [Prod.mk.injEq] at hx1
 obtain ⟨rfl, rfl⟩ := hx1
 exact OpenSpec.preRow_of_cond 8 hx (by kernel_rfl) (fun k hk => by cases hk) (by kernel_rfl) (Y4 os _)
theorem abW (os : Os) (started : os.Started) (H : Type) (enc : TypeId × Value → H) (F : Stop.Interp) :
    ReturnsInHanded {} Tryz.checked os 5 .any ((OpenSpec.ofChange Rows.odbKindsSpec).preRow enc Tryz.prog Tryz.f5 Rows.odbKindsRow.domain false Rows.odbKindsRow.laid) (((OpenSpec.ofChange Rows.odbKindsSpec).at F).post enc Tryz.prog Tryz.f5 false true false false) := by
 refine returnsInHanded_of_row (C := Tryz.checked) (s := (OpenSpec.ofChange Rows.odbKindsSpec)) Row.own started (by kernel_rfl) Tryz.func5
  (witness_row_atRef (enc := enc) (C := Tryz.checked) false (qb os) #[.slice none 0 0] rfl (by kernel_rfl) (by kernel_rfl) (by kernel_rfl) (abY os enc)) ?_
 intro W base args ds gs before hval0 hW _ hcond hsz0 hL hSh _
 have hval : ∀ (j : Nat) t v, Tryz.f5.params[j]? = some t → args[j]? = some v → Value.okWide Tryz.prog W .any base t v := hval0
 have hW' := hW
 obtain ⟨p, q, hA0, hV0, rfl, _, _⟩ := hW
 have hA : DataW.TrodAll enc Tryz.prog W 0 (fun _ => true) true Tryz.f5.params.toList args.toList ds p := hA0
 have hA1 := hA
 have hok : (Tryz.f5.params.toList).all (Row.tX Tryz.prog) = true := by kernel_rfl
 have aE : (DataW.weightsEach Tryz.prog (Tryz.f5.params.toList ++ []) (ds ++ gs)).all (· ≤ reachBytes) = true := hsz0
 rw [Tryz.params5] at hA hval aE
 obtain ⟨v0, d0, rfl, rfl, h0⟩ := trodAll_one hA
 obtain ⟨rfl, rfl⟩ := trodVars_none hV0
 obtain ⟨a0, b0, m0, r0⟩ := Row.ER Tryz.underlying22 Row.afD (hval 0 _ v0 rfl rfl) h0 (Row.wt aE (j := 0) rfl rfl)
 have hs := Ls.acH a0 ⟨b0.1, b0.2.2⟩
 refine (Row.alP (Row.Eo hL hSh) ?_ hs).mono ?_
 ·exact .cons r0 .nil
 rintro e W' ⟨rfl, bel⟩
 refine ⟨_, rfl, Row.ag8 hW' (pv := []) (fun b sp hd => ?_) (fun sp hsp => ?_) (fun sp hsp => rfl) (by simp only [List.append_nil, List.nil_append]; rfl) bel ?_⟩
 ·exact trodAll_mk1 (shut_bool Tryz.underlying4 _)
 ·exact Row.CJ Row.laidOut hok hA1 (fun x hx => bel.same (hW'.lt x (List.mem_append_left _ hx))) (fun x hx => hsp x (List.mem_append_left _ hx))
 ·exact ok_one (by kernel_rfl) rfl (okWide_bool_mk Tryz.underlying4 _)
theorem abX : Rows.OdbKindsSaid :=
 OpenClaim.holds_of_cond 5 Tryz.f5 rfl rfl rfl rfl rfl rfl rfl ⟨rfl, rfl, rfl, rfl, rfl⟩ rfl rfl rfl rfl rfl (by kernel_rfl) Tryz.func5 (by kernel_rfl)
  (of_decide_eq_true (by kernel_rfl)) (by unfold Func.isWrapper; rw [if_neg (of_decide_eq_false (by kernel_rfl))]; exact ⟨rfl, rfl⟩)
  (fun os started H enc _ F0 => by rw [OpenClaim.pre_eq_preRow]; exact abW os started H enc F0)
end Ls
end Go.Proofs.YtoalcafkffmiiaaGreatDoor
