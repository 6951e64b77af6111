/- The proof, part 32 of 32. -/
import Derived.Test.YthmkimlfnkghmaaGreatDoorOdbUniqueN
import Derived.Test.YthmkimlfnkghmaaGreatDoorOdbUniqueZE
set_option linter.all false
namespace Go.Proofs.YthmkimlfnkghmaaGreatDoor
open Go.ChangeShapes Go.WideShapes Go.ChangeAt Go.RowKit Go.Lib Go.Deep
namespace Ls
set_option maxRecDepth 100000
theorem odbUnique_witness (os : Os) {H : Type} (enc : TypeId × Value → H) :
    (OpenSpec.ofChange Rows.odbUniqueSpec).preRow enc Tryz.prog Tryz.f3 Rows.odbUniqueRow.domain false Rows.odbUniqueRow.laid ((laidWorld os).forCall (fun _ _ => 0) ⟨#[], #[.slice none 0 0, .int .i64 0], []⟩).memory #[.slice none 0 0, .int .i64 0] := by
 have hw : (DataW.whole enc Tryz.prog ((laidWorld os).forCall (fun _ _ => 0) ⟨#[], #[.slice none 0 0, .int .i64 0], []⟩).memory Tryz.f3.params.toList (OpenSpec.ofChange Rows.odbUniqueSpec).vars false (#[.slice none 0 0, .int .i64 0] : Array Value).toList 8).map (fun x => (x.1, x.2.1)) =
     some ([.nil, .lit (.int .i64 0)], []) := by kernel_rfl
 obtain ⟨⟨x1, x2, x3⟩, hx, hx1⟩ := Option.map_eq_some_iff.1 hw
 simp only [Prod.mk.injEq] at hx1
 obtain ⟨rfl, rfl⟩ := hx1
 exact OpenSpec.preRow_of_cond 8 hx (by kernel_rfl) (fun k hk => by cases hk) (by kernel_rfl) (laid_met os _)
theorem odbUnique_lifted (os : Os) (started : os.Started) (H : Type) (enc : TypeId × Value → H) (F : Stop.Interp) :
    ReturnsInHanded {} Tryz.checked os 3 .any ((OpenSpec.ofChange Rows.odbUniqueSpec).preRow enc Tryz.prog Tryz.f3 Rows.odbUniqueRow.domain false Rows.odbUniqueRow.laid) (((OpenSpec.ofChange Rows.odbUniqueSpec).at F).post enc Tryz.prog Tryz.f3 false true false false) := by
 refine returnsInHanded_of_row (C := Tryz.checked) (s := (OpenSpec.ofChange Rows.odbUniqueSpec)) Row.own started (by kernel_rfl) Tryz.func3
  (witness_row_atRef (enc := enc) (C := Tryz.checked) false (laidWorld os) #[.slice none 0 0, .int .i64 0] rfl (by kernel_rfl) (by kernel_rfl) (by kernel_rfl) (odbUnique_witness os enc)) ?_
 intro W base args ds gs before hval0 hW _ hcond hsz0 hL hSh _
 have hval : ∀ (j : Nat) t v, Tryz.f3.params[j]? = some t → args[j]? = some v → Value.okWide Tryz.prog W .any base t v := hval0
 have hW' := hW
 obtain ⟨p, q, hA0, hV0, rfl, _, _⟩ := hW
 have hA : DataW.TrodAll enc Tryz.prog W 0 (fun _ => true) true Tryz.f3.params.toList args.toList ds p := hA0
 have hA1 := hA
 have hok : (Tryz.f3.params.toList).all (Row.okT Tryz.prog) = true := by kernel_rfl
 have hsz : (DataW.weightsEach Tryz.prog (Tryz.f3.params.toList ++ []) (ds ++ gs)).all (· ≤ reachBytes) = true := hsz0
 rw [Tryz.params3] at hA hval hsz
 obtain ⟨v0, v1, d0, d1, p0, p1, rfl, rfl, rfl, h0, h1⟩ := trodAll_two hA
 obtain ⟨rfl, rfl⟩ := trodVars_none hV0
 obtain ⟨a0, b0, m0, r0⟩ := Row.arg_slice Tryz.underlying22 Row.opens_files (hval 0 _ v0 rfl rfl) h0 (Row.wt hsz (j := 0) rfl rfl)
 obtain ⟨a1, b1, m1, r1⟩ := Row.arg_int Tryz.underlying3 (hval 1 _ v1 rfl rfl) h1
 have hs := Ls.odbunique_ok a0 a1 ⟨b0.1, b0.2.2⟩ b1.1 b1.2
 refine (Row.spec_below_of (Row.amb_of hL hSh) ?_ hs).mono ?_
 ·exact .cons r0 (.cons r1 .nil)
 rintro e W' ⟨rfl, bel⟩
 refine ⟨_, rfl, Row.post_of_below hW' (pv := []) (fun b sp hd => ?_) (fun sp hsp => ?_) (fun sp hsp => rfl) (by simp only [List.append_nil, List.nil_append]; rfl) bel ?_⟩
 ·exact trodAll_mk1 (shut_bool Tryz.underlying4 _)
 ·exact Row.trodAll_stays Row.laidOut hok hA1 (fun x hx => bel.same (hW'.lt x (List.mem_append_left _ hx))) (fun x hx => hsp x (List.mem_append_left _ hx))
 ·exact ok_one (by kernel_rfl) rfl (okWide_bool_mk Tryz.underlying4 _)
theorem odbUnique_said : Rows.OdbUniqueSaid :=
 OpenClaim.holds_of_cond 3 Tryz.f3 rfl rfl rfl rfl rfl rfl rfl ⟨rfl, rfl, rfl, rfl, rfl⟩ rfl rfl rfl rfl rfl (by kernel_rfl) Tryz.func3 (by kernel_rfl)
  (of_decide_eq_true (by kernel_rfl)) (by unfold Func.isWrapper; rw [if_neg (of_decide_eq_false (by kernel_rfl))]; exact ⟨rfl, rfl⟩)
  (fun os started H enc _ F0 => by rw [OpenClaim.pre_eq_preRow]; exact odbUnique_lifted os started H enc F0)
end Ls
end Go.Proofs.YthmkimlfnkghmaaGreatDoor
