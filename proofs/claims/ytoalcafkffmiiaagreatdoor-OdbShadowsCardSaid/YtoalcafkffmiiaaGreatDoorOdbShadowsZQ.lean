/- The proof, part 43 of 43. -/
import Derived.Test.YtoalcafkffmiiaaGreatDoorOdbShadowsN
import Derived.Test.YtoalcafkffmiiaaGreatDoorOdbShadowsZP
set_option linter.all false
namespace Go.Proofs.YtoalcafkffmiiaaGreatDoor
open Go.ChangeShapes Go.WideShapes Go.ChangeAt Go.RowKit Go.Lib Go.Deep
namespace Ls
set_option maxRecDepth 100000
theorem abT (os : Os) {H : Type} (enc : TypeId × Value → H) :
    (OpenSpec.ofChange Rows.odbShadowsSpec).preRow enc Tryz.prog Tryz.f4 Rows.odbShadowsRow.domain false Rows.odbShadowsRow.laid ((qc os).forCall (fun _ _ => 0) ⟨#[], #[.slice none 0 0, .string ⟨#[]⟩, .int .i64 0], []⟩).memory #[.slice none 0 0, .string ⟨#[]⟩, .int .i64 0] := by
 have hw : (DataW.whole enc Tryz.prog ((qc os).forCall (fun _ _ => 0) ⟨#[], #[.slice none 0 0, .string ⟨#[]⟩, .int .i64 0], []⟩).memory Tryz.f4.params.toList (OpenSpec.ofChange Rows.odbShadowsSpec).vars false (#[.slice none 0 0, .string ⟨#[]⟩, .int .i64 0] : Array Value).toList 8).map (fun x => (x.1, x.2.1)) =
     some ([.nil, .lit (.string []), .lit (.int .i64 0)], []) := by kernel_rfl
 obtain ⟨⟨x1, x2, x3⟩, hx, hx1⟩ := Option.map_eq_some_iff.1 hw
 simp only [Prod.mk.injEq] at hx1
 obtain ⟨rfl, rfl⟩ := hx1
 exact OpenSpec.preRow_of_cond 8 hx (by kernel_rfl) (fun k hk => by cases hk) (by kernel_rfl) (YN os _)
theorem abN (os : Os) (started : os.Started) (H : Type) (enc : TypeId × Value → H) (F : Stop.Interp) :
    ReturnsInHanded {} Tryz.checked os 4 .any ((OpenSpec.ofChange Rows.odbShadowsSpec).preRow enc Tryz.prog Tryz.f4 Rows.odbShadowsRow.domain false Rows.odbShadowsRow.laid) (((OpenSpec.ofChange Rows.odbShadowsSpec).at F).post enc Tryz.prog Tryz.f4 false true false false) := by
 refine returnsInHanded_of_row (C := Tryz.checked) (s := (OpenSpec.ofChange Rows.odbShadowsSpec)) Row.own started (by kernel_rfl) Tryz.func4
  (witness_row_atRef (enc := enc) (C := Tryz.checked) false (qc os) #[.slice none 0 0, .string ⟨#[]⟩, .int .i64 0] rfl (by kernel_rfl) (by kernel_rfl) (by kernel_rfl) (abT os enc)) ?_
 intro W base args ds gs before hval0 hW _ hcond hsz0 hL hSh _
 have hval : ∀ (j : Nat) t v, Tryz.f4.params[j]? = some t → args[j]? = some v → Value.okWide Tryz.prog W .any base t v := hval0
 have hW' := hW
 obtain ⟨p, q, hA0, hV0, rfl, _, _⟩ := hW
 have hA : DataW.TrodAll enc Tryz.prog W 0 (fun _ => true) true Tryz.f4.params.toList args.toList ds p := hA0
 have hA1 := hA
 have hok : (Tryz.f4.params.toList).all (Row.tT Tryz.prog) = true := by kernel_rfl
 have aO : (DataW.weightsEach Tryz.prog (Tryz.f4.params.toList ++ []) (ds ++ gs)).all (· ≤ reachBytes) = true := hsz0
 rw [Tryz.params4] at hA hval aO
 obtain ⟨v0, v1, v2, d0, d1, d2, p0, p1, p2, rfl, rfl, rfl, h0, h1, h2⟩ := trodAll_three hA
 obtain ⟨rfl, rfl⟩ := trodVars_none hV0
 obtain ⟨a0, b0, m0, r0⟩ := Row.Gd Tryz.underlying22 Row.aeJ (hval 0 _ v0 rfl rfl) h0 (Row.wt aO (j := 0) rfl rfl)
 obtain ⟨a1, b1, m1, r1⟩ := Row.arg_str Tryz.underlying9 (hval 1 _ v1 rfl rfl) h1 (Row.wt aO (j := 1) rfl rfl)
 obtain ⟨a2, b2, m2, r2⟩ := Row.Gc Tryz.underlying3 (hval 2 _ v2 rfl rfl) h2
 have hs := Ls.acH a0 a1 a2 ⟨b0.1, b0.2.2⟩ b1 b2.1 b2.2
 refine (Row.avL (Row.FG hL hSh) ?_ hs).mono ?_
 ·exact .cons r0 (.cons r1 (.cons r2 .nil))
 rintro e W' ⟨rfl, bel⟩
 refine ⟨_, rfl, Row.afD hW' (pv := []) (fun b sp hd => ?_) (fun sp hsp => ?_) (fun sp hsp => rfl) (by simp only [List.append_nil, List.nil_append]; rfl) bel ?_⟩
 ·exact trodAll_mk1 (shut_bool Tryz.underlying4 _)
 ·exact Row.D3 Row.laidOut hok hA1 (fun x hx => bel.same (hW'.lt x (List.mem_append_left _ hx))) (fun x hx => hsp x (List.mem_append_left _ hx))
 ·exact ok_one (by kernel_rfl) rfl (okWide_bool_mk Tryz.underlying4 _)
end Ls
end Go.Proofs.YtoalcafkffmiiaaGreatDoor
namespace Go.Proofs.YtoalcafkffmiiaaGreatDoor
open Go.ChangeShapes Go.WideShapes Go.ChangeAt Go.RowKit Go.Lib Go.Deep
namespace Ls
set_option maxRecDepth 100000
theorem abO : (Rows.odbShadowsRow.inPlace == Tryz.prog.inPlace 4) = true := by kernel_rfl
theorem abP : (Rows.odbShadowsRow.unfollowed == Tryz.prog.unfollowed 4) = true := by kernel_rfl
theorem abQ : (Rows.odbShadowsRow.recurses == Tryz.prog.recurses 4) = true := by kernel_rfl
theorem abR : (Rows.odbShadowsRow.named == Tryz.prog.varsNamed 4) = true := by kernel_rfl
theorem abM : joinedFacts Tryz.prog 4 Tryz.f4 Rows.odbShadowsSpec Rows.odbShadowsRow = true := by
 unfold joinedFacts
 rw [abO, abP, abQ, abR]
 kernel_rfl
theorem abS : Rows.OdbShadowsSaid :=
 OpenClaim.holds_of_cond 4 Tryz.f4 rfl rfl rfl rfl rfl rfl rfl ⟨rfl, rfl, rfl, rfl, rfl⟩ rfl rfl rfl rfl rfl (by kernel_rfl) Tryz.func4 abM
  (of_decide_eq_true (by kernel_rfl)) (by unfold Func.isWrapper; rw [if_neg (of_decide_eq_false (by kernel_rfl))]; exact ⟨rfl, rfl⟩)
  (fun os started H enc _ F0 => by rw [OpenClaim.pre_eq_preRow]; exact abN os started H enc F0)
end Ls
end Go.Proofs.YtoalcafkffmiiaaGreatDoor
