/- The proof, part 43 of 43. -/
import Derived.Test.YtoalcafkffmiiaaGreatDoorOdbGetsO
import Derived.Test.YtoalcafkffmiiaaGreatDoorOdbGetsZP
set_option linter.all false
namespace Go.Proofs.YtoalcafkffmiiaaGreatDoor
open Go.ChangeShapes Go.WideShapes Go.ChangeAt Go.RowKit Go.Lib Go.Deep
namespace Ls
set_option maxRecDepth 100000
theorem Ul (os : Os) {H : Type} (enc : TypeId × Value → H) :
    (OpenSpec.ofChange Rows.odbGetsSpec).preRow enc Tryz.prog Tryz.f6 Rows.odbGetsRow.domain false Rows.odbGetsRow.laid ((tD os).forCall (fun _ _ => 0) ⟨#[], #[.slice none 0 0, .string ⟨#[]⟩, .string ⟨#[]⟩], []⟩).memory #[.slice none 0 0, .string ⟨#[]⟩, .string ⟨#[]⟩] := by
 have hw : (DataW.whole enc Tryz.prog ((tD os).forCall (fun _ _ => 0) ⟨#[], #[.slice none 0 0, .string ⟨#[]⟩, .string ⟨#[]⟩], []⟩).memory Tryz.f6.params.toList (OpenSpec.ofChange Rows.odbGetsSpec).vars false (#[.slice none 0 0, .string ⟨#[]⟩, .string ⟨#[]⟩] : Array Value).toList 8).map (fun x => (x.1, x.2.1)) =
     some ([.nil, .lit (.string []), .lit (.string [])], []) := by kernel_rfl
 obtain ⟨⟨x1, x2, x3⟩, hx, hx1⟩ := Option.map_eq_some_iff.1 hw
 simp only [Prod.mk.injEq] at hx1
 obtain ⟨rfl, rfl⟩ := hx1
 exact OpenSpec.preRow_of_cond 8 hx (by kernel_rfl) (fun k hk => by cases hk) (by kernel_rfl) (R8 os _)
theorem Uf (os : Os) (started : os.Started) (H : Type) (enc : TypeId × Value → H) (F : Stop.Interp) :
    ReturnsInHanded {} Tryz.checked os 6 .any ((OpenSpec.ofChange Rows.odbGetsSpec).preRow enc Tryz.prog Tryz.f6 Rows.odbGetsRow.domain false Rows.odbGetsRow.laid) (((OpenSpec.ofChange Rows.odbGetsSpec).at F).post enc Tryz.prog Tryz.f6 false true false false) := by
 refine returnsInHanded_of_row (C := Tryz.checked) (s := (OpenSpec.ofChange Rows.odbGetsSpec)) Row.own started (by kernel_rfl) Tryz.func6
  (witness_row_atRef (enc := enc) (C := Tryz.checked) false (tD os) #[.slice none 0 0, .string ⟨#[]⟩, .string ⟨#[]⟩] rfl (by kernel_rfl) (by kernel_rfl) (by kernel_rfl) (Ul os enc)) ?_
 intro W base args ds gs before hval0 hW _ hcond hsz0 hL hSh _
 have hval : ∀ (j : Nat) t v, Tryz.f6.params[j]? = some t → args[j]? = some v → Value.okWide Tryz.prog W .any base t v := hval0
 have hW' := hW
 obtain ⟨p, q, hA0, hV0, rfl, _, _⟩ := hW
 have hA : DataW.TrodAll enc Tryz.prog W 0 (fun _ => true) true Tryz.f6.params.toList args.toList ds p := hA0
 have hA1 := hA
 have hok : (Tryz.f6.params.toList).all (Row.xZ Tryz.prog) = true := by kernel_rfl
 have aA : (DataW.weightsEach Tryz.prog (Tryz.f6.params.toList ++ []) (ds ++ gs)).all (· ≤ reachBytes) = true := hsz0
 rw [Tryz.params6] at hA hval aA
 obtain ⟨v0, v1, v2, d0, d1, d2, p0, p1, p2, rfl, rfl, rfl, h0, h1, h2⟩ := trodAll_three hA
 obtain ⟨rfl, rfl⟩ := trodVars_none hV0
 obtain ⟨a0, b0, m0, r0⟩ := Row.Iq Tryz.underlying22 Row.UN (hval 0 _ v0 rfl rfl) h0 (Row.wt aA (j := 0) rfl rfl)
 obtain ⟨a1, b1, m1, r1⟩ := Row.arg_str Tryz.underlying9 (hval 1 _ v1 rfl rfl) h1 (Row.wt aA (j := 1) rfl rfl)
 obtain ⟨a2, b2, m2, r2⟩ := Row.arg_str Tryz.underlying9 (hval 2 _ v2 rfl rfl) h2 (Row.wt aA (j := 2) rfl rfl)
 have hs := Ls.Uo a0 a1 a2 ⟨b0.1, b0.2.2⟩ b1 b2
 refine (Row.Z4 (Row.HU hL hSh) ?_ hs).mono ?_
 ·exact .cons r0 (.cons r1 (.cons r2 .nil))
 rintro e W' ⟨rfl, bel⟩
 refine ⟨_, rfl, Row.VN hW' (pv := []) (fun b sp hd => ?_) (fun sp hsp => ?_) (fun sp hsp => rfl) (by simp only [List.append_nil, List.nil_append]; rfl) bel ?_⟩
 ·exact trodAll_mk1 (shut_bool Tryz.underlying4 _)
 ·exact Row.GH Row.laidOut hok hA1 (fun x hx => bel.same (hW'.lt x (List.mem_append_left _ hx))) (fun x hx => hsp x (List.mem_append_left _ hx))
 ·exact ok_one (by kernel_rfl) rfl (okWide_bool_mk Tryz.underlying4 _)
end Ls
end Go.Proofs.YtoalcafkffmiiaaGreatDoor
namespace Go.Proofs.YtoalcafkffmiiaaGreatDoor
open Go.ChangeShapes Go.WideShapes Go.ChangeAt Go.RowKit Go.Lib Go.Deep
namespace Ls
set_option maxRecDepth 100000
theorem Ug : (Rows.odbGetsRow.inPlace == Tryz.prog.inPlace 6) = true := by kernel_rfl
theorem Uh : (Rows.odbGetsRow.unfollowed == Tryz.prog.unfollowed 6) = true := by kernel_rfl
theorem Ui : (Rows.odbGetsRow.recurses == Tryz.prog.recurses 6) = true := by kernel_rfl
theorem Uj : (Rows.odbGetsRow.named == Tryz.prog.varsNamed 6) = true := by kernel_rfl
theorem Ue : joinedFacts Tryz.prog 6 Tryz.f6 Rows.odbGetsSpec Rows.odbGetsRow = true := by
 unfold joinedFacts
 rw [Ug, Uh, Ui, Uj]
 kernel_rfl
theorem Uk : Rows.OdbGetsSaid :=
 OpenClaim.holds_of_cond 6 Tryz.f6 rfl rfl rfl rfl rfl rfl rfl ⟨rfl, rfl, rfl, rfl, rfl⟩ rfl rfl rfl rfl rfl (by kernel_rfl) Tryz.func6 Ue
  (of_decide_eq_true (by kernel_rfl)) (by unfold Func.isWrapper; rw [if_neg (of_decide_eq_false (by kernel_rfl))]; exact ⟨rfl, rfl⟩)
  (fun os started H enc _ F0 => by rw [OpenClaim.pre_eq_preRow]; exact Uf os started H enc F0)
end Ls
end Go.Proofs.YtoalcafkffmiiaaGreatDoor
