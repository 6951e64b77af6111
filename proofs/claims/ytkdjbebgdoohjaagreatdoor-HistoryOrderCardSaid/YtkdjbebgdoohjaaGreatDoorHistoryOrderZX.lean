/- The proof, part 50 of 50. -/
import Derived.Test.YtkdjbebgdoohjaaGreatDoorHistoryOrderO
import Derived.Test.YtkdjbebgdoohjaaGreatDoorHistoryOrderZW
set_option linter.all false
namespace Go.Proofs.YtkdjbebgdoohjaaGreatDoor
open Go.ChangeShapes Go.WideShapes Go.ChangeAt Go.RowKit Go.Lib Go.Deep
namespace Ls
set_option maxRecDepth 100000
theorem Nh (os : Os) {H : Type} (enc : TypeId × Value → H) :
    (OpenSpec.ofChange Rows.historyOrderSpec).preRow enc Tryz.prog Tryz.f3 Rows.historyOrderRow.domain false Rows.historyOrderRow.laid ((r7 os).forCall (fun _ _ => 0) ⟨#[], #[.slice none 0 0, .string ⟨#[]⟩], []⟩).memory #[.slice none 0 0, .string ⟨#[]⟩] := by
 have hw : (DataW.whole enc Tryz.prog ((r7 os).forCall (fun _ _ => 0) ⟨#[], #[.slice none 0 0, .string ⟨#[]⟩], []⟩).memory Tryz.f3.params.toList (OpenSpec.ofChange Rows.historyOrderSpec).vars false (#[.slice none 0 0, .string ⟨#[]⟩] : Array Value).toList 8).map (fun x => (x.1, x.2.1)) =
     some ([.nil, .lit (.string [])], []) := by kernel_rfl
 obtain ⟨⟨x1, x2, x3⟩, hx, hx1⟩ := Option.map_eq_some_iff.1 hw
 simp only [Prod.mk.injEq] at hx1
 obtain ⟨rfl, rfl⟩ := hx1
 exact OpenSpec.preRow_of_cond 8 hx (by kernel_rfl) (fun k hk => by cases hk) (by kernel_rfl) (Qi os _)
theorem Nf (os : Os) (started : os.Started) (H : Type) (enc : TypeId × Value → H) (F : Stop.Interp) :
    ReturnsInHanded {} Tryz.checked os 3 .any ((OpenSpec.ofChange Rows.historyOrderSpec).preRow enc Tryz.prog Tryz.f3 Rows.historyOrderRow.domain false Rows.historyOrderRow.laid) (((OpenSpec.ofChange Rows.historyOrderSpec).at F).post enc Tryz.prog Tryz.f3 false true false false) := by
 refine returnsInHanded_of_row (C := Tryz.checked) (s := (OpenSpec.ofChange Rows.historyOrderSpec)) Row.own started (by kernel_rfl) Tryz.func3
  (witness_row_atRef (enc := enc) (C := Tryz.checked) false (r7 os) #[.slice none 0 0, .string ⟨#[]⟩] rfl (by kernel_rfl) (by kernel_rfl) (by kernel_rfl) (Nh os enc)) ?_
 intro W base args ds gs before hval0 hW _ hcond hsz0 hL hSh _
 have hval : ∀ (j : Nat) t v, Tryz.f3.params[j]? = some t → args[j]? = some v → Value.okWide Tryz.prog W .any base t v := hval0
 have hW' := hW
 obtain ⟨p, q, hA0, hV0, rfl, _, _⟩ := hW
 have hA : DataW.TrodAll enc Tryz.prog W 0 (fun _ => true) true Tryz.f3.params.toList args.toList ds p := hA0
 have hA1 := hA
 have hok : (Tryz.f3.params.toList).all (Row.wR Tryz.prog) = true := by kernel_rfl
 have au : (DataW.weightsEach Tryz.prog (Tryz.f3.params.toList ++ []) (ds ++ gs)).all (· ≤ reachBytes) = true := hsz0
 rw [Tryz.params3] at hA hval au
 obtain ⟨v0, v1, d0, d1, p0, p1, rfl, rfl, rfl, h0, h1⟩ := trodAll_two hA
 obtain ⟨rfl, rfl⟩ := trodVars_none hV0
 obtain ⟨a0, b0, m0, r0⟩ := Row.Gs Tryz.underlying22 Row.SG (hval 0 _ v0 rfl rfl) h0 (Row.wt au (j := 0) rfl rfl)
 obtain ⟨a1, b1, m1, r1⟩ := Row.arg_str Tryz.underlying9 (hval 1 _ v1 rfl rfl) h1 (Row.wt au (j := 1) rfl rfl)
 have hs := Ls.Ni a0 a1 ⟨b0.1, b0.2.2⟩ b1
 refine (Row.WD (Row.FX hL hSh) ?_ hs).mono ?_
 ·exact .cons r0 (.cons r1 .nil)
 rintro e W' ⟨rfl, bel⟩
 refine ⟨_, rfl, Row.TR hW' (pv := []) (fun b sp hd => ?_) (fun sp hsp => ?_) (fun sp hsp => rfl) (by simp only [List.append_nil, List.nil_append]; rfl) bel ?_⟩
 ·exact trodAll_mk1 (shut_bool Tryz.underlying4 _)
 ·exact Row.EB Row.laidOut hok hA1 (fun x hx => bel.same (hW'.lt x (List.mem_append_left _ hx))) (fun x hx => hsp x (List.mem_append_left _ hx))
 ·exact ok_one (by kernel_rfl) rfl (okWide_bool_mk Tryz.underlying4 _)
theorem Ng : Rows.HistoryOrderSaid :=
 OpenClaim.holds_of_cond 3 Tryz.f3 rfl rfl rfl rfl rfl rfl rfl ⟨rfl, rfl, rfl, rfl, rfl⟩ rfl rfl rfl rfl rfl (by kernel_rfl) Tryz.func3 (by kernel_rfl)
  (of_decide_eq_true (by kernel_rfl)) (by unfold Func.isWrapper; rw [if_neg (of_decide_eq_false (by kernel_rfl))]; exact ⟨rfl, rfl⟩)
  (fun os started H enc _ F0 => by rw [OpenClaim.pre_eq_preRow]; exact Nf os started H enc F0)
end Ls
end Go.Proofs.YtkdjbebgdoohjaaGreatDoor
