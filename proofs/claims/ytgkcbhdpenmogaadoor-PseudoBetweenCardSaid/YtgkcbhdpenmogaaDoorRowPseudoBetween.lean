/- PseudoBetween holds of every readable input. -/
import Derived.Test.YtgkcbhdpenmogaaDoorPsRow
import Derived.Test.YtgkcbhdpenmogaaDoorPsLb
import Derived.Test.YtgkcbhdpenmogaaDoorRowA
set_option linter.all false
namespace Go.Proofs.YtgkcbhdpenmogaaDoor
open Go.ChangeShapes Go.WideShapes Go.ChangeAt Go.RowKit Go.Lib Go.Deep
namespace Ps
set_option maxRecDepth 100000
theorem pseudoBetween_witness (os : Os) {H : Type} (enc : TypeId × Value → H) :
    (OpenSpec.ofChange Rows.pseudoBetweenSpec).preRow enc Tryd.prog Tryd.f4 Rows.pseudoBetweenRow.domain false Rows.pseudoBetweenRow.laid ((laidWorld os).forCall (fun _ _ => 0) ⟨#[], #[.string ⟨#[]⟩, .int .i64 0, .int .i64 0, .string ⟨#[]⟩, .string ⟨#[]⟩], []⟩).memory #[.string ⟨#[]⟩, .int .i64 0, .int .i64 0, .string ⟨#[]⟩, .string ⟨#[]⟩] := by
  have hw : (DataW.whole enc Tryd.prog ((laidWorld os).forCall (fun _ _ => 0) ⟨#[], #[.string ⟨#[]⟩, .int .i64 0, .int .i64 0, .string ⟨#[]⟩, .string ⟨#[]⟩], []⟩).memory Tryd.f4.params.toList (OpenSpec.ofChange Rows.pseudoBetweenSpec).vars false (#[.string ⟨#[]⟩, .int .i64 0, .int .i64 0, .string ⟨#[]⟩, .string ⟨#[]⟩] : Array Value).toList 8).map (fun x => (x.1, x.2.1)) =
      some ([.lit (.string []), .lit (.int .i64 0), .lit (.int .i64 0), .lit (.string []), .lit (.string [])], []) := by kernel_rfl
  obtain ⟨⟨x1, x2, x3⟩, hx, hx1⟩ := Option.map_eq_some_iff.1 hw
  simp only [Prod.mk.injEq] at hx1
  obtain ⟨rfl, rfl⟩ := hx1
  exact OpenSpec.preRow_of_cond 8 hx (by kernel_rfl) (fun k hk => by cases hk) (by kernel_rfl) (laid_met os _)
theorem pseudoBetween_lifted (os : Os) (started : os.Started) (H : Type) (enc : TypeId × Value → H) (F : Stop.Interp) :
    ReturnsInHanded {} Tryd.checked os 4 .any ((OpenSpec.ofChange Rows.pseudoBetweenSpec).preRow enc Tryd.prog Tryd.f4 Rows.pseudoBetweenRow.domain false Rows.pseudoBetweenRow.laid) (((OpenSpec.ofChange Rows.pseudoBetweenSpec).at F).post enc Tryd.prog Tryd.f4 false true false false) := by
  refine returnsInHanded_of_row (C := Tryd.checked) (s := (OpenSpec.ofChange Rows.pseudoBetweenSpec)) Row.own started (by kernel_rfl) Tryd.func4
    (witness_row_atRef (enc := enc) (C := Tryd.checked) false (laidWorld os) #[.string ⟨#[]⟩, .int .i64 0, .int .i64 0, .string ⟨#[]⟩, .string ⟨#[]⟩] rfl (by kernel_rfl) (by kernel_rfl) (by kernel_rfl) (pseudoBetween_witness os enc)) ?_
  intro W base args ds gs before hval0 hW _ hcond hsz0 hL _ _
  have hval : ∀ (j : Nat) t v, Tryd.f4.params[j]? = some t → args[j]? = some v → Value.okWide Tryd.prog W .any base t v := hval0
  have hW' := hW
  obtain ⟨p, q, hA0, hV0, rfl, _, _⟩ := hW
  have hA : DataW.TrodAll enc Tryd.prog W 0 (fun _ => true) true Tryd.f4.params.toList args.toList ds p := hA0
  have hA1 := hA
  have hok : (Tryd.f4.params.toList).all (Row.okT Tryd.prog) = true := by kernel_rfl
  have hsz : (DataW.weightsEach Tryd.prog (Tryd.f4.params.toList ++ []) (ds ++ gs)).all (· ≤ reachBytes) = true := hsz0
  rw [Tryd.params4] at hA hval hsz
  obtain ⟨v0, v1, v2, v3, v4, d0, d1, d2, d3, d4, p0, p1, p2, p3, p4, rfl, rfl, rfl, h0, h1, h2, h3, h4⟩ := trodAll_five hA
  obtain ⟨rfl, rfl⟩ := trodVars_none hV0
  obtain ⟨a0, b0, m0, r0⟩ := Row.arg_str Tryd.underlying9 (hval 0 _ v0 rfl rfl) h0 (Row.wt hsz (j := 0) rfl rfl)
  obtain ⟨a1, b1, m1, r1⟩ := Row.arg_int Tryd.underlying3 (hval 1 _ v1 rfl rfl) h1
  obtain ⟨a2, b2, m2, r2⟩ := Row.arg_int Tryd.underlying3 (hval 2 _ v2 rfl rfl) h2
  obtain ⟨a3, b3, m3, r3⟩ := Row.arg_str Tryd.underlying9 (hval 3 _ v3 rfl rfl) h3 (Row.wt hsz (j := 3) rfl rfl)
  obtain ⟨a4, b4, m4, r4⟩ := Row.arg_str Tryd.underlying9 (hval 4 _ v4 rfl rfl) h4 (Row.wt hsz (j := 4) rfl rfl)
  have hs := Ps.lbetween_ok a0 a1 a2 a3 a4 b0 b1.1 b1.2 b2.1 b2.2 b3 b4
  refine (Row.spec_below_of (Row.amb_of hL) ?_ hs).mono ?_
  · exact .cons r0 (.cons r1 (.cons r2 (.cons r3 (.cons r4 .nil))))
  rintro e W' ⟨rfl, bel⟩
  refine ⟨_, rfl, Row.post_of_below hW' (pv := []) (fun b sp hd => ?_) (fun sp hsp => ?_) (fun sp hsp => rfl) (by simp only [List.append_nil, List.nil_append]; rfl) bel ?_⟩
  · exact trodAll_mk1 (shut_bool Tryd.underlying4 _)
  · exact Row.trodAll_stays Row.laidOut hok hA1 (fun x hx => bel.same (hW'.lt x (List.mem_append_left _ hx))) (fun x hx => hsp x (List.mem_append_left _ hx))
  · exact ok_one (by kernel_rfl) rfl (okWide_bool_mk Tryd.underlying4 _)
theorem pseudoBetween_said : Rows.PseudoBetweenSaid :=
  OpenClaim.holds_of_cond 4 Tryd.f4 rfl rfl rfl rfl rfl rfl rfl ⟨rfl, rfl, rfl, rfl, rfl⟩ rfl rfl rfl rfl rfl (by kernel_rfl) Tryd.func4 (by kernel_rfl)
    (of_decide_eq_true (by kernel_rfl)) (by unfold Func.isWrapper; rw [if_neg (of_decide_eq_false (by kernel_rfl))]; exact ⟨rfl, rfl⟩)
    (fun os started H enc _ F0 => by rw [OpenClaim.pre_eq_preRow]; exact pseudoBetween_lifted os started H enc F0)
end Ps
end Go.Proofs.YtgkcbhdpenmogaaDoor
