/- From contracts to the rows. -/
import Derived.Test.YtkeleoneecofhaaDoorGrLaw
import Derived.Test.YtkeleoneecofhaaDoorRows
import Derived.ChangeSame
import Derived.ChangeSlices
import Derived.ChangeVars
import Derived.JoinedOf
import Derived.JoinedAt
import Derived.JoinedCond
import Derived.RowKit
import Derived.RowKit2
import Derived.RowKit3
import Derived.RowKitTokens
import Derived.ReadAgain
import Derived.WideKeyArgs
import Derived.Deep.Matrix
import Derived.Lib.LaidIn
import Derived.PinnedBridge
import Derived.Deep.DeepHandedRow
import Derived.Deep.DeepWitnessRowRef
import Derived.ProofKit
import Derived.SizedLaws
set_option linter.all false
namespace Go.Proofs.YtkeleoneecofhaaDoor
open Go.ChangeShapes Go.WideShapes Go.ChangeAt Go.RowKit Go.Lib Go.Deep
namespace Gr
open Eng
set_option maxRecDepth 10000
theorem own : ownKnob Tryd.prog.godebug = none := by kernel_rfl
theorem laidOut : laidOutB Tryd.prog = true := by kernel_rfl
theorem cells_row : Tryd.prog.cellsOf 28 = 1 := by kernel_rfl
theorem cells_int : Tryd.prog.cellsOf 3 = 1 := by kernel_rfl
theorem spec_below_of {f : Nat} {x : AV} {W : World} {v : Value} (hv : RV (fun _ => False) W noLoc v x) (hs : SpecR Tryd.prog f [x] (.bool true)) :
    Calls Tryd.prog f #[v] W fun e w' => e = .returned (.bool true) ∧ Below W.heap.size W w' := by
  refine (hs (fun _ => False) noLoc W #[v] (hrel_nil _ _ _) (fun _ h => h.elim) rfl (fun j u y h1 h2 => ?_)).mono ?_
  · have hj : j = 0 := by
      have := (List.getElem?_eq_some_iff.1 h2).1
      simp at this; omega
    subst hj
    simp at h1 h2
    subst h1; subst h2
    exact hv.mono (fun _ _ _ => rfl) (fun b _ hb hx => hb (xx_nil.1 hx)) _ (fun _ _ h => h)
  · rintro e w' ⟨u, h', r, ρ', as', rfl, ⟨rfl, rfl⟩, _, hr, _, _, q1, q2, q3, q4, q5, _⟩
    rw [RV.bool_inv hr]
    exact ⟨rfl, q1, q2, q3, q4, fun b hb => q5 b hb ownB_nil⟩
theorem flat_map1 {α : Type} {f : α → AV} (hf : ∀ x, Eng.cellsOf (f x) = [f x]) (xs : List α) : flat (xs.map f) = xs.map f := by
  induction xs with
  | nil => rfl
  | cons x r ih => rw [List.map_cons, flat, List.flatMap_cons, hf]; exact congrArg (f x :: ·) ih
theorem rv_ints {W : World} {A : Option Addr} {L C : Nat} {zs : List Int} (h1 : L ≤ C) (h2 : zs.length = C) (h3 : A = none → C = 0) (h4 : ∀ a', A = some a' → ∀ c, c < C → W.cell? (a'.add c) = some (.int .i64 (zs.getD c 0))) :
    RV (fun _ => False) W noLoc (.slice A L C) (.ro 1 ((zs.take L).map (AV.int .i64))) := by
  have hl : (zs.take L).length = L := by simp; omega
  have hl' : ((zs.take L).map (AV.int .i64)).length = L := by rw [List.length_map, hl]
  have := RV.ro (X := fun _ => False) (w := W) noLoc A C 1 ((zs.take L).map (AV.int .i64)) ((zs.take L).map (Value.int .i64)) (by rw [hl']; exact h1)
    (fun e he => by
      obtain ⟨i, _, rfl⟩ := List.mem_map.1 he
      rfl)
    (by rw [flat_map1 (fun _ => rfl)]; simp)
    (fun j hj => by
      have hj' : j < L := by rw [List.length_map, hl] at hj; exact hj
      cases hA : A with
      | none => have := h3 hA; omega
      | some a =>
        have hc := h4 a hA j (by omega)
        have hs : a.spot = none := by
          have h0 := h4 a hA 0 (by omega)
          rw [Addr.add_zero'] at h0
          exact World.cell?_spot h0
        refine ⟨a, rfl, hs, fun h => h, ?_⟩
        rw [hc, List.getElem?_map, List.getElem?_take, if_pos hj', List.getD_eq_getElem?_getD, List.getElem?_eq_getElem (by omega)]; rfl)
    (fun j v x h1 h2 => by
      rw [flat_map1 (fun _ => rfl)] at h2
      rw [List.getElem?_map] at h1 h2
      obtain ⟨n, e1, rfl⟩ := Option.map_eq_some_iff.1 h1
      obtain ⟨m, e2, rfl⟩ := Option.map_eq_some_iff.1 h2
      rw [e1] at e2
      obtain rfl := Option.some.inj e2
      exact .int _ _ _)
  rw [hl'] at this
  exact this
section
variable {H : Type} {enc : TypeId × Value → H}
theorem rv_rows {W : World} {a0 : Option Addr} {len cap : Nat} {d0 : DataW H} {p : List MemPlace} (h : DataW.Trod enc Tryd.prog W 0 (fun _ => true) true 22 (.slice a0 len cap) d0 p) :
    ∃ ps : List (List Int), ps.length ≤ 9223372036854775807 ∧ (∀ r ∈ ps, r.length ≤ 9223372036854775807) ∧ RV (fun _ => False) W noLoc (.slice a0 len cap) (.ro 1 (rowsA ps)) := by
  obtain ⟨fuel, hf⟩ := h
  rcases open_int_rows Tryd.underlying22 Tryd.underlying28 Tryd.underlying3 cells_row cells_int hf with ⟨hcs, _⟩ | ⟨a, len', cap', A, L, C, Z, hcs, _, hl, hm, _, hrows⟩
  · simp [Value.cells] at hcs
    obtain ⟨rfl, rfl, rfl⟩ := hcs
    exact ⟨[], by simp, by simp, RV.ele (.nilsl _) (.nil 1)⟩
  · simp [Value.cells] at hcs
    obtain ⟨rfl, rfl, rfl⟩ := hcs
    refine ⟨(List.range len).map fun r => (Z r).take (L r), by simp; unfold maxLen at hm; omega, ?_, ?_⟩
    · intro r hr
      obtain ⟨i, hi, rfl⟩ := List.mem_map.1 hr
      have := hrows i (by have := List.mem_range.1 hi; omega)
      have h2 := this.2.2.1
      unfold maxLen at h2
      simp; omega
    · have hlen : ((List.range len).map fun r => (Z r).take (L r)).length = len := by simp
      have := RV.ro (X := fun _ => False) (w := W) noLoc (some a) cap 1 (rowsA ((List.range len).map fun r => (Z r).take (L r))) ((List.range len).map fun r => .slice (A r) (L r) (C r)) (by simpa using hl)
        (fun e he => by
          simp only [List.map_map, List.mem_map] at he
          obtain ⟨i, _, rfl⟩ := he
          rfl)
        (by rw [rowsA, flat_map1 (fun _ => rfl)]; simp)
        (fun j hj => by
          have hj' : j < len := by simpa using hj
          have hc := (hrows j (by omega)).1
          have hs : a.spot = none := by
            have h0 := (hrows 0 (by omega)).1
            rw [Addr.add_zero'] at h0
            exact World.cell?_spot h0
          exact ⟨a, rfl, hs, fun h => h, by rw [hc, List.getElem?_map, List.getElem?_range hj']; rfl⟩)
        (fun j v x h1 h2 => by
          rw [rowsA, flat_map1 (fun _ => rfl), List.map_map] at h2
          rw [List.getElem?_map] at h1 h2
          obtain ⟨n, e1, rfl⟩ := Option.map_eq_some_iff.1 h1
          obtain ⟨m, e2, rfl⟩ := Option.map_eq_some_iff.1 h2
          rw [e1] at e2
          obtain rfl := Option.some.inj e2
          have hn : n < cap := by
            have := (List.getElem?_eq_some_iff.1 e1)
            obtain ⟨g1, g2⟩ := this
            simp at g1 g2; omega
          obtain ⟨g1, g2, g3, g4, g5, g6, g7⟩ := hrows n hn
          exact rv_ints g2 g4 g6 (fun a' ha c hc => (g7 a' ha).2 c hc))
      simpa using this
end
theorem post_of_below {H : Type} {enc : TypeId × Value → H} {P : Program} {f : Func} {s : ChangeSpec} {apart fresh handsOn again : Bool} {W W' : World} {args : Array Value} {v : Value} {ds gs : List (DataW H)} {before pa pv : List MemPlace}
    (hW : DataW.Whole enc P f.params.toList s.vars apart W args.toList ds gs before)
    (hres : ∀ (b : Nat) (sp : Nat → Bool) (hd : Bool), DataW.TrodAll enc P W' b sp hd f.resultTypes.toList (v.resultList f.resultTypes.size) (s.fn H (ds ++ gs)).results [])
    (hargs : ∀ sp : Nat → Bool, (∀ p ∈ before, sp p.block = true) → DataW.TrodAll enc P W' 0 sp true f.params.toList args.toList (s.fn H (ds ++ gs)).args pa)
    (hvars : ∀ sp : Nat → Bool, (∀ p ∈ before, sp p.block = true) → DataW.TrodVars enc P W' sp s.vars (s.fn H (ds ++ gs)).vars pv)
    (hps : before = pa ++ pv) (hb : Below W.heap.size W W')
    (hok : ∀ (j : Nat) (t : TypeId) (r : Value), f.resultTypes[j]? = some t → (v.resultList f.resultTypes.size)[j]? = some r → Value.okWide P W' .any 0 t r) :
    s.post enc P f apart fresh handsOn again W args v W' := by
  have hlt : ∀ p ∈ before, p.block < W.heap.size := fun p hp => hW.lt p hp
  have hold : ∀ p ∈ before, (fun b => decide (b < W.heap.size)) p.block = true := fun p hp => by simpa using hlt p hp
  refine ⟨ds, gs, before, [], pa, pv, hW, hres _ _ _, hargs _ hold, hvars _ hold, World.keptBut_mono (fun p hp => ⟨hp, ?_⟩) (hb.frame (· ∈ before)), fun _ => ?_⟩
  · rw [hps, List.mem_append] at hp
    exact Or.inr hp
  · obtain ⟨_, _, _, _, _, hz, hn⟩ := hW
    refine ⟨hok, _, _, ([] ++ pa) ++ pv, ⟨[] ++ pa, pv, trodAll_append (hargs _ (fun _ _ => rfl)) (hres _ _ _), hvars _ (fun _ _ => rfl), rfl, ?_, ?_⟩, ?_⟩
    · intro b off hp
      have hin : MemPlace.cell b off ∈ before := by rw [hps]; simpa using hp
      rw [hb.frozen (hlt _ hin)]
      exact hz b off hin
    · intro ha
      have := hn ha
      rw [hps] at this
      simpa using this
    · intro p hp _
      rw [hps]
      simpa using hp
/-- a world that meets the row's condition -/
noncomputable def laidWorld (os : Os) : World :=
  let w0 := World.holding Tryd.prog os ⟨#[], #[], []⟩
  let put (h : Array Obj) (g : Nat) (cs : Array Value) : Array Obj := h.modify g fun
    | .cells _ t frozen => .cells cs t frozen
    | o => o
  let h1 := put w0.heap 1 (Lib.firstTab.map fun z => Value.int .u8 z).toArray
  let h2 := put h1 2 ((List.range 16).flatMap fun i => [Value.int .u8 (Lib.accLo i), Value.int .u8 (Lib.accHi i)]).toArray
  { w0 with heap := h2 }
theorem laid_met (os : Os) (args : Array Value) : laidMet Tryd.prog Rows.graphPlacesRow.laid ((laidWorld os).forCall (fun _ _ => 0) ⟨#[], args, []⟩).memory :=
  (LaidIn.of_run (l := Rows.graphPlacesRow.laid) [2, 1] 8 (by kernel_rfl) (by kernel_rfl) (by kernel_rfl) (by kernel_rfl)).met
end Gr
end Go.Proofs.YtkeleoneecofhaaDoor
