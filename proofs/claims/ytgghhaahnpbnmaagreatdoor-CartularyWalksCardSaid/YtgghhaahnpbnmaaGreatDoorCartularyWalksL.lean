/- The proof, part 12 of 51. -/
import Derived.Test.YtgghhaahnpbnmaaGreatDoorCartularyWalksJ
import Derived.Test.YtgghhaahnpbnmaaGreatDoorProg
import Derived.ChangeSame
import Derived.ChangeSlices
import Derived.ChangeVars
import Derived.ChangeMaps5
import Derived.JoinedOf
import Derived.JoinedAt
import Derived.JoinedCond
import Derived.RowKit
import Derived.RowKit2
import Derived.RowKit3
import Derived.RowKitTokens
import Derived.ReadAgain
import Derived.WideKeyArgs
import Derived.Deep.Matrix
import Derived.Deep.Strs
import Derived.Lib.LaidIn
import Derived.PinnedBridge
import Derived.Deep.DeepHandedRow
import Derived.Deep.DeepWitnessRowRef
import Derived.ProofKit
import Derived.SizedLaws
import Derived.Carry
import Derived.KernelRfl
set_option linter.all false
namespace Go.Proofs.YtgghhaahnpbnmaaGreatDoor
open Go.ChangeShapes Go.WideShapes Go.ChangeAt Go.RowKit Go.Lib Go.Deep
namespace Row
open Eng
set_option maxRecDepth 10000
theorem own : ownKnob Tryz.prog.godebug = none := by kernel_rfl
theorem laidOut : laidOutB Tryz.prog = true := by kernel_rfl
def c8 (W : World) : List Value → List AV → Prop
 | [], [] => True
 | v :: vs, x :: xs => RV (fun _ => False) W aW v x ∧ c8 W vs xs
 | _, _ => False
theorem c8.nil {W : World} : c8 W [] [] := trivial
theorem c8.cons {W : World} {v : Value} {vs : List Value} {x : AV} {xs : List AV} (h : RV (fun _ => False) W aW v x) (hs : c8 W vs xs) : c8 W (v :: vs) (x :: xs) := ⟨h, hs⟩
theorem c8.len {W : World} : ∀ {vs : List Value} {xs : List AV}, c8 W vs xs → vs.length = xs.length
 | [], [], _ => rfl
 | v :: vs, x :: xs, h => by simp [c8.len h.2]
theorem c8.get {W : World} : ∀ {vs : List Value} {xs : List AV}, c8 W vs xs → ∀ (j : Nat) u y, vs[j]? = some u → xs[j]? = some y → RV (fun _ => False) W aW u y
 | [], [], _, j, u, y, h1, _ => by simp at h1
 | v :: vs, x :: xs, h, j, u, y, h1, h2 => by
  rcases j with _ | j
  ·simp at h1 h2; subst h1; subst h2; exact h.1
  ·exact c8.get h.2 j u y (by simpa using h1) (by simpa using h2)
theorem Zs {f : Nat} {xs : List AV} {W : World} {args : Array Value} (hA : iH W) (hv : c8 W args.toList xs) (hs : aw Tryz.prog f xs (.bool true)) :
    Calls Tryz.prog f args W fun e w' => e = .returned (.bool true) ∧ Below W.heap.size W w' := by
 refine (hs (fun _ => False) aW W args (lT _ _ _) ⟨hA, fun b _ hb => fI hb⟩ (fun _ h => h.elim) (by simpa using hv.len) (fun j u y h1 h2 => ?_)).mono ?_
 ·have := hv.get j u y (by simpa using h1) h2
  exact this.mono (fun _ _ _ => rfl) (fun b _ hb hx => hb (nI.1 hx)) _ (fun _ _ h => h)
 ·rintro e w' ⟨u, h', r, ρ', as', rfl, ⟨rfl, rfl⟩, _, hr, _, _, q1, q2, q3, q4, q5, _⟩
  rw [RV.J7 hr]
  exact ⟨rfl, q1, q2, q3, q4, fun b hb => q5 b hb fI⟩
noncomputable def yr (P : Program) (t : TypeId) : Bool := P.readableRec t && decide (t < P.types.size)
section
variable {H : Type} {enc : TypeId × Value → H}
theorem GJ {P : Program} (hl : laidOutB P = true) {W W' : World} {sp' : Nat → Bool} : ∀ {ts : List TypeId} {vs : List Value} {ds : List (DataW H)} {ps : List MemPlace}, ts.all (yr P) = true →
    DataW.TrodAll enc P W 0 (fun _ => true) true ts vs ds ps → (∀ p ∈ ps, W.sameAt W' p) → (∀ p ∈ ps, sp' p.block = true) → DataW.TrodAll enc P W' 0 sp' true ts vs ds ps
 | [], vs, ds, ps, _, h, _, _ => by
  obtain ⟨rfl, rfl, rfl⟩ := trodAll_nil h
  exact trodAll_mk0
 | t :: ts, vs, ds, ps, ht, h, h1, h2 => by
  obtain ⟨v, vs', d, ds', p, q, rfl, rfl, rfl, g1, g2⟩ := trodAll_cons h
  rw [List.all_cons, Bool.and_eq_true] at ht
  have hk := ht.1
  unfold yr at hk
  rw [Bool.and_eq_true] at hk
  exact ⟨p, q, WideElems.Trod_stays hl hk.1 (of_decide_eq_true hk.2) g1 (fun x hx => h1 x (List.mem_append_left _ hx)) (fun x hx => h2 x (List.mem_append_left _ hx)),
   GJ hl ht.2 g2 (fun x hx => h1 x (List.mem_append_right _ hx)) (fun x hx => h2 x (List.mem_append_right _ hx)), rfl⟩
theorem Yz {W : World} {k : IntKind} {n : Int} : RV (fun _ => False) W aW (.int k n) (.int k n) := .int _ _ _
theorem i64_in {n : Int} (h : (Lit.int .i64 n).wf = true) : -9223372036854775808 ≤ n ∧ n ≤ 9223372036854775807 := by
 have := h
 simp only [Lit.wf, Bool.and_eq_true, decide_eq_true_eq] at this
 exact this
end
theorem W4 {H : Type} {enc : TypeId × Value → H} {P : Program} {f : Func} {s : ChangeSpec} {apart fresh handsOn again : Bool} {W W' : World} {args : Array Value} {v : Value} {ds gs : List (DataW H)} {before pa pv : List MemPlace}
    (hW : DataW.Whole enc P f.params.toList s.vars apart W args.toList ds gs before)
    (hres : ∀ (b : Nat) (sp : Nat → Bool) (hd : Bool), DataW.TrodAll enc P W' b sp hd f.resultTypes.toList (v.resultList f.resultTypes.size) (s.fn H (ds ++ gs)).results [])
    (hargs : ∀ sp : Nat → Bool, (∀ p ∈ before, sp p.block = true) → DataW.TrodAll enc P W' 0 sp true f.params.toList args.toList (s.fn H (ds ++ gs)).args pa)
    (hvars : ∀ sp : Nat → Bool, (∀ p ∈ before, sp p.block = true) → DataW.TrodVars enc P W' sp s.vars (s.fn H (ds ++ gs)).vars pv)
    (hps : before = pa ++ pv) (hb : Below W.heap.size W W')
    (hok : ∀ (j : Nat) (t : TypeId) (r : Value), f.resultTypes[j]? = some t → (v.resultList f.resultTypes.size)[j]? = some r → Value.okWide P W' .any 0 t r) :
    s.post enc P f apart fresh handsOn again W args v W' := by
 have hlt : ∀ p ∈ before, p.block < W.heap.size := fun p hp => hW.lt p hp
 have hold : ∀ p ∈ before, (fun b => decide (b < W.heap.size)) p.block = true := fun p hp => by simpa using hlt p hp
 refine ⟨ds, gs, before, [], pa, pv, hW, hres _ _ _, hargs _ hold, hvars _ hold, World.keptBut_mono (fun p hp => ⟨hp, ?_⟩) (hb.frame (· ∈ before)), fun _ => ?_⟩
 ·rw [hps, List.mem_append] at hp
  exact Or.inr hp
 ·obtain ⟨_, _, _, _, _, hz, hn⟩ := hW
  refine ⟨hok, _, _, ([] ++ pa) ++ pv, ⟨[] ++ pa, pv, trodAll_append (hargs _ (fun _ _ => rfl)) (hres _ _ _), hvars _ (fun _ _ => rfl), rfl, ?_, ?_⟩, ?_⟩
  ·intro b off hp
   have hin : MemPlace.cell b off ∈ before := by rw [hps]; simpa using hp
   rw [hb.frozen (hlt _ hin)]
   exact hz b off hin
  ·intro ha
   have := hn ha
   rw [hps] at this
   simpa using this
  ·intro p hp _
   rw [hps]
   simpa using hp
end Row
end Go.Proofs.YtgghhaahnpbnmaaGreatDoor
