/- The engine, part T: arguments said weaker. -/
import Derived.Test.YtgkcbhdpenmogaaDoorEngZ
set_option linter.all false
namespace Go.Proofs.YtgkcbhdpenmogaaDoor.Eng
inductive ELe : AV → AV → Prop where
  | refl (a : AV) : ELe a a
  | nil (sz : Nat) : ELe .nilsl (.ro sz [])
inductive ELs : List AV → List AV → Prop where
  | nil : ELs [] []
  | cons {a b : AV} {as bs : List AV} (h : ELe a b) (hs : ELs as bs) : ELs (a :: as) (b :: bs)
inductive ALe : AV → AV → Prop where
  | one {a b : AV} (h : ELe a b) : ALe a b
  | ro {sz : Nat} {as bs : List AV} (h : ELs as bs) : ALe (.ro sz as) (.ro sz bs)
  | agg {as bs : List AV} (h : ELs as bs) : ALe (.agg as) (.agg bs)
inductive ALs : List AV → List AV → Prop where
  | nil : ALs [] []
  | cons {a b : AV} {as bs : List AV} (h : ALe a b) (hs : ALs as bs) : ALs (a :: as) (b :: bs)
theorem ELs.refl : ∀ l : List AV, ELs l l
  | [] => .nil
  | x :: r => .cons (.refl x) (ELs.refl r)
theorem ele_cells {a b : AV} (h : ELe a b) : ELs (cellsOf a) (cellsOf b) := by
  cases h with
  | refl => exact ELs.refl _
  | nil sz => exact .cons (.nil sz) .nil
theorem els_append {a b c d : List AV} (h : ELs a b) (k : ELs c d) : ELs (a ++ c) (b ++ d) := by
  induction h with
  | nil => exact k
  | cons h _ ih => exact .cons h ih
theorem els_flat {as bs : List AV} (h : ELs as bs) : ELs (flat as) (flat bs) := by
  induction h with
  | nil => exact .nil
  | cons h _ ih =>
    simp only [flat, List.flatMap_cons]
    exact els_append (ele_cells h) ih
theorem els_len {as bs : List AV} (h : ELs as bs) : as.length = bs.length := by
  induction h with
  | nil => rfl
  | cons h _ ih => simp [ih]
theorem els_get {as bs : List AV} (h : ELs as bs) : ∀ (j : Nat) (b : AV), bs[j]? = some b → ∃ a, as[j]? = some a ∧ ELe a b := by
  induction h with
  | nil => intro j b hb; simp at hb
  | cons h _ ih =>
    intro j b hb
    cases j with
    | zero => simp at hb; subst hb; exact ⟨_, rfl, h⟩
    | succ j => exact ih j b (by simpa using hb)
theorem els_mem {as bs : List AV} (h : ELs as bs) : ∀ b ∈ bs, ∃ a ∈ as, ELe a b := by
  intro b hb
  obtain ⟨j, hj⟩ := List.mem_iff_getElem?.1 hb
  obtain ⟨a, h1, h2⟩ := els_get h j b hj
  exact ⟨a, List.mem_of_getElem? h1, h2⟩
theorem RV.ele {X : Nat → Prop} {w : World} {ρ : Loc} {v : Value} {a b : AV} (h : RV X w ρ v a) (k : ELe a b) : RV X w ρ v b := by
  cases k with
  | refl => exact h
  | nil sz => cases h; exact .ro ρ none 0 sz [] [] (Nat.le_refl _) (fun e he => by cases he) rfl (fun j hj => by simp at hj) (fun j v a h1 _ => by simp at h1)
theorem RV.ale {X : Nat → Prop} {w : World} {ρ : Loc} {v : Value} {a b : AV} (h : RV X w ρ v a) (k : ALe a b) : RV X w ρ v b := by
  cases k with
  | one k => exact h.ele k
  | ro k =>
    cases h with
    | ro _ A c sz es vs hc hsz hlen hcell hrel =>
      rw [els_len k]
      refine .ro ρ A c _ _ vs (by rw [← els_len k]; exact hc) (fun e he => ?_) (by rw [hlen, els_len (els_flat k)]) hcell (fun j v b h1 h2 => ?_)
      · obtain ⟨a, ha, hab⟩ := els_mem k e he
        rw [← els_len (ele_cells hab)]; exact hsz a ha
      · obtain ⟨a, h3, h4⟩ := els_get (els_flat k) j b h2
        exact (hrel j v a h1 h3).ele h4
  | agg k =>
    cases h with
    | agg _ vs _ hlen hrel =>
      refine .agg ρ vs _ (by rw [hlen, els_len k]) (fun j v b h1 h2 => ?_)
      obtain ⟨a, h3, h4⟩ := els_get k j b h2
      exact (hrel j v a h1 h3).ele h4
theorem als_get {as bs : List AV} (h : ALs as bs) : as.length = bs.length ∧ ∀ (j : Nat) (a : AV), as[j]? = some a → ∃ b, bs[j]? = some b ∧ ALe a b := by
  induction h with
  | nil => exact ⟨rfl, fun j b hb => by simp at hb⟩
  | cons h _ ih =>
    refine ⟨by simp [ih.1], fun j b hb => ?_⟩
    cases j with
    | zero => simp at hb; subst hb; exact ⟨_, rfl, h⟩
    | succ j => exact ih.2 j b (by simpa using hb)
theorem als_get' {as bs : List AV} (h : ALs as bs) : ∀ (j : Nat) (b : AV), bs[j]? = some b → ∃ a, as[j]? = some a ∧ ALe a b := by
  induction h with
  | nil => intro j b hb; simp at hb
  | cons h _ ih =>
    intro j b hb
    cases j with
    | zero => simp at hb; subst hb; exact ⟨_, rfl, h⟩
    | succ j => exact ih j b (by simpa using hb)
/-- a contract holds at arguments of which more is known -/
theorem spec_args {P : Program} {f : Nat} {h : HP} {as bs : List AV} {Post : HP → AV → List AV → Prop} (k : ALs as bs) (hs : Spec P f h bs Post) : Spec P f h as Post := by
  intro X0 ρ w vs h1 hA h2 h3 h4
  have hl := (als_get k).1
  rw [hl]
  exact hs X0 ρ w vs h1 hA h2 (by rw [h3, hl]) (fun j v b e1 e2 => by
    obtain ⟨a, e3, e4⟩ := als_get' k j b e2
    exact (h4 j v a e1 e3).ale e4)
theorem specR_args {P : Program} {f : Nat} {as bs : List AV} {v : AV} (k : ALs as bs) (hs : SpecR P f bs v) : SpecR P f as v := spec_args k hs
/- the state at a call, said weaker -/
def argOK : AE → Bool
  | .t _ => true
  | .c v => flA v
theorem acall_wk {P : Program} {q : Bool} {st st' : St} {f : Nat} {args : List AE} {K : AV → St → Prop} (hw : Wk st st') (hc : args.all argOK = true) (h : acall P q st' f args K) : acall P q st f args K := by
  intro E ρ a w vs hr hsz hrv
  obtain ⟨ρ', hr'⟩ := wk_rel hw hr
  refine h E ρ' a w vs hr' hsz (fun j v x e1 e2 => ⟨?_, (hrv j v x e1 e2).2⟩)
  obtain ⟨g1, g2⟩ := hrv j v x e1 e2
  cases x with
  | t k =>
    obtain ⟨g3, g4⟩ := g2 k rfl
    have := evalRV hr' (.tmp k)
    simp only [trE, g3, if_true] at this
    rw [g4]
    exact this
  | c c =>
    have := List.all_eq_true.1 hc _ (List.mem_of_getElem? e2)
    exact RV.flA (show RV _ w ρ v c from g1) this
theorem call_wk {P : Program} {q : Bool} {st : St} {f : Nat} {args : List AE} {as : List AV} {d : Option Nat} {r : List ROp} {K : KS} (st' : St) (hw : Wk st st') (hc : args.all argOK = true) (h : callW P q st' f args (evL st' args) d r K) : callW P q st f args as d r K := by
  rintro rfl
  exact acall_wk hw hc (h (evL_eq st' args))
theorem call_frz {P : Program} {q : Bool} {st : St} {f : Nat} {args : List AE} {as : List AV} {d : Option Nat} {r : List ROp} {K : KS} (id : Nat) (hc : args.all argOK = true) (h : callW P q (freeze st id) f args (evL (freeze st id) args) d r K) : callW P q st f args as d r K := by
  rintro rfl
  refine fun E ρ a w vs hr hsz hrv => ?_
  have hr' := hr.freeze id
  refine h (evL_eq _ args) E ρ a w vs hr' hsz (fun j v x e1 e2 => ⟨?_, (hrv j v x e1 e2).2⟩)
  obtain ⟨g1, g2⟩ := hrv j v x e1 e2
  cases x with
  | t k =>
    obtain ⟨g3, g4⟩ := g2 k rfl
    have := evalRV hr' (.tmp k)
    simp only [trE, g3, if_true] at this
    rw [g4]
    exact this
  | c c =>
    have := List.all_eq_true.1 hc _ (List.mem_of_getElem? e2)
    exact RV.flA (show RV _ w ρ v c from g1) this
end Go.Proofs.YtgkcbhdpenmogaaDoor.Eng
