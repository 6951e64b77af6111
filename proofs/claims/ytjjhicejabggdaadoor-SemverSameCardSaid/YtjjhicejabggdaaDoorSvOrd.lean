/- semver: the order is a total preorder. -/
import Derived.Test.YtjjhicejabggdaaDoorSvTop
set_option linter.all false
namespace Go.Proofs.YtjjhicejabggdaaDoor.Sv
open Eng
structure TP {α : Type} (D : α → Prop) (f : α → α → Int) : Prop where
  anti : ∀ a b, D a → D b → f b a = - f a b
  trans : ∀ a b c, D a → D b → D c → f a b ≤ 0 → f b c ≤ 0 → f a c ≤ 0
  unit : ∀ a b, D a → D b → -1 ≤ f a b ∧ f a b ≤ 1
theorem TP.eq0 {α : Type} {D : α → Prop} {f : α → α → Int} (h : TP D f) {a b c : α} (ha : D a) (hb : D b) (hc : D c) (h1 : f a b ≤ 0) (h2 : f b c ≤ 0) (h3 : f a c = 0) : f a b = 0 ∧ f b c = 0 := by
  have e1 := h.anti a c ha hc
  have e2 := h.trans b c a hb hc ha h2 (by omega)
  have e3 := h.anti a b ha hb
  have e4 := h.trans c a b hc ha hb (by omega) h1
  have e5 := h.anti b c hb hc
  omega
theorem TP.lex {α : Type} {D : α → Prop} {f g : α → α → Int} (h : TP D f) (k : TP D g) : TP D (fun a b => if f a b ≠ 0 then f a b else g a b) where
  anti := fun a b ha hb => by
    have e1 := h.anti a b ha hb
    have e2 := k.anti a b ha hb
    split <;> split <;> omega
  trans := fun a b c ha hb hc h1 h2 => by
    have hab : f a b ≤ 0 := by split at h1 <;> omega
    have hbc : f b c ≤ 0 := by split at h2 <;> omega
    have hac := h.trans a b c ha hb hc hab hbc
    split
    · exact hac
    · rename_i h0
      have h0 : f a c = 0 := by omega
      obtain ⟨e1, e2⟩ := h.eq0 ha hb hc hab hbc h0
      rw [if_neg (by omega)] at h1 h2
      exact k.trans a b c ha hb hc h1 h2
  unit := fun a b ha hb => by
    split
    · exact h.unit a b ha hb
    · exact k.unit a b ha hb
theorem TP.pull {α β : Type} {D : α → Prop} {f : α → α → Int} (h : TP D f) (g : β → α) (D' : β → Prop) (hD : ∀ b, D' b → D (g b)) : TP D' (fun a b => f (g a) (g b)) where
  anti := fun a b ha hb => h.anti _ _ (hD a ha) (hD b hb)
  trans := fun a b c ha hb hc => h.trans _ _ _ (hD a ha) (hD b hb) (hD c hc)
  unit := fun a b ha hb => h.unit _ _ (hD a ha) (hD b hb)
theorem cb_anti : ∀ a b : Bs, Lib.compareBytes b a = - Lib.compareBytes a b
  | [], [] => rfl
  | [], _ :: _ => rfl
  | _ :: _, [] => rfl
  | x :: r, y :: t => by
    simp only [Lib.compareBytes]
    have ih := cb_anti r t
    by_cases h1 : x < y
    · have h2 : ¬ y < x := by simp only [UInt8.lt_iff_toNat_lt] at *; omega
      simp [h1, h2]
    · by_cases h2 : y < x
      · simp [h1, h2]
      · simp [h1, h2, ih]
theorem cb_unit : ∀ a b : Bs, -1 ≤ Lib.compareBytes a b ∧ Lib.compareBytes a b ≤ 1
  | [], [] => by simp [Lib.compareBytes]
  | [], _ :: _ => by simp [Lib.compareBytes]
  | _ :: _, [] => by simp [Lib.compareBytes]
  | x :: r, y :: t => by
    simp only [Lib.compareBytes]
    split
    · omega
    · split
      · omega
      · exact cb_unit r t
theorem cb_zero : ∀ {a b : Bs}, Lib.compareBytes a b = 0 → a = b
  | [], [], _ => rfl
  | [], _ :: _, h => by simp [Lib.compareBytes] at h
  | _ :: _, [], h => by simp [Lib.compareBytes] at h
  | x :: r, y :: t, h => by
    simp only [Lib.compareBytes] at h
    split at h
    · omega
    · split at h
      · omega
      · rename_i h1 h2
        have : x = y := by
          simp only [UInt8.lt_iff_toNat_lt] at h1 h2
          exact UInt8.toNat.inj (by omega)
        rw [this, cb_zero h]
theorem cb_refl : ∀ a : Bs, Lib.compareBytes a a = 0
  | [] => rfl
  | x :: r => by
    have : ¬ x < x := by simp only [UInt8.lt_iff_toNat_lt]; omega
    simp [Lib.compareBytes, this, cb_refl r]
theorem cb_trans : ∀ a b c : Bs, Lib.compareBytes a b ≤ 0 → Lib.compareBytes b c ≤ 0 → Lib.compareBytes a c ≤ 0
  | [], _, [], _, _ => by simp [Lib.compareBytes]
  | [], _, _ :: _, _, _ => by simp [Lib.compareBytes]
  | _ :: _, [], _, h, _ => by simp [Lib.compareBytes] at h
  | _ :: _, _ :: _, [], _, h => by simp [Lib.compareBytes] at h
  | x :: r, y :: t, z :: u, h1, h2 => by
    simp only [Lib.compareBytes, UInt8.lt_iff_toNat_lt] at h1 h2 ⊢
    have ih := cb_trans r t u
    split at h1
    · split at h2
      · rw [if_pos (by omega)]; omega
      · split at h2
        · omega
        · rw [if_pos (by omega)]; omega
    · split at h1
      · omega
      · split at h2
        · rw [if_pos (by omega)]; omega
        · split at h2
          · omega
          · rw [if_neg (by omega), if_neg (by omega)]
            exact ih h1 h2
theorem cb_tp : TP (fun _ => True) Lib.compareBytes := ⟨fun a b _ _ => cb_anti a b, fun a b c _ _ _ => cb_trans a b c, fun a b _ _ => cb_unit a b⟩
def lenCmp (a b : Bs) : Int := if a.length = b.length then 0 else if a.length < b.length then -1 else 1
theorem lenCmp_tp : TP (fun _ => True) lenCmp := by
  refine ⟨fun a b _ _ => ?_, fun a b c _ _ _ h1 h2 => ?_, fun a b _ _ => ?_⟩
  · unfold lenCmp; split <;> split <;> (try split) <;> (try split) <;> omega
  · unfold lenCmp at *
    split at h1 <;> split at h2 <;> (try split at h1) <;> (try split at h2) <;> split <;> (try split) <;> omega
  · unfold lenCmp; split <;> (try split) <;> omega
theorem numCmp_lex (a b : Bs) : numCmp a b = if lenCmp a b ≠ 0 then lenCmp a b else Lib.compareBytes a b := by
  unfold numCmp lenCmp
  split
  · simp
  · split <;> simp
theorem numCmp_tp : TP (fun _ => True) numCmp := by
  have : numCmp = fun a b => if lenCmp a b ≠ 0 then lenCmp a b else Lib.compareBytes a b := by funext a b; exact numCmp_lex a b
  rw [this]
  exact lenCmp_tp.lex cb_tp
theorem numCmp_zero {a b : Bs} (h : numCmp a b = 0) : a = b := by
  unfold numCmp at h
  split at h
  · exact cb_zero h
  · split at h <;> omega
theorem numCmp_refl (a : Bs) : numCmp a a = 0 := by simp [numCmp, cb_refl]
theorem wc_tt {x y : Bs} (h1 : digB x = true) (h2 : digB y = true) : wordCmp x y = numCmp x y := by simp [wordCmp, h1, h2]
theorem wc_tf {x y : Bs} (h1 : digB x = true) (h2 : digB y = false) : wordCmp x y = -1 := by simp [wordCmp, h1, h2]
theorem wc_ft {x y : Bs} (h1 : digB x = false) (h2 : digB y = true) : wordCmp x y = 1 := by simp [wordCmp, h1, h2]
theorem wc_ff {x y : Bs} (h1 : digB x = false) (h2 : digB y = false) : wordCmp x y = Lib.compareBytes x y := by simp [wordCmp, h1, h2]
theorem wordCmp_tp : TP (fun _ => True) wordCmp := by
  refine ⟨fun a b _ _ => ?_, fun a b c _ _ _ h1 h2 => ?_, fun a b _ _ => ?_⟩
  · cases ha : digB a <;> cases hb : digB b
    · rw [wc_ff hb ha, wc_ff ha hb]; exact cb_anti a b
    · rw [wc_tf hb ha, wc_ft ha hb]
    · rw [wc_ft hb ha, wc_tf ha hb]; rfl
    · rw [wc_tt hb ha, wc_tt ha hb]; exact numCmp_tp.anti a b trivial trivial
  · cases ha : digB a <;> cases hb : digB b <;> cases hc : digB c
    · rw [wc_ff ha hb] at h1; rw [wc_ff hb hc] at h2; rw [wc_ff ha hc]; exact cb_trans a b c h1 h2
    · rw [wc_ft hb hc] at h2; omega
    · rw [wc_ft ha hb] at h1; omega
    · rw [wc_ft ha hb] at h1; omega
    · rw [wc_tf ha hc]; omega
    · rw [wc_ft hb hc] at h2; omega
    · rw [wc_tf ha hc]; omega
    · rw [wc_tt ha hb] at h1; rw [wc_tt hb hc] at h2; rw [wc_tt ha hc]; exact numCmp_tp.trans a b c trivial trivial trivial h1 h2
  · cases ha : digB a <;> cases hb : digB b
    · rw [wc_ff ha hb]; exact cb_unit a b
    · rw [wc_ft ha hb]; omega
    · rw [wc_tf ha hb]; omega
    · rw [wc_tt ha hb]; exact numCmp_tp.unit a b trivial trivial
theorem wordCmp_zero {a b : Bs} (h : wordCmp a b = 0) : a = b := by
  cases ha : digB a <;> cases hb : digB b
  · rw [wc_ff ha hb] at h; exact cb_zero h
  · rw [wc_ft ha hb] at h; omega
  · rw [wc_tf ha hb] at h; omega
  · rw [wc_tt ha hb] at h; exact numCmp_zero h
def lexL : List Bs → List Bs → Int
  | [], [] => 0
  | [], _ :: _ => -1
  | _ :: _, [] => 1
  | x :: r, y :: t => if x = y then lexL r t else wordCmp x y
theorem lexL_anti : ∀ a b, lexL b a = - lexL a b
  | [], [] => rfl
  | [], _ :: _ => rfl
  | _ :: _, [] => rfl
  | x :: r, y :: t => by
    simp only [lexL]
    by_cases h : x = y
    · rw [if_pos h, if_pos h.symm]; exact lexL_anti r t
    · rw [if_neg h, if_neg (fun e => h e.symm)]; exact wordCmp_tp.anti x y trivial trivial
theorem lexL_unit : ∀ a b, -1 ≤ lexL a b ∧ lexL a b ≤ 1
  | [], [] => by simp [lexL]
  | [], _ :: _ => by simp [lexL]
  | _ :: _, [] => by simp [lexL]
  | x :: r, y :: t => by
    simp only [lexL]
    split
    · exact lexL_unit r t
    · exact wordCmp_tp.unit x y trivial trivial
theorem lexL_trans : ∀ a b c, lexL a b ≤ 0 → lexL b c ≤ 0 → lexL a c ≤ 0
  | [], _, [], _, _ => by simp [lexL]
  | [], _, _ :: _, _, _ => by simp [lexL]
  | _ :: _, [], _, h, _ => by simp [lexL] at h
  | _ :: _, _ :: _, [], _, h => by simp [lexL] at h
  | x :: r, y :: t, z :: u, h1, h2 => by
    simp only [lexL] at h1 h2 ⊢
    by_cases hxy : x = y
    · rw [if_pos hxy] at h1
      by_cases hyz : y = z
      · rw [if_pos hyz] at h2
        rw [if_pos (hxy.trans hyz)]
        exact lexL_trans r t u h1 h2
      · rw [if_neg hyz] at h2
        rw [hxy, if_neg hyz]; exact h2
    · rw [if_neg hxy] at h1
      by_cases hyz : y = z
      · rw [if_pos hyz] at h2
        rw [← hyz, if_neg hxy]; exact h1
      · rw [if_neg hyz] at h2
        by_cases hxz : x = z
        · have := wordCmp_tp.anti x y trivial trivial
          rw [← hxz] at h2
          exact absurd (wordCmp_zero (by omega : wordCmp x y = 0)) hxy
        · rw [if_neg hxz]
          exact wordCmp_tp.trans x y z trivial trivial trivial h1 h2
/-- nothing stands behind all -/
def bw : List Bs → List Bs → Int
  | [], [] => 0
  | [], _ :: _ => 1
  | _ :: _, [] => -1
  | x :: r, y :: t => lexL (x :: r) (y :: t)
theorem bw_tp : TP (fun _ => True) bw := by
  refine ⟨fun a b _ _ => ?_, fun a b c _ _ _ h1 h2 => ?_, fun a b _ _ => ?_⟩
  · cases a <;> cases b
    · rfl
    · rfl
    · rfl
    · exact lexL_anti _ _
  · cases a <;> cases b <;> cases c
    all_goals first | exact lexL_trans _ _ _ h1 h2 | (simp [bw] at h1 h2 ⊢; done) | skip
    all_goals simp_all [bw]
  · cases a <;> cases b
    · simp [bw]
    · simp [bw]
    · simp [bw]
    · exact lexL_unit _ _
/- THE WORDS OF A PRERELEASE -/
def W (s : Bs) : List Bs := if s = [] then [] else splitB 46 s
def VP (s : Bs) : Prop := ∀ w ∈ W s, w ≠ []
theorem split_cut : ∀ s : Bs, ((cutP 46 s).2.2 = false ∧ splitB 46 s = [s] ∧ cutP 46 s = (s, [], false)) ∨ ((cutP 46 s).2.2 = true ∧ splitB 46 s = (cutP 46 s).1 :: splitB 46 (cutP 46 s).2.1)
  | [] => .inl ⟨rfl, rfl, rfl⟩
  | x :: r => by
    by_cases hx : x = 46
    · exact .inr ⟨by simp [cutP, hx], by simp [cutP, splitB, hx]⟩
    · rcases split_cut r with ⟨h1, h2, h3⟩ | ⟨h1, h2⟩
      · exact .inl ⟨by simp [cutP, hx, h3], by simp [splitB, hx, h2], by simp [cutP, hx, h3]⟩
      · exact .inr ⟨by simp [cutP, hx, h1], by simp [cutP, splitB, hx, h2]⟩
theorem W_step {s : Bs} (h : VP s) (hs : s ≠ []) : W s = (cutP 46 s).1 :: W (cutP 46 s).2.1 ∧ VP (cutP 46 s).2.1 := by
  unfold VP W at *
  rw [if_neg hs] at h ⊢
  rcases split_cut s with ⟨_, h2, h3⟩ | ⟨_, h2⟩
  · rw [h3]; simp [h2]
  · have hne : (cutP 46 s).2.1 ≠ [] := by
      intro e
      rw [h2, e] at h
      exact h [] (by simp [splitB]) rfl
    rw [if_neg hne, h2]
    rw [h2] at h
    exact ⟨rfl, fun w hw => h w (List.mem_cons_of_mem _ hw)⟩
theorem splitB_inj (c : UInt8) : ∀ a b : Bs, splitB c a = splitB c b → a = b
  | [], [], _ => rfl
  | [], y :: t, h => by
    unfold splitB at h
    split at h
    · simp at h; exact absurd h (splitB_ne c t)
    · split at h <;> simp at h
  | x :: r, [], h => by
    have h := h.symm
    unfold splitB at h
    split at h
    · simp at h; exact absurd h (splitB_ne c r)
    · split at h <;> simp at h
  | x :: r, y :: t, h => by
    rw [splitB, splitB] at h
    by_cases hx : x = c
    · by_cases hy : y = c
      · simp only [hx, hy, if_true, List.cons.injEq, true_and] at h
        rw [hx, hy, splitB_inj c r t h]
      · rw [if_pos hx, if_neg hy] at h
        split at h <;> simp at h
    · by_cases hy : y = c
      · rw [if_neg hx, if_pos hy] at h
        split at h <;> simp at h
      · rw [if_neg hx, if_neg hy] at h
        split at h
        · rename_i e; exact absurd e (splitB_ne c r)
        · split at h
          · rename_i e; exact absurd e (splitB_ne c t)
          · rename_i p ps e1 _ q qs e2
            simp only [List.cons.injEq] at h
            obtain ⟨⟨rfl, rfl⟩, rfl⟩ := h
            rw [splitB_inj c r t (e1.trans e2.symm)]
theorem W_inj {a b : Bs} (h : W a = W b) : a = b := by
  unfold W at h
  split at h
  · split at h
    · rename_i h1 h2; rw [h1, h2]
    · exact absurd h.symm (splitB_ne _ _)
  · split at h
    · exact absurd h (splitB_ne _ _)
    · exact splitB_inj 46 a b h
theorem W_nil {a : Bs} : W a = [] ↔ a = [] := by
  unfold W
  split
  · simp_all
  · rename_i h; simp [splitB_ne, h]
theorem wcmp_lex : ∀ (n : Nat) (a b : Bs), a.length ≤ n → VP a → VP b → a ≠ b → wcmp n a b = lexL (W a) (W b)
  | 0, a, b, hn, _, _, hab => by
    have : a = [] := List.eq_nil_of_length_eq_zero (by omega)
    subst this
    rw [wcmp, if_pos rfl, W_nil.2 rfl]
    cases hb : W b with
    | nil => exact absurd (W_nil.1 hb).symm hab
    | cons y t => rfl
  | n + 1, a, b, hn, ha, hb, hab => by
    by_cases ha0 : a = []
    · subst ha0
      rw [wcmp, if_pos rfl, W_nil.2 rfl]
      cases hb : W b with
      | nil => exact absurd (W_nil.1 hb).symm hab
      | cons y t => rfl
    · by_cases hb0 : b = []
      · subst hb0
        rw [wcmp, if_neg ha0, if_pos rfl, (W_step ha ha0).1, W_nil.2 rfl]
        rfl
      · obtain ⟨a1, a2⟩ := W_step ha ha0
        obtain ⟨b1, b2⟩ := W_step hb hb0
        have hs := cutP_short 46 ha0
        rw [wcmp, if_neg ha0, if_neg hb0, a1, b1, lexL]
        by_cases hh : (cutP 46 a).1 = (cutP 46 b).1
        · rw [if_pos hh, if_pos hh]
          refine wcmp_lex n _ _ (by omega) a2 b2 (fun e => hab (W_inj ?_))
          rw [a1, b1, hh, e]
        · rw [if_neg hh, if_neg hh]
theorem byWords_bw {a b : Bs} (ha : VP a) (hb : VP b) : byWordsP a b = bw (W a) (W b) := by
  unfold byWordsP
  by_cases hab : a = b
  · subst hab
    rw [if_pos rfl]
    have := bw_tp.anti (W a) (W a) trivial trivial
    omega
  rw [if_neg hab]
  by_cases ha0 : a = []
  · subst ha0
    rw [if_pos rfl, W_nil.2 rfl]
    cases hb : W b with
    | nil => exact absurd (W_nil.1 hb).symm hab
    | cons y t => rfl
  rw [if_neg ha0]
  by_cases hb0 : b = []
  · subst hb0
    rw [if_pos rfl, W_nil.2 rfl, (W_step ha ha0).1]
    rfl
  rw [if_neg hb0, wcmp_lex _ a b (Nat.le_refl _) ha hb hab, (W_step ha ha0).1, (W_step hb hb0).1]
  rfl
theorem byWords_tp : TP VP byWordsP := by
  refine ⟨fun a b ha hb => ?_, fun a b c ha hb hc h1 h2 => ?_, fun a b ha hb => ?_⟩
  · rw [byWords_bw ha hb, byWords_bw hb ha]; exact bw_tp.anti _ _ trivial trivial
  · rw [byWords_bw ha hb] at h1; rw [byWords_bw hb hc] at h2; rw [byWords_bw ha hc]; exact bw_tp.trans _ _ _ trivial trivial trivial h1 h2
  · rw [byWords_bw ha hb]; exact bw_tp.unit _ _ trivial trivial
theorem cmpV_tp : TP (fun v : Ver => VP v.pr) cmpV := by
  have : cmpV = fun v w => if numCmp v.mj w.mj ≠ 0 then numCmp v.mj w.mj else (fun v w : Ver => if numCmp v.mi w.mi ≠ 0 then numCmp v.mi w.mi else (fun v w : Ver => if numCmp v.pa w.pa ≠ 0 then numCmp v.pa w.pa else byWordsP v.pr w.pr) v w) v w := rfl
  rw [this]
  exact (numCmp_tp.pull Ver.mj _ (fun _ _ => trivial)).lex ((numCmp_tp.pull Ver.mi _ (fun _ _ => trivial)).lex ((numCmp_tp.pull Ver.pa _ (fun _ _ => trivial)).lex (byWords_tp.pull Ver.pr _ (fun _ h => h))))
def VO : Option Ver → Prop
  | none => True
  | some v => VP v.pr
theorem cmpO_tp : TP VO cmpO := by
  refine ⟨fun a b ha hb => ?_, fun a b c ha hb hc h1 h2 => ?_, fun a b ha hb => ?_⟩
  · cases a <;> cases b
    · rfl
    · rfl
    · rfl
    · exact cmpV_tp.anti _ _ ha hb
  · cases a <;> cases b <;> cases c
    all_goals first | exact cmpV_tp.trans _ _ _ ha hb hc h1 h2 | simp_all [cmpO]
  · cases a <;> cases b
    · simp [cmpO]
    · simp [cmpO]
    · simp [cmpO]
    · exact cmpV_tp.unit _ _ ha hb
theorem words_VP {s : Bs} (h : wordsP s true = true) : VP s := by
  intro w hw e
  unfold W at hw
  split at hw
  · cases hw
  · unfold wordsP at h
    have := List.all_eq_true.1 h w hw
    subst e
    simp [wordOK, wbad] at this
theorem parse7_VP {mj mi pa bu r : Bs} {v : Ver} (h : parse7 mj mi pa bu r = some v) : VP v.pr := by
  unfold parse7 at h
  split at h
  · cases h; intro w hw; simp [W] at hw
  · split at h
    · rename_i hc; cases h; exact words_VP hc.2
    · cases h
theorem VP_nil : VP [] := fun w hw => by simp [W] at hw
theorem parseP_VP (s : Bs) : VO (parseP s) := by
  cases h : parseP s with
  | none => trivial
  | some v =>
    show VP v.pr
    unfold parseP at h
    split at h
    · cases h
    unfold parse1 at h
    split at h
    · cases h
    unfold parse2 at h
    split at h
    · cases h; exact VP_nil
    split at h
    · cases h
    unfold parse3 at h
    split at h
    · cases h
    unfold parse4 at h
    split at h
    · cases h; exact VP_nil
    split at h
    · cases h
    unfold parse5 at h
    split at h
    · cases h
    unfold parse6 at h
    split at h
    · cases h
    exact parse7_VP h
theorem cmpP_tp : TP (fun _ => True) cmpP := cmpO_tp.pull parseP _ (fun s _ => parseP_VP s)
end Go.Proofs.YtjjhicejabggdaaDoor.Sv
