/- Pseudo: numbers beside each other, words before more words. -/
import Derived.Test.YtgkcbhdpenmogaaDoorPsForm
set_option linter.all false
namespace Go.Proofs.YtgkcbhdpenmogaaDoor.Ps
open Eng Sv
set_option maxRecDepth 10000
theorem cb_app (p : Bs) : ∀ a b : Bs, Lib.compareBytes (p ++ a) (p ++ b) = Lib.compareBytes a b := by
  induction p with
  | nil => intro a b; rfl
  | cons x r ih =>
    intro a b
    have hx : ¬ x < x := UInt8.lt_irrefl x
    rw [List.cons_append, List.cons_append, Lib.compareBytes, if_neg hx, if_neg hx, ih]
theorem cb_lt {x y : UInt8} (h : x.toNat < y.toNat) (a b : Bs) : Lib.compareBytes (x :: a) (y :: b) = -1 := by
  rw [Lib.compareBytes, if_pos (UInt8.lt_iff_toNat_lt.2 h)]
theorem cb_pre (p : Bs) (x : UInt8) (r : Bs) : Lib.compareBytes p (p ++ x :: r) = -1 := by
  have := cb_app p [] (x :: r)
  rw [List.append_nil] at this
  rw [this]; rfl
theorem all_rep (c : UInt8) (h : isD c = true) (k : Nat) : (List.replicate k c).all isD = true := by
  rw [List.all_eq_true]
  intro x hx
  rw [(List.mem_replicate.1 hx).2]; exact h
theorem isD_of {c : UInt8} (h0 : 48 ≤ c.toNat) (h1 : c.toNat ≤ 57) : isD c = true := by unfold isD; simp [h0, h1]
/-- one less -/
theorem lessN_num {n : Bs} (h : Num n) (h0 : n ≠ [48]) : Num (lessN n) ∧ numCmp (lessN n) n = -1 := by
  obtain ⟨p, c, k, e, hc, c0, c1⟩ := num_nz h h0
  have hc1 : (c - 1).toNat = c.toNat - 1 := by
    rw [UInt8.toNat_sub_of_le _ _ (by rw [UInt8.le_iff_toNat_le]; show 1 ≤ c.toNat; omega)]; rfl
  have hcn : c.toNat ≠ 48 := fun e => hc (UInt8.toNat.inj e)
  have hd1 : isD (c - 1) = true := isD_of (by omega) (by omega)
  have hall := h.1
  rw [e, List.all_append, Bool.and_eq_true] at hall
  have hX : (p ++ (c - 1) :: List.replicate k 57).all isD = true := by
    rw [List.all_append, List.all_cons, hall.1, hd1, all_rep 57 rfl]; rfl
  have hXl : (p ++ (c - 1) :: List.replicate k (57 : UInt8)).length = n.length := by rw [e]; simp
  have hcmp : Lib.compareBytes (p ++ (c - 1) :: List.replicate k 57) n = -1 := by
    rw [e, cb_app]
    exact cb_lt (by omega) _ _
  have hn : lessN n = stripP (p ++ (c - 1) :: List.replicate k 57) := by rw [e, lessN_at p c k hc]; rfl
  rw [hn]
  unfold stripP
  by_cases hs : 1 < (p ++ (c - 1) :: List.replicate k (57 : UInt8)).length ∧ (p ++ (c - 1) :: List.replicate k (57 : UInt8)).getD 0 0 = 48
  · rw [if_pos hs]
    obtain ⟨s1, s2⟩ := hs
    have hp : p = [] := by
      cases p with
      | nil => rfl
      | cons x r =>
        exfalso
        refine h.2.2 (by omega) ?_
        rw [e]; exact s2
    subst hp
    have hk : 0 < k := by simp at s1; omega
    have he : ([] ++ (c - 1) :: List.replicate k (57 : UInt8)).drop 1 = List.replicate k 57 := rfl
    rw [he]
    refine ⟨⟨all_rep 57 rfl k, fun e => by have := congrArg List.length e; simp at this; omega, fun _ => ?_⟩, ?_⟩
    · cases k with
      | zero => omega
      | succ k => simp [List.replicate_succ]
    · unfold numCmp
      have hl : (List.replicate k (57 : UInt8)).length = k := by simp
      have hnl : n.length = k + 1 := by rw [e]; simp
      rw [if_neg (by omega), if_pos (by omega)]
  · rw [if_neg hs]
    refine ⟨⟨hX, by simp, fun hl e0 => hs ⟨hl, e0⟩⟩, ?_⟩
    unfold numCmp
    rw [if_pos hXl, hcmp]
/-- one more -/
theorem moreN_num {n : Bs} (h : Num n) : Num (moreN n) ∧ numCmp n (moreN n) = -1 := by
  rcases last9 n with ⟨p, c, k, e, hc⟩ | ⟨k, e⟩
  · have hall := h.1
    rw [e, List.all_append, Bool.and_eq_true, List.all_cons, Bool.and_eq_true] at hall
    have hcd := hall.2.1
    unfold isD at hcd
    simp only [decide_eq_true_eq] at hcd
    have hcn : c.toNat ≠ 57 := fun e => hc (UInt8.toNat.inj e)
    have hc1 : (c + 1).toNat = c.toNat + 1 := by rw [UInt8.toNat_add]; show (c.toNat + 1) % 256 = _; omega
    have hm : moreN n = p ++ (c + 1) :: List.replicate k 48 := by rw [e]; exact moreN_at p c k hc
    rw [hm]
    refine ⟨⟨?_, by simp, fun hl => ?_⟩, ?_⟩
    · rw [List.all_append, List.all_cons, hall.1, isD_of (by omega) (by omega), all_rep 48 rfl]; rfl
    · cases p with
      | nil =>
        intro e0
        have e1 : c + 1 = 48 := e0
        have := congrArg UInt8.toNat e1
        rw [hc1] at this
        have : c.toNat + 1 = 48 := this
        omega
      | cons x r =>
        intro e0
        refine h.2.2 (by rw [e]; simp at hl ⊢; omega) ?_
        rw [e]; exact e0
    · unfold numCmp
      have hl : n.length = (p ++ (c + 1) :: List.replicate k 48).length := by rw [e]; simp
      rw [if_pos hl, e, cb_app]
      exact cb_lt (by omega) _ _
  · have hm : moreN n = 49 :: List.replicate k 48 := by rw [e]; exact moreN_all k
    rw [hm]
    refine ⟨⟨?_, by simp, fun _ => by simp⟩, ?_⟩
    · rw [List.all_cons, all_rep 48 rfl]; rfl
    · unfold numCmp
      have hl : n.length = k := by rw [e]; simp
      have hl2 : (49 :: List.replicate k (48 : UInt8)).length = k + 1 := by simp
      rw [if_neg (by omega), if_pos (by omega)]
/-- words -/
theorem split_ne (c : UInt8) : ∀ a : Bs, splitB c a ≠ []
  | [] => by simp [splitB]
  | x :: r => by
    rw [splitB]
    split
    · simp
    · split <;> simp
theorem split_app (c : UInt8) : ∀ a b : Bs, splitB c (a ++ c :: b) = splitB c a ++ splitB c b
  | [], b => by simp [splitB]
  | x :: r, b => by
    rw [List.cons_append, splitB, splitB]
    by_cases hx : x = c
    · rw [if_pos hx, if_pos hx, split_app c r b]; rfl
    · rw [if_neg hx, if_neg hx, split_app c r b]
      have := split_ne c r
      cases h : splitB c r with
      | nil => exact absurd h this
      | cons p ps => rfl
theorem words_app (a b : Bs) (pre : Bool) : wordsP (a ++ 46 :: b) pre = (wordsP a pre && wordsP b pre) := by
  unfold wordsP
  rw [split_app, List.all_append]
theorem lexL_pre : ∀ (l : List Bs) (x : Bs) (m : List Bs), lexL l (l ++ x :: m) = -1
  | [], x, m => rfl
  | y :: r, x, m => by rw [List.cons_append, lexL, if_pos rfl]; exact lexL_pre r x m
theorem lexL_app : ∀ (l : List Bs) (a b : List Bs), lexL (l ++ a) (l ++ b) = lexL a b
  | [], a, b => rfl
  | y :: r, a, b => by rw [List.cons_append, List.cons_append, lexL, if_pos rfl]; exact lexL_app r a b
/-- a word text before a longer one -/
theorem byWords_pre {a b : Bs} (ha : a ≠ []) (h : wordsP (a ++ 46 :: b) true = true) : byWordsP a (a ++ 46 :: b) = -1 := by
  have hw : wordsP a true = true := by rw [words_app, Bool.and_eq_true] at h; exact h.1
  rw [byWords_bw (words_VP hw) (words_VP h)]
  unfold W
  rw [if_neg ha, if_neg (by simp), split_app]
  have h1 := split_ne 46 a
  have h2 := split_ne 46 b
  cases ha' : splitB 46 a with
  | nil => exact absurd ha' h1
  | cons p ps =>
    cases hb' : splitB 46 b with
    | nil => exact absurd hb' h2
    | cons q qs =>
      rw [List.cons_append]
      show lexL (p :: ps) (p :: (ps ++ q :: qs)) = -1
      exact lexL_pre (p :: ps) q qs
theorem byWords_nil {a : Bs} (h : a ≠ []) : byWordsP a [] = -1 := by
  unfold byWordsP
  rw [if_neg h, if_neg h, if_pos rfl]
end Go.Proofs.YtgkcbhdpenmogaaDoor.Ps
