/- CommitApart: unlike commits have unlike bytes, and commits are no tags. -/
import Derived.Test.YtjpinndnicmokaaDoorCmTagP
set_option linter.all false
namespace Go.Proofs.YtjpinndnicmokaaDoor.Cm
open Eng Ob
set_option maxRecDepth 10000
theorem sameC_iff (a b : Cmt) : sameC a b = true ↔ a = b := by
  constructor
  · intro h
    unfold sameC at h
    simp only [Bool.and_eq_true, decide_eq_true_eq] at h
    cases a; cases b
    simp only at h
    obtain ⟨⟨⟨⟨rfl, rfl⟩, rfl⟩, rfl⟩, rfl⟩ := h
    rfl
  · rintro rfl; exact sameC_self a
theorem text_inj {a b : Cmt} (ha : checkP a = 0) (hb : checkP b = 0) (h : textP a = textP b) : a = b := by
  have h1 := parseL_textP a (checkP_form ha)
  rw [h, parseL_textP b (checkP_form hb)] at h1
  exact (Option.some.inj h1).symm
theorem tree_no (t : Tg) : lineL wTree (textT t) = none := by
  cases h : lineL wTree (textT t) with
  | none => rfl
  | some q =>
    obtain ⟨x, y⟩ := q
    have := (lineL_some h).1
    unfold textT wObject wTree at this
    simp at this
theorem object_no (c : Cmt) : lineL wObject (textP c) = none := by
  cases h : lineL wObject (textP c) with
  | none => rfl
  | some q =>
    obtain ⟨x, y⟩ := q
    have := (lineL_some h).1
    unfold textP wObject wTree at this
    simp at this
theorem nil_no (w : Bs) : lineL w [] = none := by
  unfold lineL
  rw [if_neg]
  rintro ⟨h, _⟩
  cases h
/-- what isn't of a commit is refused -/
theorem not_commit {s : Bs} (hs : s.length ≤ 4000000000000000000) (h : lineL wTree s = none) : Eng.Spec Tryd.prog 17 [] [.str s] (fun h x _ => h = [] ∧ x = .tup [parts c0 .nilsl, .int .i64 3]) := by
  have hp : parseL s = none := by unfold parseL; rw [h]
  refine spec_mono (cparse_ok s (parB_none hs h) (fun c hc => by rw [hp] at hc; cases hc)) (fun h' x _ ⟨h1, h2⟩ => ⟨h1, ?_⟩)
  rcases h2 with ⟨c, hc, _⟩ | ⟨_, rfl⟩
  · rw [hp] at hc; cases hc
  · have : readC s = 3 := by unfold readC; rw [hp]
    rw [this]
theorem not_tag {s : Bs} (hs : s.length ≤ 4000000000000000000) (h : lineL wObject s = none) : SpecR Tryd.prog 24 [.str s] (.tup [tgA t0, .int .i64 3]) := by
  have hp : parseTL s = none := by unfold parseTL; rw [h]
  have := cparsetag_ok s (tagB_none hs h) (fun t ht => by rw [hp] at ht; cases ht)
  have e1 : readT s = 3 := by unfold readT; rw [hp]
  have e2 : tagO s = t0 := by unfold tagO; rw [hp]
  rw [e1, e2] at this
  exact this
theorem apart_ok (a b : Cmt) (ha : CmSz a) (hb : CmSz b) (t : Tg) (ht : TgSz t) : SpecR Tryd.prog 8 [cmA a, cmA b, tgA t] (.bool true) := by
  refine Cod.lapart_spec (fun E R hN hR => ?_)
  have ret : ∀ h0 x y z, R h0 (.bool true) [x, y, z] := fun h0 x y z => hR.wk (h' := []) (r' := .bool true) (ar' := [x, y, z]) rfl (.le (by simp (disch := first | omega | (simp only [Lx]; omega)) only [go_sem, simprocAttr])) ⟨rfl, rfl⟩
  have fa := few_ok a ha
  have fb := few_ok b hb
  have sa := fewP_sz ha
  have sb := fewP_sz hb
  generalize fewP a = a' at *
  generalize fewP b = b' at *
  have ma := format_ok a' sa
  have mb := format_ok b' sb
  have mt := formattag_ok t ht
  have hsm := dsame_ok a' b' sa sb
  -- the commit's bytes are no tag's
  have hx : SpecR Tryd.prog 24 [.str (if checkP a' = 0 then textP a' else [])] (.tup [tgA t0, .int .i64 3]) := by
    by_cases h : checkP a' = 0
    · rw [if_pos h]
      exact not_tag (parB_text sa h (checkP_form h)).len (object_no a')
    · rw [if_neg h]
      exact not_tag (by simp) (nil_no _)
  -- the tag's bytes are no commit's
  have hz : Eng.Spec Tryd.prog 17 [] [.str (if checkT t = 0 then textT t else [])] (fun h x _ => h = [] ∧ x = .tup [parts c0 .nilsl, .int .i64 3]) := by
    by_cases h : checkT t = 0
    · rw [if_pos h]
      have := textT_len ht h
      have h1 := ht.1; have h2 := ht.2.2.1; have h3 := ht.2.2.2.2
      exact not_commit (by omega) (tree_no t)
    · rw [if_neg h]
      exact not_commit (by simp) (nil_no _)
  have heq : checkP a' = 0 → checkP b' = 0 → (decide (textP a' = textP b') == sameC a' b') = true := by
    intro h1 h2
    have : decide (textP a' = textP b') = sameC a' b' := by
      cases hs : sameC a' b' with
      | true =>
        obtain rfl := (sameC_iff a' b').1 hs
        simp
      | false =>
        rw [decide_eq_false]
        intro he
        rw [(sameC_iff a' b').2 (text_inj h1 h2 he)] at hs
        cases hs
    rw [this]; simp
  unfold fmtA at ma mb
  unfold fmtTA at mt
  have tail : vcW Tryd.prog E Cod.lapart_4 (KQ.post [.tmp 6] 3 R) ⟨[(5, .vptr 57005 0), (7, .str (if checkP a' = 0 then textP a' else [])), (8, .int .i64 (checkP a')), (45, .bool false)], [(57005, .var (tgL t)), (57004, .var (cmL b)), (57003, .var (cmL a))]⟩ := by
    generalize (if checkP a' = 0 then textP a' else []) = x at *
    generalize (if checkT t = 0 then textT t else []) = z at *
    unfold tgA tgL t0 at *
    unfold parts c0 at hz
    unfold cmL
    simp (disch := first | omega | (simp only [Lx]; omega)) only [go_sem, simprocAttr]
    refine call_ro mt rfl rfl ?_
    simp (disch := first | omega | (simp only [Lx]; omega)) only [go_sem, simprocAttr]
    refine call_ro' hz rfl ?_
    rintro h' v as' ⟨rfl, rfl⟩
    refine ⟨rfl, rfl, ?_⟩
    simp (disch := first | omega | (simp only [Lx]; omega)) only [go_sem, simprocAttr]
    refine call_ro hx rfl rfl ?_
    simp (disch := first | omega | (simp only [Lx]; omega)) only [go_sem, simprocAttr]
    refine call_ro awake_ok rfl rfl ?_
    by_cases g : checkT t = 0
    · by_cases h : checkP a' = 0
      · simp (disch := first | omega | (simp only [Lx]; omega)) only [go_sem, simprocAttr, g, h]
        (repeat (first | (with_reducible refine gskip_of ?_) | (with_reducible refine gcskip_of ?_) | (with_reducible refine gopen_of ?_)) <;> simp (disch := first | omega | (simp only [Lx]; omega)) only [go_sem, simprocAttr, g, h])
        exact ret _ _ _ _
      · simp (disch := first | omega | (simp only [Lx]; omega)) only [go_sem, simprocAttr, g, h]
        (repeat (first | (with_reducible refine gskip_of ?_) | (with_reducible refine gcskip_of ?_) | (with_reducible refine gopen_of ?_)) <;> simp (disch := first | omega | (simp only [Lx]; omega)) only [go_sem, simprocAttr, g, h])
        exact ret _ _ _ _
    · by_cases h : checkP a' = 0
      · simp (disch := first | omega | (simp only [Lx]; omega)) only [go_sem, simprocAttr, g, h]
        (repeat (first | (with_reducible refine gskip_of ?_) | (with_reducible refine gcskip_of ?_) | (with_reducible refine gopen_of ?_)) <;> simp (disch := first | omega | (simp only [Lx]; omega)) only [go_sem, simprocAttr, g, h])
        exact ret _ _ _ _
      · simp (disch := first | omega | (simp only [Lx]; omega)) only [go_sem, simprocAttr, g, h]
        (repeat (first | (with_reducible refine gskip_of ?_) | (with_reducible refine gcskip_of ?_) | (with_reducible refine gopen_of ?_)) <;> simp (disch := first | omega | (simp only [Lx]; omega)) only [go_sem, simprocAttr, g, h])
        exact ret _ _ _ _
  unfold cmA tgA tgL at *
  unfold cmL at tail
  simp (disch := first | omega | (simp only [Lx]; omega)) only [go_sem, simprocAttr] at tail
  by_cases h1 : checkP a' = 0
  · by_cases h2 : checkP b' = 0
    · have heq := heq h1 h2
      rw [if_pos h1, h1] at ma tail
      rw [if_pos h2, h2] at mb
      simp (disch := first | omega | (simp only [Lx]; omega)) only [go_sem, simprocAttr]
      refine call_ro fa rfl rfl ?_
      simp (disch := first | omega | (simp only [Lx]; omega)) only [go_sem, simprocAttr]
      refine call_ro ma rfl rfl ?_
      simp (disch := first | omega | (simp only [Lx]; omega)) only [go_sem, simprocAttr]
      refine call_ro fb rfl rfl ?_
      simp (disch := first | omega | (simp only [Lx]; omega)) only [go_sem, simprocAttr]
      refine call_ro mb rfl rfl ?_
      simp (disch := first | omega | (simp only [Lx]; omega)) only [go_sem, simprocAttr]
      (repeat (first | (with_reducible refine gskip_of ?_) | (with_reducible refine gcskip_of ?_) | (with_reducible refine gopen_of ?_)) <;> simp (disch := first | omega | (simp only [Lx]; omega)) only [go_sem, simprocAttr])
      refine gcyes_of (callT_ro (by simp (disch := first | omega | (simp only [Lx]; omega)) only [go_sem, simprocAttr]) fa (by simp (disch := first | omega | (simp only [Lx]; omega)) only [go_sem, simprocAttr]) rfl rfl ?_)
      simp (disch := first | omega | (simp only [Lx]; omega)) only [go_sem, simprocAttr]
      refine gcyes_of (callT_ro (by simp (disch := first | omega | (simp only [Lx]; omega)) only [go_sem, simprocAttr]) fb (by simp (disch := first | omega | (simp only [Lx]; omega)) only [go_sem, simprocAttr]) rfl rfl ?_)
      simp (disch := first | omega | (simp only [Lx]; omega)) only [go_sem, simprocAttr]
      refine gcyes_of (callT_ro (by simp (disch := first | omega | (simp only [Lx]; omega)) only [go_sem, simprocAttr]) hsm (by simp (disch := first | omega | (simp only [Lx]; omega)) only [go_sem, simprocAttr]) rfl rfl ?_)
      simp (disch := first | omega | (simp only [Lx]; omega)) only [go_sem, simprocAttr, heq, Bool.not_true]
      exact tail
    · simp (disch := first | omega | (simp only [Lx]; omega)) only [go_sem, simprocAttr]
      refine call_ro fa rfl rfl ?_
      simp (disch := first | omega | (simp only [Lx]; omega)) only [go_sem, simprocAttr]
      refine call_ro ma rfl rfl ?_
      simp (disch := first | omega | (simp only [Lx]; omega)) only [go_sem, simprocAttr]
      refine call_ro fb rfl rfl ?_
      simp (disch := first | omega | (simp only [Lx]; omega)) only [go_sem, simprocAttr]
      refine call_ro mb rfl rfl ?_
      simp (disch := first | omega | (simp only [Lx]; omega)) only [go_sem, simprocAttr, h1, h2]
      (repeat (first | (with_reducible refine gskip_of ?_) | (with_reducible refine gcskip_of ?_) | (with_reducible refine gopen_of ?_)) <;> simp (disch := first | omega | (simp only [Lx]; omega)) only [go_sem, simprocAttr, h1, h2])
      rw [h1] at tail
      exact tail
  · simp (disch := first | omega | (simp only [Lx]; omega)) only [go_sem, simprocAttr]
    refine call_ro fa rfl rfl ?_
    simp (disch := first | omega | (simp only [Lx]; omega)) only [go_sem, simprocAttr]
    refine call_ro ma rfl rfl ?_
    simp (disch := first | omega | (simp only [Lx]; omega)) only [go_sem, simprocAttr]
    refine call_ro fb rfl rfl ?_
    simp (disch := first | omega | (simp only [Lx]; omega)) only [go_sem, simprocAttr]
    refine call_ro mb rfl rfl ?_
    simp (disch := first | omega | (simp only [Lx]; omega)) only [go_sem, simprocAttr, h1]
    (repeat (first | (with_reducible refine gskip_of ?_) | (with_reducible refine gcskip_of ?_) | (with_reducible refine gopen_of ?_)) <;> simp (disch := first | omega | (simp only [Lx]; omega)) only [go_sem, simprocAttr, h1])
    rw [if_neg h1] at tail
    exact tail
end Go.Proofs.YtjpinndnicmokaaDoor.Cm
