/- CommitMessages: a commit's message is just what stands behind the empty line. -/
import Derived.Test.YtjpinndnicmokaaDoorCmTag
set_option linter.all false
namespace Go.Proofs.YtjpinndnicmokaaDoor.Cm
open Eng Ob
set_option maxRecDepth 10000
theorem checkP_msg (d : Cmt) (m : Bs) : checkP { d with msg := m } = checkP d := rfl
theorem text_msg (d : Cmt) (m : Bs) : textP { d with msg := m } = textP { d with msg := [] } ++ m := by simp [textP]
theorem text_end (d : Cmt) : ∃ p : Bs, 1 ≤ p.length ∧ textP { d with msg := [] } = p ++ [10, 10] :=
  ⟨wTree ++ 32 :: (d.tree ++ 10 :: (parT d.parents ++ (wAuthor ++ 32 :: (signT d.author ++ 10 :: (wCommitter ++ 32 :: signT d.committer))))), by simp only [Lx]; omega, by simp [textP]⟩
theorem text_len {d : Cmt} (hs : CmSz d) (h : checkP d = 0) : (textP d).length ≤ 4000000000000000000 := (parB_text hs h (checkP_form h)).len
theorem messages_ok (c : Cmt) (hs0 : CmSz c) (m : Bs) (hm : m.length ≤ 140737488351232) : SpecR Tryd.prog 6 [cmA c, .str m] (.bool true) := by
  refine Cod.lmessages_spec (fun E R hN hR => ?_)
  have hf := few_ok c hs0
  have hsd := fewP_sz hs0
  have key : ∀ q : Bs, q.length ≤ 300 → vcW Tryd.prog E Cod.lmessages_2 (KQ.post [.tmp 4] 2 R) ⟨[(1, .str q), (2, .vptr 55002 0)], [(55002, .var (cmL c))]⟩ := by
    intro q hq
    generalize fewP c = d at *
    have hsa : CmSz { d with msg := [] } := ⟨hsd.1, hsd.2.1, hsd.2.2.1, hsd.2.2.2.1, by simp⟩
    have hsb : CmSz { d with msg := q } := ⟨hsd.1, hsd.2.1, hsd.2.2.1, hsd.2.2.2.1, by simp only; omega⟩
    have fa := format_ok _ hsa
    have fb := format_ok _ hsb
    have ret : ∀ h0 a b, R h0 (.bool true) [a, b] := fun h0 a b => hR.wk (h' := []) (r' := .bool true) (ar' := [a, b]) rfl (.le (by simp (disch := first | omega | (simp only [Lx]; omega)) only [go_sem, simprocAttr])) ⟨rfl, rfl⟩
    unfold fmtA cmA at fa fb
    unfold cmA at hf
    rw [checkP_msg] at fa fb
    simp only at fa fb
    unfold cmL
    by_cases h0 : checkP d = 0
    · rw [if_pos h0, h0] at fa fb
      obtain ⟨p, hp1, hp⟩ := text_end d
      have hlen : (textP { d with msg := [] }).length ≤ 4000000000000000000 := text_len hsa (by rw [checkP_msg]; exact h0)
      rw [text_msg d q] at fb
      rw [hp] at fa fb hlen
      have hpl : p.length ≤ 4000000000000000000 := by simp at hlen; omega
      have hd : List.drop ((p.length : Int) + 2 - 2).toNat (p ++ [10, 10]) = [10, 10] := by
        rw [show ((p.length : Int) + 2 - 2).toNat = p.length by omega]; simp
      simp (disch := first | omega | (simp only [Lx]; omega)) only [go_sem, simprocAttr]
      refine call_ro hf rfl rfl ?_
      simp (disch := first | omega | (simp only [Lx]; omega)) only [go_sem, simprocAttr]
      refine call_ro hf rfl rfl ?_
      simp (disch := first | omega | (simp only [Lx]; omega)) only [go_sem, simprocAttr]
      refine call_ro fa rfl rfl ?_
      simp (disch := first | omega | (simp only [Lx]; omega)) only [go_sem, simprocAttr]
      refine call_ro fb rfl rfl ?_
      simp (disch := first | omega | (simp only [Lx]; omega)) only [go_sem, simprocAttr]
      refine call_ro awake_ok rfl rfl ?_
      simp (disch := first | omega | (simp only [Lx]; omega)) only [go_sem, simprocAttr]
      (repeat (first | (with_reducible refine gskip_of ?_) | (with_reducible refine gcskip_of ?_) | (with_reducible refine gopen_of ?_)) <;> simp (disch := first | omega | (simp only [Lx]; omega)) only [go_sem, simprocAttr])
      exact ret _ _ _
    · rw [if_neg h0] at fa fb
      simp (disch := first | omega | (simp only [Lx]; omega)) only [go_sem, simprocAttr]
      refine call_ro hf rfl rfl ?_
      simp (disch := first | omega | (simp only [Lx]; omega)) only [go_sem, simprocAttr]
      refine call_ro hf rfl rfl ?_
      simp (disch := first | omega | (simp only [Lx]; omega)) only [go_sem, simprocAttr]
      refine call_ro fa rfl rfl ?_
      simp (disch := first | omega | (simp only [Lx]; omega)) only [go_sem, simprocAttr]
      refine call_ro fb rfl rfl ?_
      simp (disch := first | omega | (simp only [Lx]; omega)) only [go_sem, simprocAttr]
      refine call_ro awake_ok rfl rfl ?_
      simp (disch := first | omega | (simp only [Lx]; omega)) only [go_sem, simprocAttr, h0]
      (repeat (first | (with_reducible refine gskip_of ?_) | (with_reducible refine gcskip_of ?_) | (with_reducible refine gopen_of ?_)) <;> simp (disch := first | omega | (simp only [Lx]; omega)) only [go_sem, simprocAttr, h0])
      exact ret _ _ _
  by_cases hl : 300 < m.length
  · have key := key (m.take 300) (by rw [List.length_take]; omega)
    unfold cmL at key
    simp (disch := first | omega | (simp only [Lx]; omega)) only [go_sem, simprocAttr, cmA, Cod.lmessages_jn]
    exact vcW_mid_wk hN _ (.le (by simp (disch := first | omega | (simp only [Lx]; omega)) only [go_sem, simprocAttr])) key
  · have key := key m (by omega)
    unfold cmL at key
    simp (disch := first | omega | (simp only [Lx]; omega)) only [go_sem, simprocAttr, cmA, Cod.lmessages_jn]
    exact vcW_mid_wk hN _ (.le (by simp (disch := first | omega | (simp only [Lx]; omega)) only [go_sem, simprocAttr])) key
end Go.Proofs.YtjpinndnicmokaaDoor.Cm
