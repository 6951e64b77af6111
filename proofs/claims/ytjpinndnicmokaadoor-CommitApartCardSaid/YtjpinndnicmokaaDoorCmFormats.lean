/- CommitFormats: commits in form have the bytes that git gives them and are read back, others are refused. -/
import Derived.Test.YtjpinndnicmokaaDoorCmAwake
set_option linter.all false
namespace Go.Proofs.YtjpinndnicmokaaDoor.Cm
open Eng Ob
set_option maxRecDepth 10000
def fewP (c : Cmt) : Cmt := { c with parents := c.parents.take 40 }
theorem fewP_sz {c : Cmt} (hs : CmSz c) : CmSz (fewP c) := by
  obtain ⟨s1, ⟨s2, s3⟩, s4, s5, s6⟩ := hs
  exact ⟨s1, ⟨by simp only [fewP, List.length_take]; omega, fun p hp => s3 p (List.mem_of_mem_take hp)⟩, s4, s5, s6⟩
theorem few_ok (c : Cmt) (hs : CmSz c) : SpecR Tryd.prog 9 [cmA c] (cmA (fewP c)) := by
  obtain ⟨s1, ⟨s2, s3⟩, s4, s5, s6⟩ := hs
  refine Cod.few_spec (fun E R hN hR => ?_)
  by_cases hl : 40 < c.parents.length
  · have hl40 : (c.parents.take 40).length = 40 := by rw [List.length_take]; omega
    have hm40 : List.take 40 (c.parents.map AV.str) = (c.parents.take 40).map AV.str := (List.map_take).symm
    simp (disch := first | omega | (simp only [Lx]; omega)) only [go_sem, simprocAttr, cmA, Cod.few_jn]
    refine vcW_mid hN ?_
    simp (disch := first | omega | (simp only [Lx]; omega)) only [go_sem, simprocAttr, hm40, hl40]
    unfold fewP at hR
    generalize c.parents.take 40 = q at *
    have hsub : sub3 (q.map AV.str) 0 40 = q.map AV.str := by
      unfold sub3
      rw [List.drop_zero, List.take_of_length_le (by simp; omega)]
    exact hR.wk (h' := []) (r' := cmA { c with parents := q }) (ar' := [.undef]) rfl (.frz 51011 (.le (by simp (disch := first | omega | (simp only [Lx]; omega)) only [go_sem, simprocAttr, cmA, hsub]))) ⟨rfl, rfl⟩
  · have ht : c.parents.take 40 = c.parents := List.take_of_length_le (by omega)
    simp (disch := first | omega | (simp only [Lx]; omega)) only [go_sem, simprocAttr, cmA, Cod.few_jn]
    refine vcW_mid hN ?_
    simp (disch := first | omega | (simp only [Lx]; omega)) only [go_sem, simprocAttr]
    exact hR.wk (h' := []) (r' := cmA (fewP c)) (ar' := [.undef]) rfl (.frz 51011 (.le (by simp (disch := first | omega | (simp only [Lx]; omega)) only [go_sem, simprocAttr, cmA, fewP, ht]))) ⟨rfl, rfl⟩
theorem idP_no {s : Bs} (h : idP s = true) (x : UInt8) (hx : x.toNat < 48) : x ∉ s := by
  intro hm
  unfold idP at h
  simp only [Bool.and_eq_true, List.all_eq_true] at h
  have := h.2 x hm
  unfold hexC at this
  simp at this
  omega
theorem checkP_form {c : Cmt} (h : checkP c = 0) : CmOK c := by
  obtain ⟨_, h1, h2, h3, h4⟩ := checkP_ok h
  refine ⟨idP_no h2 10 (by decide), fun p hp => idP_no (List.all_eq_true.1 h1 p hp) 10 (by decide), ⟨signedP_sg h3, (lineP_no (signedP_ok h3).1).1⟩, signedP_sg h4, (lineP_no (signedP_ok h4).1).1⟩
theorem back_ok (c : Cmt) (hs : CmSz c) (h : checkP c = 0) : Eng.Spec Tryd.prog 17 [] [.str (textP c)] (fun h x _ => h = [] ∧ x = .tup [cmA c, .int .i64 0]) := by
  have hc := checkP_form h
  have hp := parseL_textP c hc
  refine spec_mono (cparse_ok (textP c) (parB_text hs h hc) (fun c' hc' => ?_)) (fun h' x _ ⟨h1, h2⟩ => ⟨h1, ?_⟩)
  · rw [hp] at hc'; obtain rfl := Option.some.inj hc'; exact hs
  · rcases h2 with ⟨c', hc', _, rfl⟩ | ⟨hne, _⟩
    · rw [hp] at hc'; obtain rfl := Option.some.inj hc'; rfl
    · exfalso; apply hne; unfold readC; rw [hp]; exact h
theorem sameC_self (c : Cmt) : sameC c c = true := by simp [sameC]
theorem line_same {s : Bs} (h : lineP s = lineP s) : True := trivial
theorem formats_ok (c : Cmt) (hs0 : CmSz c) (l : Bs) (hl : l.length ≤ 140737488351232) : SpecR Tryd.prog 3 [cmA c, .str l] (.bool true) := by
  refine Cod.lformats_spec (fun E R hN hR => ?_)
  have hf := few_ok c hs0
  have hs := fewP_sz hs0
  generalize fewP c = d at *
  have hfm := format_ok d hs
  have hck := dcheck_ok d hs
  have hcc := ccheck_ok d hs
  have hl1 := cline_ok l (by omega)
  have hl2 := dline_ok l (by omega)
  have hsm := dsame_ok d d hs hs
  rw [sameC_self] at hsm
  have ret : ∀ h0 a b, R h0 (.bool true) [a, b] := fun h0 a b => hR.wk (h' := []) (r' := .bool true) (ar' := [a, b]) rfl (.le (by simp (disch := first | omega | (simp only [Lx]; omega)) only [go_sem, simprocAttr])) ⟨rfl, rfl⟩
  unfold cmA fmtA at *
  generalize hx : checkP d = want at *
  simp (disch := first | omega | (simp only [Lx]; omega)) only [go_sem, simprocAttr]
  refine call_ro hf rfl rfl ?_
  simp (disch := first | omega | (simp only [Lx]; omega)) only [go_sem, simprocAttr]
  refine call_ro hfm rfl rfl ?_
  simp (disch := first | omega | (simp only [Lx]; omega)) only [go_sem, simprocAttr]
  refine call_ro hf rfl rfl ?_
  simp (disch := first | omega | (simp only [Lx]; omega)) only [go_sem, simprocAttr]
  refine call_ro hck rfl rfl ?_
  simp (disch := first | omega | (simp only [Lx]; omega)) only [go_sem, simprocAttr]
  refine call_ro awake_ok rfl rfl ?_
  simp (disch := first | omega | (simp only [Lx]; omega)) only [go_sem, simprocAttr]
  (repeat (first | (with_reducible refine gskip_of ?_) | (with_reducible refine gcskip_of ?_) | (with_reducible refine gopen_of ?_)) <;> simp (disch := first | omega | (simp only [Lx]; omega)) only [go_sem, simprocAttr])
  refine gcyes_of (callT_ro (by simp (disch := first | omega | (simp only [Lx]; omega)) only [go_sem, simprocAttr]) hcc (by simp (disch := first | omega | (simp only [Lx]; omega)) only [go_sem, simprocAttr]) rfl rfl ?_)
  simp (disch := first | omega | (simp only [Lx]; omega)) only [go_sem, simprocAttr]
  (repeat (first | (with_reducible refine gskip_of ?_) | (with_reducible refine gcskip_of ?_) | (with_reducible refine gopen_of ?_)) <;> simp (disch := first | omega | (simp only [Lx]; omega)) only [go_sem, simprocAttr])
  refine gcyes_of (callT_ro (by simp (disch := first | omega | (simp only [Lx]; omega)) only [go_sem, simprocAttr]) hl1 (by simp (disch := first | omega | (simp only [Lx]; omega)) only [go_sem, simprocAttr]) rfl rfl ?_)
  simp (disch := first | omega | (simp only [Lx]; omega)) only [go_sem, simprocAttr]
  refine gcyes_of (callT_ro (by simp (disch := first | omega | (simp only [Lx]; omega)) only [go_sem, simprocAttr]) hl2 (by simp (disch := first | omega | (simp only [Lx]; omega)) only [go_sem, simprocAttr]) rfl rfl ?_)
  simp (disch := first | omega | (simp only [Lx]; omega)) only [go_sem, simprocAttr, beq_self_eq_true, Bool.not_true]
  (repeat (first | (with_reducible refine gskip_of ?_) | (with_reducible refine gcskip_of ?_) | (with_reducible refine gopen_of ?_)) <;> simp (disch := first | omega | (simp only [Lx]; omega)) only [go_sem, simprocAttr, beq_self_eq_true, Bool.not_true])
  refine gcyes_of (callT_ro (by simp (disch := first | omega | (simp only [Lx]; omega)) only [go_sem, simprocAttr]) hf (by simp (disch := first | omega | (simp only [Lx]; omega)) only [go_sem, simprocAttr]) rfl rfl ?_)
  simp (disch := first | omega | (simp only [Lx]; omega)) only [go_sem, simprocAttr]
  refine gcyes_of (callT_ro (by simp (disch := first | omega | (simp only [Lx]; omega)) only [go_sem, simprocAttr]) hsm (by simp (disch := first | omega | (simp only [Lx]; omega)) only [go_sem, simprocAttr]) rfl rfl ?_)
  by_cases h0 : want = 0
  · subst h0
    have hbk := back_ok d hs hx
    have htx := dtext_ok d hs hx
    unfold cmA at hbk htx
    simp (disch := first | omega | (simp only [Lx]; omega)) only [go_sem, simprocAttr]
    refine call_ro' hbk rfl ?_
    rintro h' v as' ⟨rfl, rfl⟩
    refine ⟨rfl, rfl, ?_⟩
    simp (disch := first | omega | (simp only [Lx]; omega)) only [go_sem, simprocAttr]
    refine call_ro htx rfl rfl ?_
    simp (disch := first | omega | (simp only [Lx]; omega)) only [go_sem, simprocAttr]
    (repeat (first | (with_reducible refine gskip_of ?_) | (with_reducible refine gcskip_of ?_) | (with_reducible refine gopen_of ?_)) <;> simp (disch := first | omega | (simp only [Lx]; omega)) only [go_sem, simprocAttr])
    refine gcyes_of (callT_ro (by simp (disch := first | omega | (simp only [Lx]; omega)) only [go_sem, simprocAttr]) hsm (by simp (disch := first | omega | (simp only [Lx]; omega)) only [go_sem, simprocAttr]) rfl rfl ?_)
    simp (disch := first | omega | (simp only [Lx]; omega)) only [go_sem, simprocAttr]
    exact ret _ _ _
  · simp (disch := first | omega | (simp only [Lx]; omega)) only [go_sem, simprocAttr, h0]
    exact ret _ _ _
end Go.Proofs.YtjpinndnicmokaaDoor.Cm
