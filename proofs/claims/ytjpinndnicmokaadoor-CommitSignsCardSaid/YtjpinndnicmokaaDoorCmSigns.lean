/- CommitSigns: every second and zone is written so that it is read again. -/
import Derived.Test.YtjpinndnicmokaaDoorCmTag
set_option linter.all false
namespace Go.Proofs.YtjpinndnicmokaaDoor.Cm
open Eng Ob
set_option maxRecDepth 10000
def sgC (s : Sg) : Cmt := ⟨id0, [], s, s, []⟩
theorem sgC_check (s : Sg) : checkP (sgC s) = if signedP s = true then 0 else 4 := by
  have h1 : idP id0 = true := by decide
  unfold checkP sgC
  simp [h1]
theorem sgC_sz {s : Sg} (h : s.who.length ≤ 140737488351232) : CmSz (sgC s) :=
  ⟨(by show id0.length ≤ _; decide), ⟨(by show 0 ≤ _; decide), (by intro p hp; cases hp)⟩, h, h, (by show 0 ≤ _; decide)⟩
theorem signs_ok (s : Sg) (hs : s.who.length ≤ 140737488351232) : SpecR Tryd.prog 5 [sgA s] (.bool true) := by
  refine Cod.lsigns_spec (fun E R hN hR => ?_)
  have hz := sgC_sz hs
  have hfm := format_ok (sgC s) hz
  have hsg := dsigned_ok s (by omega)
  have hck := sgC_check s
  have hfm2 : SpecR Tryd.prog 10 [.agg [.str id0, .nilsl, .str s.who, .int .i64 s.time, .int .i64 s.zone, .str s.who, .int .i64 s.time, .int .i64 s.zone, .str []]] (fmtA (sgC s)) :=
    specR_args (.cons (.agg (.cons (.refl _) (.cons (.nil 1) (ELs.refl _)))) .nil) hfm
  have ret : ∀ h0 a, R h0 (.bool true) [a] := fun h0 a => hR.wk (h' := []) (r' := .bool true) (ar' := [a]) rfl (.le (by simp (disch := first | omega | (simp only [Lx]; omega)) only [go_sem, simprocAttr])) ⟨rfl, rfl⟩
  unfold fmtA id0 at hfm2
  unfold sgA at hsg
  cases hp : signedP s with
  | false =>
    rw [hp, if_neg (by decide)] at hck
    rw [hck, if_neg (by decide)] at hfm2
    rw [hp] at hsg
    simp (disch := first | omega | (simp only [Lx]; omega)) only [go_sem, simprocAttr, sgA]
    refine call_ro hfm2 rfl rfl ?_
    simp (disch := first | omega | (simp only [Lx]; omega)) only [go_sem, simprocAttr]
    refine call_ro hsg rfl rfl ?_
    simp (disch := first | omega | (simp only [Lx]; omega)) only [go_sem, simprocAttr]
    refine call_ro awake_ok rfl rfl ?_
    simp (disch := first | omega | (simp only [Lx]; omega)) only [go_sem, simprocAttr]
    (repeat (first | (with_reducible refine gskip_of ?_) | (with_reducible refine gcskip_of ?_) | (with_reducible refine gopen_of ?_)) <;> simp (disch := first | omega | (simp only [Lx]; omega)) only [go_sem, simprocAttr])
    exact ret _ _
  | true =>
    rw [hp, if_pos rfl] at hck
    rw [hck, if_pos rfl] at hfm2
    rw [hp] at hsg
    have hbk := back_ok (sgC s) hz hck
    have hds := dsign_ok s (signedP_sg hp) hs
    have hl := signT_len s (signedP_sg hp)
    unfold sgA at hds
    have htx : textP (sgC s) = [116, 114, 101, 101, 32, 52, 98, 56, 50, 53, 100, 99, 54, 52, 50, 99, 98, 54, 101, 98, 57, 97, 48, 54, 48, 101, 53, 52, 98, 102, 56, 100, 54, 57, 50, 56, 56, 102, 98, 101, 101, 52, 57, 48, 52, 10, 97, 117, 116, 104, 111, 114, 32] ++ signT s ++ [10, 99, 111, 109, 109, 105, 116, 116, 101, 114, 32] ++ signT s ++ [10, 10] := by
      simp [textP, sgC, id0, wTree, wAuthor, wCommitter, parT]
    unfold cmA at hbk
    simp only [sgC] at hbk
    rw [show (⟨id0, [], s, s, []⟩ : Cmt) = sgC s from rfl] at hbk
    generalize textP (sgC s) = T at *
    simp (disch := first | omega | (simp only [Lx]; omega)) only [go_sem, simprocAttr, sgA]
    refine call_ro hfm2 rfl rfl ?_
    simp (disch := first | omega | (simp only [Lx]; omega)) only [go_sem, simprocAttr]
    refine call_ro hsg rfl rfl ?_
    simp (disch := first | omega | (simp only [Lx]; omega)) only [go_sem, simprocAttr]
    refine call_ro' hbk rfl ?_
    rintro h' v as' ⟨rfl, rfl⟩
    refine ⟨rfl, rfl, ?_⟩
    simp (disch := first | omega | (simp only [Lx]; omega)) only [go_sem, simprocAttr]
    refine call_ro hds rfl rfl ?_
    simp (disch := first | omega | (simp only [Lx]; omega)) only [go_sem, simprocAttr]
    refine call_ro hds rfl rfl ?_
    simp (disch := first | omega | (simp only [Lx]; omega)) only [go_sem, simprocAttr]
    refine call_ro awake_ok rfl rfl ?_
    simp (disch := first | omega | (simp only [Lx]; omega)) only [go_sem, simprocAttr]
    (repeat (first | (with_reducible refine gskip_of ?_) | (with_reducible refine gcskip_of ?_) | (with_reducible refine gopen_of ?_)) <;> simp (disch := first | omega | (simp only [Lx]; omega)) only [go_sem, simprocAttr])
    rw [decide_eq_true]
    · exact ret _ _
    · rw [htx]; simp
end Go.Proofs.YtjpinndnicmokaaDoor.Cm
