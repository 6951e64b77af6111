/- CommitReads: any bytes are read as the one commit whose bytes they are, or refused. -/
import Derived.Test.YtjpinndnicmokaaDoorCmTag
set_option linter.all false
namespace Go.Proofs.YtjpinndnicmokaaDoor.Cm
open Eng Ob
set_option maxRecDepth 10000
theorem same0_ok : SpecR Tryd.prog 16 [parts c0 .nilsl, parts c0 .nilsl] (.bool true) := by
  have h := dsame_ok c0 c0 ⟨by decide, ⟨by decide, by simp [c0]⟩, by decide, by decide, by decide⟩ ⟨by decide, ⟨by decide, by simp [c0]⟩, by decide, by decide, by decide⟩
  rw [sameC_self] at h
  refine specR_args ?_ h
  have : ALe (parts c0 .nilsl) (cmA c0) := .agg (.cons (.refl _) (.cons (.nil 1) (ELs.refl _)))
  exact .cons this (.cons this .nil)
theorem readA_yes {s : Bs} {c : Cmt} {v : AV} (h : readA s v) (hp : parseL s = some c) (hk : checkP c = 0) : v = .tup [cmA c, .int .i64 0] := by
  rcases h with ⟨c', hp', _, rfl⟩ | ⟨hne, _⟩
  · rw [hp] at hp'; obtain rfl := Option.some.inj hp'; rfl
  · exact absurd (readC_ok.2 ⟨c, hp, hk⟩) hne
theorem readA_no {s : Bs} {v : AV} (h : readA s v) (h0 : ¬ readC s = 0) : v = .tup [parts c0 .nilsl, .int .i64 (readC s)] := by
  rcases h with ⟨c', hp', hk, _⟩ | ⟨_, rfl⟩
  · exact absurd (readC_ok.2 ⟨c', hp', hk⟩) h0
  · rfl
theorem reads_ok (s : Bs) (hs : s.length ≤ 1048576) : SpecR Tryd.prog 4 [.str s] (.bool true) := by
  refine Cod.lreads_spec (fun E R hN hR => ?_)
  have ret : ∀ h0 a, R h0 (.bool true) [a] := fun h0 a => hR.wk (h' := []) (r' := .bool true) (ar' := [a]) rfl (.le (by simp (disch := first | omega | (simp only [Lx]; omega)) only [go_sem, simprocAttr])) ⟨rfl, rfl⟩
  have hs' : s.length ≤ 1000000000000 := by omega
  have hc := cparse_ok s (parB_short hs') (fun c h => parseL_sz hs' h)
  have hd := dparse_ok s hs'
  by_cases h0 : readC s = 0
  · obtain ⟨c, hp, hk⟩ := readC_ok.1 h0
    have hsz := parseL_sz hs' hp
    have hsm := dsame_ok c c hsz hsz
    rw [sameC_self] at hsm
    have hfm := format_ok c hsz
    have ht : textP c = s := (parseL_some hp).1
    unfold fmtA at hfm
    rw [hk, if_pos rfl, ht] at hfm
    unfold cmA at hsm hfm
    simp (disch := first | omega | (simp only [Lx]; omega)) only [go_sem, simprocAttr]
    refine call_ro' hc rfl ?_
    rintro h' v as' ⟨rfl, hv⟩
    obtain rfl := readA_yes hv hp hk
    refine ⟨rfl, rfl, ?_⟩
    simp (disch := first | omega | (simp only [Lx]; omega)) only [go_sem, simprocAttr, cmA]
    refine call_ro' hd rfl ?_
    rintro h' v as' ⟨rfl, hv⟩
    obtain rfl := readA_yes hv hp hk
    refine ⟨rfl, rfl, ?_⟩
    simp (disch := first | omega | (simp only [Lx]; omega)) only [go_sem, simprocAttr, cmA]
    refine call_ro awake_ok rfl rfl ?_
    simp (disch := first | omega | (simp only [Lx]; omega)) only [go_sem, simprocAttr]
    (repeat (first | (with_reducible refine gskip_of ?_) | (with_reducible refine gcskip_of ?_) | (with_reducible refine gopen_of ?_)) <;> simp (disch := first | omega | (simp only [Lx]; omega)) only [go_sem, simprocAttr])
    refine gcyes_of (callT_ro (by simp (disch := first | omega | (simp only [Lx]; omega)) only [go_sem, simprocAttr]) hsm (by simp (disch := first | omega | (simp only [Lx]; omega)) only [go_sem, simprocAttr]) rfl rfl ?_)
    simp (disch := first | omega | (simp only [Lx]; omega)) only [go_sem, simprocAttr]
    refine call_ro hfm rfl rfl ?_
    simp (disch := first | omega | (simp only [Lx]; omega)) only [go_sem, simprocAttr]
    (repeat (first | (with_reducible refine gskip_of ?_) | (with_reducible refine gcskip_of ?_) | (with_reducible refine gopen_of ?_)) <;> simp (disch := first | omega | (simp only [Lx]; omega)) only [go_sem, simprocAttr])
    exact ret _ _
  · have hsm := same0_ok
    unfold parts c0 at hsm
    simp (disch := first | omega | (simp only [Lx]; omega)) only [go_sem, simprocAttr]
    refine call_ro' hc rfl ?_
    rintro h' v as' ⟨rfl, hv⟩
    obtain rfl := readA_no hv h0
    refine ⟨rfl, rfl, ?_⟩
    simp (disch := first | omega | (simp only [Lx]; omega)) only [go_sem, simprocAttr, parts, c0]
    refine call_ro' hd rfl ?_
    rintro h' v as' ⟨rfl, hv⟩
    obtain rfl := readA_no hv h0
    refine ⟨rfl, rfl, ?_⟩
    simp (disch := first | omega | (simp only [Lx]; omega)) only [go_sem, simprocAttr, parts, c0]
    refine call_ro awake_ok rfl rfl ?_
    simp (disch := first | omega | (simp only [Lx]; omega)) only [go_sem, simprocAttr]
    (repeat (first | (with_reducible refine gskip_of ?_) | (with_reducible refine gcskip_of ?_) | (with_reducible refine gopen_of ?_)) <;> simp (disch := first | omega | (simp only [Lx]; omega)) only [go_sem, simprocAttr])
    refine gcyes_of (callT_ro (by simp (disch := first | omega | (simp only [Lx]; omega)) only [go_sem, simprocAttr]) hsm (by simp (disch := first | omega | (simp only [Lx]; omega)) only [go_sem, simprocAttr]) rfl rfl ?_)
    simp (disch := first | omega | (simp only [Lx]; omega)) only [go_sem, simprocAttr, h0]
    exact ret _ _
end Go.Proofs.YtjpinndnicmokaaDoor.Cm
