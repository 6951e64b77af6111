/- Commit: annotated tags: the program's and the document's check, bytes and parser; CommitTags' law. -/
import Derived.Test.YtjpinndnicmokaaDoorCmTag
set_option linter.all false
namespace Go.Proofs.YtjpinndnicmokaaDoor.Cm
open Eng Ob
set_option maxRecDepth 10000
theorem nameP_ne {k : Int} (h : nameP k ≠ []) : decide (nameP k = []) = false := decide_eq_false h
theorem cchecktag_ok (t : Tg) (hs : TgSz t) : SpecR Tryd.prog 26 [tgA t] (.int .i64 (checkT t)) := by
  refine Cod.cchecktag_spec (fun E R hN hR => ?_)
  obtain ⟨s1, s2, s3, s4, s5⟩ := hs
  have ret : ∀ v, checkT t = v → ∀ h0 a, R h0 (.int .i64 v) [a] := fun v h h0 a => hR.wk (h' := []) (r' := .int .i64 v) (ar' := [a]) rfl (.le (by simp (disch := first | omega | (simp only [Lx]; omega)) only [go_sem, simprocAttr])) ⟨rfl, by rw [h]⟩
  unfold checkT at ret
  simp (disch := first | omega | (simp only [Lx]; omega)) only [go_sem, simprocAttr, tgA, tgL]
  refine call_ro (sid_ok t.obj s1) rfl rfl ?_
  cases h1 : idP t.obj with
  | false =>
    have ret := ret 4 (if_neg (fun h => by rw [h1] at h; exact absurd h.1 (by decide)))
    simp (disch := first | omega | (simp only [Lx]; omega)) only [go_sem, simprocAttr]
    (repeat (first | (with_reducible refine gskip_of ?_) | (with_reducible refine gcskip_of ?_) | (with_reducible refine gopen_of ?_)) <;> simp (disch := first | omega | (simp only [Lx]; omega)) only [go_sem, simprocAttr])
    exact ret _ _
  | true =>
    simp (disch := first | omega | (simp only [Lx]; omega)) only [go_sem, simprocAttr]
    (repeat (first | (with_reducible refine gskip_of ?_) | (with_reducible refine gcskip_of ?_) | (with_reducible refine gopen_of ?_)) <;> simp (disch := first | omega | (simp only [Lx]; omega)) only [go_sem, simprocAttr])
    refine gcyes_of (callT_ro (by simp (disch := first | omega | (simp only [Lx]; omega)) only [go_sem, simprocAttr]) (name_ok t.kind) (by simp (disch := first | omega | (simp only [Lx]; omega)) only [go_sem, simprocAttr]) rfl rfl ?_)
    by_cases h2 : nameP t.kind = []
    · have ret := ret 4 (if_neg (fun h => h.2.1 h2))
      simp (disch := first | omega | (simp only [Lx]; omega)) only [go_sem, simprocAttr, h2]
      (repeat (first | (with_reducible refine gskip_of ?_) | (with_reducible refine gcskip_of ?_) | (with_reducible refine gopen_of ?_)) <;> simp (disch := first | omega | (simp only [Lx]; omega)) only [go_sem, simprocAttr, h2])
      exact ret _ _
    · simp (disch := first | omega | (simp only [Lx]; omega)) only [go_sem, simprocAttr, h2]
      (repeat (first | (with_reducible refine gskip_of ?_) | (with_reducible refine gcskip_of ?_) | (with_reducible refine gopen_of ?_)) <;> simp (disch := first | omega | (simp only [Lx]; omega)) only [go_sem, simprocAttr, h2])
      refine gcyes_of (callT_ro (by simp (disch := first | omega | (simp only [Lx]; omega)) only [go_sem, simprocAttr]) (cline_ok t.name (by omega)) (by simp (disch := first | omega | (simp only [Lx]; omega)) only [go_sem, simprocAttr]) rfl rfl ?_)
      cases h3 : lineP t.name with
      | false =>
        have ret := ret 4 (if_neg (fun h => by rw [h3] at h; exact absurd h.2.2.1 (by decide)))
        simp (disch := first | omega | (simp only [Lx]; omega)) only [go_sem, simprocAttr]
        (repeat (first | (with_reducible refine gskip_of ?_) | (with_reducible refine gcskip_of ?_) | (with_reducible refine gopen_of ?_)) <;> simp (disch := first | omega | (simp only [Lx]; omega)) only [go_sem, simprocAttr])
        exact ret _ _
      | true =>
        simp (disch := first | omega | (simp only [Lx]; omega)) only [go_sem, simprocAttr]
        (repeat (first | (with_reducible refine gskip_of ?_) | (with_reducible refine gcskip_of ?_) | (with_reducible refine gopen_of ?_)) <;> simp (disch := first | omega | (simp only [Lx]; omega)) only [go_sem, simprocAttr])
        refine gcyes_of (callT_ro (by simp (disch := first | omega | (simp only [Lx]; omega)) only [go_sem, simprocAttr, sgA]) (csigned_ok t.tagger (by omega)) (by simp (disch := first | omega | (simp only [Lx]; omega)) only [go_sem, simprocAttr]) rfl rfl ?_)
        cases h4 : signedP t.tagger with
        | false =>
          have ret := ret 4 (if_neg (fun h => by rw [h4] at h; exact absurd h.2.2.2 (by decide)))
          simp (disch := first | omega | (simp only [Lx]; omega)) only [go_sem, simprocAttr]
          exact ret _ _
        | true =>
          have ret := ret 0 (if_pos ⟨h1, h2, h3, h4⟩)
          simp (disch := first | omega | (simp only [Lx]; omega)) only [go_sem, simprocAttr]
          exact ret _ _
def fmtTA (t : Tg) : AV := .tup [.str (if checkT t = 0 then textT t else []), .int .i64 (checkT t)]
theorem text_T (t : Tg) : [111, 98, 106, 101, 99, 116, 32] ++ t.obj ++ [10, 116, 121, 112, 101, 32] ++ nameP t.kind ++ [10, 116, 97, 103, 32] ++ t.name ++ [10, 116, 97, 103, 103, 101, 114, 32] ++ signT t.tagger ++ [10, 10] ++ t.msg = textT t := by
  simp [textT, wObject, wType, wTag, wTagger]
theorem formattag_ok (t : Tg) (hs : TgSz t) : SpecR Tryd.prog 22 [tgA t] (fmtTA t) := by
  have hck := cchecktag_ok t hs
  refine Cod.formattag_spec (fun E R hN hR => ?_)
  obtain ⟨s1, s2, s3, s4, s5⟩ := hs
  unfold fmtTA at hR
  unfold tgA tgL at hck
  simp (disch := first | omega | (simp only [Lx]; omega)) only [go_sem, simprocAttr, tgA, tgL]
  refine call_ro hck rfl rfl ?_
  by_cases h0 : checkT t = 0
  · obtain ⟨h1, h2, h3, h4⟩ := checkT_ok h0
    rw [if_pos h0, h0] at hR
    have hsg := csign_ok t.tagger (signedP_sg h4) s4
    have hl := signT_len t.tagger (signedP_sg h4)
    have hn := name_len t.kind
    unfold sgA at hsg
    simp (disch := first | omega | (simp only [Lx]; omega)) only [go_sem, simprocAttr, h0]
    refine call_ro (name_ok t.kind) rfl rfl ?_
    simp (disch := first | omega | (simp only [Lx]; omega)) only [go_sem, simprocAttr]
    refine call_ro hsg rfl rfl ?_
    simp (disch := first | omega | (simp only [Lx]; omega)) only [go_sem, simprocAttr]
    have e := text_T t
    simp only [List.cons_append, List.nil_append, List.append_assoc] at e ⊢
    rw [e]
    exact hR.wk (h' := []) (r' := .tup [.str (textT t), .int .i64 0]) (ar' := [.undef]) rfl (.le (by simp (disch := first | omega | (simp only [Lx]; omega)) only [go_sem, simprocAttr])) ⟨rfl, rfl⟩
  · rw [if_neg h0] at hR
    simp (disch := first | omega | (simp only [Lx]; omega)) only [go_sem, simprocAttr, h0]
    exact hR.wk (h' := []) (r' := .tup [.str [], .int .i64 (checkT t)]) (ar' := [.undef]) rfl (.le (by simp (disch := first | omega | (simp only [Lx]; omega)) only [go_sem, simprocAttr])) ⟨rfl, rfl⟩
theorem rline_noT (w s : Bs) (h : lineL w s = none) (hs : s.length ≤ 4000000000000000000) (hw : w.length ≤ 100) :
    Eng.SpecDies Tryd.prog 51 [(14007, .var [.str s])] [.vptr 14007 0, .str w] wrongV := by
  refine Cod.rline_dies (fun E hN => ?_)
  unfold lineL at h
  split at h
  · cases h
  · rename_i hc
    generalize hq : cutP 10 s = q at *
    obtain ⟨l, rest, ok⟩ := q
    simp only [not_and] at hc
    have hcut := cut_ok s 10 (by omega)
    rw [hq] at hcut
    have hp := cutpre_ok l (w ++ [32])
    simp (disch := first | omega | (simp only [Lx]; omega)) only [go_sem, simprocAttr]
    refine call_ro hcut rfl rfl ?_
    simp (disch := first | omega | (simp only [Lx]; omega)) only [go_sem, simprocAttr, cutA]
    refine call_ro hp rfl rfl ?_
    cases ok with
    | false =>
      simp (disch := first | omega | (simp only [Lx]; omega)) only [go_sem, simprocAttr]
      (repeat (first | (with_reducible refine gskip_of ?_) | (with_reducible refine gcskip_of ?_) | (with_reducible refine gopen_of ?_)) <;> simp (disch := first | omega | (simp only [Lx]; omega)) only [go_sem, simprocAttr])
      exact died
    | true =>
      have hc := hc rfl
      rw [if_neg hc, decide_eq_false hc] at hp
      simp (disch := first | omega | (simp only [Lx]; omega)) only [go_sem, simprocAttr]
      (repeat (first | (with_reducible refine gskip_of ?_) | (with_reducible refine gcskip_of ?_) | (with_reducible refine gopen_of ?_)) <;> simp (disch := first | omega | (simp only [Lx]; omega)) only [go_sem, simprocAttr])
      exact died
def parsedT (s : Bs) (x : AV) : Prop := (∃ t, parseTL s = some t ∧ x = .tup [tgA t, .int .i64 0]) ∨ (parseTL s = none ∧ ∃ t, x = .tup [tgA t, .int .i64 3])
theorem parsetag_ok (s : Bs) (hB : TagB s) : Eng.Spec Tryd.prog 43 [] [.str s] (fun h x _ => h = [] ∧ parsedT s x) := by
  have hs := hB.len
  refine Cod.parsetag_spec guard_ok errno_sz (fun E0 R hN0 hR => ?_)
  simp (disch := first | omega | (simp only [Lx]; omega)) only [go_sem, simprocAttr, vcW_reg]
  refine kqDfr_of (by simp (disch := first | omega | (simp only [Lx]; omega)) only [go_sem, simprocAttr]; rfl) (fun E hN => ?_)
  have dead : parseTL s = none → ∀ (o : Bs) (k : Int) (n : Bs) (g : Sg) (m : Bs) h0 a, R h0 (.tup [.agg [.str o, .int .i64 k, .str n, .str g.who, .int .i64 g.time, .int .i64 g.zone, .str m], .int .i64 3]) [a] := by
    intro hno o k n g m h0 a
    exact hR.wk (h' := []) (r' := .tup [tgA ⟨o, k, n, g, m⟩, .int .i64 3]) (ar' := [a]) rfl (.le (by simp (disch := first | omega | (simp only [Lx]; omega)) only [go_sem, simprocAttr, tgA, tgL])) ⟨rfl, .inr ⟨hno, _, rfl⟩⟩
  cases h1 : lineL wObject s with
  | none =>
    have dead := dead (by unfold parseTL; rw [h1]) [] 0 [] ⟨[], 0, 0⟩ []
    have hd := rline_noT wObject s h1 hs (by decide)
    unfold wObject at hd
    simp (disch := first | omega | (simp only [Lx]; omega)) only [go_sem, simprocAttr]
    refine dc_die [(14007, .var [.str s])] hd (by simp (disch := first | omega | (simp only [Lx]; omega)) only [go_sem, simprocAttr]) ?_
    simp (disch := first | omega | (simp only [Lx]; omega)) only [go_sem, simprocAttr]
    exact dead _ _
  | some q =>
    obtain ⟨o, s1⟩ := q
    have hp1 : parseTL s = parseT1 o s1 := by unfold parseTL; rw [h1]
    have l1 := lineL_len h1
    have hln := rline_ok wObject s o s1 h1 hs (by decide)
    unfold wObject at hln
    simp (disch := first | omega | (simp only [Lx]; omega)) only [go_sem, simprocAttr]
    refine dc_ret ?_
    refine call_wk ⟨[(8, .vptr 12007 0), (2, .vptr 14002 0), (3, .vptr 14003 0), (4, .vptr 12007 0), (2000001, .vptr 14003 0)], [(12007, .var [.str s]), (14003, .var [.int .i64 0]), (14002, .var [.str [], .int .i64 0, .str [], .str [], .int .i64 0, .int .i64 0, .str []])]⟩ (.ren 14007 12007 rfl rfl (.le (by simp (disch := first | omega | (simp only [Lx]; omega)) only [go_sem, simprocAttr]))) rfl ?_
    simp (disch := first | omega | (simp only [Lx]; omega)) only [go_sem, simprocAttr]
    refine call_win [(12007, .var [.str s])] hln (by simp (disch := first | omega | (simp only [Lx]; omega)) only [go_sem, simprocAttr]) nofun ?_
    rintro h' v as' ⟨rfl, rfl, rfl⟩
    refine ⟨rfl, rfl, ?_⟩
    simp (disch := first | omega | (simp only [Lx]; omega)) only [go_sem, simprocAttr]
    cases h2 : lineL wType s1 with
    | none =>
      have dead := dead (by rw [hp1]; unfold parseT1; rw [h2]) o 0 [] ⟨[], 0, 0⟩ []
      have hd := rline_no wType s1 h2 (by omega) (by decide)
      unfold wType at hd
      refine dc_die [(12007, .var [.str s1])] hd (by simp (disch := first | omega | (simp only [Lx]; omega)) only [go_sem, simprocAttr]) ?_
      simp (disch := first | omega | (simp only [Lx]; omega)) only [go_sem, simprocAttr]
      exact dead _ _
    | some q =>
      obtain ⟨k, s2⟩ := q
      have l2 := lineL_len h2
      have hln := rline_ok wType s1 k s2 h2 (by omega) (by decide)
      unfold wType at hln
      refine dc_ret ?_
      refine call_win [(12007, .var [.str s1])] hln (by simp (disch := first | omega | (simp only [Lx]; omega)) only [go_sem, simprocAttr]) nofun ?_
      rintro h' v as' ⟨rfl, rfl, rfl⟩
      refine ⟨rfl, rfl, ?_⟩
      simp (disch := first | omega | (simp only [Lx]; omega)) only [go_sem, simprocAttr]
      refine call_ro (kind_ok k) rfl rfl ?_
      simp (disch := first | omega | (simp only [Lx]; omega)) only [go_sem, simprocAttr]
      cases h3 : lineL wTag s2 with
      | none =>
        have dead := dead (by rw [hp1]; unfold parseT1; rw [h2]; simp only; rw [h3]) o (kindP k) [] ⟨[], 0, 0⟩ []
        have hd := rline_no wTag s2 h3 (by omega) (by decide)
        unfold wTag at hd
        refine dc_die [(12007, .var [.str s2])] hd (by simp (disch := first | omega | (simp only [Lx]; omega)) only [go_sem, simprocAttr]) ?_
        simp (disch := first | omega | (simp only [Lx]; omega)) only [go_sem, simprocAttr]
        exact dead _ _
      | some q =>
        obtain ⟨n, s3⟩ := q
        have l3 := lineL_len h3
        have hln := rline_ok wTag s2 n s3 h3 (by omega) (by decide)
        unfold wTag at hln
        refine dc_ret ?_
        refine call_win [(12007, .var [.str s2])] hln (by simp (disch := first | omega | (simp only [Lx]; omega)) only [go_sem, simprocAttr]) nofun ?_
        rintro h' v as' ⟨rfl, rfl, rfl⟩
        refine ⟨rfl, rfl, ?_⟩
        simp (disch := first | omega | (simp only [Lx]; omega)) only [go_sem, simprocAttr]
        cases h4 : lineL wTagger s3 with
        | none =>
          have dead := dead (by rw [hp1]; unfold parseT1; rw [h2]; simp only; rw [h3]; simp only; rw [h4]) o (kindP k) n ⟨[], 0, 0⟩ []
          have hd := rsign_noL wTagger s3 h4 (by omega) (by decide)
          unfold wTagger at hd
          refine dc_die [(12007, .var [.str s3])] hd (by simp (disch := first | omega | (simp only [Lx]; omega)) only [go_sem, simprocAttr]) ?_
          simp (disch := first | omega | (simp only [Lx]; omega)) only [go_sem, simprocAttr]
          exact dead _ _
        | some q =>
          obtain ⟨g, s4⟩ := q
          have l4 := lineL_len h4
          have hgl := hB.sgn _ _ _ _ _ _ _ _ h1 h2 h3 h4
          cases h5 : signL g with
          | none =>
            have dead := dead (by rw [hp1]; unfold parseT1; rw [h2]; simp only; rw [h3]; simp only; rw [h4]; simp only; rw [h5]) o (kindP k) n ⟨[], 0, 0⟩ []
            have hd := rsign_no wTagger s3 g s4 h4 h5 (by omega) hgl (by decide)
            unfold wTagger at hd
            refine dc_die [(12007, .var [.str s3])] hd (by simp (disch := first | omega | (simp only [Lx]; omega)) only [go_sem, simprocAttr]) ?_
            simp (disch := first | omega | (simp only [Lx]; omega)) only [go_sem, simprocAttr]
            exact dead _ _
          | some sg =>
            have hok := rsign_ok wTagger s3 g s4 sg h4 h5 (by omega) hgl (by decide)
            unfold wTagger at hok
            refine dc_ret ?_
            refine call_win [(12007, .var [.str s3])] hok (by simp (disch := first | omega | (simp only [Lx]; omega)) only [go_sem, simprocAttr]) nofun ?_
            rintro h' v as' ⟨rfl, rfl, rfl⟩
            refine ⟨rfl, rfl, ?_⟩
            simp (disch := first | omega | (simp only [Lx]; omega)) only [go_sem, simprocAttr, sgA]
            cases h6 : msgL s4 with
            | none =>
              have dead := dead (by rw [hp1]; unfold parseT1; rw [h2]; simp only; rw [h3]; simp only; rw [h4]; simp only; rw [h5]; simp only; rw [h6]) o (kindP k) n sg []
              have hd := rmsg_no s4 h6
              refine dc_die [(12007, .var [.str s4])] hd (by simp (disch := first | omega | (simp only [Lx]; omega)) only [go_sem, simprocAttr]) ?_
              simp (disch := first | omega | (simp only [Lx]; omega)) only [go_sem, simprocAttr]
              exact dead _ _
            | some m =>
              have hyes : parseTL s = some ⟨o, kindP k, n, sg, m⟩ := by rw [hp1]; unfold parseT1; rw [h2]; simp only; rw [h3]; simp only; rw [h4]; simp only; rw [h5]; simp only; rw [h6]
              have hok := rmsg_ok s4 m h6
              refine dc_ret ?_
              refine call_win [(12007, .var [.str s4])] hok (by simp (disch := first | omega | (simp only [Lx]; omega)) only [go_sem, simprocAttr]) nofun ?_
              rintro h' v as' ⟨rfl, rfl, rfl⟩
              refine ⟨rfl, rfl, ?_⟩
              simp (disch := first | omega | (simp only [Lx]; omega)) only [go_sem, simprocAttr]
              exact hR.wk (h' := []) (r' := .tup [tgA ⟨o, kindP k, n, sg, m⟩, .int .i64 0]) (ar' := [.undef]) rfl (.le (by simp (disch := first | omega | (simp only [Lx]; omega)) only [go_sem, simprocAttr, tgA, tgL])) ⟨rfl, .inl ⟨_, hyes, rfl⟩⟩
def t0 : Tg := ⟨[], 0, [], ⟨[], 0, 0⟩, []⟩
def readT (s : Bs) : Int := match parseTL s with | none => 3 | some t => checkT t
def tagO (s : Bs) : Tg := match parseTL s with | none => t0 | some t => if checkT t = 0 then t else t0
theorem cparsetag_ok (s : Bs) (hB : TagB s) (hz : ∀ t, parseTL s = some t → TgSz t) : SpecR Tryd.prog 24 [.str s] (.tup [tgA (tagO s), .int .i64 (readT s)]) := by
  refine Cod.cparsetag_spec (fun E R hN hR => ?_)
  simp (disch := first | omega | (simp only [Lx]; omega)) only [go_sem, simprocAttr]
  refine call_ro' (parsetag_ok s hB) rfl ?_
  rintro h' v as' ⟨rfl, hv⟩
  rcases hv with ⟨t, hc, rfl⟩ | ⟨hno, t, rfl⟩
  · refine ⟨rfl, rfl, ?_⟩
    have hck := cchecktag_ok t (hz t hc)
    have hrc : readT s = checkT t := by unfold readT; rw [hc]
    unfold tgA tgL at hck
    simp (disch := first | omega | (simp only [Lx]; omega)) only [go_sem, simprocAttr, tgA, tgL, Cod.cparsetag_jn]
    refine call_ro hck rfl rfl ?_
    simp (disch := first | omega | (simp only [Lx]; omega)) only [go_sem, simprocAttr, Cod.cparsetag_jn]
    by_cases h0 : checkT t = 0
    · have hto : tagO s = t := by unfold tagO; rw [hc]; simp only; rw [if_pos h0]
      rw [hto, hrc, h0] at hR
      refine vcW_mid hN ?_
      simp (disch := first | omega | (simp only [Lx]; omega)) only [go_sem, simprocAttr, h0]
      exact hR.wk (h' := []) (r' := .tup [tgA t, .int .i64 0]) (ar' := [.undef]) rfl (.le (by simp (disch := first | omega | (simp only [Lx]; omega)) only [go_sem, simprocAttr, tgA, tgL])) ⟨rfl, rfl⟩
    · have hto : tagO s = t0 := by unfold tagO; rw [hc]; simp only; rw [if_neg h0]
      rw [hto, hrc] at hR
      refine vcW_mid hN ?_
      simp (disch := first | omega | (simp only [Lx]; omega)) only [go_sem, simprocAttr, h0]
      exact hR.wk (h' := []) (r' := .tup [tgA t0, .int .i64 (checkT t)]) (ar' := [.undef]) rfl (.le (by simp (disch := first | omega | (simp only [Lx]; omega)) only [go_sem, simprocAttr, tgA, tgL, t0])) ⟨rfl, rfl⟩
  · have hrc : readT s = 3 := by unfold readT; rw [hno]
    have hto : tagO s = t0 := by unfold tagO; rw [hno]
    rw [hto, hrc] at hR
    refine ⟨rfl, rfl, ?_⟩
    simp (disch := first | omega | (simp only [Lx]; omega)) only [go_sem, simprocAttr, tgA, tgL, Cod.cparsetag_jn]
    refine vcW_mid hN ?_
    simp (disch := first | omega | (simp only [Lx]; omega)) only [go_sem, simprocAttr]
    exact hR.wk (h' := []) (r' := .tup [tgA t0, .int .i64 3]) (ar' := [.undef]) rfl (.le (by simp (disch := first | omega | (simp only [Lx]; omega)) only [go_sem, simprocAttr, tgA, tgL, t0])) ⟨rfl, rfl⟩
theorem dchecktag_ok (t : Tg) (hs : TgSz t) : SpecR Tryd.prog 23 [tgA t] (.int .i64 (checkT t)) := by
  refine Cod.dchecktag_spec (fun E R hN hR => ?_)
  obtain ⟨s1, s2, s3, s4, s5⟩ := hs
  have ret : ∀ v, checkT t = v → ∀ h0 a, R h0 (.int .i64 v) [a] := fun v h h0 a => hR.wk (h' := []) (r' := .int .i64 v) (ar' := [a]) rfl (.le (by simp (disch := first | omega | (simp only [Lx]; omega)) only [go_sem, simprocAttr])) ⟨rfl, by rw [h]⟩
  unfold checkT at ret
  simp (disch := first | omega | (simp only [Lx]; omega)) only [go_sem, simprocAttr, tgA, tgL]
  refine call_ro (did_ok t.obj (by omega)) rfl rfl ?_
  cases h1 : idP t.obj with
  | false =>
    have ret := ret 4 (if_neg (fun h => by rw [h1] at h; exact absurd h.1 (by decide)))
    simp (disch := first | omega | (simp only [Lx]; omega)) only [go_sem, simprocAttr]
    (repeat (first | (with_reducible refine gskip_of ?_) | (with_reducible refine gcskip_of ?_) | (with_reducible refine gopen_of ?_)) <;> simp (disch := first | omega | (simp only [Lx]; omega)) only [go_sem, simprocAttr])
    exact ret _ _
  | true =>
    simp (disch := first | omega | (simp only [Lx]; omega)) only [go_sem, simprocAttr]
    (repeat (first | (with_reducible refine gskip_of ?_) | (with_reducible refine gcskip_of ?_) | (with_reducible refine gopen_of ?_)) <;> simp (disch := first | omega | (simp only [Lx]; omega)) only [go_sem, simprocAttr])
    refine gcyes_of (callT_ro (by simp (disch := first | omega | (simp only [Lx]; omega)) only [go_sem, simprocAttr]) (rname_ok t.kind s2.1 s2.2) (by simp (disch := first | omega | (simp only [Lx]; omega)) only [go_sem, simprocAttr]) rfl rfl ?_)
    by_cases h2 : nameP t.kind = []
    · have ret := ret 4 (if_neg (fun h => h.2.1 h2))
      simp (disch := first | omega | (simp only [Lx]; omega)) only [go_sem, simprocAttr, h2]
      (repeat (first | (with_reducible refine gskip_of ?_) | (with_reducible refine gcskip_of ?_) | (with_reducible refine gopen_of ?_)) <;> simp (disch := first | omega | (simp only [Lx]; omega)) only [go_sem, simprocAttr, h2])
      exact ret _ _
    · simp (disch := first | omega | (simp only [Lx]; omega)) only [go_sem, simprocAttr, h2]
      (repeat (first | (with_reducible refine gskip_of ?_) | (with_reducible refine gcskip_of ?_) | (with_reducible refine gopen_of ?_)) <;> simp (disch := first | omega | (simp only [Lx]; omega)) only [go_sem, simprocAttr, h2])
      refine gcyes_of (callT_ro (by simp (disch := first | omega | (simp only [Lx]; omega)) only [go_sem, simprocAttr]) (dline_ok t.name (by omega)) (by simp (disch := first | omega | (simp only [Lx]; omega)) only [go_sem, simprocAttr]) rfl rfl ?_)
      cases h3 : lineP t.name with
      | false =>
        have ret := ret 4 (if_neg (fun h => by rw [h3] at h; exact absurd h.2.2.1 (by decide)))
        simp (disch := first | omega | (simp only [Lx]; omega)) only [go_sem, simprocAttr]
        (repeat (first | (with_reducible refine gskip_of ?_) | (with_reducible refine gcskip_of ?_) | (with_reducible refine gopen_of ?_)) <;> simp (disch := first | omega | (simp only [Lx]; omega)) only [go_sem, simprocAttr])
        exact ret _ _
      | true =>
        simp (disch := first | omega | (simp only [Lx]; omega)) only [go_sem, simprocAttr]
        (repeat (first | (with_reducible refine gskip_of ?_) | (with_reducible refine gcskip_of ?_) | (with_reducible refine gopen_of ?_)) <;> simp (disch := first | omega | (simp only [Lx]; omega)) only [go_sem, simprocAttr])
        refine gcyes_of (callT_ro (by simp (disch := first | omega | (simp only [Lx]; omega)) only [go_sem, simprocAttr, sgA]) (dsigned_ok t.tagger (by omega)) (by simp (disch := first | omega | (simp only [Lx]; omega)) only [go_sem, simprocAttr]) rfl rfl ?_)
        cases h4 : signedP t.tagger with
        | false =>
          have ret := ret 4 (if_neg (fun h => by rw [h4] at h; exact absurd h.2.2.2 (by decide)))
          simp (disch := first | omega | (simp only [Lx]; omega)) only [go_sem, simprocAttr]
          exact ret _ _
        | true =>
          have ret := ret 0 (if_pos ⟨h1, h2, h3, h4⟩)
          simp (disch := first | omega | (simp only [Lx]; omega)) only [go_sem, simprocAttr]
          exact ret _ _
theorem dtagtext_ok (t : Tg) (hs : TgSz t) (h0 : checkT t = 0) : SpecR Tryd.prog 27 [tgA t] (.str (textT t)) := by
  refine Cod.dtagtext_spec (fun E R hN hR => ?_)
  obtain ⟨s1, s2, s3, s4, s5⟩ := hs
  obtain ⟨h1, h2, h3, h4⟩ := checkT_ok h0
  have hsg := dsign_ok t.tagger (signedP_sg h4) s4
  have hl := signT_len t.tagger (signedP_sg h4)
  have hn := name_len t.kind
  unfold sgA at hsg
  simp (disch := first | omega | (simp only [Lx]; omega)) only [go_sem, simprocAttr, tgA, tgL]
  refine call_ro (rname_ok t.kind s2.1 s2.2) rfl rfl ?_
  simp (disch := first | omega | (simp only [Lx]; omega)) only [go_sem, simprocAttr]
  refine call_ro hsg rfl rfl ?_
  simp (disch := first | omega | (simp only [Lx]; omega)) only [go_sem, simprocAttr]
  have e := text_T t
  simp only [List.cons_append, List.nil_append, List.append_assoc] at e ⊢
  rw [e]
  exact hR.wk (h' := []) (r' := .str (textT t)) (ar' := [.undef]) rfl (.le (by simp (disch := first | omega | (simp only [Lx]; omega)) only [go_sem, simprocAttr])) ⟨rfl, rfl⟩
section
variable {E : Env} {R : HP → AV → List AV → Prop} {o k n g rest : Bs} {ok : Bool}
/-- behind the four lines, where something is wrong -/
theorem badT8 (hN : E.N ≤ 1000000) (hl : g.length ≤ 1000000000000) (hrest : rest.length ≤ 1000000000000) (h : ok = false ∨ signL g = none ∨ ¬ [10] <+: rest)
    (bad : ∀ h0 a, R h0 (.tup [tgA t0, .int .i64 3]) [a]) :
    vcW Tryd.prog E Cod.dparsetag_7 (KQ.post [.cell 2 true 7, .tmp 3] 1 R) ⟨[(2, .vptr 28002 0), (4, .vptr 28004 0), (5, .str o), (6, .str rest), (7, .bool ok), (8, .str k), (9, .str n), (10, .str g)],
      [(28004, .var [.str [], .int .i64 0, .str [], .str [], .int .i64 0, .int .i64 0, .str []]), (28002, .var [.str [], .int .i64 0, .str [], .str [], .int .i64 0, .int .i64 0, .str []])]⟩ := by
  unfold tgA tgL t0 at bad
  have hrd := dread_ok2 g hl
  have hb := begins_ok rest [10] (by omega) (by simp)
  generalize hsg : sgO (signL g) = sg at *
  simp (disch := first | omega | (simp only [Lx]; omega)) only [go_sem, simprocAttr]
  refine call_ro hrd rfl rfl ?_
  simp (disch := first | omega | (simp only [Lx]; omega)) only [go_sem, simprocAttr, sgA]
  cases ok with
  | false =>
    simp (disch := first | omega | (simp only [Lx]; omega)) only [go_sem, simprocAttr]
    (repeat (first | (with_reducible refine gskip_of ?_) | (with_reducible refine gcskip_of ?_) | (with_reducible refine gopen_of ?_)) <;> simp (disch := first | omega | (simp only [Lx]; omega)) only [go_sem, simprocAttr])
    exact bad _ _
  | true =>
    cases hs : signL g with
    | none =>
      simp (disch := first | omega | (simp only [Lx]; omega)) only [go_sem, simprocAttr]
      (repeat (first | (with_reducible refine gskip_of ?_) | (with_reducible refine gcskip_of ?_) | (with_reducible refine gopen_of ?_)) <;> simp (disch := first | omega | (simp only [Lx]; omega)) only [go_sem, simprocAttr])
      exact bad _ _
    | some q =>
      have hp : ¬ [10] <+: rest := by
        rcases h with h | h | h
        · cases h
        · rw [hs] at h; cases h
        · exact h
      rw [decide_eq_false hp] at hb
      simp (disch := first | omega | (simp only [Lx]; omega)) only [go_sem, simprocAttr]
      (repeat (first | (with_reducible refine gskip_of ?_) | (with_reducible refine gcskip_of ?_) | (with_reducible refine gopen_of ?_)) <;> simp (disch := first | omega | (simp only [Lx]; omega)) only [go_sem, simprocAttr])
      refine gcyes_of (callT_ro (by simp (disch := first | omega | (simp only [Lx]; omega)) only [go_sem, simprocAttr]) hb (by simp (disch := first | omega | (simp only [Lx]; omega)) only [go_sem, simprocAttr]) rfl rfl ?_)
      simp (disch := first | omega | (simp only [Lx]; omega)) only [go_sem, simprocAttr]
      exact bad _ _
/-- .. and ahead of the fourth, the third -/
theorem badT6 (hN : E.N ≤ 1000000) (hl : g.length ≤ 1000000000000) (hrest : rest.length ≤ 1000000000000)
    (bad : ∀ h0 a, R h0 (.tup [tgA t0, .int .i64 3]) [a]) :
    vcW Tryd.prog E Cod.dparsetag_6 (KQ.post [.cell 2 true 7, .tmp 3] 1 R) ⟨[(2, .vptr 28002 0), (4, .vptr 28004 0), (5, .str o), (6, .str rest), (7, .bool false), (8, .str k), (9, .str n), (10, .str g)],
      [(28004, .var [.str [], .int .i64 0, .str [], .str [], .int .i64 0, .int .i64 0, .str []]), (28002, .var [.str [], .int .i64 0, .str [], .str [], .int .i64 0, .int .i64 0, .str []])]⟩ := by
  have T := badT8 (R := R) (o := o) (k := k) (n := n) (g := g) (rest := rest) (ok := false) hN hl hrest (.inl rfl) bad
  simp (disch := first | omega | (simp only [Lx]; omega)) only [go_sem, simprocAttr, Cod.dparsetag_jn]
  exact vcW_mid_wk hN _ (.le (by simp (disch := first | omega | (simp only [Lx]; omega)) only [go_sem, simprocAttr])) T
theorem badT5 (hN : E.N ≤ 1000000) (hl : g.length ≤ 1000000000000) (hrest : rest.length ≤ 1000000000000)
    (bad : ∀ h0 a, R h0 (.tup [tgA t0, .int .i64 3]) [a]) :
    vcW Tryd.prog E Cod.dparsetag_5 (KQ.post [.cell 2 true 7, .tmp 3] 1 R) ⟨[(2, .vptr 28002 0), (4, .vptr 28004 0), (5, .str o), (6, .str rest), (7, .bool false), (8, .str k), (9, .str n), (10, .str g)],
      [(28004, .var [.str [], .int .i64 0, .str [], .str [], .int .i64 0, .int .i64 0, .str []]), (28002, .var [.str [], .int .i64 0, .str [], .str [], .int .i64 0, .int .i64 0, .str []])]⟩ := by
  have T := badT6 (R := R) (o := o) (k := k) (n := n) (g := g) (rest := rest) hN hl hrest bad
  simp (disch := first | omega | (simp only [Lx]; omega)) only [go_sem, simprocAttr, Cod.dparsetag_jn]
  exact vcW_mid_wk hN _ (.le (by simp (disch := first | omega | (simp only [Lx]; omega)) only [go_sem, simprocAttr])) T
end
theorem line_cases {w s a b : Bs} (hy : ∀ x y, lineL w s = some (x, y) → a = x ∧ b = y) : lineL w s = none ∨ lineL w s = some (a, b) := by
  cases h : lineL w s with
  | none => exact .inl rfl
  | some q =>
    obtain ⟨x, y⟩ := q
    obtain ⟨rfl, rfl⟩ := hy x y h
    exact .inr rfl
theorem dparsetag_ok (s : Bs) (hs : s.length ≤ 1000000000000) : SpecR Tryd.prog 25 [.str s] (.tup [tgA (tagO s), .int .i64 (readT s)]) := by
  refine Cod.dparsetag_spec (fun E R hN hR => ?_)
  have bad : parseTL s = none → ∀ h0 a, R h0 (.tup [tgA t0, .int .i64 3]) [a] := fun hno h0 a => by
    have hrc : readT s = 3 := by unfold readT; rw [hno]
    have hto : tagO s = t0 := by unfold tagO; rw [hno]
    exact hR.wk (h' := []) (r' := .tup [tgA t0, .int .i64 3]) (ar' := [a]) rfl (.le (by simp (disch := first | omega | (simp only [Lx]; omega)) only [go_sem, simprocAttr])) ⟨rfl, by rw [hto, hrc]⟩
  obtain ⟨o, s1, ho, hs1, hl1, hy1⟩ := dl_ok2 wObject s hs (by decide)
  have c1 := line_cases hy1
  unfold wObject at hl1
  have e1 : (lineL [111, 98, 106, 101, 99, 116] s).isSome = (lineL wObject s).isSome := rfl
  rw [e1] at hl1
  simp (disch := first | omega | (simp only [Lx]; omega)) only [go_sem, simprocAttr]
  refine call_ro hl1 rfl rfl ?_
  simp (disch := first | omega | (simp only [Lx]; omega)) only [go_sem, simprocAttr]
  rcases c1 with h1 | h1
  · rw [h1]
    have T := badT5 (R := R) (o := o) (k := []) (n := []) (g := []) (rest := s1) hN (by simp) hs1 (bad (by unfold parseTL; rw [h1]))
    simp (disch := first | omega | (simp only [Lx]; omega)) only [go_sem, simprocAttr, Option.isSome_none, Cod.dparsetag_jn]
    exact vcW_mid_wk hN _ (.le (by simp (disch := first | omega | (simp only [Lx]; omega)) only [go_sem, simprocAttr])) T
  have hp1 : parseTL s = parseT1 o s1 := by unfold parseTL; rw [h1]
  obtain ⟨k, s2, hk, hs2, hl2, hy2⟩ := dl_ok2 wType s1 hs1 (by decide)
  have c2 := line_cases hy2
  unfold wType at hl2
  rw [show (lineL [116, 121, 112, 101] s1).isSome = (lineL wType s1).isSome from rfl] at hl2
  rw [h1]
  simp (disch := first | omega | (simp only [Lx]; omega)) only [go_sem, simprocAttr, Option.isSome_some, Cod.dparsetag_jn]
  refine call_ro hl2 rfl rfl ?_
  simp (disch := first | omega | (simp only [Lx]; omega)) only [go_sem, simprocAttr, Cod.dparsetag_jn]
  rcases c2 with h2 | h2
  · rw [h2]
    have T := badT5 (R := R) (o := o) (k := k) (n := []) (g := []) (rest := s2) hN (by simp) hs2 (bad (by rw [hp1]; unfold parseT1; rw [h2]))
    exact vcW_mid_wk hN _ (.le (by simp (disch := first | omega | (simp only [Lx]; omega)) only [go_sem, simprocAttr, Option.isSome_none])) T
  obtain ⟨n, s3, hn, hs3, hl3, hy3⟩ := dl_ok2 wTag s2 hs2 (by decide)
  have c3 := line_cases hy3
  unfold wTag at hl3
  rw [show (lineL [116, 97, 103] s2).isSome = (lineL wTag s2).isSome from rfl] at hl3
  rw [h2]
  refine vcW_mid hN ?_
  simp (disch := first | omega | (simp only [Lx]; omega)) only [go_sem, simprocAttr, Option.isSome_some, Cod.dparsetag_jn]
  refine call_ro hl3 rfl rfl ?_
  simp (disch := first | omega | (simp only [Lx]; omega)) only [go_sem, simprocAttr, Cod.dparsetag_jn]
  rcases c3 with h3 | h3
  · rw [h3]
    have T := badT6 (R := R) (o := o) (k := k) (n := n) (g := []) (rest := s3) hN (by simp) hs3 (bad (by rw [hp1]; unfold parseT1; rw [h2]; simp only; rw [h3]))
    exact vcW_mid_wk hN _ (.le (by simp (disch := first | omega | (simp only [Lx]; omega)) only [go_sem, simprocAttr, Option.isSome_none])) T
  obtain ⟨g, s4, hg, hs4, hl4, hy4⟩ := dl_ok2 wTagger s3 hs3 (by decide)
  have c4 := line_cases hy4
  unfold wTagger at hl4
  rw [show (lineL [116, 97, 103, 103, 101, 114] s3).isSome = (lineL wTagger s3).isSome from rfl] at hl4
  rw [h3]
  refine vcW_mid hN ?_
  simp (disch := first | omega | (simp only [Lx]; omega)) only [go_sem, simprocAttr, Option.isSome_some, Cod.dparsetag_jn]
  refine call_ro hl4 rfl rfl ?_
  simp (disch := first | omega | (simp only [Lx]; omega)) only [go_sem, simprocAttr, Cod.dparsetag_jn]
  rcases c4 with h4 | h4
  · rw [h4]
    have T := badT8 (R := R) (o := o) (k := k) (n := n) (g := g) (rest := s4) (ok := false) hN hg hs4 (.inl rfl) (bad (by rw [hp1]; unfold parseT1; rw [h2]; simp only; rw [h3]; simp only; rw [h4]))
    exact vcW_mid_wk hN _ (.le (by simp (disch := first | omega | (simp only [Lx]; omega)) only [go_sem, simprocAttr, Option.isSome_none])) T
  rw [h4]
  cases h5 : signL g with
  | none =>
    have T := badT8 (R := R) (o := o) (k := k) (n := n) (g := g) (rest := s4) (ok := true) hN hg hs4 (.inr (.inl h5)) (bad (by rw [hp1]; unfold parseT1; rw [h2]; simp only; rw [h3]; simp only; rw [h4]; simp only; rw [h5]))
    exact vcW_mid_wk hN _ (.le (by simp (disch := first | omega | (simp only [Lx]; omega)) only [go_sem, simprocAttr, Option.isSome_some])) T
  | some sg =>
    by_cases hp : [10] <+: s4
    · have hyes : parseTL s = some ⟨o, kindP k, n, sg, s4.drop 1⟩ := by rw [hp1]; unfold parseT1; rw [h2]; simp only; rw [h3]; simp only; rw [h4]; simp only; rw [h5]; simp only; rw [msgL_pre, if_pos hp]
      have hrd := dread_ok2 g hg
      rw [h5] at hrd
      have hb10 := begins_ok s4 [10] (by omega) (by simp)
      rw [decide_eq_true hp] at hb10
      have hl10 : 1 ≤ s4.length := hp.length_le
      have hkr : -9223372036854775808 ≤ kindP k ∧ kindP k ≤ 9223372036854775807 := by
        unfold kindP
        split
        · decide
        · split
          · decide
          · split
            · decide
            · split <;> decide
      have hsgw : sg.who.length ≤ g.length := by rw [← (signL_some h5).1]; unfold signT; simp
      have hck := dchecktag_ok ⟨o, kindP k, n, sg, s4.drop 1⟩ ⟨by simp only; omega, hkr, by simp only; omega, by simp only; omega, by simp only [List.length_drop]; omega⟩
      have hrc : readT s = checkT ⟨o, kindP k, n, sg, s4.drop 1⟩ := by unfold readT; rw [hyes]
      unfold tgA tgL at hck
      simp only at hck
      refine vcW_mid hN ?_
      simp (disch := first | omega | (simp only [Lx]; omega)) only [go_sem, simprocAttr, Option.isSome_some]
      refine call_ro hrd rfl rfl ?_
      simp (disch := first | omega | (simp only [Lx]; omega)) only [go_sem, simprocAttr, sgA, sgO, Option.getD_some, Option.isSome_some]
      (repeat (first | (with_reducible refine gskip_of ?_) | (with_reducible refine gcskip_of ?_) | (with_reducible refine gopen_of ?_)) <;> simp (disch := first | omega | (simp only [Lx]; omega)) only [go_sem, simprocAttr])
      refine gcyes_of (callT_ro (by simp (disch := first | omega | (simp only [Lx]; omega)) only [go_sem, simprocAttr]) hb10 (by simp (disch := first | omega | (simp only [Lx]; omega)) only [go_sem, simprocAttr]) rfl rfl ?_)
      simp (disch := first | omega | (simp only [Lx]; omega)) only [go_sem, simprocAttr]
      refine call_ro (rkind_ok k) rfl rfl ?_
      simp (disch := first | omega | (simp only [Lx]; omega)) only [go_sem, simprocAttr]
      refine call_ro hck rfl rfl ?_
      by_cases h0 : checkT ⟨o, kindP k, n, sg, s4.drop 1⟩ = 0
      · have hto : tagO s = ⟨o, kindP k, n, sg, s4.drop 1⟩ := by unfold tagO; rw [hyes]; simp only; rw [if_pos h0]
        rw [hto, hrc, h0] at hR
        simp (disch := first | omega | (simp only [Lx]; omega)) only [go_sem, simprocAttr, h0]
        exact hR.wk (h' := []) (r' := .tup [tgA ⟨o, kindP k, n, sg, s4.drop 1⟩, .int .i64 0]) (ar' := [.undef]) rfl (.le (by simp (disch := first | omega | (simp only [Lx]; omega)) only [go_sem, simprocAttr, tgA, tgL])) ⟨rfl, rfl⟩
      · have hto : tagO s = t0 := by unfold tagO; rw [hyes]; simp only; rw [if_neg h0]
        rw [hto, hrc] at hR
        simp (disch := first | omega | (simp only [Lx]; omega)) only [go_sem, simprocAttr, h0]
        exact hR.wk (h' := []) (r' := .tup [tgA t0, .int .i64 (checkT ⟨o, kindP k, n, sg, s4.drop 1⟩)]) (ar' := [.undef]) rfl (.le (by simp (disch := first | omega | (simp only [Lx]; omega)) only [go_sem, simprocAttr, tgA, tgL, t0])) ⟨rfl, rfl⟩
    · have T := badT8 (R := R) (o := o) (k := k) (n := n) (g := g) (rest := s4) (ok := true) hN hg hs4 (.inr (.inr hp)) (bad (by rw [hp1]; unfold parseT1; rw [h2]; simp only; rw [h3]; simp only; rw [h4]; simp only; rw [h5]; simp only; rw [msgL_pre, if_neg hp]))
      exact vcW_mid_wk hN _ (.le (by simp (disch := first | omega | (simp only [Lx]; omega)) only [go_sem, simprocAttr, Option.isSome_some])) T
theorem parseTL_sz {s : Bs} {t : Tg} (hs : s.length ≤ 140737488351232) (h : parseTL s = some t) : TgSz t := by
  unfold parseTL at h
  split at h
  · cases h
  rename_i o s1 h1
  unfold parseT1 at h
  split at h
  · cases h
  rename_i k s2 h2
  split at h
  · cases h
  rename_i n s3 h3
  split at h
  · cases h
  rename_i g s4 h4
  split at h
  · cases h
  rename_i sg h5
  split at h
  · cases h
  rename_i m h6
  obtain rfl := Option.some.inj h
  have l1 := lineL_len h1; have l2 := lineL_len h2; have l3 := lineL_len h3; have l4 := lineL_len h4
  have e6 := msgL_some h6
  have l6 : s4.length = m.length + 1 := by rw [e6]; rfl
  have hsgw : sg.who.length ≤ g.length := by rw [← (signL_some h5).1]; unfold signT; simp
  refine ⟨by simp only; omega, ?_, by simp only; omega, by simp only; omega, by simp only; omega⟩
  simp only
  unfold kindP
  split
  · decide
  · split
    · decide
    · split
      · decide
      · split <;> decide
theorem textT_len {t : Tg} (hs : TgSz t) (h : checkT t = 0) : (textT t).length ≤ t.obj.length + t.name.length + t.msg.length + 200 := by
  obtain ⟨h1, h2, h3, h4⟩ := checkT_ok h
  have hl := signT_len t.tagger (signedP_sg h4)
  have hw := (lineP_no (signedP_ok h4).1).2.2.2
  have hn := name_len t.kind
  have e1 : wObject.length = 6 := rfl
  have e2 : wType.length = 4 := rfl
  have e3 : wTag.length = 3 := rfl
  have e4 : wTagger.length = 6 := rfl
  unfold textT
  simp only [List.length_append, List.length_cons]
  omega
theorem tags_ok (t : Tg) (hs : TgSz t) (ht : t.obj.length ≤ 1048576 ∧ t.name.length ≤ 1048576 ∧ t.msg.length ≤ 1048576) (s : Bs) (hsl : s.length ≤ 1048576) : SpecR Tryd.prog 7 [tgA t, .str s] (.bool true) := by
  refine Cod.ltags_spec (fun E R hN hR => ?_)
  have hfm := formattag_ok t hs
  have hdc := dchecktag_ok t hs
  have hcc := cchecktag_ok t hs
  have hpc := cparsetag_ok s (tagB_short (by omega)) (fun t' h => parseTL_sz (by omega) h)
  have hpd := dparsetag_ok s (by omega)
  have ret : ∀ h0 a b, R h0 (.bool true) [a, b] := fun h0 a b => hR.wk (h' := []) (r' := .bool true) (ar' := [a, b]) rfl (.le (by simp (disch := first | omega | (simp only [Lx]; omega)) only [go_sem, simprocAttr])) ⟨rfl, rfl⟩
  have key : ∀ (u : Tg) (n : Int), (n = 0 ∨ n ≠ 0) → vcW Tryd.prog E Cod.ltags_7 (KQ.post [.tmp 4] 2 R) ⟨[(2, .vptr 56002 0), (5, .str (if checkT t = 0 then textT t else [])), (7, .int .i64 (checkT t))], [(56002, .var (tgL t))]⟩ := by
    intro _ _ _
    unfold tgL
    by_cases h0 : checkT t = 0
    · have hx := textT_len hs h0
      have hyes := parseTL_text h0
      have hbk := cparsetag_ok (textT t) (tagB_short (by omega)) (fun t' h => parseTL_sz (by omega) h)
      have hto : tagO (textT t) = t := by unfold tagO; rw [hyes]; simp only; rw [if_pos h0]
      have hrt : readT (textT t) = 0 := by unfold readT; rw [hyes]; exact h0
      have htx := dtagtext_ok t hs h0
      rw [hto, hrt] at hbk
      unfold tgA tgL at hbk htx
      generalize textT t = T at *
      simp (disch := first | omega | (simp only [Lx]; omega)) only [go_sem, simprocAttr, h0]
      refine call_ro hbk rfl rfl ?_
      simp (disch := first | omega | (simp only [Lx]; omega)) only [go_sem, simprocAttr]
      refine call_ro htx rfl rfl ?_
      simp (disch := first | omega | (simp only [Lx]; omega)) only [go_sem, simprocAttr]
      (repeat (first | (with_reducible refine gskip_of ?_) | (with_reducible refine gcskip_of ?_) | (with_reducible refine gopen_of ?_)) <;> simp (disch := first | omega | (simp only [Lx]; omega)) only [go_sem, simprocAttr])
      exact ret _ _ _
    · simp (disch := first | omega | (simp only [Lx]; omega)) only [go_sem, simprocAttr, h0]
      exact ret _ _ _
  have key := key t 0 (.inl rfl)
  have hu : (readT s = 0 → TgSz (tagO s) ∧ checkT (tagO s) = 0 ∧ textT (tagO s) = s) := by
    intro h
    unfold readT at h
    unfold tagO
    cases hp : parseTL s with
    | none => rw [hp] at h; cases h
    | some u =>
      rw [hp] at h
      simp only at h ⊢
      rw [if_pos h]
      exact ⟨parseTL_sz (by omega) hp, h, parseTL_some hp h⟩
  generalize tagO s = u at *
  generalize readT s = n at *
  unfold tgA tgL fmtTA at *
  simp (disch := first | omega | (simp only [Lx]; omega)) only [go_sem, simprocAttr]
  refine call_ro hfm rfl rfl ?_
  simp (disch := first | omega | (simp only [Lx]; omega)) only [go_sem, simprocAttr]
  refine call_ro hdc rfl rfl ?_
  simp (disch := first | omega | (simp only [Lx]; omega)) only [go_sem, simprocAttr]
  refine call_ro hpc rfl rfl ?_
  simp (disch := first | omega | (simp only [Lx]; omega)) only [go_sem, simprocAttr]
  refine call_ro hpd rfl rfl ?_
  simp (disch := first | omega | (simp only [Lx]; omega)) only [go_sem, simprocAttr]
  refine call_ro awake_ok rfl rfl ?_
  simp (disch := first | omega | (simp only [Lx]; omega)) only [go_sem, simprocAttr]
  (repeat (first | (with_reducible refine gskip_of ?_) | (with_reducible refine gcskip_of ?_) | (with_reducible refine gopen_of ?_)) <;> simp (disch := first | omega | (simp only [Lx]; omega)) only [go_sem, simprocAttr])
  refine gcyes_of (callT_ro (by simp (disch := first | omega | (simp only [Lx]; omega)) only [go_sem, simprocAttr]) hcc (by simp (disch := first | omega | (simp only [Lx]; omega)) only [go_sem, simprocAttr]) rfl rfl ?_)
  simp (disch := first | omega | (simp only [Lx]; omega)) only [go_sem, simprocAttr, Cod.ltags_jn]
  (repeat (first | (with_reducible refine gskip_of ?_) | (with_reducible refine gcskip_of ?_) | (with_reducible refine gopen_of ?_)) <;> simp (disch := first | omega | (simp only [Lx]; omega)) only [go_sem, simprocAttr, Cod.ltags_jn])
  by_cases h0 : n = 0
  · obtain ⟨u1, u2, u3⟩ := hu h0
    have hfu := formattag_ok u u1
    unfold fmtTA tgA tgL at hfu
    rw [u2, if_pos rfl, u3] at hfu
    simp (disch := first | omega | (simp only [Lx]; omega)) only [go_sem, simprocAttr, h0, Cod.ltags_jn]
    refine call_ro hfu rfl rfl ?_
    simp (disch := first | omega | (simp only [Lx]; omega)) only [go_sem, simprocAttr, Cod.ltags_jn]
    (repeat (first | (with_reducible refine gskip_of ?_) | (with_reducible refine gcskip_of ?_) | (with_reducible refine gopen_of ?_)) <;> simp (disch := first | omega | (simp only [Lx]; omega)) only [go_sem, simprocAttr, Cod.ltags_jn])
    exact vcW_mid_wk hN _ (.le (by simp (disch := first | omega | (simp only [Lx]; omega)) only [go_sem, simprocAttr])) key
  · simp (disch := first | omega | (simp only [Lx]; omega)) only [go_sem, simprocAttr, h0, Cod.ltags_jn]
    exact vcW_mid_wk hN _ (.le (by simp (disch := first | omega | (simp only [Lx]; omega)) only [go_sem, simprocAttr])) key
end Go.Proofs.YtjpinndnicmokaaDoor.Cm
