/- Commit: the program's parser of commits, guarded. -/
import Derived.Test.YtjpinndnicmokaaDoorCmSign2
set_option linter.all false
namespace Go.Proofs.YtjpinndnicmokaaDoor.Cm
open Eng Ob
set_option maxRecDepth 10000
def parts (c : Cmt) (p : AV) : AV := .agg [.str c.tree, p, .str c.author.who, .int .i64 c.author.time, .int .i64 c.author.zone, .str c.committer.who, .int .i64 c.committer.time, .int .i64 c.committer.zone, .str c.msg]
def parsed (s : Bs) (x : AV) : Prop := (∃ c, parseL s = some c ∧ x = .tup [cmA c, .int .i64 0]) ∨ (parseL s = none ∧ ∃ c, ∃ p : AV, (p = .nilsl ∨ ∃ ps : List Bs, p = .ro 1 (ps.map .str)) ∧ x = .tup [parts c p, .int .i64 3])
def parseT (t s1 : Bs) : Option Cmt :=
  match parL s1 with
  | none => none
  | some (ps, s2) => match lineL wAuthor s2 with
    | none => none
    | some (a, s3) => match signL a with
      | none => none
      | some sa => match lineL wCommitter s3 with
        | none => none
        | some (b, s4) => match signL b with
          | none => none
          | some sb => match msgL s4 with
            | none => none
            | some m => some ⟨t, ps, sa, sb, m⟩
theorem parseL_T {s t s1 : Bs} (h : lineL wTree s = some (t, s1)) : parseL s = parseT t s1 := by
  unfold parseL; rw [h]; rfl
def parseU (t : Bs) (ps : List Bs) (s2 : Bs) : Option Cmt :=
  match lineL wAuthor s2 with
    | none => none
    | some (a, s3) => match signL a with
      | none => none
      | some sa => match lineL wCommitter s3 with
        | none => none
        | some (b, s4) => match signL b with
          | none => none
          | some sb => match msgL s4 with
            | none => none
            | some m => some ⟨t, ps, sa, sb, m⟩
theorem parseT_no {t s1 : Bs} (h : parL s1 = none) : parseT t s1 = none := by unfold parseT; rw [h]
theorem parseT_U {t s1 s2 : Bs} {ps : List Bs} (h : parL s1 = some (ps, s2)) : parseT t s1 = parseU t ps s2 := by unfold parseT; rw [h]; rfl
theorem map_nil_more (q : Option (List Bs × Bs)) : q = q.map fun q => ([] ++ q.1, q.2) := by cases q <;> rfl
/-- a text that the parser can read on a machine: not too many parents, no signature's line too long -/
structure ParB (s : Bs) : Prop where
  len : s.length ≤ 4000000000000000000
  par : ∀ t s1 s2 ps, lineL wTree s = some (t, s1) → parL s1 = (parL s2).map (fun q => (ps ++ q.1, q.2)) → ps.length + s2.length ≤ s1.length → ps.length ≤ 4000000000000
  sgn : ∀ t s1 s2 ps al s3, lineL wTree s = some (t, s1) → parL s1 = some (ps, s2) → lineL wAuthor s2 = some (al, s3) → al.length ≤ 140737488351232 ∧ ∀ bl s4, lineL wCommitter s3 = some (bl, s4) → bl.length ≤ 140737488351232
theorem parB_short {s : Bs} (hs : s.length ≤ 1000000000000) : ParB s where
  len := by omega
  par := fun t s1 s2 ps h _ hl => by have := lineL_len h; omega
  sgn := fun t s1 s2 ps al s3 h hp ha => by
    have h1 := lineL_len h
    have h2 := (parL_some _ (Nat.le_refl _) hp).1
    have h3 := lineL_len ha
    have : s2.length ≤ s1.length := by rw [h2]; simp
    exact ⟨by omega, fun bl s4 hb => by have := lineL_len hb; omega⟩
theorem parse_ok (s : Bs) (hB : ParB s) : Eng.Spec Tryd.prog 35 [] [.str s] (fun h x _ => h = [] ∧ parsed s x) := by
  have hs := hB.len
  refine Cod.parse_spec guard_ok errno_sz (fun E0 R hN0 hR => ?_)
  simp (disch := first | omega | (simp only [Lx]; omega)) only [go_sem, simprocAttr, vcW_reg]
  refine kqDfr_of (by simp (disch := first | omega | (simp only [Lx]; omega)) only [go_sem, simprocAttr]; rfl) (fun E hN => ?_)
  cases hT : lineL wTree s with
  | none =>
    have hno : parseL s = none := by unfold parseL; rw [hT]
    have hd := rline_no wTree s hT hs (by decide)
    unfold wTree at hd
    simp (disch := first | omega | (simp only [Lx]; omega)) only [go_sem, simprocAttr]
    refine dc_die [(12007, .var [.str s])] hd (by simp (disch := first | omega | (simp only [Lx]; omega)) only [go_sem, simprocAttr]) ?_
    simp (disch := first | omega | (simp only [Lx]; omega)) only [go_sem, simprocAttr]
    exact hR.wk (h' := []) (r' := .tup [parts ⟨[], [], ⟨[], 0, 0⟩, ⟨[], 0, 0⟩, []⟩ .nilsl, .int .i64 3]) (ar' := [.undef]) rfl (.le (by simp (disch := first | omega | (simp only [Lx]; omega)) only [go_sem, simprocAttr, parts])) ⟨rfl, .inr ⟨hno, _, _, .inl rfl, rfl⟩⟩
  | some q =>
    obtain ⟨t, s1⟩ := q
    have hln := rline_ok wTree s t s1 hT hs (by decide)
    have hlen := lineL_len hT
    unfold wTree at hln hlen
    have hPT := parseL_T hT
    simp (disch := first | omega | (simp only [Lx]; omega)) only [go_sem, simprocAttr]
    refine dc_ret ?_
    refine call_win [(12007, .var [.str s])] hln (by simp (disch := first | omega | (simp only [Lx]; omega)) only [go_sem, simprocAttr]) nofun ?_
    rintro h' v as' ⟨rfl, rfl, rfl⟩
    refine ⟨rfl, rfl, ?_⟩
    simp (disch := first | omega | (simp only [Lx]; omega)) only [go_sem, simprocAttr]
    refine vcW_loop hN (fun a : List Bs × Bs => ⟨[(2, .vptr 12002 0), (3, .vptr 12003 0), (4, .vptr 12007 0), (2000001, .vptr 12003 0)],
      [(12007, .var [.str a.2]), (12003, .var [.int .i64 0]), (12002, .var [.str t, .sl 12021 0 a.1.length, .str [], .int .i64 0, .int .i64 0, .str [], .int .i64 0, .int .i64 0, .str []]), (12021, .arr 1 (a.1.map .str))]⟩)
      (fun a => parL s1 = (parL a.2).map (fun q => (a.1 ++ q.1, q.2)) ∧ a.1.length + a.2.length ≤ s1.length) (fun a => a.2.length) ([], s1) (.nilV 12002 1 12021 1 _ (by simp (disch := first | omega | (simp only [Lx]; omega)) only [go_sem, simprocAttr]; rfl) rfl rfl (.le (by simp (disch := first | omega | (simp only [Lx]; omega)) only [go_sem, simprocAttr]))) ⟨map_nil_more _, by simp⟩ ?_
    rintro ⟨ps, s2⟩ R1 ⟨hpar, hle⟩ hR1
    simp only at hpar hle
    simp only [List.length_cons, List.length_nil] at hlen
    have hps : ps.length ≤ 4000000000000 := hB.par _ _ _ _ hT hpar hle
    have hpre := haspre_ok s2 pParent
    unfold pParent at hpre
    have dead : parseL s = none → ∀ (m : Bs) (x y : Sg), R [(12003, .var [.int .i64 3]), (12002, .var [.str t, .sl 12021 0 ps.length, .str x.who, .int .i64 x.time, .int .i64 x.zone, .str y.who, .int .i64 y.time, .int .i64 y.zone, .str m]), (12021, .arr 1 (ps.map .str))] (.tup [.agg [.str t, .sl 12021 0 ps.length, .str x.who, .int .i64 x.time, .int .i64 x.zone, .str y.who, .int .i64 y.time, .int .i64 y.zone, .str m], .int .i64 3]) [.undef] := by
      intro hno m x y
      exact hR.wk (h' := []) (r' := .tup [parts ⟨t, ps, x, y, m⟩ (.ro 1 (ps.map .str)), .int .i64 3]) (ar' := [.undef]) rfl (.frz 12021 (.le (by simp (disch := first | omega | (simp only [Lx]; omega)) only [go_sem, simprocAttr, parts]))) ⟨rfl, .inr ⟨hno, _, _, .inr ⟨ps, rfl⟩, rfl⟩⟩
    by_cases hp : pParent <+: s2
    · rw [decide_eq_true (by exact hp)] at hpre
      cases hl : lineL wParent s2 with
      | none =>
        have hno : parseL s = none := by rw [hPT]; exact parseT_no (by rw [hpar, parL_none hp hl]; rfl)
        have dead := dead hno [] ⟨[], 0, 0⟩ ⟨[], 0, 0⟩
        have hd := rline_no wParent s2 hl (by omega) (by decide)
        unfold wParent at hd
        simp (disch := first | omega | (simp only [Lx]; omega)) only [go_sem, simprocAttr]
        refine call_ro hpre rfl rfl ?_
        simp (disch := first | omega | (simp only [Lx]; omega)) only [go_sem, simprocAttr]
        refine altD_die (by decide) ?_
        simp (disch := first | omega | (simp only [Lx]; omega)) only [go_sem, simprocAttr]
        (repeat' (with_reducible refine And.intro ?_ ?_)) <;> refine dcall_of [(12007, .var [.str s2])] hd (by simp (disch := first | omega | (simp only [Lx]; omega)) only [go_sem, simprocAttr]) ?_ <;> (simp (disch := first | omega | (simp only [Lx]; omega)) only [go_sem, simprocAttr]; exact dead)
      | some q =>
        obtain ⟨pv, r⟩ := q
        have hln := rline_ok wParent s2 pv r hl (by omega) (by decide)
        have hlen2 := lineL_len hl
        unfold wParent at hln hlen2
        simp (disch := first | omega | (simp only [Lx]; omega)) only [go_sem, simprocAttr]
        refine call_ro hpre rfl rfl ?_
        simp (disch := first | omega | (simp only [Lx]; omega)) only [go_sem, simprocAttr]
        refine altD_ok ?_
        simp (disch := first | omega | (simp only [Lx]; omega)) only [go_sem, simprocAttr]
        constructor <;> refine call_win [(12007, .var [.str s2])] hln (by simp (disch := first | omega | (simp only [Lx]; omega)) only [go_sem, simprocAttr]) nofun ?_ <;> (
          rintro h' v as' ⟨rfl, rfl, rfl⟩
          refine ⟨rfl, rfl, ?_⟩
          simp (disch := first | omega | (simp only [Lx]; omega)) only [go_sem, simprocAttr]
          refine hR1 (ps ++ [pv], r) _ (by simp only; omega) ⟨?_, by simp only [List.length_append, List.length_cons, List.length_nil]; omega⟩ (.le ?_)
          · rw [hpar, parL_cons hp hl, Option.map_map]
            congr 1; funext q; simp
          · simp (disch := first | omega | (simp only [Lx]; omega)) only [go_sem, simprocAttr])
    · rw [decide_eq_false (by exact hp)] at hpre
      have hpar : parL s1 = some (ps, s2) := by rw [hpar, parL_no hp]; simp
      have hPU : parseL s = parseU t ps s2 := by rw [hPT]; exact parseT_U hpar
      simp (disch := first | omega | (simp only [Lx]; omega)) only [go_sem, simprocAttr]
      refine call_ro hpre rfl rfl ?_
      simp (disch := first | omega | (simp only [Lx]; omega)) only [go_sem, simprocAttr]
      cases ha : lineL wAuthor s2 with
      | none =>
        have dead := dead (by rw [hPU]; unfold parseU; rw [ha]) [] ⟨[], 0, 0⟩ ⟨[], 0, 0⟩
        have hd := rsign_noL wAuthor s2 ha (by omega) (by decide)
        unfold wAuthor at hd
        refine dc_die [(12007, .var [.str s2])] hd (by simp (disch := first | omega | (simp only [Lx]; omega)) only [go_sem, simprocAttr]) ?_
        simp (disch := first | omega | (simp only [Lx]; omega)) only [go_sem, simprocAttr]
        exact dead
      | some q =>
        obtain ⟨al, s3⟩ := q
        have la := lineL_len ha
        obtain ⟨hall, hbll⟩ := hB.sgn _ _ _ _ _ _ hT hpar ha
        cases hsa : signL al with
        | none =>
          have dead := dead (by rw [hPU]; unfold parseU; rw [ha]; simp only; rw [hsa]) [] ⟨[], 0, 0⟩ ⟨[], 0, 0⟩
          have hd := rsign_no wAuthor s2 al s3 ha hsa (by omega) hall (by decide)
          unfold wAuthor at hd
          refine dc_die [(12007, .var [.str s2])] hd (by simp (disch := first | omega | (simp only [Lx]; omega)) only [go_sem, simprocAttr]) ?_
          simp (disch := first | omega | (simp only [Lx]; omega)) only [go_sem, simprocAttr]
          exact dead
        | some sa =>
          have hok := rsign_ok wAuthor s2 al s3 sa ha hsa (by omega) hall (by decide)
          unfold wAuthor at hok
          refine dc_ret ?_
          refine call_win [(12007, .var [.str s2])] hok (by simp (disch := first | omega | (simp only [Lx]; omega)) only [go_sem, simprocAttr]) nofun ?_
          rintro h' v as' ⟨rfl, rfl, rfl⟩
          refine ⟨rfl, rfl, ?_⟩
          simp (disch := first | omega | (simp only [Lx]; omega)) only [go_sem, simprocAttr, sgA]
          cases hb : lineL wCommitter s3 with
          | none =>
            have dead := dead (by rw [hPU]; unfold parseU; rw [ha]; simp only; rw [hsa]; simp only; rw [hb]) [] sa ⟨[], 0, 0⟩
            have hd := rsign_noL wCommitter s3 hb (by omega) (by decide)
            unfold wCommitter at hd
            refine dc_die [(12007, .var [.str s3])] hd (by simp (disch := first | omega | (simp only [Lx]; omega)) only [go_sem, simprocAttr]) ?_
            simp (disch := first | omega | (simp only [Lx]; omega)) only [go_sem, simprocAttr]
            exact dead
          | some q =>
            obtain ⟨bl, s4⟩ := q
            have lb := lineL_len hb
            have hbl := hbll _ _ hb
            cases hsb : signL bl with
            | none =>
              have dead := dead (by rw [hPU]; unfold parseU; rw [ha]; simp only; rw [hsa]; simp only; rw [hb]; simp only; rw [hsb]) [] sa ⟨[], 0, 0⟩
              have hd := rsign_no wCommitter s3 bl s4 hb hsb (by omega) hbl (by decide)
              unfold wCommitter at hd
              refine dc_die [(12007, .var [.str s3])] hd (by simp (disch := first | omega | (simp only [Lx]; omega)) only [go_sem, simprocAttr]) ?_
              simp (disch := first | omega | (simp only [Lx]; omega)) only [go_sem, simprocAttr]
              exact dead
            | some sb =>
              have hok := rsign_ok wCommitter s3 bl s4 sb hb hsb (by omega) hbl (by decide)
              unfold wCommitter at hok
              refine dc_ret ?_
              refine call_win [(12007, .var [.str s3])] hok (by simp (disch := first | omega | (simp only [Lx]; omega)) only [go_sem, simprocAttr]) nofun ?_
              rintro h' v as' ⟨rfl, rfl, rfl⟩
              refine ⟨rfl, rfl, ?_⟩
              simp (disch := first | omega | (simp only [Lx]; omega)) only [go_sem, simprocAttr, sgA]
              cases hm : msgL s4 with
              | none =>
                have dead := dead (by rw [hPU]; unfold parseU; rw [ha]; simp only; rw [hsa]; simp only; rw [hb]; simp only; rw [hsb]; simp only; rw [hm]) [] sa sb
                have hd := rmsg_no s4 hm
                refine dc_die [(12007, .var [.str s4])] hd (by simp (disch := first | omega | (simp only [Lx]; omega)) only [go_sem, simprocAttr]) ?_
                simp (disch := first | omega | (simp only [Lx]; omega)) only [go_sem, simprocAttr]
                exact dead
              | some m =>
                have hyes : parseL s = some ⟨t, ps, sa, sb, m⟩ := by rw [hPU]; unfold parseU; rw [ha]; simp only; rw [hsa]; simp only; rw [hb]; simp only; rw [hsb]; simp only; rw [hm]
                have hok := rmsg_ok s4 m hm
                refine dc_ret ?_
                refine call_win [(12007, .var [.str s4])] hok (by simp (disch := first | omega | (simp only [Lx]; omega)) only [go_sem, simprocAttr]) nofun ?_
                rintro h' v as' ⟨rfl, rfl, rfl⟩
                refine ⟨rfl, rfl, ?_⟩
                simp (disch := first | omega | (simp only [Lx]; omega)) only [go_sem, simprocAttr]
                exact hR.wk (h' := []) (r' := .tup [cmA ⟨t, ps, sa, sb, m⟩, .int .i64 0]) (ar' := [.undef]) rfl (.frz 12021 (.le (by simp (disch := first | omega | (simp only [Lx]; omega)) only [go_sem, simprocAttr, cmA]))) ⟨rfl, .inl ⟨_, hyes, rfl⟩⟩
def c0 : Cmt := ⟨[], [], ⟨[], 0, 0⟩, ⟨[], 0, 0⟩, []⟩
/-- the commit of its bytes, and the error's number -/
def readC (s : Bs) : Int := match parseL s with | none => 3 | some c => checkP c
theorem readC_ok {s : Bs} : readC s = 0 ↔ ∃ c, parseL s = some c ∧ checkP c = 0 := by
  unfold readC
  cases parseL s with
  | none => simp
  | some c => simp
def readA (s : Bs) (x : AV) : Prop := (∃ c, parseL s = some c ∧ checkP c = 0 ∧ x = .tup [cmA c, .int .i64 0]) ∨ (readC s ≠ 0 ∧ x = .tup [parts c0 .nilsl, .int .i64 (readC s)])
theorem parseL_sz {s : Bs} {c : Cmt} (hs : s.length ≤ 1000000000000) (h : parseL s = some c) : CmSz c := by
  obtain ⟨e, _⟩ := parseL_some h
  have hp : ∀ (l : List Bs), l.length ≤ (parT l).length ∧ ∀ p ∈ l, p.length ≤ (parT l).length := by
    intro l
    induction l with
    | nil => simp
    | cons x r ih =>
      simp only [parT, List.length_append, List.length_cons]
      refine ⟨by omega, fun p hp => ?_⟩
      rcases List.mem_cons.1 hp with rfl | hp
      · omega
      · have := ih.2 p hp; omega
  have hsg : ∀ g : Sg, g.who.length ≤ (signT g).length := by intro g; unfold signT; simp
  obtain ⟨p1, p2⟩ := hp c.parents
  have s1 := hsg c.author
  have s2 := hsg c.committer
  have hl : s.length = (textP c).length := by rw [e]
  unfold textP at hl
  simp only [List.length_append, List.length_cons] at hl
  refine ⟨by omega, ⟨by omega, fun p hp => ?_⟩, by omega, by omega, by omega⟩
  have := p2 p hp
  omega
/-- a commit in form, whatever its message -/
theorem parB_text {c : Cmt} (hs : CmSz c) (h : checkP c = 0) (hc : CmOK c) : ParB (textP c) where
  len := by
    obtain ⟨z1, z2, z3⟩ := checkP_sz hs h
    have z3 := z3 c.parents.length
    rw [List.take_of_length_le (Nat.le_refl _)] at z3
    obtain ⟨s1, ⟨s2, s3⟩, s4, s5, s6⟩ := hs
    have e1 : wTree.length = 4 := rfl
    have e2 : wAuthor.length = 6 := rfl
    have e3 : wCommitter.length = 9 := rfl
    unfold textP
    simp only [List.length_append, List.length_cons]
    omega
  par := fun t s1 s2 ps hl hp _ => by
    unfold textP at hl
    rw [lineL_mk _ (by decide) hc.1] at hl
    obtain ⟨rfl, rfl⟩ := Prod.mk.inj (Option.some.inj hl)
    rw [parL_mk (by intro ⟨t, ht⟩; simp [pParent, wAuthor] at ht) hc.2.1] at hp
    cases h2 : parL s2 with
    | none => rw [h2] at hp; cases hp
    | some q =>
      rw [h2] at hp
      have := (Prod.mk.inj (Option.some.inj hp)).1
      have h16 := (checkP_ok h).1
      rw [this, List.length_append] at h16
      omega
  sgn := fun t s1 s2 ps al s3 hl hp ha => by
    obtain ⟨_, _, _, h2, h3⟩ := checkP_ok h
    have l1 := signT_len c.author (signedP_sg h2)
    have l2 := signT_len c.committer (signedP_sg h3)
    have w1 := (lineP_no (signedP_ok h2).1).2.2.2
    have w2 := (lineP_no (signedP_ok h3).1).2.2.2
    unfold textP at hl
    rw [lineL_mk _ (by decide) hc.1] at hl
    obtain ⟨rfl, rfl⟩ := Prod.mk.inj (Option.some.inj hl)
    rw [parL_mk (by intro ⟨t, ht⟩; simp [pParent, wAuthor] at ht) hc.2.1] at hp
    obtain ⟨rfl, rfl⟩ := Prod.mk.inj (Option.some.inj hp)
    rw [lineL_mk _ (by decide) (signT_no _ hc.2.2.1.1 10 (by decide) hc.2.2.1.2)] at ha
    obtain ⟨rfl, rfl⟩ := Prod.mk.inj (Option.some.inj ha)
    refine ⟨by omega, fun bl s4 hb => ?_⟩
    rw [lineL_mk _ (by decide) (signT_no _ hc.2.2.2.1 10 (by decide) hc.2.2.2.2)] at hb
    obtain ⟨rfl, rfl⟩ := Prod.mk.inj (Option.some.inj hb)
    omega
theorem cparse_ok (s : Bs) (hB : ParB s) (hz : ∀ c, parseL s = some c → CmSz c) : Eng.Spec Tryd.prog 17 [] [.str s] (fun h x _ => h = [] ∧ readA s x) := by
  refine Cod.cparse_spec (fun E R hN hR => ?_)
  simp (disch := first | omega | (simp only [Lx]; omega)) only [go_sem, simprocAttr]
  refine call_ro' (parse_ok s hB) rfl ?_
  rintro h' v as' ⟨rfl, hv⟩
  rcases hv with ⟨c, hc, rfl⟩ | ⟨hno, c, p, hp, rfl⟩
  · refine ⟨rfl, rfl, ?_⟩
    have hck := ccheck_ok c (hz c hc)
    have hrc : readC s = checkP c := by unfold readC; rw [hc]
    unfold cmA at hck
    simp (disch := first | omega | (simp only [Lx]; omega)) only [go_sem, simprocAttr, cmA, Cod.cparse_jn]
    refine call_ro hck rfl rfl ?_
    simp (disch := first | omega | (simp only [Lx]; omega)) only [go_sem, simprocAttr, Cod.cparse_jn]
    by_cases h0 : checkP c = 0
    · refine vcW_mid hN ?_
      simp (disch := first | omega | (simp only [Lx]; omega)) only [go_sem, simprocAttr, h0]
      exact hR.wk (h' := []) (r' := .tup [cmA c, .int .i64 0]) (ar' := [.undef]) rfl (.le (by simp (disch := first | omega | (simp only [Lx]; omega)) only [go_sem, simprocAttr, cmA])) ⟨rfl, .inl ⟨c, hc, h0, rfl⟩⟩
    · refine vcW_mid hN ?_
      simp (disch := first | omega | (simp only [Lx]; omega)) only [go_sem, simprocAttr, h0]
      exact hR.wk (h' := []) (r' := .tup [parts c0 .nilsl, .int .i64 (readC s)]) (ar' := [.undef]) rfl (.le (by simp (disch := first | omega | (simp only [Lx]; omega)) only [go_sem, simprocAttr, parts, c0, hrc])) ⟨rfl, .inr ⟨by rw [hrc]; exact h0, rfl⟩⟩
  · have hrc : readC s = 3 := by unfold readC; rw [hno]
    have fin : ∀ h0 a, R h0 (.tup [parts c0 .nilsl, .int .i64 3]) [a] := fun h0 a => hR.wk (h' := []) (r' := .tup [parts c0 .nilsl, .int .i64 (readC s)]) (ar' := [a]) rfl (.le (by simp (disch := first | omega | (simp only [Lx]; omega)) only [go_sem, simprocAttr, hrc])) ⟨rfl, .inr ⟨by rw [hrc]; decide, rfl⟩⟩
    unfold parts c0 at fin
    rcases hp with rfl | ⟨ps, rfl⟩
    · refine ⟨rfl, rfl, ?_⟩
      simp (disch := first | omega | (simp only [Lx]; omega)) only [go_sem, simprocAttr, parts, Cod.cparse_jn]
      refine vcW_mid hN ?_
      simp (disch := first | omega | (simp only [Lx]; omega)) only [go_sem, simprocAttr]
      exact fin _ _
    · refine ⟨rfl, rfl, ?_⟩
      simp (disch := first | omega | (simp only [Lx]; omega)) only [go_sem, simprocAttr, parts, Cod.cparse_jn]
      refine vcW_mid hN ?_
      simp (disch := first | omega | (simp only [Lx]; omega)) only [go_sem, simprocAttr]
      exact fin _ _
end Go.Proofs.YtjpinndnicmokaaDoor.Cm
