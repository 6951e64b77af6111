/- Commit: the document's parser of commits. -/
import Derived.Test.YtjpinndnicmokaaDoorCmDSign
set_option linter.all false
namespace Go.Proofs.YtjpinndnicmokaaDoor.Cm
open Eng Ob
set_option maxRecDepth 10000
def sgO (o : Option Sg) : Sg := o.getD ⟨[], 0, 0⟩
theorem dread_ok2 (l : Bs) (hl : l.length ≤ 1000000000000) : SpecR Tryd.prog 38 [.str l] (.tup [sgA (sgO (signL l)), .bool (signL l).isSome]) := by
  have := dread_ok l hl
  unfold signA at this
  cases h : signL l with
  | none => rw [h] at this; exact this
  | some s => rw [h] at this; exact this
theorem dl_ok2 (w s : Bs) (hs : s.length ≤ 1000000000000) (hw : w.length ≤ 100) : ∃ a b : Bs, a.length ≤ 1000000000000 ∧ b.length ≤ 1000000000000 ∧ SpecR Tryd.prog 36 [.str s, .str w] (.tup [.str a, .str b, .bool (lineL w s).isSome]) ∧ ∀ x y, lineL w s = some (x, y) → a = x ∧ b = y := by
  have := dl_ok w s hs hw
  unfold lineA at this
  cases h : lineL w s with
  | none => rw [h] at this; exact ⟨[], [], by simp, by simp, this, by simp⟩
  | some q =>
    obtain ⟨a, b⟩ := q
    have hlen := lineL_len h
    rw [h] at this
    refine ⟨a, b, by omega, by omega, this, fun x y e => ?_⟩
    obtain ⟨rfl, rfl⟩ := Prod.mk.inj (Option.some.inj e)
    exact ⟨rfl, rfl⟩
section
variable {E : Env} {R : HP → AV → List AV → Prop} {l rest t m : Bs} {ps : List Bs} {ok good : Bool} {x y : Sg}
theorem bad9 (hN : E.N ≤ 1000000) (hl : l.length ≤ 1000000000000) (hrest : rest.length ≤ 1000000000000) (h : ok = false ∨ good = false ∨ signL l = none ∨ ¬ [10] <+: rest)
    (bad : ∀ h0 a, R h0 (.tup [parts c0 .nilsl, .int .i64 3]) [a]) :
    vcW Tryd.prog E Cod.dparse_9 (KQ.post [.cell 2 true 9, .tmp 3] 1 R) ⟨[(2, .vptr 27002 0), (4, .vptr 27004 0), (5, .str l), (6, .str rest), (7, .bool ok), (8, .bool good)],
      [(27004, .var [.str t, .sl 27035 0 ps.length, .str x.who, .int .i64 x.time, .int .i64 x.zone, .str y.who, .int .i64 y.time, .int .i64 y.zone, .str m]), (27002, .var [.str [], .nilsl, .str [], .int .i64 0, .int .i64 0, .str [], .int .i64 0, .int .i64 0, .str []]), (27035, .arr 1 (ps.map .str))]⟩ := by
  unfold parts c0 at bad
  have hrd := dread_ok2 l hl
  have hb := begins_ok rest [10] (by omega) (by simp)
  generalize hsg : sgO (signL l) = sg at *
  simp (disch := first | omega | (simp only [Lx]; omega)) only [go_sem, simprocAttr]
  refine call_ro hrd rfl rfl ?_
  simp (disch := first | omega | (simp only [Lx]; omega)) only [go_sem, simprocAttr, sgA]
  cases ok with
  | false =>
    simp (disch := first | omega | (simp only [Lx]; omega)) only [go_sem, simprocAttr]
    (repeat (first | (with_reducible refine gskip_of ?_) | (with_reducible refine gcskip_of ?_) | (with_reducible refine gopen_of ?_)) <;> simp (disch := first | omega | (simp only [Lx]; omega)) only [go_sem, simprocAttr])
    exact bad _ _
  | true =>
    cases good with
    | false =>
      simp (disch := first | omega | (simp only [Lx]; omega)) only [go_sem, simprocAttr]
      (repeat (first | (with_reducible refine gskip_of ?_) | (with_reducible refine gcskip_of ?_) | (with_reducible refine gopen_of ?_)) <;> simp (disch := first | omega | (simp only [Lx]; omega)) only [go_sem, simprocAttr])
      exact bad _ _
    | true =>
      cases hs : signL l with
      | none =>
        simp (disch := first | omega | (simp only [Lx]; omega)) only [go_sem, simprocAttr]
        (repeat (first | (with_reducible refine gskip_of ?_) | (with_reducible refine gcskip_of ?_) | (with_reducible refine gopen_of ?_)) <;> simp (disch := first | omega | (simp only [Lx]; omega)) only [go_sem, simprocAttr])
        exact bad _ _
      | some q =>
        have hp : ¬ [10] <+: rest := by
          rcases h with h | h | h | h
          · cases h
          · cases h
          · rw [hs] at h; cases h
          · exact h
        rw [decide_eq_false hp] at hb
        simp (disch := first | omega | (simp only [Lx]; omega)) only [go_sem, simprocAttr]
        (repeat (first | (with_reducible refine gskip_of ?_) | (with_reducible refine gcskip_of ?_) | (with_reducible refine gopen_of ?_)) <;> simp (disch := first | omega | (simp only [Lx]; omega)) only [go_sem, simprocAttr])
        refine gcyes_of (callT_ro (by simp (disch := first | omega | (simp only [Lx]; omega)) only [go_sem, simprocAttr]) hb (by simp (disch := first | omega | (simp only [Lx]; omega)) only [go_sem, simprocAttr]) rfl rfl ?_)
        simp (disch := first | omega | (simp only [Lx]; omega)) only [go_sem, simprocAttr]
        exact bad _ _
theorem bad7 (hN : E.N ≤ 1000000) (hl : l.length ≤ 1000000000000) (hrest : rest.length ≤ 1000000000000) (h : ok = false ∨ signL l = none)
    (bad : ∀ h0 a, R h0 (.tup [parts c0 .nilsl, .int .i64 3]) [a]) :
    vcW Tryd.prog E Cod.dparse_7 (KQ.post [.cell 2 true 9, .tmp 3] 1 R) ⟨[(2, .vptr 27002 0), (4, .vptr 27004 0), (5, .str l), (6, .str rest), (7, .bool ok)],
      [(27004, .var [.str t, .sl 27035 0 ps.length, .str x.who, .int .i64 x.time, .int .i64 x.zone, .str y.who, .int .i64 y.time, .int .i64 y.zone, .str m]), (27002, .var [.str [], .nilsl, .str [], .int .i64 0, .int .i64 0, .str [], .int .i64 0, .int .i64 0, .str []]), (27035, .arr 1 (ps.map .str))]⟩ := by
  have hrd := dread_ok2 l hl
  generalize hsg : sgO (signL l) = sg at *
  simp (disch := first | omega | (simp only [Lx]; omega)) only [go_sem, simprocAttr]
  refine call_ro hrd rfl rfl ?_
  simp (disch := first | omega | (simp only [Lx]; omega)) only [go_sem, simprocAttr, sgA]
  cases ok with
  | false =>
    have T := bad9 (R := R) (l := l) (rest := rest) (t := t) (m := m) (ps := ps) (ok := false) (good := (signL l).isSome) (x := sg) (y := y) hN hl hrest (.inl rfl) bad
    simp (disch := first | omega | (simp only [Lx]; omega)) only [go_sem, simprocAttr, Cod.dparse_jn]
    exact vcW_mid_wk hN _ (.le (by simp (disch := first | omega | (simp only [Lx]; omega)) only [go_sem, simprocAttr])) T
  | true =>
    have hs : signL l = none := by
      rcases h with h | h
      · cases h
      · exact h
    obtain ⟨a, b, ha, hb, hln, _⟩ := dl_ok2 wCommitter rest hrest (by decide)
    unfold wCommitter at hln
    generalize (lineL _ rest).isSome = ok2 at *
    have T := bad9 (R := R) (l := a) (rest := b) (t := t) (m := m) (ps := ps) (ok := ok2) (good := false) (x := sg) (y := y) hN ha hb (.inr (.inl rfl)) bad
    simp (disch := first | omega | (simp only [Lx]; omega)) only [go_sem, simprocAttr, hs, Option.isSome_none, Cod.dparse_jn]
    refine call_ro hln rfl rfl ?_
    simp (disch := first | omega | (simp only [Lx]; omega)) only [go_sem, simprocAttr, Cod.dparse_jn]
    exact vcW_mid_wk hN _ (.le (by simp (disch := first | omega | (simp only [Lx]; omega)) only [go_sem, simprocAttr])) T
end
theorem dparse_ok (s : Bs) (hs : s.length ≤ 1000000000000) : Eng.Spec Tryd.prog 19 [] [.str s] (fun h x _ => h = [] ∧ readA s x) := by
  refine Cod.dparse_spec (fun E R hN hR => ?_)
  have bad : parseL s = none → ∀ h0 a, R h0 (.tup [parts c0 .nilsl, .int .i64 3]) [a] := fun hno h0 a => by
    have hrc : readC s = 3 := by unfold readC; rw [hno]
    exact hR.wk (h' := []) (r' := .tup [parts c0 .nilsl, .int .i64 (readC s)]) (ar' := [a]) rfl (.le (by simp (disch := first | omega | (simp only [Lx]; omega)) only [go_sem, simprocAttr, hrc])) ⟨rfl, .inr ⟨by rw [hrc]; decide, rfl⟩⟩
  obtain ⟨a0, b0, ha0, hb0, hln, hT⟩ := dl_ok2 wTree s hs (by decide)
  have hwt : ∀ r, wTree ++ r = wTree ++ r := fun _ => rfl
  unfold wTree at hln
  have hinit : ∀ z, lineL wTree s = z → (z = none ∧ parseL s = none) ∨ (z = some (a0, b0) ∧ parseL s = parseT a0 b0 ∧ b0.length ≤ s.length) := by
    rintro z rfl
    cases h : lineL wTree s with
    | none => exact .inl ⟨rfl, by unfold parseL; rw [h]⟩
    | some q =>
      obtain ⟨u, v⟩ := q
      obtain ⟨rfl, rfl⟩ := hT u v h
      have := lineL_len h
      exact .inr ⟨rfl, parseL_T h, by omega⟩
  have hok0 := hinit _ rfl
  unfold wTree at hok0
  generalize lineL [116, 114, 101, 101] s = z0 at *
  simp (disch := first | omega | (simp only [Lx]; omega)) only [go_sem, simprocAttr]
  refine call_ro hln rfl rfl ?_
  simp (disch := first | omega | (simp only [Lx]; omega)) only [go_sem, simprocAttr]
  refine vcW_loop hN (fun a : List Bs × Bs × Bs × Bool => ⟨[(2, .vptr 27002 0), (4, .vptr 27004 0), (5, .str a.2.1), (6, .str a.2.2.1), (7, .bool a.2.2.2)],
    [(27004, .var [.str a0, .sl 27035 0 a.1.length, .str [], .int .i64 0, .int .i64 0, .str [], .int .i64 0, .int .i64 0, .str []]), (27002, .var [.str [], .nilsl, .str [], .int .i64 0, .int .i64 0, .str [], .int .i64 0, .int .i64 0, .str []]), (27035, .arr 1 (a.1.map .str))]⟩)
    (fun a => a.2.1.length ≤ 1000000000000 ∧ a.2.2.1.length ≤ 1000000000000 ∧ ((a.2.2.2 = false ∧ parseL s = none) ∨ (a.2.2.2 = true ∧ parseL s = parseT a0 b0 ∧ parL b0 = (parL a.2.2.1).map (fun q => (a.1 ++ q.1, q.2)) ∧ a.1.length + a.2.2.1.length ≤ b0.length)))
    (fun a => if a.2.2.2 then a.2.2.1.length + 1 else 0) ([], a0, b0, z0.isSome) (.nilV 27004 1 27035 1 _ (by simp (disch := first | omega | (simp only [Lx]; omega)) only [go_sem, simprocAttr]; rfl) rfl rfl (.le (by simp (disch := first | omega | (simp only [Lx]; omega)) only [go_sem, simprocAttr]))) ⟨ha0, hb0, ?_⟩ ?_
  · rcases hok0 with ⟨rfl, h⟩ | ⟨rfl, h, h2⟩
    · exact .inl ⟨rfl, h⟩
    · exact .inr ⟨rfl, h, map_nil_more _, by simp⟩
  rintro ⟨ps, l, rest, ok⟩ R1 ⟨hl, hrest, hcase⟩ hR1
  simp only at hl hrest hcase
  have hbg := begins_ok rest pParent (by omega) (by decide)
  unfold pParent at hbg
  rcases hcase with ⟨rfl, hno⟩ | ⟨rfl, hPT, hpar, hle⟩
  · have bad := bad hno
    have T := bad7 (R := R) (l := l) (rest := rest) (t := a0) (m := []) (ps := ps) (ok := false) (x := ⟨[], 0, 0⟩) (y := ⟨[], 0, 0⟩) hN hl hrest (.inl rfl) bad
    simp (disch := first | omega | (simp only [Lx]; omega)) only [go_sem, simprocAttr, Cod.dparse_jn]
    (repeat (first | (with_reducible refine gskip_of ?_) | (with_reducible refine gcskip_of ?_) | (with_reducible refine gopen_of ?_)) <;> simp (disch := first | omega | (simp only [Lx]; omega)) only [go_sem, simprocAttr, Cod.dparse_jn])
    exact vcW_mid_wk hN _ (.le (by simp (disch := first | omega | (simp only [Lx]; omega)) only [go_sem, simprocAttr])) T
  · by_cases hp : pParent <+: rest
    · rw [decide_eq_true (by exact hp)] at hbg
      obtain ⟨a, b, ha, hb, hln2, hyes⟩ := dl_ok2 wParent rest hrest (by decide)
      unfold wParent at hln2
      have hnext : ∀ z, lineL wParent rest = z → ∀ st', Wk st' ⟨[(2, .vptr 27002 0), (4, .vptr 27004 0), (5, .str a), (6, .str b), (7, .bool z.isSome)],
          [(27004, .var [.str a0, .sl 27035 0 (ps.length + 1), .str [], .int .i64 0, .int .i64 0, .str [], .int .i64 0, .int .i64 0, .str []]), (27002, .var [.str [], .nilsl, .str [], .int .i64 0, .int .i64 0, .str [], .int .i64 0, .int .i64 0, .str []]), (27035, .arr 1 (ps.map .str ++ [.str a]))]⟩ → R1.ap st' := by
        rintro z rfl st' hw
        refine hR1 (ps ++ [a], a, b, (lineL wParent rest).isSome) st' ?_ ⟨ha, hb, ?_⟩ (by simpa using hw)
        · simp only [if_true]
          cases h : lineL wParent rest with
          | none => simp
          | some q =>
            obtain ⟨u, v⟩ := q
            obtain ⟨rfl, rfl⟩ := hyes u v h
            have := lineL_len h
            simp
            omega
        · simp only
          cases h : lineL wParent rest with
          | none => exact .inl ⟨rfl, by rw [hPT]; exact parseT_no (by rw [hpar, parL_none hp h]; rfl)⟩
          | some q =>
            obtain ⟨u, v⟩ := q
            obtain ⟨rfl, rfl⟩ := hyes u v h
            have := lineL_len h
            refine .inr ⟨rfl, hPT, ?_, ?_⟩
            · rw [hpar, parL_cons hp h, Option.map_map]
              congr 1; funext q; simp
            · simp; omega
      have hnext := hnext _ rfl
      unfold wParent at hnext
      generalize (lineL _ rest).isSome = ok2 at *
      simp (disch := first | omega | (simp only [Lx]; omega)) only [go_sem, simprocAttr]
      (repeat (first | (with_reducible refine gskip_of ?_) | (with_reducible refine gcskip_of ?_) | (with_reducible refine gopen_of ?_)) <;> simp (disch := first | omega | (simp only [Lx]; omega)) only [go_sem, simprocAttr])
      refine gcyes_of (callT_ro (by simp (disch := first | omega | (simp only [Lx]; omega)) only [go_sem, simprocAttr]) hbg (by simp (disch := first | omega | (simp only [Lx]; omega)) only [go_sem, simprocAttr]) rfl rfl ?_)
      simp (disch := first | omega | (simp only [Lx]; omega)) only [go_sem, simprocAttr]
      refine call_ro hln2 rfl rfl ?_
      simp (disch := first | omega | (simp only [Lx]; omega)) only [go_sem, simprocAttr]
      exact hnext _ (.le (by simp (disch := first | omega | (simp only [Lx]; omega)) only [go_sem, simprocAttr]))
    · rw [decide_eq_false (by exact hp)] at hbg
      have hpar : parL b0 = some (ps, rest) := by rw [hpar, parL_no hp]; simp
      have hPU : parseL s = parseU a0 ps rest := by rw [hPT]; exact parseT_U hpar
      have hps : ps.length ≤ 1000000000000 := by
        rcases hok0 with ⟨h, h2⟩ | ⟨_, _, h2⟩
        · rw [h2] at hPT
          omega
        · omega
      obtain ⟨al, s3, hal, hs3, hlnA, hyA⟩ := dl_ok2 wAuthor rest hrest (by decide)
      have hbadA : ∀ z, lineL wAuthor rest = z → (z = none ∧ parseL s = none) ∨ (z = some (al, s3) ∧ parseL s = match signL al with | none => none | some sa => match lineL wCommitter s3 with
          | none => none
          | some (b, s4) => match signL b with
            | none => none
            | some sb => match msgL s4 with
              | none => none
              | some m => some ⟨a0, ps, sa, sb, m⟩) := by
        rintro z rfl
        cases h : lineL wAuthor rest with
        | none => exact .inl ⟨rfl, by rw [hPU]; unfold parseU; rw [h]⟩
        | some q =>
          obtain ⟨u, v⟩ := q
          obtain ⟨rfl, rfl⟩ := hyA u v h
          exact .inr ⟨rfl, by rw [hPU]; unfold parseU; rw [h]; rfl⟩
      have hbadA := hbadA _ rfl
      unfold wAuthor at hlnA hbadA
      generalize lineL _ rest = zA at *
      simp (disch := first | omega | (simp only [Lx]; omega)) only [go_sem, simprocAttr, Cod.dparse_jn]
      (repeat (first | (with_reducible refine gskip_of ?_) | (with_reducible refine gcskip_of ?_) | (with_reducible refine gopen_of ?_)) <;> simp (disch := first | omega | (simp only [Lx]; omega)) only [go_sem, simprocAttr, Cod.dparse_jn])
      refine gcyes_of (callT_ro (by simp (disch := first | omega | (simp only [Lx]; omega)) only [go_sem, simprocAttr]) hbg (by simp (disch := first | omega | (simp only [Lx]; omega)) only [go_sem, simprocAttr]) rfl rfl ?_)
      simp (disch := first | omega | (simp only [Lx]; omega)) only [go_sem, simprocAttr, Cod.dparse_jn]
      refine call_ro hlnA rfl rfl ?_
      simp (disch := first | omega | (simp only [Lx]; omega)) only [go_sem, simprocAttr, Cod.dparse_jn]
      rcases hbadA with ⟨rfl, hno⟩ | ⟨rfl, hA⟩
      · have T := bad7 (R := R) (l := al) (rest := s3) (t := a0) (m := []) (ps := ps) (ok := false) (x := ⟨[], 0, 0⟩) (y := ⟨[], 0, 0⟩) hN hal hs3 (.inl rfl) (bad hno)
        exact vcW_mid_wk hN _ (.le (by simp (disch := first | omega | (simp only [Lx]; omega)) only [go_sem, simprocAttr])) T
      cases hsa : signL al with
      | none =>
        rw [hsa] at hA
        have T := bad7 (R := R) (l := al) (rest := s3) (t := a0) (m := []) (ps := ps) (ok := true) (x := ⟨[], 0, 0⟩) (y := ⟨[], 0, 0⟩) hN hal hs3 (.inr hsa) (bad hA)
        exact vcW_mid_wk hN _ (.le (by simp (disch := first | omega | (simp only [Lx]; omega)) only [go_sem, simprocAttr])) T
      | some sa =>
        rw [hsa] at hA
        simp only at hA
        have hrd := dread_ok2 al hal
        rw [hsa] at hrd
        obtain ⟨bl, s4, hbl, hs4, hlnB, hyB⟩ := dl_ok2 wCommitter s3 hs3 (by decide)
        have hbadB : ∀ z, lineL wCommitter s3 = z → (z = none ∧ parseL s = none) ∨ (z = some (bl, s4) ∧ parseL s = match signL bl with | none => none | some sb => match msgL s4 with
              | none => none
              | some m => some ⟨a0, ps, sa, sb, m⟩) := by
          rintro z rfl
          cases h : lineL wCommitter s3 with
          | none => exact .inl ⟨rfl, by rw [hA, h]⟩
          | some q =>
            obtain ⟨u, v⟩ := q
            obtain ⟨rfl, rfl⟩ := hyB u v h
            exact .inr ⟨rfl, by rw [hA, h]⟩
        have hbB := hbadB _ rfl
        clear hbadB
        unfold wCommitter at hlnB hbB
        generalize lineL [99, 111, 109, 109, 105, 116, 116, 101, 114] s3 = zB at *
        refine vcW_mid hN ?_
        simp (disch := first | omega | (simp only [Lx]; omega)) only [go_sem, simprocAttr]
        refine call_ro hrd rfl rfl ?_
        simp (disch := first | omega | (simp only [Lx]; omega)) only [go_sem, simprocAttr, sgA, sgO, Option.getD_some, Option.isSome_some, Cod.dparse_jn]
        refine call_ro hlnB rfl rfl ?_
        simp (disch := first | omega | (simp only [Lx]; omega)) only [go_sem, simprocAttr, Cod.dparse_jn]
        rcases hbB with ⟨rfl, hno⟩ | ⟨rfl, hB⟩
        · have T := bad9 (R := R) (l := bl) (rest := s4) (t := a0) (m := []) (ps := ps) (ok := false) (good := true) (x := sa) (y := ⟨[], 0, 0⟩) hN hbl hs4 (.inl rfl) (bad hno)
          exact vcW_mid_wk hN _ (.le (by simp (disch := first | omega | (simp only [Lx]; omega)) only [go_sem, simprocAttr])) T
        cases hsb : signL bl with
        | none =>
          rw [hsb] at hB
          have T := bad9 (R := R) (l := bl) (rest := s4) (t := a0) (m := []) (ps := ps) (ok := true) (good := true) (x := sa) (y := ⟨[], 0, 0⟩) hN hbl hs4 (.inr (.inr (.inl hsb))) (bad hB)
          exact vcW_mid_wk hN _ (.le (by simp (disch := first | omega | (simp only [Lx]; omega)) only [go_sem, simprocAttr])) T
        | some sb =>
          rw [hsb] at hB
          simp only at hB
          rw [msgL_pre] at hB
          by_cases hp : [10] <+: s4
          · rw [if_pos hp] at hB
            have hrd2 := dread_ok2 bl hbl
            rw [hsb] at hrd2
            have hb10 := begins_ok s4 [10] (by omega) (by simp)
            rw [decide_eq_true hp] at hb10
            have hl4 : 1 ≤ s4.length := hp.length_le
            have hrc : readC s = checkP ⟨a0, ps, sa, sb, s4.drop 1⟩ := by unfold readC; rw [hB]
            have hck := dcheck_ok ⟨a0, ps, sa, sb, s4.drop 1⟩ (parseL_sz hs hB)
            unfold cmA at hck
            simp only at hck
            refine vcW_mid hN ?_
            simp (disch := first | omega | (simp only [Lx]; omega)) only [go_sem, simprocAttr]
            refine call_ro hrd2 rfl rfl ?_
            simp (disch := first | omega | (simp only [Lx]; omega)) only [go_sem, simprocAttr, sgA, sgO, Option.getD_some, Option.isSome_some]
            (repeat (first | (with_reducible refine gskip_of ?_) | (with_reducible refine gcskip_of ?_) | (with_reducible refine gopen_of ?_)) <;> simp (disch := first | omega | (simp only [Lx]; omega)) only [go_sem, simprocAttr])
            refine gcyes_of (callT_ro (by simp (disch := first | omega | (simp only [Lx]; omega)) only [go_sem, simprocAttr]) hb10 (by simp (disch := first | omega | (simp only [Lx]; omega)) only [go_sem, simprocAttr]) rfl rfl ?_)
            simp (disch := first | omega | (simp only [Lx]; omega)) only [go_sem, simprocAttr]
            refine call_flat (by simp (disch := first | omega | (simp only [Lx]; omega)) only [go_sem, simprocAttr]) hck rfl ?_
            by_cases h0 : checkP ⟨a0, ps, sa, sb, s4.drop 1⟩ = 0
            · simp (disch := first | omega | (simp only [Lx]; omega)) only [go_sem, simprocAttr, h0]
              exact hR.wk (h' := []) (r' := .tup [cmA ⟨a0, ps, sa, sb, s4.drop 1⟩, .int .i64 0]) (ar' := [.undef]) rfl (.frz 27035 (.le (by simp (disch := first | omega | (simp only [Lx]; omega)) only [go_sem, simprocAttr, cmA]))) ⟨rfl, .inl ⟨_, hB, h0, rfl⟩⟩
            · simp (disch := first | omega | (simp only [Lx]; omega)) only [go_sem, simprocAttr, h0]
              exact hR.wk (h' := []) (r' := .tup [parts c0 .nilsl, .int .i64 (readC s)]) (ar' := [.undef]) rfl (.le (by simp (disch := first | omega | (simp only [Lx]; omega)) only [go_sem, simprocAttr, parts, c0, hrc])) ⟨rfl, .inr ⟨by rw [hrc]; exact h0, rfl⟩⟩
          · rw [if_neg hp] at hB
            have T := bad9 (R := R) (l := bl) (rest := s4) (t := a0) (m := []) (ps := ps) (ok := true) (good := true) (x := sa) (y := ⟨[], 0, 0⟩) hN hbl hs4 (.inr (.inr (.inr hp))) (bad hB)
            exact vcW_mid_wk hN _ (.le (by simp (disch := first | omega | (simp only [Lx]; omega)) only [go_sem, simprocAttr])) T
end Go.Proofs.YtjpinndnicmokaaDoor.Cm
