/- PseudoBetween: what is made lies between its base and the next release, and later ones later. -/
import Derived.Test.YtgkcbhdpenmogaaDoorPsLt
set_option linter.all false
namespace Go.Proofs.YtgkcbhdpenmogaaDoor.Ps
open Eng Sv
set_option maxRecDepth 10000
/-- the word of a stamp and a revision -/
theorem hex_ch {c : UInt8} (h : hexC c = true) : chOK c = true ∧ c ≠ 46 ∧ c ≠ 43 := by
  unfold hexC at h
  simp only [Bool.or_eq_true, Bool.and_eq_true, decide_eq_true_eq] at h
  have h46 : c ≠ 46 := fun e => by rw [e] at h; revert h; decide
  have h43 : c ≠ 43 := fun e => by rw [e] at h; revert h; decide
  refine ⟨?_, h46, h43⟩
  unfold chOK
  simp only [decide_eq_true_eq]
  omega
theorem dig_ch {c : UInt8} (h : isD c = true) : chOK c = true ∧ c ≠ 46 ∧ c ≠ 43 := by
  unfold isD at h
  simp only [decide_eq_true_eq] at h
  have h46 : c ≠ 46 := fun e => by rw [e] at h; revert h; decide
  have h43 : c ≠ 43 := fun e => by rw [e] at h; revert h; decide
  refine ⟨?_, h46, h43⟩
  unfold chOK
  simp only [decide_eq_true_eq]
  omega
theorem split_one {c : UInt8} : ∀ {a : Bs}, c ∉ a → splitB c a = [a]
  | [], _ => rfl
  | x :: r, h => by
    simp only [List.mem_cons, not_or] at h
    rw [splitB, if_neg (fun e => h.1 e.symm), split_one h.2]
structure TailOK (T : Bs) : Prop where
  ne : T ≠ []
  wd : wordsP T true = true
  nd : 46 ∉ T
  np : 43 ∉ T
  dg : digB T = false
theorem tail_ok {t : Int} {r : Bs} (ht : inY t) (hr : revP r = true) : TailOK (tailP t r) := by
  have e : tailP t r = stB (dateP t) ++ 45 :: r := by unfold tailP; rw [stamp_st (date_in ht)]; simp
  rw [e]
  unfold revP at hr
  simp only [Bool.and_eq_true, List.all_eq_true] at hr
  have hs := st_all (dateP t)
  rw [List.all_eq_true] at hs
  have hall : ∀ c ∈ stB (dateP t) ++ 45 :: r, chOK c = true ∧ c ≠ 46 ∧ c ≠ 43 := by
    intro c hc
    rw [List.mem_append, List.mem_cons] at hc
    rcases hc with h | rfl | h
    · exact dig_ch (hs c h)
    · exact ⟨by decide, by decide, by decide⟩
    · exact hex_ch (hr.2 c h)
  have hne : stB (dateP t) ++ 45 :: r ≠ [] := by simp
  have hdg : digB (stB (dateP t) ++ 45 :: r) = false := by
    unfold digB
    rw [List.all_append, List.all_cons]
    rw [show isD 45 = false from rfl]
    simp
  have hnd : 46 ∉ stB (dateP t) ++ 45 :: r := fun h => (hall _ h).2.1 rfl
  refine ⟨hne, ?_, hnd, fun h => (hall _ h).2.2 rfl, hdg⟩
  unfold wordsP
  rw [split_one hnd, List.all_cons, List.all_nil, Bool.and_true]
  unfold wordOK wbad
  rw [hdg, decide_eq_false hne]
  simp only [Bool.and_false, Bool.false_and, Bool.or_false, Bool.not_false, Bool.true_and, List.all_eq_true]
  exact fun c hc => (hall c hc).1
theorem tail_lt {a b : Int} {r r' : Bs} (ha : inY a) (hb : inY b) (h : a < b) : Lib.compareBytes (tailP a r) (tailP b r') = -1 := by
  have e1 : tailP a r = stB (dateP a) ++ 45 :: r := by unfold tailP; rw [stamp_st (date_in ha)]; simp
  have e2 : tailP b r' = stB (dateP b) ++ 45 :: r' := by unfold tailP; rw [stamp_st (date_in hb)]; simp
  rw [e1, e2]
  exact st_lt (date_in ha) (date_in hb) (date_lt ha hb h) _ _
/-- the version that Make makes of an older one -/
def mkV (v : Ver) (T : Bs) : Ver := if v.pr = [] then ⟨v.mj, v.mi, moreN v.pa, [48, 46] ++ T, v.bu, 0⟩ else ⟨v.mj, v.mi, v.pa, v.pr ++ [46, 48, 46] ++ T, v.bu, 0⟩
theorem core_eq (v : Ver) (t : Int) (r : Bs) : coreP v t r ++ bldP v = canonV (mkV v (tailP t r)) ++ bldP (mkV v (tailP t r)) := by
  unfold coreP mkV
  by_cases h : v.pr = []
  · rw [if_pos h, if_pos h]
    have hne : ¬ ([48, 46] ++ tailP t r = ([] : Bs)) := by simp
    unfold canonV headP bldP
    simp only [if_neg hne]
    simp
  · rw [if_neg h, if_neg h]
    have hne : ¬ (v.pr ++ [46, 48, 46] ++ tailP t r = ([] : Bs)) := by simp
    unfold canonV headP bldP
    simp only [if_neg hne]
    simp
theorem mkV_ok {v : Ver} (h : VOK v) {T : Bs} (hT : TailOK T) : VOK (mkV v T) := by
  unfold mkV
  by_cases hp : v.pr = []
  · rw [if_pos hp]
    refine ⟨h.mj, h.mi, (moreN_num h.pa).1, .inr ?_, ?_⟩
    · have : ([48, 46] ++ T : Bs) = [48] ++ 46 :: T := rfl
      rw [this, words_app, hT.wd]
      decide
    · simp only [List.cons_append, List.nil_append, List.mem_cons, not_or]
      exact ⟨by decide, by decide, hT.np⟩
  · rw [if_neg hp]
    have hw := h.pr.resolve_left hp
    refine ⟨h.mj, h.mi, h.pa, .inr ?_, ?_⟩
    · have : v.pr ++ [46, 48, 46] ++ T = v.pr ++ 46 :: ([48] ++ 46 :: T) := by simp
      rw [this, words_app, words_app, hw, hT.wd]
      decide
    · simp only [List.append_assoc, List.mem_append, not_or, List.cons_append, List.nil_append, List.mem_cons]
      exact ⟨h.np, by decide, by decide, by decide, hT.np⟩
theorem lex_last (l : List Bs) {a b : Bs} (hc : Lib.compareBytes a b = -1) (da : digB a = false) (db : digB b = false) : lexL (l ++ [a]) (l ++ [b]) = -1 := by
  rw [lexL_app]
  have hab : a ≠ b := fun e => by rw [e, cb_refl] at hc; exact absurd hc (by decide)
  rw [lexL, if_neg hab, wc_ff da db, hc]
theorem byWords_last {p a b : Bs} (hc : Lib.compareBytes a b = -1) (hA : TailOK a) (hB : TailOK b) (w1 : wordsP (p ++ 46 :: a) true = true) (w2 : wordsP (p ++ 46 :: b) true = true) : byWordsP (p ++ 46 :: a) (p ++ 46 :: b) = -1 := by
  rw [byWords_bw (words_VP w1) (words_VP w2)]
  unfold W
  rw [if_neg (by simp), if_neg (by simp), split_app, split_app, split_one hA.nd, split_one hB.nd]
  have h1 := split_ne 46 p
  cases hp : splitB 46 p with
  | nil => exact absurd hp h1
  | cons q qs => exact lex_last (q :: qs) hc hA.dg hB.dg
theorem byWords_tail {a b : Bs} (hc : Lib.compareBytes a b = -1) (hA : TailOK a) (hB : TailOK b) : byWordsP a b = -1 := by
  rw [byWords_bw (words_VP hA.wd) (words_VP hB.wd)]
  unfold W
  rw [if_neg hA.ne, if_neg hB.ne, split_one hA.nd, split_one hB.nd]
  exact lex_last [] hc hA.dg hB.dg
/-- what Make answers without error -/
theorem make_some {m o r : Bs} {t : Int} {x : Bs} (h : makeP m o t r = (x, 0)) : inY t ∧ revP r = true ∧ x.length ≤ 100 ∧ ((o = [] ∧ x = m ++ [46, 48, 46, 48, 45] ++ tailP t r) ∨ (o ≠ [] ∧ ∃ v, parseP o = some v ∧ x = coreP v t r ++ bldP v)) := by
  unfold makeP at h
  have fin : ∀ y : Bs, finP y = (x, 0) → y = x ∧ x.length ≤ 100 := by
    intro y hy
    unfold finP at hy
    split at hy
    · simp at hy
    · simp only [Prod.mk.injEq, and_true] at hy
      subst hy
      exact ⟨rfl, by omega⟩
  split at h
  · simp at h
  · rename_i hc
    have hc := Classical.not_not.1 hc
    split at h
    · rename_i ho
      split at h
      · simp at h
      · split at h
        · obtain ⟨e, hl⟩ := fin _ h
          exact ⟨hc.1, hc.2, hl, .inl ⟨ho, e.symm⟩⟩
        · simp at h
    · rename_i ho
      split at h
      · simp at h
      · rename_i v hv
        obtain ⟨e, hl⟩ := fin _ h
        exact ⟨hc.1, hc.2, hl, .inr ⟨ho, v, hv, e.symm⟩⟩
theorem zero_next : parseP [118, 48, 46, 48, 46, 48] = some ⟨[48], [48], [48], [], [], 0⟩ := parse_canon (v := ⟨[48], [48], [48], [], [], 0⟩) ⟨num0, num0, num0, .inl rfl, by simp⟩ (by decide)
/-- the next release -/
def nextP (o : Bs) : Bs := if o = [] then [118, 48, 46, 48, 46, 48] else match parseP o with
  | none => []
  | some v => if v.pr = [] then headP v ++ moreN v.pa else headP v ++ v.pa
def v0 : Bs := [118, 48]
theorem zero_tail {t : Int} {r : Bs} (hT : TailOK (tailP t r)) (hl : (v0 ++ [46, 48, 46, 48, 45] ++ tailP t r).length ≤ 100) : parseP (v0 ++ [46, 48, 46, 48, 45] ++ tailP t r) = some ⟨[48], [48], [48], tailP t r, [], 0⟩ := by
  have e : v0 ++ [46, 48, 46, 48, 45] ++ tailP t r = canonV ⟨[48], [48], [48], tailP t r, [], 0⟩ := by
    unfold canonV v0
    rw [if_neg hT.ne]
    rfl
  rw [e] at hl ⊢
  exact parse_canon ⟨num0, num0, num0, .inr hT.wd, hT.np⟩ hl
theorem cmpV_by {v w : Ver} {z : Int} (h1 : v.mj = w.mj) (h2 : v.mi = w.mi) (h3 : v.pa = w.pa) (h : byWordsP v.pr w.pr = z) : cmpV v w = z := (cmpV_same h1 h2 h3).trans h
set_option maxHeartbeats 2000000 in
theorem between {o r1 r2 x y : Bs} {t1 t2 : Int} (h1 : makeP v0 o t1 r1 = (x, 0)) (h2 : makeP v0 o t2 r2 = (y, 0)) :
    (t1 < t2 → cmpP x y = -1) ∧ cmpP o x = -1 ∧ cmpP x (nextP o) = -1 ∧ canonP x ≠ [] := by
  obtain ⟨a1, a2, a3, a4⟩ := make_some h1
  obtain ⟨b1, b2, b3, b4⟩ := make_some h2
  have hT := tail_ok a1 a2
  have hU := tail_ok b1 b2
  have hlt : t1 < t2 → Lib.compareBytes (tailP t1 r1) (tailP t2 r2) = -1 := tail_lt a1 b1
  rcases a4 with ⟨ho, ex⟩ | ⟨ho, v, hv, ex⟩
  · rcases b4 with ⟨_, ey⟩ | ⟨ho', _⟩
    · rw [ex] at a3 ⊢
      rw [ey] at b3 ⊢
      have px := zero_tail hT a3
      have py := zero_tail hU b3
      have pn : parseP (nextP o) = some ⟨[48], [48], [48], [], [], 0⟩ := by unfold nextP; rw [if_pos ho]; exact zero_next
      have po : parseP o = none := by rw [ho]; rfl
      refine ⟨fun h => ?_, ?_, ?_, ?_⟩
      · unfold cmpP; rw [px, py]
        show cmpV _ _ = _
        apply cmpV_by
        · rfl
        · rfl
        · rfl
        exact byWords_tail (hlt h) hT hU
      · unfold cmpP; rw [px, po]; rfl
      · unfold cmpP; rw [px, pn]
        show cmpV _ _ = _
        apply cmpV_by
        · rfl
        · rfl
        · rfl
        exact byWords_nil hT.ne
      · unfold canonP; rw [px]; exact canonV_ne _
    · exact absurd ho ho'
  · rcases b4 with ⟨ho', _⟩ | ⟨_, w, hw, ey⟩
    · exact absurd ho' ho
    · rw [hv] at hw
      obtain rfl := Option.some.inj hw
      obtain ⟨vok, _⟩ := parseP_ok hv
      have hbu := (parse_form hv).2.1
      rw [core_eq] at ex ey
      rw [ex] at a3 ⊢
      rw [ey] at b3 ⊢
      have mx := mkV_ok vok hT
      have my := mkV_ok vok hU
      have bx : ∀ T, BuOK (mkV v T) := fun T => by unfold mkV BuOK; split <;> exact hbu
      have px := parse_parts mx (bx _) a3
      have py := parse_parts my (bx _) b3
      have hcl := (canonV_len (mkV v (tailP t1 r1))).2
      rw [List.length_append] at a3
      unfold cmpP
      rw [px, py, hv]
      have hcan : canonP (canonV (mkV v (tailP t1 r1)) ++ bldP (mkV v (tailP t1 r1))) ≠ [] := by unfold canonP; rw [px]; exact canonV_ne _
      refine ⟨fun h => ?_, ?_, ?_, hcan⟩
      · show cmpV _ _ = _
        have w1 := mx.pr
        have w2 := my.pr
        unfold mkV at w1 w2 ⊢
        by_cases hp : v.pr = []
        · simp only [if_pos hp] at w1 w2 ⊢
          apply cmpV_by
          · rfl
          · rfl
          · rfl
          exact byWords_last (p := [48]) (hlt h) hT hU (w1.resolve_left (by simp)) (w2.resolve_left (by simp))
        · simp only [if_neg hp] at w1 w2 ⊢
          have e : ∀ T : Bs, v.pr ++ [46, 48, 46] ++ T = (v.pr ++ [46, 48]) ++ 46 :: T := fun T => by simp
          rw [e] at w1
          rw [e] at w2
          apply cmpV_by
          · rfl
          · rfl
          · rfl
          show byWordsP (v.pr ++ [46, 48, 46] ++ _) (v.pr ++ [46, 48, 46] ++ _) = -1
          rw [e, e]
          exact byWords_last (p := v.pr ++ [46, 48]) (hlt h) hT hU (w1.resolve_left (by simp)) (w2.resolve_left (by simp))
      · show cmpV _ _ = _
        have w1 := mx.pr
        unfold mkV at w1 ⊢
        by_cases hp : v.pr = []
        · simp only [if_pos hp]
          unfold cmpV
          simp only [numCmp_refl]
          rw [(moreN_num vok.pa).2, if_neg (by decide), if_neg (by decide), if_pos (by decide)]
        · simp only [if_neg hp] at w1 ⊢
          have e : v.pr ++ [46, 48, 46] ++ tailP t1 r1 = v.pr ++ 46 :: ([48, 46] ++ tailP t1 r1) := by simp
          rw [e] at w1
          apply cmpV_by
          · rfl
          · rfl
          · rfl
          show byWordsP v.pr (v.pr ++ [46, 48, 46] ++ _) = -1
          rw [e]
          exact byWords_pre hp (w1.resolve_left (by simp))
      · have hn : parseP (nextP o) = some ⟨v.mj, v.mi, if v.pr = [] then moreN v.pa else v.pa, [], [], 0⟩ := by
          unfold nextP
          rw [if_neg ho, hv]
          simp only
          by_cases hp : v.pr = []
          · rw [if_pos hp, if_pos hp]
            have e : headP v ++ moreN v.pa = canonV ⟨v.mj, v.mi, moreN v.pa, [], [], 0⟩ := by unfold canonV headP; rw [if_pos rfl]
            rw [e]
            refine parse_canon ⟨vok.mj, vok.mi, (moreN_num vok.pa).1, .inl rfl, by simp⟩ ?_
            have hc2 := (canonV_len ⟨v.mj, v.mi, moreN v.pa, [], [], 0⟩).2
            have e3 : (prT ([] : Bs)).length = 0 := rfl
            unfold mkV at hcl a3
            simp only [if_pos hp] at hcl a3
            simp only [e3] at hc2
            omega
          · rw [if_neg hp, if_neg hp]
            have e : headP v ++ v.pa = canonV ⟨v.mj, v.mi, v.pa, [], [], 0⟩ := by unfold canonV headP; rw [if_pos rfl]
            rw [e]
            refine parse_canon ⟨vok.mj, vok.mi, vok.pa, .inl rfl, by simp⟩ ?_
            have hc2 := (canonV_len ⟨v.mj, v.mi, v.pa, [], [], 0⟩).2
            have e3 : (prT ([] : Bs)).length = 0 := rfl
            unfold mkV at hcl a3
            simp only [if_neg hp] at hcl a3
            simp only [e3] at hc2
            omega
        rw [hn]
        show cmpV _ _ = _
        unfold mkV
        by_cases hp : v.pr = []
        · simp only [if_pos hp]
          apply cmpV_by
          · rfl
          · rfl
          · rfl
          exact byWords_nil (by simp)
        · simp only [if_neg hp]
          apply cmpV_by
          · rfl
          · rfl
          · rfl
          exact byWords_nil (by simp)
end Go.Proofs.YtgkcbhdpenmogaaDoor.Ps
