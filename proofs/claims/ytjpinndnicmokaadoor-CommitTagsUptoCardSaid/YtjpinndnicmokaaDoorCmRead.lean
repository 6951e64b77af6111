/- Commit: the reader: a line, the message, who and when, or the reader's panic. -/
import Derived.Test.YtjpinndnicmokaaDoorCmLine
import Derived.Test.YtjpinndnicmokaaDoorCmGuard
set_option linter.all false
namespace Go.Proofs.YtjpinndnicmokaaDoor.Cm
open Eng Ob
set_option maxRecDepth 10000
theorem pre_iff {p s : Bs} : Lib.hasPrefix s p = decide (p <+: s) := by
  unfold Lib.hasPrefix
  by_cases h : p <+: s
  · rw [decide_eq_true h]; exact List.isPrefixOf_iff_prefix.2 h
  · rw [decide_eq_false h]
    cases hb : p.isPrefixOf s with
    | false => rfl
    | true => exact absurd (List.isPrefixOf_iff_prefix.1 hb) h
theorem cutpre_ok (s p : Bs) : SpecR Tryd.prog 64 [.str s, .str p] (.tup [.str (if p <+: s then s.drop p.length else s), .bool (decide (p <+: s))]) :=
  spec_same rfl rfl (fun w => by
    have := Tryd.strings_CutPrefix ⟨s.toArray⟩ ⟨p.toArray⟩ w
    simp only [Lib.trimPrefix, pre_iff] at this
    refine this.mono ?_
    rintro e w' ⟨rfl, rfl⟩
    refine ⟨?_, rfl⟩
    by_cases h : p <+: s
    · rw [if_pos (decide_eq_true h), if_pos h]; rfl
    · rw [if_neg (by rw [decide_eq_false h]; decide), if_neg h]; rfl)
theorem haspre_ok (s p : Bs) : SpecR Tryd.prog 52 [.str s, .str p] (.bool (decide (p <+: s))) :=
  spec_same rfl rfl (fun w => by
    have := Tryd.strings_HasPrefix ⟨s.toArray⟩ ⟨p.toArray⟩ w
    rw [pre_iff] at this
    exact this)
theorem lastb_ok (s : Bs) (hs : s.length ≤ 4000000000000000000) : SpecR Tryd.prog 66 [.str s, .int .u8 32] (.int .i64 (Lib.lastIndexByte ⟨s.toArray⟩ 32)) :=
  spec_same rfl rfl (fun w => Tryd.strings_LastIndexByte ⟨s.toArray⟩ 32 (by show s.toArray.size < _; simp; omega) w)
theorem lcut_index (s : Bs) : (Lib.lastIndexByte ⟨s.toArray⟩ 32 = -1 ∧ lcut 32 s = none) ∨ ∃ j : Nat, j < s.length ∧ Lib.lastIndexByte ⟨s.toArray⟩ 32 = (j : Int) ∧ lcut 32 s = some (s.take j, s.drop (j + 1)) := by
  have hsz : (⟨s.toArray⟩ : ByteArray).size = s.length := by simp [ByteArray.size]
  have hg : ∀ j, j < s.length → ((⟨s.toArray⟩ : ByteArray).data[j]!) = s.getD j 0 := by
    intro j hj
    simp [hj]
  have hne : ∀ (x : UInt8), ((x.toNat : Int) ≠ 32) → x ≠ 32 := fun x h e => h (by rw [e]; rfl)
  rcases Lib.lastIndexByte_spec ⟨s.toArray⟩ 32 with ⟨h1, h2⟩ | ⟨i, h1, h2, h3, h4⟩
  · refine .inl ⟨h1, lcut_no (fun hm => ?_)⟩
    obtain ⟨j, hj, hx⟩ := List.mem_iff_getElem.1 hm
    have := h2 j (by omega)
    rw [hg j hj] at this
    refine hne _ this ?_
    rw [← hx]; simp [hj]
  · rw [hsz] at h1 h4
    rw [hg i h1] at h3
    have hx : s.getD i 0 = 32 := UInt8.toNat.inj (by show _ = 32; omega)
    refine .inr ⟨i, h1, h2, ?_⟩
    have hs : s = s.take i ++ 32 :: s.drop (i + 1) := by
      rw [← hx]
      conv => lhs; rw [← List.take_append_drop i s]
      congr 1
      rw [List.drop_eq_getElem_cons h1]
      simp [h1]
    have hn : (32 : UInt8) ∉ s.drop (i + 1) := by
      intro hm
      obtain ⟨j, hj, hx⟩ := List.mem_iff_getElem.1 hm
      rw [List.length_drop] at hj
      have := h4 (i + 1 + j) (by omega) (by omega)
      rw [hg _ (by omega)] at this
      refine hne _ this ?_
      rw [List.getElem_drop] at hx
      rw [← hx]
      have : i + 1 + j < s.length := by omega
      simp [this]
    conv => lhs; rw [hs]
    exact lcut_app hn _
/- NUMBERS OF FOUR SIGNS -/
theorem parse_bound : ∀ (l : Bs) (acc k u : Nat), acc < 10 ^ k → Lib.parseUint10 acc l = .ok u → u < 10 ^ (l.length + k)
  | [], acc, k, u, h, hu => by
    simp [Lib.parseUint10] at hu
    simpa [← hu] using h
  | c :: r, acc, k, u, h, hu => by
    simp only [Lib.parseUint10] at hu
    split at hu
    · rename_i hc
      split at hu
      · cases hu
      · split at hu
        · cases hu
        · have := parse_bound r (acc * 10 + (c.toNat - 48)) (k + 1) u (by rw [Nat.pow_succ]; omega) hu
          rw [List.length_cons, show r.length + 1 + k = r.length + (k + 1) by omega]
          exact this
    · cases hu
theorem mag_bound {l : Bs} {u : Nat} (h : Lib.parseMag l = .ok u) : u < 10 ^ l.length := by
  unfold Lib.parseMag at h
  split at h
  · cases h
  · exact parse_bound l 0 0 u (by decide) h
theorem atoi4 {l : Bs} {n : Int} (hl : l.length = 4) (h : Lib.atoiAll l = .ok n) : -999 ≤ n ∧ n ≤ 9999 := by
  cases l with
  | nil => simp at hl
  | cons c r =>
    have hr : r.length = 3 := by simpa using hl
    unfold Lib.atoiAll at h
    simp only at h
    split at h
    · cases h
    · cases h
    · rename_i u hu
      have hb := mag_bound hu
      split at h
      · cases h
      · split at h
        · cases h
        · cases h
          by_cases hc : c.toNat = 45
          · rw [if_pos (.inr hc), hr] at hb
            rw [if_pos hc]
            simp at hb
            omega
          · rw [if_neg hc]
            have : u < 10 ^ 4 := by
              split at hb
              · rw [hr] at hb; simp at hb ⊢; omega
              · rw [hl] at hb; exact hb
            simp at this
            omega
theorem digits4 {a b c d : UInt8} (ha : isD a = true) (hb : isD b = true) (hc : isD c = true) (hd : isD d = true) : Lib.atoiAll [a, b, c, d] = .ok ((dv a * 1000 + dv b * 100 + dv c * 10 + dv d : Nat) : Int) := by
  unfold isD at ha hb hc hd
  simp only [Bool.and_eq_true, decide_eq_true_eq] at ha hb hc hd
  have h1 : ¬ a.toNat = 43 := by omega
  have h2 : ¬ a.toNat = 45 := by omega
  unfold Lib.atoiAll
  simp only [h1, h2, if_false, or_self]
  have hm : Lib.parseMag [a, b, c, d] = .ok (dv a * 1000 + dv b * 100 + dv c * 10 + dv d) := by
    unfold Lib.parseMag dv
    rw [if_neg (by simp)]
    simp only [Lib.parseUint10]
    rw [if_pos ha, if_neg (by omega), if_neg (by omega), if_pos hb, if_neg (by omega), if_neg (by omega), if_pos hc, if_neg (by omega), if_neg (by omega), if_pos hd, if_neg (by omega), if_neg (by omega)]
    congr 1
    omega
  rw [hm]
  simp only
  have : dv a * 1000 + dv b * 100 + dv c * 10 + dv d < 10000 := by unfold dv; omega
  rw [if_neg (by omega), if_neg (by omega)]
/- A LINE -/
theorem died {t : TypeId} {st : St} (ht : t = 90 := by rfl) : (KQ.dies wrongV).ap (.panic (pan (.iface t (.agg #[])))) st := by
  subst ht; exact of_eq_true kqDies_p
theorem rline_ok (w s v r : Bs) (h : lineL w s = some (v, r)) (hs : s.length ≤ 4000000000000000000) (hw : w.length ≤ 100) :
    Eng.Spec Tryd.prog 51 [(12007, .var [.str s])] [.vptr 12007 0, .str w] (fun h' x ar => h' = [(12007, .var [.str r])] ∧ x = .str v ∧ ar = [.vptr 12007 0, .str w]) := by
  refine Cod.rline_spec (fun E R hN hR => ?_)
  unfold lineL at h
  split at h
  · rename_i hc
    obtain ⟨h1, h2⟩ := hc
    obtain ⟨rfl, rfl⟩ := Prod.mk.inj (Option.some.inj h)
    generalize hq : cutP 10 s = q at *
    obtain ⟨l, rest, ok⟩ := q
    simp only at h1 h2
    subst h1
    have hcut := cut_ok s 10 (by omega)
    rw [hq] at hcut
    have hp := cutpre_ok l (w ++ [32])
    rw [if_pos h2, decide_eq_true h2] at hp
    simp (disch := first | omega | (simp only [Lx]; omega)) only [go_sem, simprocAttr]
    refine call_ro hcut rfl rfl ?_
    simp (disch := first | omega | (simp only [Lx]; omega)) only [go_sem, simprocAttr, cutA]
    refine call_ro hp rfl rfl ?_
    simp (disch := first | omega | (simp only [Lx]; omega)) only [go_sem, simprocAttr]
    (repeat (first | (with_reducible refine gskip_of ?_) | (with_reducible refine gcskip_of ?_) | (with_reducible refine gopen_of ?_)) <;> simp (disch := first | omega | (simp only [Lx]; omega)) only [go_sem, simprocAttr])
    exact hR.wk rfl (.le (by simp (disch := first | omega | (simp only [Lx]; omega)) only [go_sem, simprocAttr])) ⟨rfl, rfl, rfl⟩
  · cases h
theorem rline_no (w s : Bs) (h : lineL w s = none) (hs : s.length ≤ 4000000000000000000) (hw : w.length ≤ 100) :
    Eng.SpecDies Tryd.prog 51 [(12007, .var [.str s])] [.vptr 12007 0, .str w] wrongV := by
  refine Cod.rline_dies (fun E hN => ?_)
  unfold lineL at h
  split at h
  · cases h
  · rename_i hc
    generalize hq : cutP 10 s = q at *
    obtain ⟨l, rest, ok⟩ := q
    simp only [not_and] at hc
    have hcut := cut_ok s 10 (by omega)
    rw [hq] at hcut
    have hp := cutpre_ok l (w ++ [32])
    simp (disch := first | omega | (simp only [Lx]; omega)) only [go_sem, simprocAttr]
    refine call_ro hcut rfl rfl ?_
    simp (disch := first | omega | (simp only [Lx]; omega)) only [go_sem, simprocAttr, cutA]
    refine call_ro hp rfl rfl ?_
    cases ok with
    | false =>
      simp (disch := first | omega | (simp only [Lx]; omega)) only [go_sem, simprocAttr]
      (repeat (first | (with_reducible refine gskip_of ?_) | (with_reducible refine gcskip_of ?_) | (with_reducible refine gopen_of ?_)) <;> simp (disch := first | omega | (simp only [Lx]; omega)) only [go_sem, simprocAttr])
      exact died
    | true =>
      have hc := hc rfl
      rw [if_neg hc, decide_eq_false hc] at hp
      simp (disch := first | omega | (simp only [Lx]; omega)) only [go_sem, simprocAttr]
      (repeat (first | (with_reducible refine gskip_of ?_) | (with_reducible refine gcskip_of ?_) | (with_reducible refine gopen_of ?_)) <;> simp (disch := first | omega | (simp only [Lx]; omega)) only [go_sem, simprocAttr])
      exact died
/- THE MESSAGE -/
theorem msgL_pre (s : Bs) : msgL s = if [10] <+: s then some (s.drop 1) else none := by
  cases s with
  | nil => simp [msgL]
  | cons c r =>
    by_cases h : c = 10
    · subst h; simp [msgL]
    · have : ¬ [10] <+: c :: r := by
        rintro ⟨t, ht⟩
        exact h (List.cons.inj ht).1.symm
      simp [msgL, h, this]
theorem rmsg_ok (s m : Bs) (h : msgL s = some m) : Eng.Spec Tryd.prog 54 [(12007, .var [.str s])] [.vptr 12007 0] (fun h' x ar => h' = [(12007, .var [.str s])] ∧ x = .str m ∧ ar = [.vptr 12007 0]) := by
  refine Cod.rmsg_spec (fun E R hN hR => ?_)
  have hp := cutpre_ok s [10]
  rw [msgL_pre] at h
  split at h
  · rename_i hc
    rw [if_pos hc, decide_eq_true hc] at hp
    obtain rfl := Option.some.inj h
    simp (disch := first | omega | (simp only [Lx]; omega)) only [go_sem, simprocAttr]
    refine call_ro hp rfl rfl ?_
    simp (disch := first | omega | (simp only [Lx]; omega)) only [go_sem, simprocAttr]
    exact hR.wk rfl (.le (by simp (disch := first | omega | (simp only [Lx]; omega)) only [go_sem, simprocAttr])) ⟨rfl, rfl, rfl⟩
  · cases h
theorem rmsg_no (s : Bs) (h : msgL s = none) : Eng.SpecDies Tryd.prog 54 [(12007, .var [.str s])] [.vptr 12007 0] wrongV := by
  refine Cod.rmsg_dies (fun E hN => ?_)
  have hp := cutpre_ok s [10]
  rw [msgL_pre] at h
  split at h
  · cases h
  · rename_i hc
    rw [if_neg hc, decide_eq_false hc] at hp
    simp (disch := first | omega | (simp only [Lx]; omega)) only [go_sem, simprocAttr]
    refine call_ro hp rfl rfl ?_
    simp (disch := first | omega | (simp only [Lx]; omega)) only [go_sem, simprocAttr]
    exact died
end Go.Proofs.YtjpinndnicmokaaDoor.Cm
