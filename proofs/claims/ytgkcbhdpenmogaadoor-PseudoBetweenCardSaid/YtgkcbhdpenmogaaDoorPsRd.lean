/- Pseudo: what a pseudo-version says, in plain Lean. Pseudo: Parse, at the program. Pseudo: Parse at the document; Is. -/
import Derived.Test.YtgkcbhdpenmogaaDoorPsStamp
set_option linter.all false
namespace Go.Proofs.YtgkcbhdpenmogaaDoor.Ps
open Eng Sv
set_option maxRecDepth 10000
def nz (n : Bs) : Nat := (n.reverse.takeWhile (fun c => c == 48)).length
def lessN (n : Bs) : Bs := lessP (n.take (n.length - nz n - 1)) (n.getD (n.length - nz n - 1) 0) (nz n)
theorem nz_at (p : Bs) (c : UInt8) (k : Nat) (hc : c ≠ 48) : nz (p ++ c :: List.replicate k 48) = k := by
  unfold nz
  have e : (p ++ c :: List.replicate k (48 : UInt8)).reverse = List.replicate k 48 ++ c :: p.reverse := by simp
  have hb : (c == 48) = false := by simp [hc]
  rw [e]
  induction k with
  | zero => simp [List.takeWhile, hb]
  | succ k ih =>
    rw [List.replicate_succ, List.cons_append, List.takeWhile_cons]
    simp only [beq_self_eq_true, if_true, List.length_cons]
    rw [ih (by simp)]
theorem lessN_at (p : Bs) (c : UInt8) (k : Nat) (hc : c ≠ 48) : lessN (p ++ c :: List.replicate k 48) = lessP p c k := by
  unfold lessN
  rw [nz_at p c k hc]
  have hl : (p ++ c :: List.replicate k (48 : UInt8)).length - k - 1 = p.length := by simp; omega
  rw [hl]
  congr 1
  · simp
  · rw [List.getD_eq_getElem?_getD, List.getElem?_append_right (Nat.le_refl _)]; simp
def preP (p : Bs) : Option (Bs × Int × Bs) :=
  if 27 ≤ p.length ∧ p.getD (p.length - 13) 0 = 45 ∧ revP (p.drop (p.length - 12)) = true then
    (secondP ((p.drop (p.length - 27)).take 14)).map fun t => (p.take (p.length - 27), t, p.drop (p.length - 12))
  else none
def headP (v : Ver) : Bs := [118] ++ v.mj ++ [46] ++ v.mi ++ [46]
def baseP (v : Ver) (f : Bs) : Option Bs :=
  if f = [] then (if v.mi = [48] ∧ v.pa = [48] ∧ v.bu = [] then some [] else none)
  else if f = [48, 46] then (if v.pa = [48] then none else some (headP v ++ lessN v.pa ++ bldP v))
  else if 3 ≤ f.length ∧ f.drop (f.length - 3) = [46, 48, 46] ∧ f.length ≠ 3 then some (headP v ++ v.pa ++ [45] ++ f.take (f.length - 3) ++ bldP v) else none
structure Pt where
  base : Bs
  time : Int
  rev : Bs
def pt0 : Pt := ⟨[], 0, []⟩
def preV (v : Ver) : Option Pt := match preP v.pr with
  | none => none
  | some (f, t, r) => match baseP v f with
    | none => none
    | some b => some ⟨b, t, r⟩
def pseudoE (s : Bs) : Int := match parseP s with
  | none => 4
  | some v => if 0 < v.sh then 4 else if (preV v).isSome = true then 0 else 3
def pseudoP (s : Bs) : Pt := match parseP s with
  | none => pt0
  | some v => if 0 < v.sh then pt0 else (preV v).getD pt0
/- THE LAST STROKE -/
theorem last45 (p : Bs) : (Lib.lastIndexByte ⟨p.toArray⟩ 45 = -1 ∧ 45 ∉ p) ∨ ∃ i : Nat, i < p.length ∧ Lib.lastIndexByte ⟨p.toArray⟩ 45 = (i : Int) ∧ p.getD i 0 = 45 ∧ ∀ j, i < j → j < p.length → p.getD j 0 ≠ 45 := by
  have hsz : (⟨p.toArray⟩ : ByteArray).size = p.length := by simp [ByteArray.size]
  have hg : ∀ j, j < p.length → ((⟨p.toArray⟩ : ByteArray).data[j]!) = p.getD j 0 := by
    intro j hj
    simp [hj]
  have hne : ∀ (x : UInt8), ((x.toNat : Int) ≠ 45) → x ≠ 45 := fun x h e => h (by rw [e]; rfl)
  rcases Lib.lastIndexByte_spec ⟨p.toArray⟩ 45 with ⟨h1, h2⟩ | ⟨i, h1, h2, h3, h4⟩
  · refine .inl ⟨h1, fun hm => ?_⟩
    obtain ⟨j, hj, hx⟩ := List.mem_iff_getElem.1 hm
    have := h2 j (by omega)
    rw [hg j hj] at this
    refine hne _ this ?_
    rw [← hx]; simp [hj]
  · rw [hsz] at h1 h4
    rw [hg i h1] at h3
    refine .inr ⟨i, h1, h2, UInt8.toNat.inj (by show _ = 45; omega), fun j hj1 hj2 => ?_⟩
    have := h4 j hj1 hj2
    rw [hg j hj2] at this
    exact hne _ this
theorem rev_no {p : Bs} {k : Nat} (h : revP (p.drop k) = true) {j : Nat} (h1 : k ≤ j) (h2 : j < p.length) : p.getD j 0 ≠ 45 := by
  unfold revP at h
  simp only [Bool.and_eq_true, List.all_eq_true] at h
  have hx := h.2 (p.getD j 0) (by
    have e : p.getD j 0 = (p.drop k)[j - k]'(by rw [List.length_drop]; omega) := by
      rw [List.getElem_drop]
      have e2 : k + (j - k) = j := by omega
      simp [e2, h2]
    rw [e]; exact List.getElem_mem _)
  intro e
  rw [e] at hx
  revert hx; decide
theorem rev_len {s : Bs} (h : revP s = true) : s.length = 12 := by
  unfold revP at h
  simp only [Bool.and_eq_true, decide_eq_true_eq] at h
  exact h.1
theorem preP_cond {p : Bs} {i : Nat} (hi : i < p.length) (h45 : p.getD i 0 = 45) (hlast : ∀ j, i < j → j < p.length → p.getD j 0 ≠ 45) :
    (27 ≤ p.length ∧ p.getD (p.length - 13) 0 = 45 ∧ revP (p.drop (p.length - 12)) = true) ↔ (14 ≤ i ∧ revP (p.drop (i + 1)) = true) := by
  constructor
  · rintro ⟨h1, h2, h3⟩
    have e : i = p.length - 13 := by
      rcases Nat.lt_trichotomy i (p.length - 13) with h | h | h
      · exact absurd h2 (hlast _ h (by omega))
      · exact h
      · exact absurd h45 (rev_no h3 (by omega) hi)
    refine ⟨by omega, ?_⟩
    rw [e, show p.length - 13 + 1 = p.length - 12 by omega]; exact h3
  · rintro ⟨h1, h2⟩
    have hl := rev_len h2
    rw [List.length_drop] at hl
    refine ⟨by omega, ?_, ?_⟩
    · rw [show p.length - 13 = i by omega]; exact h45
    · rw [show p.length - 12 = i + 1 by omega]; exact h2
theorem preP_no {p : Bs} (h : 45 ∉ p) : preP p = none := by
  unfold preP
  rw [if_neg]
  rintro ⟨h1, h2, _⟩
  refine h ?_
  have hj : p.length - 13 < p.length := by omega
  have e : p.getD (p.length - 13) 0 = p[p.length - 13] := by simp [hj]
  rw [← h2, e]; exact List.getElem_mem _
theorem preP_at {p : Bs} {i : Nat} (hi : i < p.length) (h45 : p.getD i 0 = 45) (hlast : ∀ j, i < j → j < p.length → p.getD j 0 ≠ 45) :
    preP p = if 14 ≤ i ∧ revP (p.drop (i + 1)) = true then (secondP ((p.drop (i - 14)).take 14)).map fun t => (p.take (i - 14), t, p.drop (i + 1)) else none := by
  have hc := preP_cond hi h45 hlast
  unfold preP
  by_cases h : 14 ≤ i ∧ revP (p.drop (i + 1)) = true
  · rw [if_pos (hc.2 h), if_pos h]
    have hl := rev_len h.2
    rw [List.length_drop] at hl
    rw [show p.length - 27 = i - 14 by omega, show p.length - 12 = i + 1 by omega]
  · rw [if_neg (fun k => h (hc.1 k)), if_neg h]
end Go.Proofs.YtgkcbhdpenmogaaDoor.Ps
namespace Go.Proofs.YtgkcbhdpenmogaaDoor.Ps
open Eng Sv
set_option maxRecDepth 10000
theorem num_nz {n : Bs} (h : Num n) (h0 : n ≠ [48]) : ∃ p c k, n = p ++ c :: List.replicate k (48 : UInt8) ∧ c ≠ 48 ∧ 48 ≤ c.toNat ∧ c.toNat ≤ 57 := by
  obtain ⟨ha, hne, hl⟩ := h
  have hex : ∃ x ∈ n, x ≠ 48 := by
    cases n with
    | nil => exact absurd rfl hne
    | cons x r =>
      refine ⟨x, List.mem_cons_self, fun e => ?_⟩
      subst e
      cases r with
      | nil => exact h0 rfl
      | cons y r => exact hl (by simp) rfl
  obtain ⟨p, c, k, e, hc⟩ := lastNZ n hex
  have hd : isD c = true := by
    rw [List.all_eq_true] at ha
    exact ha c (by rw [e]; simp)
  unfold isD at hd
  simp only [decide_eq_true_eq] at hd
  exact ⟨p, c, k, e, hc, hd.1, hd.2⟩
theorem less_num {n : Bs} (h : Num n) (h0 : n ≠ [48]) (hl : n.length ≤ 1000) : SpecR Tryd.prog 19 [.str n] (.str (lessN n)) := by
  obtain ⟨p, c, k, rfl, hc, c0, c1⟩ := num_nz h h0
  rw [lessN_at p c k hc]
  simp at hl
  exact less_ok p c k hc c0 c1 (by omega)
theorem below_num {n : Bs} (h : Num n) (h0 : n ≠ [48]) (hl : n.length ≤ 1000) : SpecR Tryd.prog 24 [.str n] (.str (lessN n)) := by
  obtain ⟨p, c, k, rfl, hc, c0, c1⟩ := num_nz h h0
  rw [lessN_at p c k hc]
  simp at hl
  exact below_ok p c k hc c0 c1 (by omega)
theorem less_zero : SpecR Tryd.prog 19 [.str [48]] (.str []) := by
  refine Cod.less_spec (fun E R hN hR => ?_)
  simp (disch := first | omega | (simp only [Lx]; omega)) only [go_sem, simprocAttr]
  exact hR.ro ⟨rfl, rfl⟩
theorem lessN_ne {n : Bs} (h : Num n) (h0 : n ≠ [48]) : lessN n ≠ [] ∧ (lessN n).length ≤ n.length := by
  obtain ⟨p, c, k, rfl, hc, c0, c1⟩ := num_nz h h0
  rw [lessN_at p c k hc]
  unfold lessP stripP
  split
  · rename_i hh
    refine ⟨fun e => ?_, by simp⟩
    have := congrArg List.length e
    rw [List.length_drop, List.length_nil] at this
    omega
  · exact ⟨by simp, by simp⟩
theorem lastb_ok (s : Bs) (hs : s.length ≤ 4000000000000000000) : SpecR Tryd.prog 16 [.str s, .int .u8 45] (.int .i64 (Lib.lastIndexByte ⟨s.toArray⟩ 45)) :=
  spec_same rfl rfl (fun w => Tryd.strings_LastIndexByte ⟨s.toArray⟩ 45 (by show s.toArray.size < _; simp; omega) w)
theorem cutsuf_ok (s p : Bs) (hs : s.length ≤ 1000000) : SpecR Tryd.prog 21 [.str s, .str p] (.tup [.str (Lib.trimSuffix s p), .bool (Lib.hasSuffix s p)]) :=
  spec_same rfl rfl (fun w => Tryd.strings_CutSuffix ⟨s.toArray⟩ ⟨p.toArray⟩ w (by show s.toArray.size ≤ _; simp; omega))
theorem suf_iff (s p : Bs) : Lib.hasSuffix s p = decide (p.length ≤ s.length ∧ s.drop (s.length - p.length) = p) := by
  unfold Lib.hasSuffix
  rw [Bool.eq_iff_iff, List.isSuffixOf_iff_suffix, decide_eq_true_eq]
  constructor
  · intro h
    exact ⟨h.length_le, (List.suffix_iff_eq_drop.1 h).symm⟩
  · rintro ⟨_, h⟩
    exact List.suffix_iff_eq_drop.2 h.symm
theorem suf_trim (s p : Bs) : Lib.trimSuffix s p = if Lib.hasSuffix s p = true then s.take (s.length - p.length) else s := rfl
theorem secondP_in {s : Bs} {t : Int} (h : secondP s = some t) : -9223372036854775808 ≤ t ∧ t ≤ 9223372036854775807 := by
  unfold secondP at h
  split at h
  · rename_i hc
    split at h
    · obtain rfl := Option.some.inj h
      have hd := dtB_st (s := s) fun j hj => digB_all hc.2 (by omega)
      obtain ⟨y0, y1, m0, m1, d0, d1, h0, h1, i0, i1, s0, s1⟩ := hd
      have := dayI_rng (yr s) (two2 s 4) (two2 s 6) (by omega) (by omega) (by omega) (by omega) (by omega) (by omega)
      unfold stU unixI
      omega
    · cases h
  · cases h
def ptA (t : Pt) : AV := .agg [.str t.base, .int .i64 t.time, .str t.rev]
theorem pparse_ok (s : Bs) (hs : s.length ≤ 140737488351232) : SpecR Tryd.prog 6 [.str s] (.tup [ptA (pseudoP s), .int .i64 (pseudoE s)]) := by
  refine Cod.pparse_spec (fun E R hN hR => ?_)
  have hp := parse_ok s (by omega)
  cases hv : parseP s with
  | none =>
    have hP : pseudoP s = pt0 := by unfold pseudoP; rw [hv]
    have hE : pseudoE s = 4 := by unfold pseudoE; rw [hv]
    rw [hv] at hp
    rw [hP, hE] at hR
    simp only [parseA, verA, noV, Option.getD_none, Option.isSome_none] at hp
    simp (disch := first | omega | (simp only [Lx]; omega)) only [go_sem, simprocAttr]
    refine call_ro hp rfl rfl ?_
    simp (disch := first | omega | (simp only [Lx]; omega)) only [go_sem, simprocAttr]
    (repeat (first | (with_reducible refine gskip_of ?_) | (with_reducible refine gcskip_of ?_) | (with_reducible refine gopen_of ?_)) <;> simp (disch := first | omega | (simp only [Lx]; omega)) only [go_sem, simprocAttr])
    exact hR.ro ⟨rfl, rfl⟩
  | some v =>
    have hP : pseudoP s = if 0 < v.sh then pt0 else (preV v).getD pt0 := by unfold pseudoP; rw [hv]
    have hE : pseudoE s = if 0 < v.sh then 4 else if (preV v).isSome = true then 0 else 3 := by unfold pseudoE; rw [hv]
    rw [hv] at hp
    rw [hP, hE] at hR
    obtain ⟨_, a1, a2, a3, a4, a5⟩ := parseP_len hv
    have vok := (parseP_ok hv).1
    simp only [parseA, verA, Option.getD_some, Option.isSome_some] at hp
    simp (disch := first | omega | (simp only [Lx]; omega)) only [go_sem, simprocAttr]
    refine call_ro hp rfl rfl ?_
    by_cases hsh : 0 < v.sh
    · rw [if_pos hsh, if_pos hsh] at hR
      simp (disch := first | omega | (simp only [Lx]; omega)) only [go_sem, simprocAttr, hsh]
      (repeat (first | (with_reducible refine gskip_of ?_) | (with_reducible refine gcskip_of ?_) | (with_reducible refine gopen_of ?_)) <;> simp (disch := first | omega | (simp only [Lx]; omega)) only [go_sem, simprocAttr, hsh])
      exact hR.ro ⟨rfl, rfl⟩
    · rw [if_neg hsh, if_neg hsh] at hR
      have no : preP v.pr = none → PostTo (fun h r _ => h = [] ∧ r = .tup [ptA pt0, .int .i64 3]) R := fun h => by
        have : preV v = none := by unfold preV; rw [h]
        rw [this] at hR
        exact hR
      simp (disch := first | omega | (simp only [Lx]; omega)) only [go_sem, simprocAttr, hsh]
      (repeat (first | (with_reducible refine gskip_of ?_) | (with_reducible refine gcskip_of ?_) | (with_reducible refine gopen_of ?_)) <;> simp (disch := first | omega | (simp only [Lx]; omega)) only [go_sem, simprocAttr, hsh])
      refine call_ro (lastb_ok v.pr (by omega)) rfl rfl ?_
      rcases last45 v.pr with ⟨e1, e2⟩ | ⟨i, hi, e1, e2, e3⟩
      · rw [e1]
        simp (disch := first | omega | (simp only [Lx]; omega)) only [go_sem, simprocAttr]
        (repeat (first | (with_reducible refine gskip_of ?_) | (with_reducible refine gcskip_of ?_) | (with_reducible refine gopen_of ?_)) <;> simp (disch := first | omega | (simp only [Lx]; omega)) only [go_sem, simprocAttr])
        exact (no (preP_no e2)).ro ⟨rfl, rfl⟩
      · rw [e1]
        have hpr := preP_at hi e2 e3
        by_cases h14 : 14 ≤ i
        · have eI : ((i : Int) + 1).toNat = i + 1 := by omega
          have eJ : ((i : Int) - 14).toNat = i - 14 := by omega
          have eT : i - (i - 14) = 14 := by omega
          have hrv := rev_ok (v.pr.drop (i + 1)) (by simp; omega)
          simp (disch := first | omega | (simp only [Lx]; omega)) only [go_sem, simprocAttr, eI]
          (repeat (first | (with_reducible refine gskip_of ?_) | (with_reducible refine gcskip_of ?_) | (with_reducible refine gopen_of ?_)) <;> simp (disch := first | omega | (simp only [Lx]; omega)) only [go_sem, simprocAttr, eI])
          refine gcyes_of (callT_ro (by simp (disch := first | omega | (simp only [Lx]; omega)) only [go_sem, simprocAttr]) hrv (by simp (disch := first | omega | (simp only [Lx]; omega)) only [go_sem, simprocAttr]) rfl rfl ?_)
          cases hrev : revP (v.pr.drop (i + 1)) with
          | false =>
            rw [if_neg (by rw [hrev]; simp)] at hpr
            simp (disch := first | omega | (simp only [Lx]; omega)) only [go_sem, simprocAttr]
            exact (no hpr).ro ⟨rfl, rfl⟩
          | true =>
            rw [if_pos ⟨h14, hrev⟩] at hpr
            have hun := unstamp_ok ((v.pr.drop (i - 14)).take 14) (by simp; omega)
            simp (disch := first | omega | (simp only [Lx]; omega)) only [go_sem, simprocAttr, eJ, eI, eT]
            refine call_ro hun rfl rfl ?_
            unfold unstE
            cases hsec : secondP ((v.pr.drop (i - 14)).take 14) with
            | none =>
              rw [hsec] at hpr
              have hne : ¬ ((if ((v.pr.drop (i - 14)).take 14).length = 14 ∧ digB ((v.pr.drop (i - 14)).take 14) = true then (if stOK ((v.pr.drop (i - 14)).take 14) = true then (0 : Int) else 1) else 3) = 0) := by
                unfold secondP at hsec
                split
                · rename_i h
                  rw [if_pos h] at hsec
                  split
                  · rename_i h2; rw [if_pos h2] at hsec; cases hsec
                  · decide
                · decide
              generalize (if ((v.pr.drop (i - 14)).take 14).length = 14 ∧ digB ((v.pr.drop (i - 14)).take 14) = true then (if stOK ((v.pr.drop (i - 14)).take 14) = true then (0 : Int) else 1) else 3) = u at *
              simp (disch := first | omega | (simp only [Lx]; omega)) only [go_sem, simprocAttr, hne]
              exact (no hpr).ro ⟨rfl, rfl⟩
            | some t =>
              rw [hsec, Option.map_some] at hpr
              have hu0 : (if ((v.pr.drop (i - 14)).take 14).length = 14 ∧ digB ((v.pr.drop (i - 14)).take 14) = true then (if stOK ((v.pr.drop (i - 14)).take 14) = true then (0 : Int) else 1) else 3) = 0 := by
                unfold secondP at hsec
                split
                · rename_i h
                  rw [if_pos h] at hsec
                  split
                  · rfl
                  · rename_i h2; rw [if_neg h2] at hsec; cases hsec
                · rename_i h; rw [if_neg h] at hsec; cases hsec
              rw [hu0]
              have hV : preV v = (baseP v (v.pr.take (i - 14))).map fun b => ⟨b, t, v.pr.drop (i + 1)⟩ := by
                unfold preV
                rw [hpr]
                cases hb : baseP v (v.pr.take (i - 14)) with
                | none => simp only [hb, Option.map_none]
                | some b => simp only [hb, Option.map_some]
              rw [hV] at hR
              have bno : baseP v (v.pr.take (i - 14)) = none → PostTo (fun h r _ => h = [] ∧ r = .tup [ptA pt0, .int .i64 3]) R := fun h => by rw [h] at hR; exact hR
              have byes : ∀ b, baseP v (v.pr.take (i - 14)) = some b → PostTo (fun h r _ => h = [] ∧ r = .tup [ptA ⟨b, t, v.pr.drop (i + 1)⟩, .int .i64 0]) R := fun b h => by rw [h] at hR; exact hR
              have tr : -9223372036854775808 ≤ t ∧ t ≤ 9223372036854775807 := secondP_in hsec
              have hfl : (v.pr.take (i - 14)).length = i - 14 := by simp; omega
              generalize hf : v.pr.take (i - 14) = f at *
              generalize hr : v.pr.drop (i + 1) = r at *
              have hrl : r.length ≤ 101 := by rw [← hr]; simp; omega
              have eR : r.take (v.pr.length - (i + 1)) = r := List.take_of_length_le (by rw [← hr]; simp)
              have hbl : (bldP v).length ≤ 102 := by unfold bldP; split <;> simp; omega
              have hpb := pbuild_ok v (by omega)
              unfold verA at hpb
              by_cases f1 : f = []
              · by_cases c1 : v.mi = [48]
                · by_cases c2 : v.pa = [48]
                  · by_cases c3 : v.bu = []
                    · have hb : baseP v f = some [] := by unfold baseP; rw [if_pos f1, if_pos ⟨c1, c2, c3⟩]
                      simp (disch := first | omega | (simp only [Lx]; omega)) only [go_sem, simprocAttr, f1, c1, c2, c3, hf, hr, eI, eJ, eR]
                      (repeat (first | (with_reducible refine gskip_of ?_) | (with_reducible refine gcskip_of ?_) | (with_reducible refine gopen_of ?_)) <;> simp (disch := first | omega | (simp only [Lx]; omega)) only [go_sem, simprocAttr, c1, c2, c3])
                      exact (byes _ hb).ro ⟨rfl, rfl⟩
                    · have hb : baseP v f = none := by unfold baseP; rw [if_pos f1, if_neg (fun h => c3 h.2.2)]
                      simp (disch := first | omega | (simp only [Lx]; omega)) only [go_sem, simprocAttr, f1, c1, c2, c3, hf, hr, eI, eJ, eR]
                      (repeat (first | (with_reducible refine gskip_of ?_) | (with_reducible refine gcskip_of ?_) | (with_reducible refine gopen_of ?_)) <;> simp (disch := first | omega | (simp only [Lx]; omega)) only [go_sem, simprocAttr, c1, c2, c3])
                      exact (bno hb).ro ⟨rfl, rfl⟩
                  · have hb : baseP v f = none := by unfold baseP; rw [if_pos f1, if_neg (fun h => c2 h.2.1)]
                    simp (disch := first | omega | (simp only [Lx]; omega)) only [go_sem, simprocAttr, f1, c1, c2, hf, hr, eI, eJ, eR]
                    (repeat (first | (with_reducible refine gskip_of ?_) | (with_reducible refine gcskip_of ?_) | (with_reducible refine gopen_of ?_)) <;> simp (disch := first | omega | (simp only [Lx]; omega)) only [go_sem, simprocAttr, c1, c2])
                    exact (bno hb).ro ⟨rfl, rfl⟩
                · have hb : baseP v f = none := by unfold baseP; rw [if_pos f1, if_neg (fun h => c1 h.1)]
                  simp (disch := first | omega | (simp only [Lx]; omega)) only [go_sem, simprocAttr, f1, c1, hf, hr, eI, eJ, eR]
                  (repeat (first | (with_reducible refine gskip_of ?_) | (with_reducible refine gcskip_of ?_) | (with_reducible refine gopen_of ?_)) <;> simp (disch := first | omega | (simp only [Lx]; omega)) only [go_sem, simprocAttr, c1])
                  exact (bno hb).ro ⟨rfl, rfl⟩
              · by_cases f2 : f = [48, 46]
                · simp (disch := first | omega | (simp only [Lx]; omega)) only [go_sem, simprocAttr, f1, f2, hf, hr, eI, eJ, eR]
                  by_cases c2 : v.pa = [48]
                  · have hb : baseP v f = none := by unfold baseP; rw [if_neg f1, if_pos f2, if_pos c2]
                    rw [c2]
                    refine call_ro less_zero rfl rfl ?_
                    simp (disch := first | omega | (simp only [Lx]; omega)) only [go_sem, simprocAttr]
                    exact (bno hb).ro ⟨rfl, rfl⟩
                  · have hb : baseP v f = some (headP v ++ lessN v.pa ++ bldP v) := by unfold baseP; rw [if_neg f1, if_pos f2, if_neg c2]
                    refine call_ro (less_num vok.pa c2 (by omega)) rfl rfl ?_
                    have hle := lessN_ne vok.pa c2
                    simp (disch := first | omega | (simp only [Lx]; omega)) only [go_sem, simprocAttr, hle.1]
                    refine call_ro hpb rfl rfl ?_
                    simp (disch := first | omega | (simp only [Lx]; omega)) only [go_sem, simprocAttr]
                    exact (byes _ hb).ro ⟨rfl, rfl⟩
                · have hcs := cutsuf_ok f [46, 48, 46] (by omega)
                  rw [suf_trim, suf_iff] at hcs
                  simp (disch := first | omega | (simp only [Lx]; omega)) only [go_sem, simprocAttr, f1, f2, hf, hr, eI, eJ, eR]
                  refine call_ro hcs rfl rfl ?_
                  have hb0 : baseP v f = if 3 ≤ f.length ∧ f.drop (f.length - 3) = [46, 48, 46] ∧ f.length ≠ 3 then some (headP v ++ v.pa ++ [45] ++ f.take (f.length - 3) ++ bldP v) else none := by unfold baseP; rw [if_neg f1, if_neg f2]
                  have hfl2 : f.length ≤ 101 := by omega
                  simp only [decide_eq_true_eq, List.length_cons, List.length_nil, Nat.zero_add, Nat.reduceAdd]
                  by_cases g1 : 3 ≤ f.length ∧ f.drop (f.length - 3) = [46, 48, 46]
                  · rw [if_pos g1]
                    by_cases g2 : f.length = 3
                    · have hb : baseP v f = none := by rw [hb0, if_neg (fun h => h.2.2 g2)]
                      have e : f.take (f.length - 3) = [] := by rw [g2]; rfl
                      rw [e]
                      have : decide (3 ≤ f.length ∧ f.drop (f.length - 3) = [46, 48, 46]) = true := decide_eq_true g1
                      rw [this]
                      simp (disch := first | omega | (simp only [Lx]; omega)) only [go_sem, simprocAttr]
                      (repeat (first | (with_reducible refine gskip_of ?_) | (with_reducible refine gcskip_of ?_) | (with_reducible refine gopen_of ?_)) <;> simp (disch := first | omega | (simp only [Lx]; omega)) only [go_sem, simprocAttr])
                      exact (bno hb).ro ⟨rfl, rfl⟩
                    · have hb : baseP v f = some (headP v ++ v.pa ++ [45] ++ f.take (f.length - 3) ++ bldP v) := by rw [hb0, if_pos ⟨g1.1, g1.2, g2⟩]
                      have e : ¬ (f.take (f.length - 3) = []) := fun e => by
                        have := congrArg List.length e
                        rw [List.length_take, List.length_nil] at this
                        omega
                      have hgl : (f.take (f.length - 3)).length ≤ 101 := by simp; omega
                      have : decide (3 ≤ f.length ∧ f.drop (f.length - 3) = [46, 48, 46]) = true := decide_eq_true g1
                      rw [this]
                      generalize f.take (f.length - 3) = g at *
                      simp (disch := first | omega | (simp only [Lx]; omega)) only [go_sem, simprocAttr, e]
                      (repeat (first | (with_reducible refine gskip_of ?_) | (with_reducible refine gcskip_of ?_) | (with_reducible refine gopen_of ?_)) <;> simp (disch := first | omega | (simp only [Lx]; omega)) only [go_sem, simprocAttr, e])
                      refine call_ro hpb rfl rfl ?_
                      simp (disch := first | omega | (simp only [Lx]; omega)) only [go_sem, simprocAttr]
                      exact (byes _ hb).ro ⟨rfl, rfl⟩
                  · rw [if_neg g1]
                    have hb : baseP v f = none := by rw [hb0, if_neg (fun h => g1 ⟨h.1, h.2.1⟩)]
                    have : decide (3 ≤ f.length ∧ f.drop (f.length - 3) = [46, 48, 46]) = false := decide_eq_false g1
                    rw [this]
                    simp (disch := first | omega | (simp only [Lx]; omega)) only [go_sem, simprocAttr]
                    (repeat (first | (with_reducible refine gskip_of ?_) | (with_reducible refine gcskip_of ?_) | (with_reducible refine gopen_of ?_)) <;> simp (disch := first | omega | (simp only [Lx]; omega)) only [go_sem, simprocAttr])
                    exact (bno hb).ro ⟨rfl, rfl⟩
        · rw [if_neg (fun h => h14 h.1)] at hpr
          simp (disch := first | omega | (simp only [Lx]; omega)) only [go_sem, simprocAttr]
          (repeat (first | (with_reducible refine gskip_of ?_) | (with_reducible refine gcskip_of ?_) | (with_reducible refine gopen_of ?_)) <;> simp (disch := first | omega | (simp only [Lx]; omega)) only [go_sem, simprocAttr])
          exact (no hpr).ro ⟨rfl, rfl⟩
end Go.Proofs.YtgkcbhdpenmogaaDoor.Ps
namespace Go.Proofs.YtgkcbhdpenmogaaDoor.Ps
open Eng Sv
set_option maxRecDepth 10000
theorem pis_ok (s : Bs) (hs : s.length ≤ 140737488351232) : SpecR Tryd.prog 9 [.str s] (.bool (decide (pseudoE s = 0))) := by
  refine Cod.pis_spec (fun E R hN hR => ?_)
  have hp := pparse_ok s hs
  have he : pseudoE s = 0 ∨ pseudoE s = 3 ∨ pseudoE s = 4 := by
    unfold pseudoE
    split
    · exact .inr (.inr rfl)
    · split
      · exact .inr (.inr rfl)
      · split
        · exact .inl rfl
        · exact .inr (.inl rfl)
  unfold ptA at hp
  simp (disch := first | omega | (simp only [Lx]; omega)) only [go_sem, simprocAttr]
  refine call_ro hp rfl rfl ?_
  rcases he with h | h | h <;> rw [h] at hR ⊢
  · simp (disch := first | omega | (simp only [Lx]; omega)) only [go_sem, simprocAttr]
    exact hR.ro ⟨rfl, rfl⟩
  · simp (disch := first | omega | (simp only [Lx]; omega)) only [go_sem, simprocAttr]
    exact hR.ro ⟨rfl, rfl⟩
  · simp (disch := first | omega | (simp only [Lx]; omega)) only [go_sem, simprocAttr]
    exact hR.ro ⟨rfl, rfl⟩
def ptT (t : Pt) (e : Int) : AV := .tup [.str t.base, .int .i64 t.time, .str t.rev, .int .i64 e]
theorem rpparse_ok (s : Bs) (hs : s.length ≤ 140737488351232) : SpecR Tryd.prog 7 [.str s] (ptT (pseudoP s) (pseudoE s)) := by
  refine Cod.rpparse_spec (fun E R hN hR => ?_)
  have hp := rparse_ok' s (by omega)
  cases hv : parseP s with
  | none =>
    have hP : pseudoP s = pt0 := by unfold pseudoP; rw [hv]
    have hE : pseudoE s = 4 := by unfold pseudoE; rw [hv]
    rw [hv] at hp
    rw [hP, hE] at hR
    simp only [parseA, verA, noV, Option.getD_none, Option.isSome_none] at hp
    simp (disch := first | omega | (simp only [Lx]; omega)) only [go_sem, simprocAttr]
    refine call_ro hp rfl rfl ?_
    simp (disch := first | omega | (simp only [Lx]; omega)) only [go_sem, simprocAttr]
    (repeat (first | (with_reducible refine gskip_of ?_) | (with_reducible refine gcskip_of ?_) | (with_reducible refine gopen_of ?_)) <;> simp (disch := first | omega | (simp only [Lx]; omega)) only [go_sem, simprocAttr])
    exact hR.ro ⟨rfl, rfl⟩
  | some v =>
    have hP : pseudoP s = if 0 < v.sh then pt0 else (preV v).getD pt0 := by unfold pseudoP; rw [hv]
    have hE : pseudoE s = if 0 < v.sh then 4 else if (preV v).isSome = true then 0 else 3 := by unfold pseudoE; rw [hv]
    rw [hv] at hp
    rw [hP, hE] at hR
    obtain ⟨_, a1, a2, a3, a4, a5⟩ := parseP_len hv
    have vok := (parseP_ok hv).1
    simp only [parseA, verA, Option.getD_some, Option.isSome_some] at hp
    simp (disch := first | omega | (simp only [Lx]; omega)) only [go_sem, simprocAttr]
    refine call_ro hp rfl rfl ?_
    by_cases hsh : 0 < v.sh
    · rw [if_pos hsh, if_pos hsh] at hR
      simp (disch := first | omega | (simp only [Lx]; omega)) only [go_sem, simprocAttr, hsh]
      (repeat (first | (with_reducible refine gskip_of ?_) | (with_reducible refine gcskip_of ?_) | (with_reducible refine gopen_of ?_)) <;> simp (disch := first | omega | (simp only [Lx]; omega)) only [go_sem, simprocAttr, hsh])
      exact hR.ro ⟨rfl, rfl⟩
    · rw [if_neg hsh, if_neg hsh] at hR
      have no : preP v.pr = none → PostTo (fun h r _ => h = [] ∧ r = ptT pt0 3) R := fun h => by
        have : preV v = none := by unfold preV; rw [h]
        rw [this] at hR
        exact hR
      have hpr : preP v.pr = if 27 ≤ v.pr.length ∧ v.pr.getD (v.pr.length - 13) 0 = 45 ∧ revP (v.pr.drop (v.pr.length - 12)) = true then
        (secondP ((v.pr.drop (v.pr.length - 27)).take 14)).map fun t => (v.pr.take (v.pr.length - 27), t, v.pr.drop (v.pr.length - 12)) else none := rfl
      by_cases h27 : 27 ≤ v.pr.length
      · have e13 : ((v.pr.length : Int) - 13).toNat = v.pr.length - 13 := by omega
        have e12 : ((v.pr.length : Int) - 12).toNat = v.pr.length - 12 := by omega
        have e27 : ((v.pr.length : Int) - 27).toNat = v.pr.length - 27 := by omega
        have eT : v.pr.length - 13 - (v.pr.length - 27) = 14 := by omega
        have eU : v.pr.length - (v.pr.length - 12) = 12 := by omega
        have hrv := rrev_ok (v.pr.drop (v.pr.length - 12)) (by simp; omega)
        have hc := (v.pr.getD (v.pr.length - 13) 0).toNat_lt
        by_cases h45 : v.pr.getD (v.pr.length - 13) 0 = 45
        · have h45i : ((v.pr.getD (v.pr.length - 13) 0).toNat : Int) = 45 := by rw [h45]; rfl
          simp (disch := first | omega | (simp only [Lx]; omega)) only [go_sem, simprocAttr, hsh, e13, e12]
          (repeat (first | (with_reducible refine gskip_of ?_) | (with_reducible refine gcskip_of ?_) | (with_reducible refine gopen_of ?_)) <;> simp (disch := first | omega | (simp only [Lx]; omega)) only [go_sem, simprocAttr, hsh, e13, e12, h45i])
          refine gcyes_of (callT_ro (by simp (disch := first | omega | (simp only [Lx]; omega)) only [go_sem, simprocAttr]) hrv (by simp (disch := first | omega | (simp only [Lx]; omega)) only [go_sem, simprocAttr]) rfl rfl ?_)
          cases hrev : revP (v.pr.drop (v.pr.length - 12)) with
          | false =>
            rw [if_neg (by rw [hrev]; simp)] at hpr
            simp (disch := first | omega | (simp only [Lx]; omega)) only [go_sem, simprocAttr]
            exact (no hpr).ro ⟨rfl, rfl⟩
          | true =>
            rw [if_pos ⟨h27, h45, hrev⟩] at hpr
            have hun := second_ok ((v.pr.drop (v.pr.length - 27)).take 14) (by simp; omega)
            simp (disch := first | omega | (simp only [Lx]; omega)) only [go_sem, simprocAttr, e13, e12, e27, eT]
            refine call_ro hun rfl rfl ?_
            cases hsec : secondP ((v.pr.drop (v.pr.length - 27)).take 14) with
            | none =>
              rw [hsec] at hpr
              simp (disch := first | omega | (simp only [Lx]; omega)) only [go_sem, simprocAttr]
              exact (no hpr).ro ⟨rfl, rfl⟩
            | some t =>
              rw [hsec, Option.map_some] at hpr
              have hV : preV v = (baseP v (v.pr.take (v.pr.length - 27))).map fun b => ⟨b, t, v.pr.drop (v.pr.length - 12)⟩ := by
                unfold preV
                rw [hpr]
                cases hb : baseP v (v.pr.take (v.pr.length - 27)) with
                | none => simp only [hb, Option.map_none]
                | some b => simp only [hb, Option.map_some]
              rw [hV] at hR
              have bno : baseP v (v.pr.take (v.pr.length - 27)) = none → PostTo (fun h r _ => h = [] ∧ r = ptT pt0 3) R := fun h => by rw [h] at hR; exact hR
              have byes : ∀ b, baseP v (v.pr.take (v.pr.length - 27)) = some b → PostTo (fun h r _ => h = [] ∧ r = ptT ⟨b, t, v.pr.drop (v.pr.length - 12)⟩ 0) R := fun b h => by rw [h] at hR; exact hR
              have tr : -9223372036854775808 ≤ t ∧ t ≤ 9223372036854775807 := secondP_in hsec
              have hfl : (v.pr.take (v.pr.length - 27)).length = v.pr.length - 27 := by simp
              generalize hf : v.pr.take (v.pr.length - 27) = f at *
              generalize hr : v.pr.drop (v.pr.length - 12) = r at *
              have hrl : r.length ≤ 101 := by rw [← hr]; simp; omega
              have eR : r.take 12 = r := List.take_of_length_le (by rw [← hr]; simp; omega)
              have hbl : (bldP v).length ≤ 102 := by unfold bldP; split <;> simp; omega
              have hpb := rbuild_ok v (by omega)
              unfold verA at hpb
              by_cases f1 : f = []
              · by_cases c1 : v.mi = [48]
                · by_cases c2 : v.pa = [48]
                  · by_cases c3 : v.bu = []
                    · have hb : baseP v f = some [] := by unfold baseP; rw [if_pos f1, if_pos ⟨c1, c2, c3⟩]
                      simp (disch := first | omega | (simp only [Lx]; omega)) only [go_sem, simprocAttr, f1, c1, c2, c3, hf, hr, e27, e12, eU, eR]
                      (repeat (first | (with_reducible refine gskip_of ?_) | (with_reducible refine gcskip_of ?_) | (with_reducible refine gopen_of ?_)) <;> simp (disch := first | omega | (simp only [Lx]; omega)) only [go_sem, simprocAttr, c1, c2, c3])
                      exact (byes _ hb).ro ⟨rfl, rfl⟩
                    · have hb : baseP v f = none := by unfold baseP; rw [if_pos f1, if_neg (fun h => c3 h.2.2)]
                      simp (disch := first | omega | (simp only [Lx]; omega)) only [go_sem, simprocAttr, f1, c1, c2, c3, hf, hr, e27, e12, eU, eR]
                      (repeat (first | (with_reducible refine gskip_of ?_) | (with_reducible refine gcskip_of ?_) | (with_reducible refine gopen_of ?_)) <;> simp (disch := first | omega | (simp only [Lx]; omega)) only [go_sem, simprocAttr, c1, c2, c3])
                      exact (bno hb).ro ⟨rfl, rfl⟩
                  · have hb : baseP v f = none := by unfold baseP; rw [if_pos f1, if_neg (fun h => c2 h.2.1)]
                    simp (disch := first | omega | (simp only [Lx]; omega)) only [go_sem, simprocAttr, f1, c1, c2, hf, hr, e27, e12, eU, eR]
                    (repeat (first | (with_reducible refine gskip_of ?_) | (with_reducible refine gcskip_of ?_) | (with_reducible refine gopen_of ?_)) <;> simp (disch := first | omega | (simp only [Lx]; omega)) only [go_sem, simprocAttr, c1, c2])
                    exact (bno hb).ro ⟨rfl, rfl⟩
                · have hb : baseP v f = none := by unfold baseP; rw [if_pos f1, if_neg (fun h => c1 h.1)]
                  simp (disch := first | omega | (simp only [Lx]; omega)) only [go_sem, simprocAttr, f1, c1, hf, hr, e27, e12, eU, eR]
                  (repeat (first | (with_reducible refine gskip_of ?_) | (with_reducible refine gcskip_of ?_) | (with_reducible refine gopen_of ?_)) <;> simp (disch := first | omega | (simp only [Lx]; omega)) only [go_sem, simprocAttr, c1])
                  exact (bno hb).ro ⟨rfl, rfl⟩
              · by_cases f2 : f = [48, 46]
                · by_cases c2 : v.pa = [48]
                  · have hb : baseP v f = none := by unfold baseP; rw [if_neg f1, if_pos f2, if_pos c2]
                    simp (disch := first | omega | (simp only [Lx]; omega)) only [go_sem, simprocAttr, f1, f2, hf, hr, e27, e12, eU, eR, c2]
                    exact (bno hb).ro ⟨rfl, rfl⟩
                  · have hb : baseP v f = some (headP v ++ lessN v.pa ++ bldP v) := by unfold baseP; rw [if_neg f1, if_pos f2, if_neg c2]
                    simp (disch := first | omega | (simp only [Lx]; omega)) only [go_sem, simprocAttr, f1, f2, hf, hr, e27, e12, eU, eR, c2]
                    refine call_ro (below_num vok.pa c2 (by omega)) rfl rfl ?_
                    have hle := lessN_ne vok.pa c2
                    simp (disch := first | omega | (simp only [Lx]; omega)) only [go_sem, simprocAttr, hle.1]
                    refine call_ro hpb rfl rfl ?_
                    simp (disch := first | omega | (simp only [Lx]; omega)) only [go_sem, simprocAttr]
                    exact (byes _ hb).ro ⟨rfl, rfl⟩
                · have hcs := ends_ok f [46, 48, 46] (by omega) (by simp)
                  have hfl2 : f.length ≤ 101 := by omega
                  have eF : ((f.length : Int) - 3).toNat = f.length - 3 := by omega
                  simp (disch := first | omega | (simp only [Lx]; omega)) only [go_sem, simprocAttr, f1, f2, hf, hr, e27, e12, eU, eR]
                  refine call_ro hcs rfl rfl ?_
                  have hb0 : baseP v f = if 3 ≤ f.length ∧ f.drop (f.length - 3) = [46, 48, 46] ∧ f.length ≠ 3 then some (headP v ++ v.pa ++ [45] ++ f.take (f.length - 3) ++ bldP v) else none := by unfold baseP; rw [if_neg f1, if_neg f2]
                  simp only [List.length_cons, List.length_nil, Nat.zero_add, Nat.reduceAdd]
                  by_cases g1 : 3 ≤ f.length ∧ f.drop (f.length - 3) = [46, 48, 46]
                  · have : decide (3 ≤ f.length ∧ f.drop (f.length - 3) = [46, 48, 46]) = true := decide_eq_true g1
                    rw [this]
                    by_cases g2 : f.length = 3
                    · have hb : baseP v f = none := by rw [hb0, if_neg (fun h => h.2.2 g2)]
                      simp (disch := first | omega | (simp only [Lx]; omega)) only [go_sem, simprocAttr, g2]
                      (repeat (first | (with_reducible refine gskip_of ?_) | (with_reducible refine gcskip_of ?_) | (with_reducible refine gopen_of ?_)) <;> simp (disch := first | omega | (simp only [Lx]; omega)) only [go_sem, simprocAttr, g2])
                      exact (bno hb).ro ⟨rfl, rfl⟩
                    · have hb : baseP v f = some (headP v ++ v.pa ++ [45] ++ f.take (f.length - 3) ++ bldP v) := by rw [hb0, if_pos ⟨g1.1, g1.2, g2⟩]
                      have hgl : (f.take (f.length - 3)).length ≤ 101 := by simp; omega
                      simp (disch := first | omega | (simp only [Lx]; omega)) only [go_sem, simprocAttr, g2, eF]
                      (repeat (first | (with_reducible refine gskip_of ?_) | (with_reducible refine gcskip_of ?_) | (with_reducible refine gopen_of ?_)) <;> simp (disch := first | omega | (simp only [Lx]; omega)) only [go_sem, simprocAttr, g2, eF])
                      refine call_ro hpb rfl rfl ?_
                      simp (disch := first | omega | (simp only [Lx]; omega)) only [go_sem, simprocAttr]
                      exact (byes _ hb).ro ⟨rfl, rfl⟩
                  · have hb : baseP v f = none := by rw [hb0, if_neg (fun h => g1 ⟨h.1, h.2.1⟩)]
                    have : decide (3 ≤ f.length ∧ f.drop (f.length - 3) = [46, 48, 46]) = false := decide_eq_false g1
                    rw [this]
                    simp (disch := first | omega | (simp only [Lx]; omega)) only [go_sem, simprocAttr]
                    (repeat (first | (with_reducible refine gskip_of ?_) | (with_reducible refine gcskip_of ?_) | (with_reducible refine gopen_of ?_)) <;> simp (disch := first | omega | (simp only [Lx]; omega)) only [go_sem, simprocAttr])
                    exact (bno hb).ro ⟨rfl, rfl⟩
        · rw [if_neg (fun h => h45 h.2.1)] at hpr
          have h45i : ¬ (((v.pr.getD (v.pr.length - 13) 0).toNat : Int) = 45) := fun e => h45 (UInt8.toNat.inj (by show _ = 45; omega))
          simp (disch := first | omega | (simp only [Lx]; omega)) only [go_sem, simprocAttr, hsh, e13, e12]
          (repeat (first | (with_reducible refine gskip_of ?_) | (with_reducible refine gcskip_of ?_) | (with_reducible refine gopen_of ?_)) <;> simp (disch := first | omega | (simp only [Lx]; omega)) only [go_sem, simprocAttr, hsh, e13, e12, h45i])
          exact (no hpr).ro ⟨rfl, rfl⟩
      · rw [if_neg (fun h => h27 h.1)] at hpr
        simp (disch := first | omega | (simp only [Lx]; omega)) only [go_sem, simprocAttr, hsh]
        (repeat (first | (with_reducible refine gskip_of ?_) | (with_reducible refine gcskip_of ?_) | (with_reducible refine gopen_of ?_)) <;> simp (disch := first | omega | (simp only [Lx]; omega)) only [go_sem, simprocAttr, hsh])
        exact (no hpr).ro ⟨rfl, rfl⟩
end Go.Proofs.YtgkcbhdpenmogaaDoor.Ps
