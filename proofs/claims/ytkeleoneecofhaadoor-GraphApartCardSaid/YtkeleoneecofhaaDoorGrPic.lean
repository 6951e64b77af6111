import Derived.Test.YtkeleoneecofhaaDoorGrPlaces2
import Derived.Test.YtkeleoneecofhaaDoorGrLib
set_option linter.all false
namespace Go.Proofs.YtkeleoneecofhaaDoor.Gr
open Eng
set_option maxRecDepth 10000
theorem parLoop_len (k : Nat) : ∀ (p l : List Int) (n : Nat), l.length ≤ (parLoop k l n p).length
  | [], l, n => Nat.le_refl _
  | x :: r, l, n => by
    rw [parLoop]
    refine Nat.le_trans ?_ (parLoop_len k r _ _)
    split
    · simp
    · exact (takeL_le l x).2
theorem placesGo_facts : ∀ (ps : List (List Int)) (i : Nat) (l : List Int) (a : List (Int × Int)) (rs : List (List Int)) (a' : List (Int × Int)) (rs' : List (List Int)), placesGo i l ps a rs = some (a', rs') →
    a.length = i → rs.length = i → (∀ (j : Nat) z, a[j]? = some z → z.2 = j ∧ 0 ≤ z.1 ∧ z.1 < 40) → (∀ r ∈ rs, r.length ≤ 40) →
    a'.length = i + ps.length ∧ rs'.length = i + ps.length ∧ (∀ (j : Nat) z, a'[j]? = some z → z.2 = j ∧ 0 ≤ z.1 ∧ z.1 < 40) ∧ ∀ r ∈ rs', r.length ≤ 40
  | [], i, l, a, rs, a', rs', h, h1, h2, h3, h4 => by
    rw [placesGo] at h
    cases h
    exact ⟨by simpa using h1, by simpa using h2, h3, h4⟩
  | p :: ps, i, l, a, rs, a', rs', h, h1, h2, h3, h4 => by
    rw [placesGo] at h
    split at h
    · cases h
    · rename_i hb
      have hk := takeK_bd l i
      have hr : (takeL l i).length ≤ (rowOf i l p).length := by
        have := parLoop_len (takeK l i).toNat p ((takeL l i).map (rep i)) 0
        rw [List.length_map] at this
        exact this
      have := placesGo_facts ps (i + 1) _ _ _ a' rs' h (by simp [h1]) (by simp [h2]) (fun j z hz => ?_) (fun r hr => ?_)
      · obtain ⟨g1, g2, g3, g4⟩ := this
        exact ⟨by rw [g1, List.length_cons]; omega, by rw [g2, List.length_cons]; omega, g3, g4⟩
      · rw [List.getElem?_append] at hz
        split at hz
        · exact h3 j z hz
        · rename_i hj
          have : j - a.length = 0 := by
            have := (List.getElem?_eq_some_iff.1 hz).1
            simp at this; omega
          rw [this] at hz
          simp at hz
          subst hz
          exact ⟨by simp only; omega, by simp only; omega, by simp only; omega⟩
      · rcases List.mem_append.1 hr with hr | hr
        · exact h4 r hr
        · rw [List.mem_singleton.1 hr]; omega
theorem placesP_facts (ps : List (List Int)) : (placesP ps).2.2 = 0 ∧ (placesP ps).1.length = ps.length ∧ (placesP ps).2.1.length = ps.length ∧ (∀ (j : Nat) z, (placesP ps).1[j]? = some z → z.2 = j ∧ 0 ≤ z.1 ∧ z.1 < 40) ∧ (∀ r ∈ (placesP ps).2.1, r.length ≤ 40) ∨
    (placesP ps).2.2 ≠ 0 ∧ (placesP ps).1 = [] ∧ (placesP ps).2.1 = [] := by
  unfold placesP
  split
  · split
    · rename_i a rs h
      have := placesGo_facts ps 0 [] [] [] a rs h rfl rfl (fun j z hz => by simp at hz) (fun r hr => by cases hr)
      exact .inl ⟨rfl, by simpa using this.1, by simpa using this.2.1, this.2.2.1, this.2.2.2⟩
    · exact .inr ⟨by simp, rfl, rfl⟩
  · rename_i h; exact .inr ⟨h, rfl, rfl⟩
/- THE LINES -/
def chr (i : Int) (k : Nat) (bf : List Int) (j : Nat) : UInt8 := if j = k then 42 else if i < bf.getD j 0 then 124 else 32
def chrs (i : Int) (k : Nat) (bf : List Int) (n : Nat) : List UInt8 := (List.range n).map (chr i k bf)
def trimL (l : List UInt8) : List UInt8 := Lib.trimRightB l 32
theorem trim_spaces (l : List UInt8) (m : Nat) : trimL (l ++ List.replicate m 32) = trimL l := by
  simp only [trimL, Lib.trimRightB, List.reverse_append, List.reverse_replicate]
  congr 1
  induction m with
  | zero => simp
  | succ m ih => rw [List.replicate_succ, List.cons_append, List.dropWhile_cons]; simpa using ih
theorem chrs_more (i : Int) (k : Nat) (bf : List Int) (n m : Nat) (hi : 0 ≤ i) (h1 : k < n) (h2 : bf.length ≤ n) : chrs i k bf (n + m) = chrs i k bf n ++ List.replicate m 32 := by
  induction m with
  | zero => simp
  | succ m ih =>
    rw [List.replicate_succ', ← List.append_assoc, ← ih, ← Nat.add_assoc, chrs, List.range_succ, List.map_append]
    congr 1
    have : bf.getD (n + m) 0 = 0 := by rw [List.getD_eq_getElem?_getD, List.getElem?_eq_none (by omega)]; rfl
    simp only [List.map_cons, List.map_nil, chr, this]
    rw [if_neg (by omega), if_neg (by omega)]
def lineOf (i : Nat) (k : Int) (rs : List (List Int)) : List UInt8 := trimL (chrs i k.toNat (if i = 0 then [] else rs.getD (i - 1) []) 41)
def linesP (a : List (Int × Int)) (rs : List (List Int)) : List (List UInt8) := (List.range a.length).map fun i => lineOf i (a.getD i (0, 0)).1 rs
def pictureP (ps : List (List Int)) : List (List UInt8) × Int := if (placesP ps).2.2 = 0 then (linesP (placesP ps).1 (placesP ps).2.1, 0) else ([], (placesP ps).2.2)
def cj (i : Int) (bf : List Int) (n j : Nat) : List UInt8 := (List.range n).map fun m => if m < j ∧ i < bf.getD m 0 then 124 else 32
theorem cj_len (i : Int) (bf : List Int) (n j : Nat) : (cj i bf n j).length = n := by simp [cj]
theorem cj_zero (i : Int) (bf : List Int) (n : Nat) : cj i bf n 0 = Lib.repeatL [32] n := by
  have : ∀ n, Lib.repeatL [32] n = List.replicate n (32 : UInt8) := by
    intro n
    induction n with
    | zero => rfl
    | succ n ih => rw [Lib.repeatL, ih, List.replicate_succ]; rfl
  rw [this, cj]
  apply List.ext_getElem (by simp)
  intro m h1 h2
  simp
theorem cj_set {i : Int} {bf : List Int} {n j : Nat} (h : i < bf.getD j 0) : (cj i bf n j).set j 124 = cj i bf n (j + 1) := by
  apply List.ext_getElem (by simp [cj])
  intro m h1 h2
  simp only [cj, List.getElem_set, List.getElem_map, List.getElem_range]
  by_cases e : j = m
  · subst e; rw [if_pos rfl, if_pos ⟨by omega, h⟩]
  · rw [if_neg e]
    by_cases hm : m < j
    · simp [hm, show m < j + 1 by omega]
    · simp [hm, show ¬ m < j + 1 by omega]
theorem cj_skip {i : Int} {bf : List Int} {n j : Nat} (h : ¬ i < bf.getD j 0) : cj i bf n (j + 1) = cj i bf n j := by
  simp only [cj]
  refine List.map_congr_left fun m _ => ?_
  by_cases e : m = j
  · subst e; rw [if_neg (fun x => h x.2), if_neg (fun x => h x.2)]
  · by_cases hm : m < j
    · simp [hm, show m < j + 1 by omega]
    · simp [hm, show ¬ m < j + 1 by omega]
theorem cj_chrs {i : Int} {bf : List Int} {n k : Nat} (hi : 0 ≤ i) : (cj i bf n bf.length).set k 42 = chrs i k bf n := by
  apply List.ext_getElem (by simp [cj, chrs])
  intro m h1 h2
  simp only [cj, chrs, chr, List.getElem_set, List.getElem_map, List.getElem_range]
  by_cases e : k = m
  · subst e; simp
  · rw [if_neg e, if_neg (Ne.symm e)]
    by_cases hm : m < bf.length
    · simp [hm]
    · have : bf.getD m 0 = 0 := by rw [List.getD_eq_getElem?_getD, List.getElem?_eq_none (by omega)]; rfl
      simp only [hm, false_and, if_false, this]
      rw [if_neg (by omega)]
theorem chrs_41 {i : Int} {bf : List Int} {n k : Nat} (hi : 0 ≤ i) (h1 : k < n) (h2 : bf.length ≤ n) (h3 : n ≤ 41) : trimL (chrs i k bf n) = trimL (chrs i k bf 41) := by
  obtain ⟨m, hm⟩ : ∃ m, n + m = 41 := ⟨41 - n, by omega⟩
  rw [← hm, chrs_more i k bf n m hi h1 h2, trim_spaces]
theorem gpicture_ok (ps : List (List Int)) (h1 : ps.length ≤ 1000) (h2 : ∀ r ∈ ps, r.length ≤ 1000) : SpecR Tryd.prog 10 [.ro 1 (rowsA ps)]
    (.tup [.ro 1 ((pictureP ps).1.map AV.str), .int .i64 (pictureP ps).2]) := by
  refine Cod.gpicture_spec (fun E R hN hR => ?_)
  simp (disch := first | omega | (simp only [List.length_append, List.length_cons, List.length_nil, List.length_set, List.length_map, List.length_take, List.length_drop, List.length_range, List.length_replicate, List.length_reverse]; omega)) only [go_sem, Nat.reduceBEq, Nat.reduceAdd, Nat.reduceSub, Nat.reduceMul, Nat.reduceLT, Nat.reduceLeDiff, Nat.reduceEqDiff, Int.reduceAdd, Int.reduceSub, Int.reduceMul, Int.reduceNeg, Int.reduceLT, Int.reduceLE, Int.reduceEq, Int.reduceToNat, UInt8.reduceOfNat, reduceCtorEq]
  refine call_ro (gplaces_ok ps h1 h2) rfl rfl ?_
  rcases placesP_facts ps with ⟨e0, la, lr, ha, hr⟩ | ⟨e0, ea, er⟩
  rotate_left
  · simp (disch := first | omega | (simp only [List.length_append, List.length_cons, List.length_nil, List.length_set, List.length_map, List.length_take, List.length_drop, List.length_range, List.length_replicate, List.length_reverse]; omega)) only [go_sem, Nat.reduceBEq, Nat.reduceAdd, Nat.reduceSub, Nat.reduceMul, Nat.reduceLT, Nat.reduceLeDiff, Nat.reduceEqDiff, Int.reduceAdd, Int.reduceSub, Int.reduceMul, Int.reduceNeg, Int.reduceLT, Int.reduceLE, Int.reduceEq, Int.reduceToNat, UInt8.reduceOfNat, reduceCtorEq, ea, er]
    exact hR.val (.tup (.cons (.nil 1) (.cons (.refl _) .nil))) ⟨rfl, by simp [pictureP, e0]⟩
  have hP : pictureP ps = (linesP (placesP ps).1 (placesP ps).2.1, 0) := by rw [pictureP, if_pos e0]
  generalize (placesP ps).1 = a at *
  generalize (placesP ps).2.1 = rs at *
  generalize (placesP ps).2.2 = e at *
  simp (disch := first | omega | (simp only [List.length_append, List.length_cons, List.length_nil, List.length_set, List.length_map, List.length_take, List.length_drop, List.length_range, List.length_replicate, List.length_reverse]; omega)) only [go_sem, Nat.reduceBEq, Nat.reduceAdd, Nat.reduceSub, Nat.reduceMul, Nat.reduceLT, Nat.reduceLeDiff, Nat.reduceEqDiff, Int.reduceAdd, Int.reduceSub, Int.reduceMul, Int.reduceNeg, Int.reduceLT, Int.reduceLE, Int.reduceEq, Int.reduceToNat, UInt8.reduceOfNat, reduceCtorEq, e0]
  obtain ⟨ln, hln⟩ : ∃ ln : Nat → List UInt8, ∀ i, ln i = lineOf i (a.getD i (0, 0)).1 rs := ⟨_, fun _ => rfl⟩
  obtain ⟨bf, hbf⟩ : ∃ bf : Nat → List Int, ∀ i, bf i = if i = 0 then [] else rs.getD (i - 1) [] := ⟨_, fun _ => rfl⟩
  have hbl : ∀ i, i ≤ a.length → (bf i).length ≤ 40 := by
    intro i hi
    rw [hbf]
    split
    · simp
    · exact hr _ (getD_memD [] rs (by omega))
  have ho : linesP a rs = (List.range a.length).map ln := by
    simp only [linesP]; exact List.map_congr_left fun i _ => (hln i).symm
  refine vcW_loop hN (fun k : Nat => ⟨[(5, .ro 1 (rowsA rs)), (7, .sl 10063 0 k), (8, .ro 1 (ints (bf k))), (23, .ro 1 (a.map cpx)), (24, .int .i64 a.length), (25, .int .i64 k)], [(10063, .arr 1 (((List.range k).map ln).map AV.str))]⟩)
    (fun k => k ≤ a.length) (fun k => a.length - k) 0 (.nil 7 10063 1 rfl (.val 8 .nilsl (.ro 1 []) rfl (.one (.nil 1)) (.le (by simp (disch := first | omega | (simp only [List.length_append, List.length_cons, List.length_nil, List.length_set, List.length_map, List.length_take, List.length_drop, List.length_range, List.length_replicate, List.length_reverse]; omega)) only [go_sem, Nat.reduceBEq, Nat.reduceAdd, Nat.reduceSub, Nat.reduceMul, Nat.reduceLT, Nat.reduceLeDiff, Nat.reduceEqDiff, Int.reduceAdd, Int.reduceSub, Int.reduceMul, Int.reduceNeg, Int.reduceLT, Int.reduceLE, Int.reduceEq, Int.reduceToNat, UInt8.reduceOfNat, reduceCtorEq, hbf 0, List.range_zero])))) (by omega) ?_
  rintro k R1 hk hR1
  by_cases hlt : k < a.length
  · have hz0 := ha k _ (by rw [List.getElem?_eq_getElem hlt])
    obtain ⟨kn, hkn⟩ := Int.eq_ofNat_of_zero_le hz0.2.1
    have hz : a.getD k default = ((kn : Int), (k : Int)) := by
      rw [List.getD_eq_getElem?_getD, List.getElem?_eq_getElem hlt, Option.getD_some]
      exact Prod.ext hkn hz0.1
    have hz' : (a.getD k (0, 0)).1 = (kn : Int) := by
      have : a.getD k (0, 0) = a.getD k default := rfl
      rw [this, hz]
    have hkn2 : kn < 40 := by have := hz0.2.2; rw [hkn] at this; omega
    have hf := f2i (k := (kn : Int)) ⟨by omega, by omega⟩
    have hb40 := hbl k hk
    have hrow : bf (k + 1) = rs.getD k [] := by rw [hbf]; rfl
    obtain ⟨b, hb⟩ : ∃ b, b = bf k := ⟨_, rfl⟩
    rw [← hb] at hb40
    obtain ⟨n, hn⟩ : ∃ n, n = max b.length (kn + 1) := ⟨_, rfl⟩
    have hmx : max (b.length : Int) ((kn : Int) + 1) = (n : Int) := by omega
    have hcl : ∀ j, (cj k b n j).length = n := fun j => cj_len _ _ _ _
    simp (disch := first | omega | (simp only [List.length_append, List.length_cons, List.length_nil, List.length_set, List.length_map, List.length_take, List.length_drop, List.length_range, List.length_replicate, List.length_reverse]; omega)) only [go_sem, Nat.reduceBEq, Nat.reduceAdd, Nat.reduceSub, Nat.reduceMul, Nat.reduceLT, Nat.reduceLeDiff, Nat.reduceEqDiff, Int.reduceAdd, Int.reduceSub, Int.reduceMul, Int.reduceNeg, Int.reduceLT, Int.reduceLE, Int.reduceEq, Int.reduceToNat, UInt8.reduceOfNat, reduceCtorEq, hz, cpx, hf, ← hb, hmx]
    refine call_ro (repeat_ok [32] n (by simp; omega) (by omega)) rfl rfl ?_
    rw [← cj_zero k b n]
    simp (disch := first | omega | (simp only [List.length_append, List.length_cons, List.length_nil, List.length_set, List.length_map, List.length_take, List.length_drop, List.length_range, List.length_replicate, List.length_reverse]; omega)) only [go_sem, Nat.reduceBEq, Nat.reduceAdd, Nat.reduceSub, Nat.reduceMul, Nat.reduceLT, Nat.reduceLeDiff, Nat.reduceEqDiff, Int.reduceAdd, Int.reduceSub, Int.reduceMul, Int.reduceNeg, Int.reduceLT, Int.reduceLE, Int.reduceEq, Int.reduceToNat, UInt8.reduceOfNat, reduceCtorEq, hcl 0]
    refine vcW_loop hN (fun j : Nat => ⟨[(5, .ro 1 (rowsA rs)), (7, .sl 10063 0 k), (9, .int .i64 k), (10, .cx .f64 (FloatKind.f64.nearest kn) (FloatKind.f64.nearest k)), (11, .sl 10038 0 n), (23, .ro 1 (a.map cpx)), (24, .int .i64 a.length), (25, .int .i64 k), (39, .ro 1 (ints b)), (40, .int .i64 b.length), (41, .int .i64 j)],
      [(10063, .arr 1 (((List.range k).map ln).map AV.str)), (10038, .arr 1 ((cj k b n j).map ub))]⟩)
      (fun j => j ≤ b.length) (fun j => b.length - j) 0 (.le (by simp (disch := first | omega | (simp only [List.length_append, List.length_cons, List.length_nil, List.length_set, List.length_map, List.length_take, List.length_drop, List.length_range, List.length_replicate, List.length_reverse]; omega)) only [go_sem, Nat.reduceBEq, Nat.reduceAdd, Nat.reduceSub, Nat.reduceMul, Nat.reduceLT, Nat.reduceLeDiff, Nat.reduceEqDiff, Int.reduceAdd, Int.reduceSub, Int.reduceMul, Int.reduceNeg, Int.reduceLT, Int.reduceLE, Int.reduceEq, Int.reduceToNat, UInt8.reduceOfNat, reduceCtorEq])) (by omega) ?_
    rintro j R2 hj hR2
    have hcj := hcl j
    by_cases hjl : j < b.length
    · simp (disch := first | omega | (simp only [List.length_append, List.length_cons, List.length_nil, List.length_set, List.length_map, List.length_take, List.length_drop, List.length_range, List.length_replicate, List.length_reverse]; omega)) only [go_sem, Nat.reduceBEq, Nat.reduceAdd, Nat.reduceSub, Nat.reduceMul, Nat.reduceLT, Nat.reduceLeDiff, Nat.reduceEqDiff, Int.reduceAdd, Int.reduceSub, Int.reduceMul, Int.reduceNeg, Int.reduceLT, Int.reduceLE, Int.reduceEq, Int.reduceToNat, UInt8.reduceOfNat, reduceCtorEq]
      refine ifW_dec (fun he => ?_) (fun he => ?_)
      · simp (disch := first | omega | (simp only [List.length_append, List.length_cons, List.length_nil, List.length_set, List.length_map, List.length_take, List.length_drop, List.length_range, List.length_replicate, List.length_reverse]; omega)) only [go_sem, Nat.reduceBEq, Nat.reduceAdd, Nat.reduceSub, Nat.reduceMul, Nat.reduceLT, Nat.reduceLeDiff, Nat.reduceEqDiff, Int.reduceAdd, Int.reduceSub, Int.reduceMul, Int.reduceNeg, Int.reduceLT, Int.reduceLE, Int.reduceEq, Int.reduceToNat, UInt8.reduceOfNat, reduceCtorEq]
        exact hR2 (j + 1) _ (by omega) (by omega) (.le (by simp (disch := first | omega | (simp only [List.length_append, List.length_cons, List.length_nil, List.length_set, List.length_map, List.length_take, List.length_drop, List.length_range, List.length_replicate, List.length_reverse]; omega)) only [go_sem, Nat.reduceBEq, Nat.reduceAdd, Nat.reduceSub, Nat.reduceMul, Nat.reduceLT, Nat.reduceLeDiff, Nat.reduceEqDiff, Int.reduceAdd, Int.reduceSub, Int.reduceMul, Int.reduceNeg, Int.reduceLT, Int.reduceLE, Int.reduceEq, Int.reduceToNat, UInt8.reduceOfNat, reduceCtorEq, cj_set he]))
      · simp (disch := first | omega | (simp only [List.length_append, List.length_cons, List.length_nil, List.length_set, List.length_map, List.length_take, List.length_drop, List.length_range, List.length_replicate, List.length_reverse]; omega)) only [go_sem, Nat.reduceBEq, Nat.reduceAdd, Nat.reduceSub, Nat.reduceMul, Nat.reduceLT, Nat.reduceLeDiff, Nat.reduceEqDiff, Int.reduceAdd, Int.reduceSub, Int.reduceMul, Int.reduceNeg, Int.reduceLT, Int.reduceLE, Int.reduceEq, Int.reduceToNat, UInt8.reduceOfNat, reduceCtorEq]
        exact hR2 (j + 1) _ (by omega) (by omega) (.le (by simp (disch := first | omega | (simp only [List.length_append, List.length_cons, List.length_nil, List.length_set, List.length_map, List.length_take, List.length_drop, List.length_range, List.length_replicate, List.length_reverse]; omega)) only [go_sem, Nat.reduceBEq, Nat.reduceAdd, Nat.reduceSub, Nat.reduceMul, Nat.reduceLT, Nat.reduceLeDiff, Nat.reduceEqDiff, Int.reduceAdd, Int.reduceSub, Int.reduceMul, Int.reduceNeg, Int.reduceLT, Int.reduceLE, Int.reduceEq, Int.reduceToNat, UInt8.reduceOfNat, reduceCtorEq, cj_skip he]))
    · obtain rfl : j = b.length := by omega
      clear hR2
      simp (disch := first | omega | (simp only [List.length_append, List.length_cons, List.length_nil, List.length_set, List.length_map, List.length_take, List.length_drop, List.length_range, List.length_replicate, List.length_reverse]; omega)) only [go_sem, Nat.reduceBEq, Nat.reduceAdd, Nat.reduceSub, Nat.reduceMul, Nat.reduceLT, Nat.reduceLeDiff, Nat.reduceEqDiff, Int.reduceAdd, Int.reduceSub, Int.reduceMul, Int.reduceNeg, Int.reduceLT, Int.reduceLE, Int.reduceEq, Int.reduceToNat, UInt8.reduceOfNat, reduceCtorEq, hf]
      rw [cj_chrs (by omega)]
      have hl2 : (chrs k kn b n).length = n := by simp [chrs]
      refine call_ro (trimRight_ok _ 32 (by decide) (by omega)) rfl rfl ?_
      have hline : Lib.trimRightB (chrs k kn b n) 32 = ln k := by
        rw [hln, lineOf, hz']
        show trimL _ = _
        rw [chrs_41 (by omega) (by omega) (by omega) (by omega), hb, hbf]; rfl
      rw [hline]
      have hsn : ((List.range k).map ln) ++ [ln k] = (List.range (k + 1)).map ln := by rw [List.range_succ, List.map_append]; rfl
      simp (disch := first | omega | (simp only [List.length_append, List.length_cons, List.length_nil, List.length_set, List.length_map, List.length_take, List.length_drop, List.length_range, List.length_replicate, List.length_reverse]; omega)) only [go_sem, Nat.reduceBEq, Nat.reduceAdd, Nat.reduceSub, Nat.reduceMul, Nat.reduceLT, Nat.reduceLeDiff, Nat.reduceEqDiff, Int.reduceAdd, Int.reduceSub, Int.reduceMul, Int.reduceNeg, Int.reduceLT, Int.reduceLE, Int.reduceEq, Int.reduceToNat, UInt8.reduceOfNat, reduceCtorEq, hsn]
      exact hR1 (k + 1) _ (by omega) (by omega) (.le (by simp (disch := first | omega | (simp only [List.length_append, List.length_cons, List.length_nil, List.length_set, List.length_map, List.length_take, List.length_drop, List.length_range, List.length_replicate, List.length_reverse]; omega)) only [go_sem, Nat.reduceBEq, Nat.reduceAdd, Nat.reduceSub, Nat.reduceMul, Nat.reduceLT, Nat.reduceLeDiff, Nat.reduceEqDiff, Int.reduceAdd, Int.reduceSub, Int.reduceMul, Int.reduceNeg, Int.reduceLT, Int.reduceLE, Int.reduceEq, Int.reduceToNat, UInt8.reduceOfNat, reduceCtorEq, hrow]))
  · obtain rfl : k = a.length := by omega
    simp (disch := first | omega | (simp only [List.length_append, List.length_cons, List.length_nil, List.length_set, List.length_map, List.length_take, List.length_drop, List.length_range, List.length_replicate, List.length_reverse]; omega)) only [go_sem, Nat.reduceBEq, Nat.reduceAdd, Nat.reduceSub, Nat.reduceMul, Nat.reduceLT, Nat.reduceLeDiff, Nat.reduceEqDiff, Int.reduceAdd, Int.reduceSub, Int.reduceMul, Int.reduceNeg, Int.reduceLT, Int.reduceLE, Int.reduceEq, Int.reduceToNat, UInt8.reduceOfNat, reduceCtorEq]
    refine hR.wk (h' := []) (r' := .tup [.ro 1 (((List.range a.length).map ln).map AV.str), .int .i64 0]) rfl (.frz 10063 (.le (by simp (disch := first | omega | (simp only [List.length_append, List.length_cons, List.length_nil, List.length_set, List.length_map, List.length_take, List.length_drop, List.length_range, List.length_replicate, List.length_reverse]; omega)) only [go_sem, Nat.reduceBEq, Nat.reduceAdd, Nat.reduceSub, Nat.reduceMul, Nat.reduceLT, Nat.reduceLeDiff, Nat.reduceEqDiff, Int.reduceAdd, Int.reduceSub, Int.reduceMul, Int.reduceNeg, Int.reduceLT, Int.reduceLE, Int.reduceEq, Int.reduceToNat, UInt8.reduceOfNat, reduceCtorEq, List.length_range]))) ⟨rfl, ?_⟩
    rw [hP, ho]
end Go.Proofs.YtkeleoneecofhaaDoor.Gr
