/- GraphBusy: how often each commit stands in the lanes; the law. -/
import Derived.Test.YtkeleoneecofhaaDoorGrRest
set_option linter.all false
namespace Go.Proofs.YtkeleoneecofhaaDoor.Gr
open Eng
set_option maxRecDepth 10000
theorem findI_spec : ∀ (xs : List Int) (k : Nat) (i : Int), (findI xs k i < 0 → i ∉ xs) ∧ (¬ findI xs k i < 0 → k ≤ findI xs k i ∧ ((findI xs k i).toNat - k) < xs.length ∧ xs.getD ((findI xs k i).toNat - k) 0 = i)
  | [], k, i => by simp [findI]
  | x :: r, k, i => by
    have ih := findI_spec r (k + 1) i
    by_cases he : x = i
    · subst he
      have e : findI (x :: r) k x = (k : Int) := by rw [findI, if_pos rfl]
      rw [e]
      refine ⟨fun h => by omega, fun _ => ⟨by omega, by simp, by simp⟩⟩
    · simp only [findI, if_neg he]
      refine ⟨fun h => ?_, fun h => ?_⟩
      · simp only [List.mem_cons, not_or]
        exact ⟨fun e => he e.symm, ih.1 h⟩
      · obtain ⟨g1, g2, g3⟩ := ih.2 h
        have e : (findI r (k + 1) i).toNat - k = ((findI r (k + 1) i).toNat - (k + 1)) + 1 := by omega
        rw [e]
        exact ⟨by omega, by simp only [List.length_cons]; omega, by simpa using g3⟩
theorem count_setD {l : List Int} {j : Nat} {y a k : Int} (hj : j < l.length) (hy : l.getD j 0 = y) : (l.set j a).count k = l.count k - (if y = k then 1 else 0) + (if a = k then 1 else 0) := by
  rw [List.count_set hj]
  rw [List.getD_eq_getElem?_getD, List.getElem?_eq_getElem hj, Option.getD_some] at hy
  simp [hy]
theorem take_pos (l : List Int) (i : Int) : (takeK l i).toNat < (takeL l i).length ∧ (takeL l i).getD (takeK l i).toNat 0 = i := by
  have s1 := findI_spec l 0 i
  have s2 := findI_spec l 0 (-1)
  unfold takeL takeK
  by_cases h1 : findI l 0 i < 0
  · by_cases h2 : findI l 0 (-1) < 0
    · simp only [h1, h2, and_self, if_true]
      simp
    · obtain ⟨g1, g2, _⟩ := s2.2 h2
      simp only [h1, h2, and_false, if_false, if_true]
      simp only [Nat.sub_zero] at g2
      simp [List.length_set, g2]
  · obtain ⟨g1, g2, _⟩ := s1.2 h1
    simp only [h1, false_and, if_false]
    simp only [Nat.sub_zero] at g2
    simp [List.length_set, g2]
theorem takeL_count (l : List Int) (i k : Int) (hi : 0 ≤ i) (hk : 0 ≤ k) : (takeL l i).count k = if k = i then (if l.count i = 0 then 1 else l.count i) else l.count k := by
  have s1 := findI_spec l 0 i
  have s2 := findI_spec l 0 (-1)
  unfold takeL takeK
  by_cases h1 : findI l 0 i < 0
  · have c0 : l.count i = 0 := List.count_eq_zero.2 (s1.1 h1)
    by_cases h2 : findI l 0 (-1) < 0
    · simp only [h1, h2, and_self, if_true, List.count_append, c0]
      by_cases hki : k = i
      · subst hki; simp [c0]
      · rw [if_neg hki, (List.count_eq_zero.2 (by simpa using hki) : [i].count k = 0)]; omega
    · obtain ⟨g1, g2, g3⟩ := s2.2 h2
      simp only [h1, h2, and_false, if_false, if_true, c0]
      simp only [Nat.sub_zero] at g2 g3
      rw [count_setD g2 g3, if_neg (by omega)]
      by_cases hki : k = i
      · subst hki; simp [c0]
      · rw [if_neg hki, if_neg (fun e => hki e.symm)]; omega
  · obtain ⟨g1, g2, g3⟩ := s1.2 h1
    simp only [h1, false_and, if_false]
    simp only [Nat.sub_zero] at g2 g3
    have hm : i ∈ l := by rw [← g3]; exact getD_memD 0 l g2
    have cp : 0 < l.count i := List.count_pos_iff.2 hm
    rw [count_setD g2 g3]
    by_cases hki : k = i
    · subst hki; rw [if_pos rfl, if_pos rfl, if_neg (by omega : ¬ l.count k = 0)]; omega
    · rw [if_neg hki, if_neg (fun e => hki e.symm)]; omega
theorem rep_count (l : List Int) (i k : Int) (hk : 0 ≤ k) : (l.map (rep i)).count k = if k = i then 0 else l.count k := by
  induction l with
  | nil => simp
  | cons x r ih =>
    rw [List.map_cons, List.count_cons, ih, List.count_cons]
    unfold rep
    by_cases hx : x = i
    · subst hx
      by_cases hki : k = x
      · subst hki; simp; omega
      · have : ¬ x = k := fun e => hki e.symm
        simp [hki, this]; omega
    · simp only [if_neg hx]
      by_cases hki : k = i
      · subst hki; simp [hx]
      · simp [hki]
theorem parLoop_count (kk : Nat) : ∀ (p : List Int) (n : Nat) (l : List Int), (n = 0 → kk < l.length ∧ l.getD kk 0 = -1) → (∀ x ∈ p, 0 ≤ x) → ∀ k : Int, 0 ≤ k →
    (parLoop kk l n p).count k = if k ∈ p ∧ l.count k = 0 then 1 else l.count k
  | [], n, l, _, _, k, _ => by simp [parLoop]
  | x :: r, n, l, h, hx, k, hk => by
    have hx0 := hx x (List.mem_cons_self ..)
    have hstep : ∀ k : Int, 0 ≤ k → (if n = 0 ∧ findI l 0 x < 0 then l.set kk x else takeL l x).count k = if k = x then (if l.count x = 0 then 1 else l.count x) else l.count k := by
      intro k hk
      split
      · rename_i hc
        obtain ⟨g1, g2⟩ := h hc.1
        have c0 : l.count x = 0 := List.count_eq_zero.2 ((findI_spec l 0 x).1 hc.2)
        rw [count_setD g1 g2, if_neg (by omega)]
        by_cases hki : k = x
        · subst hki; simp [c0]
        · rw [if_neg hki, if_neg (fun e => hki e.symm)]; omega
      · exact takeL_count l x k hx0 hk
    rw [parLoop, parLoop_count kk r (n + 1) _ (fun e => by omega) (fun y hy => hx y (List.mem_cons_of_mem _ hy)) k hk, hstep k hk]
    by_cases hkx : k = x
    · subst hkx
      simp only [if_true, List.mem_cons, true_or, true_and]
      split <;> split <;> simp_all
    · simp only [List.mem_cons, hkx, false_or, if_false]
/-- the lanes lead on just for each commit from i on that the rows ahead of i name, each once -/
def cntOK (ps : List (List Int)) (i : Nat) (l : List Int) : Prop := ∀ k : Int, 0 ≤ k → l.count k = if k ∈ (ps.take i).flatten ∧ (i : Int) ≤ k then 1 else 0
theorem row_cnt {ps : List (List Int)} {i : Nat} {l : List Int} (h : cntOK ps i l) (hi : i < ps.length) (hp : ∀ x ∈ ps.getD i [], (i : Int) < x) : cntOK ps (i + 1) (rowOf i l (ps.getD i [])) := by
  intro k hk
  have tp := take_pos l i
  unfold rowOf
  rw [parLoop_count _ _ 0 _ (fun _ => ⟨by rw [List.length_map]; exact tp.1, ?_⟩) (fun x hx => by have := hp x hx; omega) k hk, rep_count _ _ _ hk, takeL_count l i k (by omega) hk, h k hk]
  · have hmem : k ∈ (ps.take (i + 1)).flatten ↔ (k ∈ (ps.take i).flatten ∨ k ∈ ps.getD i []) := by
      rw [take_succD [] ps hi, List.flatten_append, List.mem_append]; simp
    simp only [hmem]
    by_cases hki : k = i
    · subst hki
      have : ¬ (i : Int) ∈ ps.getD i [] := fun hm => by have := hp _ hm; omega
      simp only [if_true, this, false_and, if_false]
      rw [if_neg (by omega)]
    · simp only [if_neg hki]
      by_cases hkp : k ∈ ps.getD i []
      · have := hp k hkp
        simp only [hkp, true_and, or_true]
        rw [if_pos (by omega : ((i + 1 : Nat) : Int) ≤ k)]
        split <;> split <;> simp_all
      · simp only [hkp, false_and, if_false, or_false]
        by_cases hki2 : (i : Int) ≤ k
        · have h3 : ((i + 1 : Nat) : Int) ≤ k := by omega
          simp only [hki2, h3]
        · have h3 : ¬ ((i + 1 : Nat) : Int) ≤ k := by omega
          simp only [hki2, h3]
  · rw [List.getD_eq_getElem?_getD, List.getElem?_map, List.getElem?_eq_getElem tp.1, Option.map_some, Option.getD_some]
    have := tp.2
    rw [List.getD_eq_getElem?_getD, List.getElem?_eq_getElem tp.1, Option.getD_some] at this
    rw [this, rep, if_pos rfl]
theorem chkRow_mem (n i : Int) : ∀ (r s : List Int), chkRow n i s r = true → ∀ x ∈ r, i < x ∧ x < n
  | [], _, _, x, hx => by cases hx
  | y :: r, s, h, x, hx => by
    rw [chkRow] at h
    split at h
    · cases h
    · rename_i h1
      split at h
      · cases h
      · rcases List.mem_cons.1 hx with rfl | hx
        · omega
        · exact chkRow_mem n i r _ h x hx
theorem chkRows_mem (n : Int) : ∀ (ps : List (List Int)) (i : Nat), chkRows n i ps = true → ∀ (j : Nat), j < ps.length → ∀ x ∈ ps.getD j [], ((i + j : Nat) : Int) < x ∧ x < n
  | [], _, _, j, hj => by simp at hj
  | r :: ps, i, h, j, hj => by
    rw [chkRows, Bool.and_eq_true] at h
    rcases j with _ | j
    · exact chkRow_mem n i r [] h.1
    · have := chkRows_mem n ps (i + 1) h.2 j (by simpa using hj)
      rw [show i + (j + 1) = i + 1 + j from by omega]
      simpa using this
theorem checkP_mem {ps : List (List Int)} (h : checkP ps = 0) (j : Nat) (hj : j < ps.length) : ∀ x ∈ ps.getD j [], (j : Int) < x ∧ x < ps.length := by
  unfold checkP at h
  split at h
  · omega
  · split at h
    · rename_i hc
      have := chkRows_mem ps.length ps 0 hc j hj
      simpa using this
    · omega
theorem placesGo_cnt {ps : List (List Int)} (hc : checkP ps = 0) : ∀ (r : List (List Int)) (i : Nat) (l : List Int) (a : List (Int × Int)) (rs : List (List Int)) (a' : List (Int × Int)) (rs' : List (List Int)), r = ps.drop i → i ≤ ps.length →
    placesGo i l r a rs = some (a', rs') → cntOK ps i l → rs.length = i → (∀ j, j < i → cntOK ps (j + 1) (rs.getD j [])) → ∀ j, j < ps.length → cntOK ps (j + 1) (rs'.getD j [])
  | [], i, l, a, rs, a', rs', hr, hi, hg, hl, hrl, hrs => by
    rw [placesGo] at hg
    obtain ⟨_, rfl⟩ : a = a' ∧ rs = rs' := by simpa using hg
    have : ps.length ≤ i := by
      have := congrArg List.length hr
      simp at this; omega
    intro j hj
    exact hrs j (by omega)
  | p :: r, i, l, a, rs, a', rs', hr, hi, hg, hl, hrl, hrs => by
    have hlt : i < ps.length := by
      have := congrArg List.length hr
      simp at this; omega
    rw [drop_consD [] ps hlt] at hr
    obtain ⟨rfl, rfl⟩ := List.cons.inj hr
    rw [placesGo] at hg
    split at hg
    · cases hg
    · have hrow := row_cnt hl hlt (fun x hx => (checkP_mem hc i hlt x hx).1)
      refine placesGo_cnt hc _ (i + 1) _ _ _ a' rs' rfl hlt hg hrow (by simp [hrl]) (fun j hj => ?_)
      by_cases hji : j < i
      · rw [List.getD_eq_getElem?_getD, List.getElem?_append_left (by omega), ← List.getD_eq_getElem?_getD]; exact hrs j hji
      · have : j = i := by omega
        subst this
        rw [List.getD_eq_getElem?_getD, List.getElem?_append_right (by omega)]
        simpa [hrl] using hrow
theorem placesP_cnt (ps : List (List Int)) (h : (placesP ps).2.2 = 0) : ∀ j, j < ps.length → cntOK ps (j + 1) ((placesP ps).2.1.getD j []) := by
  unfold placesP at h ⊢
  split at h
  · rename_i hc
    rw [if_pos hc]
    split at h
    · rename_i a rs hg
      exact placesGo_cnt hc ps 0 [] [] [] a rs rfl (by omega) hg (fun k hk => by simp) rfl (fun j hj => by omega)
    · cases h
  · rename_i hc; exact absurd h hc
end Go.Proofs.YtkeleoneecofhaaDoor.Gr
