/- ObjectTexts, ObjectApart: the laws. -/
import Derived.Test.YtlnplfjcnncakaaDoorObRead
set_option linter.all false
namespace Go.Proofs.YtlnplfjcnncakaaDoor.Ob
open Eng
set_option maxRecDepth 10000
/- PLAIN -/
theorem cutP_app (c : UInt8) : ∀ (a b : Bs), c ∉ a → cutP c (a ++ c :: b) = (a, b, true)
  | [], b, _ => by simp [cutP]
  | x :: a, b, h => by
    simp only [List.mem_cons, not_or] at h
    have := cutP_app c a b h.2
    simp only [List.cons_append, cutP]
    rw [if_neg (fun e => h.1 e.symm), this]
theorem cutP_join (c : UInt8) : ∀ (s a b : Bs), cutP c s = (a, b, true) → s = a ++ c :: b ∧ c ∉ a
  | [], a, b, h => by simp [cutP] at h
  | x :: s, a, b, h => by
    unfold cutP at h
    split at h
    · rename_i hx
      simp only [Prod.mk.injEq, and_true] at h
      obtain ⟨rfl, rfl⟩ := h
      subst hx
      exact ⟨rfl, by simp⟩
    · rename_i hx
      have h1 : x :: (cutP c s).1 = a := congrArg Prod.fst h
      have h2 : (cutP c s).2 = (b, true) := congrArg Prod.snd h
      subst h1
      have := cutP_join c s (cutP c s).1 b (by rw [← h2])
      obtain ⟨h4, h5⟩ := this
      refine ⟨by rw [List.cons_append, ← h4], ?_⟩
      simp only [List.mem_cons, not_or]
      exact ⟨fun e => hx e.symm, h5⟩
theorem name_kind {k : Int} (h : nameP k ≠ []) : kindP (nameP k) = k ∧ (0 : UInt8) ∉ nameP k ∧ (32 : UInt8) ∉ nameP k ∧ k ≠ 0 := by
  have hk : k = 1 ∨ k = 2 ∨ k = 3 ∨ k = 4 := by
    unfold nameP at h
    by_cases h1 : k = 1
    · exact .inl h1
    by_cases h2 : k = 2
    · exact .inr (.inl h2)
    by_cases h3 : k = 3
    · exact .inr (.inr (.inl h3))
    by_cases h4 : k = 4
    · exact .inr (.inr (.inr h4))
    rw [if_neg h1, if_neg h2, if_neg h3, if_neg h4] at h
    exact absurd rfl h
  rcases hk with rfl | rfl | rfl | rfl <;> decide
theorem kind_name {s : Bs} (h : kindP s ≠ 0) : nameP (kindP s) = s := by
  unfold kindP at h ⊢
  split
  · assumption
  · split
    · assumption
    · split
      · assumption
      · split
        · assumption
        · rename_i h1 h2 h3 h4
          rw [if_neg h1, if_neg h2, if_neg h3, if_neg h4] at h
          exact absurd rfl h
theorem itoa_no (n : Nat) (b : UInt8) (hb : b.toNat < 48) : b ∉ Lib.itoa (n : Int) := by
  rw [Lib.itoa_nonneg]
  intro h
  have := dec_digit n n (Nat.le_refl _) b h
  omega
/-- a text is read back -/
theorem decode_text {k : Int} {d : Bs} (h : nameP k ≠ []) (hd : d.length ≤ 65000) : decodeP (textP k d) = (k, d, 0) := by
  obtain ⟨h1, h2, h3, h4⟩ := name_kind h
  have e1 : cutP 0 (textP k d) = (nameP k ++ 32 :: Lib.itoa d.length, d, true) := by
    have : textP k d = (nameP k ++ 32 :: Lib.itoa d.length) ++ 0 :: d := by simp [textP]
    rw [this]
    refine cutP_app 0 _ _ ?_
    simp only [List.mem_append, List.mem_cons, not_or]
    exact ⟨h2, by decide, itoa_no d.length 0 (by decide)⟩
  have e2 : cutP 32 (nameP k ++ 32 :: Lib.itoa d.length) = (nameP k, Lib.itoa d.length, true) := cutP_app 32 _ _ h3
  have e3 : numO (Lib.itoa d.length) = some d.length := by rw [numO_itoa, if_pos (by omega)]; simp
  unfold decodeP
  rw [e1]
  simp only
  rw [e2]
  simp only
  rw [e3, numI, h1, if_neg (by simp), if_neg h4, if_neg (by omega), if_neg (by omega), if_neg (by omega)]
/-- what is read is what was written -/
theorem decode_of {s : Bs} {k : Int} {d : Bs} (h : decodeP s = (k, d, 0)) : textP k d = s ∧ nameP k ≠ [] ∧ d.length ≤ 65000 := by
  unfold decodeP at h
  split at h
  · simp at h
  rename_i h0
  split at h
  · simp at h
  rename_i h1
  split at h
  · simp at h
  rename_i h2
  split at h
  · simp at h
  rename_i h3
  split at h
  · simp at h
  rename_i h4
  simp only [Prod.mk.injEq, and_true] at h
  obtain ⟨rfl, rfl⟩ := h
  obtain ⟨g1, g0⟩ := not_or.1 h0
  obtain ⟨g2, g3⟩ := not_or.1 g0
  have g1 : (cutP 0 s).2.2 = true := by simpa using g1
  have g2 : (cutP 32 (cutP 0 s).1).2.2 = true := by simpa using g2
  obtain ⟨j1, _⟩ := cutP_join 0 s (cutP 0 s).1 (cutP 0 s).2.1 (by rw [← g1])
  obtain ⟨j2, _⟩ := cutP_join 32 (cutP 0 s).1 (cutP 32 (cutP 0 s).1).1 (cutP 32 (cutP 0 s).1).2.1 (by rw [← g2])
  obtain ⟨n, hn⟩ := Option.ne_none_iff_exists'.1 g3
  rw [hn, numI] at h2 h3 h4
  obtain ⟨i1, _⟩ := numO_some hn
  have hl : (cutP 0 s).2.1.length = n := by omega
  have hkn := kind_name h1
  refine ⟨?_, ?_, by omega⟩
  · unfold textP
    rw [hkn, hl, i1]
    conv => rhs; rw [j1, j2]
    simp
  · rw [hkn]
    intro e
    rw [e] at h1
    exact h1 (by decide)
theorem decode_err {s : Bs} {k e : Int} {d : Bs} (h : decodeP s = (k, d, e)) (he : e ≠ 0) : k = 0 ∧ d = [] := by
  unfold decodeP at h
  repeat' (first | (split at h) | (simp only [Prod.mk.injEq] at h; obtain ⟨rfl, rfl, rfl⟩ := h; first | exact ⟨rfl, rfl⟩ | exact absurd rfl he))
theorem check_zero {k : Int} {d : Bs} (h : checkP k d = 0) : nameP k ≠ [] := by
  intro e
  unfold checkP at h
  rw [if_pos e] at h
  cases h
theorem check_of {k : Int} {d : Bs} (h1 : nameP k ≠ []) (h2 : d.length ≤ 65000) : checkP k d = 0 := by
  unfold checkP
  rw [if_neg h1, if_neg (by omega)]
theorem text_inj {k l : Int} {d e : Bs} (h1 : checkP k d = 0) (h2 : checkP l e = 0) (h : textP k d = textP l e) : k = l ∧ d = e := by
  have a := decode_text (check_zero h1) (check_len h1)
  rw [h, decode_text (check_zero h2) (check_len h2)] at a
  simp only [Prod.mk.injEq, and_true] at a
  exact ⟨a.1.symm, a.2.symm⟩
end Go.Proofs.YtlnplfjcnncakaaDoor.Ob
