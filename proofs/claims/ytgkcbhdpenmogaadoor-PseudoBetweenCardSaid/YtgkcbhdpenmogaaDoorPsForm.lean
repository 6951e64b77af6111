/- Pseudo: what a version that was read is made of; what is made of parts reads back. -/
import Derived.Test.YtgkcbhdpenmogaaDoorPsMk
set_option linter.all false
namespace Go.Proofs.YtgkcbhdpenmogaaDoor.Ps
open Eng Sv
set_option maxRecDepth 10000
theorem words_ne {p : Bs} {b : Bool} (h : wordsP p b = true) : p ≠ [] := by
  rintro rfl
  revert h
  cases b <;> decide
theorem pref_yes {c : UInt8} {r : Bs} (h : (prefP c r).2 = true) : r = c :: (prefP c r).1 := by
  cases r with
  | nil => simp [prefP] at h
  | cons x t =>
    simp only [prefP] at h ⊢
    split
    · rename_i e; rw [e]
    · rename_i e; rw [if_neg e] at h; cases h
theorem parse7_form {mj mi pa bu r : Bs} {v : Ver} (h : parse7 mj mi pa bu r = some v) : v.mj = mj ∧ v.mi = mi ∧ v.pa = pa ∧ v.bu = bu ∧ v.sh = 0 ∧ r = prT v.pr := by
  unfold parse7 at h
  split at h
  · rename_i e; cases h; exact ⟨rfl, rfl, rfl, rfl, rfl, by rw [e]; rfl⟩
  · split at h
    · rename_i hc; cases h
      refine ⟨rfl, rfl, rfl, rfl, rfl, ?_⟩
      simp only
      unfold prT
      rw [if_neg (words_ne hc.2)]
      exact pref_yes hc.1
    · cases h
def BuOK (v : Ver) : Prop := v.bu = [] ∨ wordsP v.bu false = true
theorem parse6_form {mj mi pa r : Bs} {v : Ver} (h : parse6 mj mi pa r = some v) : v.mj = mj ∧ v.mi = mi ∧ v.pa = pa ∧ v.sh = 0 ∧ r = prT v.pr ++ bldP v ∧ BuOK v := by
  unfold parse6 at h
  split at h
  · cases h
  · rename_i hc
    obtain ⟨h1, h2, h3, h4, h5, h6⟩ := parse7_form h
    have hs := cutP_spec 43 r
    refine ⟨h1, h2, h3, h5, ?_, ?_⟩
    · rw [h6] at hs
      unfold bldP
      rw [h4]
      cases hb : (cutP 43 r).2.2 with
      | true =>
        have hw : wordsP (cutP 43 r).2.1 false = true := by
          cases hw : wordsP (cutP 43 r).2.1 false with
          | true => rfl
          | false => exact absurd ⟨hb, hw⟩ hc
        rw [hb, if_pos rfl] at hs
        rw [if_neg (words_ne hw)]
        exact hs.1
      | false =>
        rw [hs.2 hb, if_pos rfl]
        have := hs.1
        rw [hb, if_neg (by decide)] at this
        exact this
    · unfold BuOK
      rw [h4]
      cases hb : (cutP 43 r).2.2 with
      | true =>
        refine .inr ?_
        cases hw : wordsP (cutP 43 r).2.1 false with
        | true => rfl
        | false => exact absurd ⟨hb, hw⟩ hc
      | false => exact .inl (hs.2 hb)
theorem num_form {r : Bs} (h : ¬ (numP r).2.2 = false) : r = (numP r).1 ++ (numP r).2.1 := by
  obtain ⟨x, y, z, hq⟩ : ∃ x y z, numP r = (x, y, z) := ⟨_, _, _, rfl⟩
  rw [hq] at h ⊢
  cases z with
  | false => exact absurd rfl h
  | true => exact (numP_num hq).2
theorem dot_form {r : Bs} (h0 : r ≠ []) (h : (r.getD 0 0).toNat = 46) : r = 46 :: r.drop 1 := by
  cases r with
  | nil => exact absurd rfl h0
  | cons x t =>
    have : x = 46 := UInt8.toNat.inj h
    rw [this]; rfl
theorem parse5_form {mj mi r : Bs} {v : Ver} (h : parse5 mj mi r = some v) : v.mj = mj ∧ v.mi = mi ∧ v.sh = 0 ∧ r = v.pa ++ (prT v.pr ++ bldP v) ∧ BuOK v := by
  unfold parse5 at h
  split at h
  · cases h
  · rename_i hn
    obtain ⟨h1, h2, h3, h4, h5, h6⟩ := parse6_form h
    exact ⟨h1, h2, h4, by rw [h3, ← h5]; exact num_form hn, h6⟩
theorem parse4_form {mj mi r : Bs} {v : Ver} (h : parse4 mj mi r = some v) : v.mj = mj ∧ v.mi = mi ∧ 0 ≤ v.sh ∧ BuOK v ∧ (v.sh = 0 → r = 46 :: (v.pa ++ (prT v.pr ++ bldP v))) := by
  unfold parse4 at h
  split at h
  · cases h; exact ⟨rfl, rfl, (by decide : (0 : Int) ≤ 1), .inl rfl, fun e => absurd (show (1 : Int) = 0 from e) (by decide)⟩
  · rename_i hr
    split at h
    · cases h
    · rename_i hd
      obtain ⟨h1, h2, h3, h4, h5⟩ := parse5_form h
      refine ⟨h1, h2, by omega, h5, fun _ => ?_⟩
      rw [← h4]; exact dot_form hr (Classical.not_not.1 hd)
theorem parse3_form {mj r : Bs} {v : Ver} (h : parse3 mj r = some v) : v.mj = mj ∧ 0 ≤ v.sh ∧ BuOK v ∧ (v.sh = 0 → r = v.mi ++ (46 :: (v.pa ++ (prT v.pr ++ bldP v)))) := by
  unfold parse3 at h
  split at h
  · cases h
  · rename_i hn
    obtain ⟨h1, h2, h3, h6, h4⟩ := parse4_form h
    refine ⟨h1, h3, h6, fun e => ?_⟩
    have h5 := h4 e
    rw [h2, ← h5]; exact num_form hn
theorem parse2_form {mj r : Bs} {v : Ver} (h : parse2 mj r = some v) : v.mj = mj ∧ 0 ≤ v.sh ∧ BuOK v ∧ (v.sh = 0 → r = 46 :: (v.mi ++ (46 :: (v.pa ++ (prT v.pr ++ bldP v))))) := by
  unfold parse2 at h
  split at h
  · cases h; exact ⟨rfl, (by decide : (0 : Int) ≤ 2), .inl rfl, fun e => absurd (show (2 : Int) = 0 from e) (by decide)⟩
  · rename_i hr
    split at h
    · cases h
    · rename_i hd
      obtain ⟨h1, h3, h6, h4⟩ := parse3_form h
      refine ⟨h1, h3, h6, fun e => ?_⟩
      have h5 := h4 e
      rw [← h5]; exact dot_form hr (Classical.not_not.1 hd)
theorem parse_form {s : Bs} {v : Ver} (h : parseP s = some v) : 0 ≤ v.sh ∧ BuOK v ∧ (v.sh = 0 → s = canonV v ++ bldP v) := by
  unfold parseP at h
  split at h
  · cases h
  · rename_i hc
    unfold parse1 at h
    split at h
    · cases h
    · rename_i hn
      obtain ⟨h1, h3, h6, h4⟩ := parse2_form h
      refine ⟨h3, h6, fun e => ?_⟩
      have h5 := h4 e
      have hp : (prefP 118 s).2 = true := by
        cases hp : (prefP 118 s).2 with
        | true => rfl
        | false => exact absurd (.inl hp) hc
      have e1 := pref_yes hp
      have e2 := num_form hn
      rw [h5, ← h1] at e2
      rw [e1, e2, canonV_eq]
      simp
/-- a version made of its parts reads back -/
theorem parse_parts {v : Ver} (h : VOK v) (hb : BuOK v) (hl : (canonV v ++ bldP v).length ≤ 100) : parseP (canonV v ++ bldP v) = some ⟨v.mj, v.mi, v.pa, v.pr, v.bu, 0⟩ := by
  by_cases hbu : v.bu = []
  · have e : bldP v = [] := by unfold bldP; rw [if_pos hbu]
    rw [e, List.append_nil] at hl ⊢
    rw [parse_canon h hl, hbu]
  · have e : bldP v = 43 :: v.bu := by unfold bldP; rw [if_neg hbu]
    rw [e] at hl ⊢
    have e : canonV v ++ 43 :: v.bu = [118] ++ v.mj ++ [46] ++ v.mi ++ [46] ++ v.pa ++ (prT v.pr ++ 43 :: v.bu) := by rw [canonV_eq]; simp
    rw [e] at hl ⊢
    have ht : prT v.pr ++ 43 :: v.bu = [] ∨ isD ((prT v.pr ++ 43 :: v.bu).getD 0 0) = false := by
      unfold prT; split
      · exact .inr rfl
      · exact .inr rfl
    simp only [List.length_append, List.length_cons, List.length_nil] at hl
    rw [parse_from h.mj h.mi h.pa ht (by simp only [List.length_append, List.length_cons]; omega), parse6, cutP_some (prT_np h.np), if_neg (fun hh => by rw [hb.resolve_left hbu] at hh; cases hh.2)]
    exact parse7_pr _ _ _ _ h.pr
end Go.Proofs.YtgkcbhdpenmogaaDoor.Ps
