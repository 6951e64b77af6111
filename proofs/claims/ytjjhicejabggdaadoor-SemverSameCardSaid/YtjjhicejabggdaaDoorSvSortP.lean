/- semver: sorting, in plain words. -/
import Derived.Test.YtjjhicejabggdaaDoorSvRefD
set_option linter.all false
namespace Go.Proofs.YtjjhicejabggdaaDoor.Sv
open Eng
set_option maxRecDepth 10000
def ordP (a b : Bs) : Int := if cmpP a b ≠ 0 then cmpP a b else Lib.compareBytes a b
theorem ordP_tp : TP (fun _ => True) ordP := cmpP_tp.lex cb_tp
def befP (a b : Bs) : Bool := decide (ordP a b < 0)
theorem befP_eq (a b : Bs) : befP a b = (decide (cmpP a b < 0) || (decide (cmpP a b = 0) && Op.bytesLess a b)) := by
  have h1 := cb_unit a b
  rw [less_cb]
  unfold befP ordP
  by_cases h : cmpP a b = 0
  · simp [h]; omega
  · simp [h]
def insP (s : Bs) : List Bs → List Bs
  | [] => [s]
  | x :: r => if befP s x then s :: x :: r else x :: insP s r
def sortP (l : List Bs) : List Bs := l.foldl (fun o s => insP s o) []
def Srt : List Bs → Prop
  | [] => True
  | x :: r => (∀ y ∈ r, ordP x y ≤ 0) ∧ Srt r
theorem ins_mem (s : Bs) : ∀ (l : List Bs) (y : Bs), y ∈ insP s l ↔ y = s ∨ y ∈ l
  | [], y => by simp [insP]
  | x :: r, y => by
    rw [insP]
    split
    · simp
    · simp only [List.mem_cons, ins_mem s r y]
      constructor
      · rintro (h | h | h) <;> simp [h]
      · rintro (h | h | h) <;> simp [h]
theorem ins_len (s : Bs) : ∀ l : List Bs, (insP s l).length = l.length + 1
  | [] => rfl
  | x :: r => by
    rw [insP]
    split
    · rfl
    · simp [ins_len s r]
theorem ins_srt (s : Bs) : ∀ {l : List Bs}, Srt l → Srt (insP s l)
  | [], _ => ⟨by simp, trivial⟩
  | x :: r, h => by
    rw [insP]
    cases hb : befP s x with
    | true =>
      have hb := of_decide_eq_true hb
      refine ⟨?_, h⟩
      intro y hy
      rcases List.mem_cons.1 hy with rfl | hy
      · omega
      · exact ordP_tp.trans s x y trivial trivial trivial (by omega) (h.1 y hy)
    | false =>
      have hb := of_decide_eq_false hb
      have := ordP_tp.anti s x trivial trivial
      refine ⟨?_, ins_srt s h.2⟩
      intro y hy
      rcases (ins_mem s r y).1 hy with rfl | hy
      · omega
      · exact h.1 y hy
theorem sortP_snoc (l : List Bs) (s : Bs) : sortP (l ++ [s]) = insP s (sortP l) := by rw [sortP, List.foldl_append]; rfl
theorem fold_len : ∀ (l o : List Bs), (l.foldl (fun o s => insP s o) o).length = o.length + l.length
  | [], o => by simp
  | s :: r, o => by rw [List.foldl_cons, fold_len r, ins_len]; simp; omega
theorem sortP_len (l : List Bs) : (sortP l).length = l.length := by rw [sortP, fold_len]; simp
theorem fold_srt : ∀ (l : List Bs) {o : List Bs}, Srt o → Srt (l.foldl (fun o s => insP s o) o)
  | [], _, h => h
  | s :: r, _, h => by rw [List.foldl_cons]; exact fold_srt r (ins_srt s h)
theorem sortP_srt (l : List Bs) : Srt (sortP l) := fold_srt l trivial
theorem fold_mem : ∀ (l o : List Bs) (y : Bs), y ∈ l.foldl (fun o s => insP s o) o ↔ y ∈ o ∨ y ∈ l
  | [], o, y => by simp
  | s :: r, o, y => by
    rw [List.foldl_cons, fold_mem r, ins_mem, List.mem_cons]
    constructor
    · rintro ((h | h) | h) <;> simp [h]
    · rintro (h | h | h) <;> simp [h]
theorem sortP_mem (l : List Bs) (y : Bs) : y ∈ sortP l ↔ y ∈ l := by rw [sortP, fold_mem]; simp
theorem ins_end (s : Bs) : ∀ (t : List Bs), (∀ x ∈ t, ordP x s ≤ 0) → insP s t = t ++ [s]
  | [], _ => rfl
  | x :: r, h => by
    have h1 := h x (by simp)
    have := ordP_tp.anti x s trivial trivial
    rw [insP, if_neg, ins_end s r (fun y hy => h y (by simp [hy]))]
    · rfl
    · unfold befP; simp; omega
theorem srt_app : ∀ {a b : List Bs}, Srt (a ++ b) → Srt a ∧ Srt b ∧ ∀ x ∈ a, ∀ y ∈ b, ordP x y ≤ 0
  | [], b, h => ⟨trivial, h, by simp⟩
  | x :: r, b, h => by
    obtain ⟨h1, h2, h3⟩ := srt_app (a := r) h.2
    refine ⟨⟨fun y hy => h.1 y (List.mem_append_left _ hy), h1⟩, h2, ?_⟩
    intro y hy z hz
    rcases List.mem_cons.1 hy with rfl | hy
    · exact h.1 z (List.mem_append_right _ hz)
    · exact h3 y hy z hz
theorem fold_sorted : ∀ (l o : List Bs), Srt (o ++ l) → l.foldl (fun o s => insP s o) o = o ++ l
  | [], o, _ => by simp
  | s :: r, o, h => by
    obtain ⟨_, _, h3⟩ := srt_app h
    rw [List.foldl_cons, ins_end s o (fun x hx => h3 x hx s (by simp)), fold_sorted r]
    · simp
    · simpa using h
theorem sortP_sorted {l : List Bs} (h : Srt l) : sortP l = l := fold_sorted l [] h
/-- where an element comes to stand: all behind it stand behind, the one ahead of it doesn't -/
theorem ins_at (s : Bs) : ∀ {p : List Bs} {k : Nat}, Srt p → k ≤ p.length → (∀ x ∈ p.drop k, befP s x = true) → (k = 0 ∨ befP s (p.getD (k - 1) []) = false) → insP s p = p.take k ++ s :: p.drop k
  | [], k, _, hk, _, _ => by simp [insP]
  | x :: r, 0, _, _, h, _ => by
    rw [insP, if_pos (h x (by simp))]; rfl
  | x :: r, k + 1, hs, hk, h, hb => by
    have hb := hb.resolve_left (by omega)
    simp only [Nat.add_sub_cancel] at hb
    have hx : befP s x = false := by
      cases k with
      | zero => simpa using hb
      | succ k =>
        have hm : (x :: r).getD (k + 1) [] ∈ r := by
          rw [List.getD_cons_succ]
          exact getD_memB (by simp at hk; omega)
        have h1 := hs.1 _ hm
        have h2 := of_decide_eq_false hb
        have := ordP_tp.anti s ((x :: r).getD (k + 1) []) trivial trivial
        have h3 := ordP_tp.trans x ((x :: r).getD (k + 1) []) s trivial trivial trivial h1 (by omega)
        have := ordP_tp.anti s x trivial trivial
        unfold befP; simp; omega
    rw [insP, if_neg (by rw [hx]; simp), ins_at s (k := k) hs.2 (by simpa using hk) (by simpa using h)]
    · rfl
    · cases k with
      | zero => exact .inl rfl
      | succ k => right; simpa using hb
/-- a row with an element that moves ahead -/
def rowAt (p : List Bs) (s : Bs) (q : List Bs) (k : Nat) : List Bs := p.take k ++ s :: (p.drop k ++ q)
theorem rowAt_len (p : List Bs) (s : Bs) (q : List Bs) (k : Nat) (hk : k ≤ p.length) : (rowAt p s q k).length = p.length + q.length + 1 := by
  unfold rowAt; simp; omega
theorem rowAt_here (p : List Bs) (s : Bs) (q : List Bs) (k : Nat) (hk : k ≤ p.length) : (rowAt p s q k).getD k [] = s := by
  unfold rowAt
  rw [List.getD_eq_getElem?_getD, List.getElem?_append_right (by simp; omega)]
  simp [Nat.min_eq_left hk]
theorem rowAt_ahead (p : List Bs) (s : Bs) (q : List Bs) (k : Nat) (hk : k + 1 ≤ p.length) : (rowAt p s q (k + 1)).getD k [] = p.getD k [] := by
  unfold rowAt
  rw [List.getD_eq_getElem?_getD, List.getElem?_append_left (by simp; omega), List.getElem?_take_of_lt (by omega), ← List.getD_eq_getElem?_getD]
theorem set_at {α : Type} (x y : α) (b : List α) : ∀ (a : List α), (a ++ y :: b).set a.length x = a ++ x :: b
  | [] => rfl
  | z :: r => by rw [List.cons_append, List.length_cons, List.set_cons_succ, set_at x y b r]; rfl
theorem rowAt_swap (p : List Bs) (s : Bs) (q : List Bs) (k : Nat) (hk : k + 1 ≤ p.length) : ((rowAt p s q (k + 1)).set (k + 1) (p.getD k [])).set k s = rowAt p s q k := by
  have ht := take_succB [] p (by omega : k < p.length)
  have hd : p.drop k = p.getD k [] :: p.drop (k + 1) := by
    rw [List.getD_eq_getElem?_getD, List.getElem?_eq_getElem (by omega)]; exact List.drop_eq_getElem_cons (by omega)
  have hl : (p.take k).length = k := by simp; omega
  unfold rowAt
  rw [ht, hd]
  generalize p.take k = a at hl
  generalize p.getD k [] = y
  generalize p.drop (k + 1) = b
  have e0 : (a ++ [y]).length = k + 1 := by simp [hl]
  have e1 := set_at y s (b ++ q) (a ++ [y])
  rw [e0] at e1
  have e2 := set_at s y (y :: (b ++ q)) a
  rw [hl] at e2
  rw [e1, List.append_assoc]
  exact e2
/- THE OTHER WAY: from the front -/
theorem ins_app_in (s : Bs) : ∀ (t u : List Bs), (t.any (befP s)) = true → insP s (t ++ u) = insP s t ++ u
  | [], _, h => by simp at h
  | x :: r, u, h => by
    rw [List.cons_append, insP, insP]
    by_cases hx : befP s x = true
    · rw [if_pos hx, if_pos hx]; rfl
    · rw [if_neg hx, if_neg hx, ins_app_in s r u (by simpa [hx] using h)]; rfl
theorem ins_app_out (s : Bs) : ∀ (t u : List Bs), (t.any (befP s)) = false → insP s (t ++ u) = t ++ insP s u
  | [], _, _ => rfl
  | x :: r, u, h => by
    simp only [List.any_cons, Bool.or_eq_false_iff] at h
    rw [List.cons_append, insP, if_neg (by simp [h.1]), ins_app_out s r u h.2]; rfl
/- THE GREATEST -/
def bestP (l : List Bs) : Bs := l.foldl maxP []
theorem best_snoc (l : List Bs) (s : Bs) : bestP (l ++ [s]) = maxP (bestP l) s := by rw [bestP, List.foldl_append]; rfl
theorem fold_best : ∀ (l : List Bs) (b : Bs), (l.foldl maxP b = b ∨ l.foldl maxP b ∈ l) ∧ cmpP b (l.foldl maxP b) ≤ 0 ∧ ∀ x ∈ l, cmpP x (l.foldl maxP b) ≤ 0
  | [], b => ⟨.inl rfl, by rw [List.foldl_nil, cmpP_self]; omega, by simp⟩
  | s :: r, b => by
    obtain ⟨h1, h2, h3⟩ := fold_best r (maxP b s)
    rw [List.foldl_cons]
    have hb : cmpP b (maxP b s) ≤ 0 ∧ cmpP s (maxP b s) ≤ 0 := by
      unfold maxP
      have := cmpP_tp.anti b s trivial trivial
      split
      · exact ⟨by omega, by rw [cmpP_self]; omega⟩
      · exact ⟨by rw [cmpP_self]; omega, by omega⟩
    refine ⟨?_, cmpP_tp.trans _ _ _ trivial trivial trivial hb.1 h2, ?_⟩
    · rcases h1 with h1 | h1
      · rw [h1]; unfold maxP
        split
        · exact .inr (by simp)
        · exact .inl rfl
      · exact .inr (by simp [h1])
    · intro x hx
      rcases List.mem_cons.1 hx with rfl | hx
      · exact cmpP_tp.trans _ _ _ trivial trivial trivial hb.2 h2
      · exact h3 x hx
theorem cmp_empty (x : Bs) : cmpP [] x ≤ 0 := by
  have h : parseP [] = none := rfl
  rw [cmpP, h]
  cases parseP x with
  | none => simp [cmpO]
  | some v => simp [cmpO]
theorem srt_step : ∀ {l : List Bs} {k : Nat}, Srt l → k + 1 < l.length → cmpP (l.getD k []) (l.getD (k + 1) []) ≤ 0
  | [], _, _, h => by simp at h
  | x :: r, 0, h, hk => by
    have := h.1 (r.getD 0 []) (getD_memB (by simpa using hk))
    unfold ordP at this
    rw [List.getD_cons_zero, List.getD_cons_succ]
    split at this <;> omega
  | x :: r, k + 1, h, hk => by
    rw [List.getD_cons_succ, List.getD_cons_succ]
    exact srt_step h.2 (by simpa using hk)
theorem srt_last : ∀ {l : List Bs}, Srt l → ∀ x ∈ l, cmpP x (l.getD (l.length - 1) []) ≤ 0
  | [], _, x, h => by simp at h
  | [y], _, x, h => by
    rw [List.mem_singleton] at h
    subst h
    show cmpP x x ≤ 0
    rw [cmpP_self]; omega
  | y :: z :: r, hs, x, h => by
    have e : (y :: z :: r).getD ((y :: z :: r).length - 1) [] = (z :: r).getD ((z :: r).length - 1) [] := by simp
    rw [e]
    rcases List.mem_cons.1 h with rfl | h
    · have := hs.1 _ (getD_memB (l := z :: r) (k := (z :: r).length - 1) (by simp))
      unfold ordP at this
      split at this <;> omega
    · exact srt_last hs.2 x h
theorem best_last {l : List Bs} (h : l ≠ []) : cmpP (bestP l) ((sortP l).getD ((sortP l).length - 1) []) = 0 := by
  obtain ⟨h1, h2, h3⟩ := fold_best l []
  have hl : 0 < (sortP l).length := by rw [sortP_len]; exact List.length_pos_iff.2 h
  have hm := (sortP_mem l _).1 (getD_memB (l := sortP l) (k := (sortP l).length - 1) (by omega))
  have e1 := h3 _ hm
  have e2 : cmpP (bestP l) ((sortP l).getD ((sortP l).length - 1) []) ≤ 0 := by
    rcases h1 with h1 | h1
    · rw [bestP, h1]; exact cmp_empty _
    · exact srt_last (sortP_srt l) _ ((sortP_mem l _).2 h1)
  have := cmpP_tp.anti ((sortP l).getD ((sortP l).length - 1) []) (bestP l) trivial trivial
  unfold bestP at *
  omega
end Go.Proofs.YtjjhicejabggdaaDoor.Sv
