/- semver: the document's parse and the program's are one; Canonical; SemverParses. -/
import Derived.Test.YtjjhicejabggdaaDoorSvRefB
set_option linter.all false
namespace Go.Proofs.YtjjhicejabggdaaDoor.Sv
open Eng
set_option maxRecDepth 10000
theorem rnumB_num {w : Bs} : rnumB w = true ↔ Num w := by
  unfold rnumB digB Num
  cases w with
  | nil => simp
  | cons x r =>
    simp only [List.isEmpty_cons, Bool.not_false, Bool.true_and, Bool.and_eq_true, Bool.or_eq_true, decide_eq_true_eq, Bool.not_eq_true', decide_eq_false_iff_not, ne_eq, reduceCtorEq, not_false_eq_true, true_and]
    constructor
    · rintro ⟨h1, h2⟩
      exact ⟨h1, fun hl he => h2.elim (fun e => by omega) (fun e => e (by rw [he]; rfl))⟩
    · rintro ⟨h1, h2⟩
      refine ⟨h1, ?_⟩
      by_cases hl : 1 < (x :: r).length
      · exact .inr (fun e => h2 hl (UInt8.toNat.inj e))
      · simp only [List.length_cons] at hl ⊢; exact .inl (by omega)
theorem cutP_spec (c : UInt8) : ∀ s : Bs, s = (cutP c s).1 ++ (if (cutP c s).2.2 = true then c :: (cutP c s).2.1 else []) ∧ ((cutP c s).2.2 = false → (cutP c s).2.1 = [])
  | [] => by simp [cutP]
  | x :: r => by
    have := cutP_spec c r
    simp only [cutP]
    split
    · rename_i h; subst h; simp
    · exact ⟨by rw [List.cons_append, ← this.1], this.2⟩
theorem isD46 {c : UInt8} (h : isD c = true) : ¬ c = 46 := by rintro rfl; cases h
/-- the first word behind digits -/
theorem split_first : ∀ {d y : Bs}, d.all isD = true → ∃ z ws, splitB 46 (d ++ y) = (d ++ z) :: ws ∧ (z = [] ∨ z.getD 0 0 = y.getD 0 0) ∧ (y = [] → z = [] ∧ ws = []) ∧ (∀ y', y = 46 :: y' → z = [] ∧ ws = splitB 46 y') ∧ (∀ c y', y = c :: y' → ¬ c = 46 → z ≠ [])
  | [], y, _ => by
    cases y with
    | nil => exact ⟨[], [], rfl, .inl rfl, fun _ => ⟨rfl, rfl⟩, (fun _ h => by cases h), (fun _ _ h => by cases h)⟩
    | cons c y =>
      rw [List.nil_append, splitB]
      by_cases hc : c = 46
      · rw [if_pos hc]
        exact ⟨[], splitB 46 y, rfl, .inl rfl, (fun h => by cases h), (fun y' h => by cases h; exact ⟨rfl, rfl⟩), (fun a b h hn => by cases h; exact absurd hc hn)⟩
      · rw [if_neg hc]
        cases hs : splitB 46 y with
        | nil => exact absurd hs (splitB_ne _ _)
        | cons p ps => exact ⟨c :: p, ps, rfl, .inr rfl, (fun h => by cases h), (fun y' h => by cases h; exact absurd rfl hc), fun _ _ _ _ => by simp⟩
  | c :: d, y, h => by
    simp only [List.all_cons, Bool.and_eq_true] at h
    obtain ⟨z, ws, h1, h2⟩ := split_first (y := y) h.2
    refine ⟨z, ws, ?_, h2⟩
    rw [List.cons_append, splitB, if_neg (isD46 h.1), h1]
    rfl
theorem all_drop (d z : Bs) (h : (d ++ z).all isD = true) : z.all isD = true := by
  rw [List.all_append, Bool.and_eq_true] at h; exact h.2
/-- a number, or what is none -/
theorem num_split (x t : Bs) (ht : t = [] ∨ isD (t.getD 0 0) = false) :
    (∃ d y, x = d ++ y ∧ Num d ∧ numP (x ++ t) = (d, y ++ t, true) ∧ ((y = [] ∧ splitB 46 x = [d]) ∨ (∃ y', y = 46 :: y' ∧ splitB 46 x = d :: splitB 46 y') ∨ (∃ c y', y = c :: y' ∧ c ≠ 46 ∧ ∃ w ∈ splitB 46 x, rnumB w = false))) ∨
      ((numP (x ++ t)).2.2 = false ∧ ∃ w ∈ splitB 46 x, rnumB w = false) := by
  obtain ⟨d, hd⟩ : ∃ d, d = x.takeWhile isD := ⟨_, rfl⟩
  obtain ⟨y, hy⟩ : ∃ y, y = x.dropWhile isD := ⟨_, rfl⟩
  have hx : x = d ++ y := by rw [hd, hy, List.takeWhile_append_dropWhile]
  have hda : d.all isD = true := by rw [hd]; exact List.all_takeWhile
  have hyn : y = [] ∨ isD (y.getD 0 0) = false := by
    cases hyy : y with
    | nil => exact .inl rfl
    | cons c r =>
      right
      have := List.head?_dropWhile_not isD x
      rw [← hy, hyy] at this
      simpa using this
  have hyt : y ++ t = [] ∨ isD ((y ++ t).getD 0 0) = false := by
    cases y with
    | nil => simpa using ht
    | cons c r => exact .inr (by simpa using hyn)
  obtain ⟨z, ws, s1, s2, s3, s4, s5⟩ := split_first (y := y) hda
  rw [← hx] at s1
  have zbad : z ≠ [] → rnumB (d ++ z) = false := by
    intro hz
    cases hr : rnumB (d ++ z) with
    | false => rfl
    | true =>
      have ha := all_drop d z (rnumB_num.1 hr).1
      cases z with
      | nil => exact absurd rfl hz
      | cons c r =>
        simp only [List.all_cons, Bool.and_eq_true] at ha
        have s2' := s2.resolve_left hz
        rcases hyn with rfl | hyn
        · exact absurd (s3 rfl).1 hz
        · rw [← s2'] at hyn
          rw [show (c :: r).getD 0 0 = c from rfl, ha.1] at hyn; cases hyn
  by_cases hn : Num d
  · refine .inl ⟨d, y, hx, hn, ?_, ?_⟩
    · rw [hx, List.append_assoc]; exact numP_app hn hyt
    · cases y with
      | nil =>
        obtain ⟨rfl, rfl⟩ := s3 rfl
        exact .inl ⟨rfl, by rw [s1, List.append_nil]⟩
      | cons c r =>
        by_cases hc : c = 46
        · subst hc
          obtain ⟨rfl, e⟩ := s4 r rfl
          exact .inr (.inl ⟨r, rfl, by rw [s1, e, List.append_nil]⟩)
        · exact .inr (.inr ⟨c, r, rfl, hc, d ++ z, by rw [s1]; simp, zbad (s5 c r rfl hc)⟩)
  · refine .inr ⟨?_, d ++ z, by rw [s1]; simp, ?_⟩
    · have hl : dlen (x ++ t) = d.length := by unfold dlen; rw [hx, List.append_assoc, tw_all hda _ hyt]
      have hc : dlen (x ++ t) = 0 ∨ (1 < dlen (x ++ t) ∧ (x ++ t).getD 0 0 = 48) := by
        rw [hl]
        by_cases h0 : d = []
        · exact .inl (by rw [h0]; rfl)
        · right
          have : ¬ (1 < d.length → d.getD 0 0 ≠ 48) := fun h => hn ⟨hda, h0, h⟩
          have h1 : 1 < d.length ∧ d.getD 0 0 = 48 := by
            by_cases ha : 1 < d.length
            · refine ⟨ha, ?_⟩
              by_cases hb : d.getD 0 0 = 48
              · exact hb
              · exact absurd (fun _ => hb) this
            · exact absurd (fun h => absurd h ha) this
          refine ⟨h1.1, ?_⟩
          rw [hx, ← h1.2]
          cases d with
          | nil => exact absurd rfl h0
          | cons c r => rfl
      rw [numP, if_pos hc]
    · by_cases hz : z = []
      · rw [hz, List.append_nil]
        cases hr : rnumB d with
        | false => rfl
        | true => exact absurd (rnumB_num.1 hr) hn
      · exact zbad hz
theorem rp3_bad {r pr bu : Bs} {som : Bool} (h : ∃ w ∈ splitB 46 r, rnumB w = false) : rp3 r pr bu som = none := by
  obtain ⟨w, h1, h2⟩ := h
  unfold rp3
  split
  · rfl
  · rw [if_neg (fun ha => by rw [List.all_eq_true.1 ha w h1] at h2; cases h2)]
/-- what stands behind the numbers -/
def restP (s1 s2 : Bool) (pr bu : Bs) : Bs := (if s2 = true then 45 :: pr else []) ++ (if s1 = true then 43 :: bu else [])
def badW (s1 s2 : Bool) (pr bu : Bs) : Prop := (s1 = true ∧ wordsP bu false = false) ∨ (s2 = true ∧ wordsP pr true = false)
instance (s1 s2 : Bool) (pr bu : Bs) : Decidable (badW s1 s2 pr bu) := by unfold badW; exact inferInstance
theorem rest_head (s1 s2 : Bool) (pr bu : Bs) : (restP s1 s2 pr bu = [] ∧ s1 = false ∧ s2 = false) ∨ (restP s1 s2 pr bu ≠ [] ∧ isD ((restP s1 s2 pr bu).getD 0 0) = false ∧ ((restP s1 s2 pr bu).getD 0 0).toNat ≠ 46 ∧ (s1 || s2) = true) := by
  cases s1 <;> cases s2
  · exact .inl ⟨rfl, rfl, rfl⟩
  · exact .inr ⟨by simp [restP], rfl, by simp [restP], rfl⟩
  · exact .inr ⟨by simp [restP], rfl, by simp [restP], rfl⟩
  · exact .inr ⟨by simp [restP], rfl, by simp [restP], rfl⟩
theorem parse6_rest (mj mi pa : Bs) {s1 s2 : Bool} {pr bu : Bs} (h1 : s1 = false → bu = []) (h2 : s2 = false → pr = []) (hp : 43 ∉ pr) :
    parse6 mj mi pa (restP s1 s2 pr bu) = if badW s1 s2 pr bu then none else some ⟨mj, mi, pa, pr, bu, 0⟩ := by
  have hc : cutP 43 (restP s1 s2 pr bu) = (if s2 = true then 45 :: pr else [], bu, s1) := by
    have hn : (43 : UInt8) ∉ (if s2 = true then 45 :: pr else []) := by
      split
      · simp only [List.mem_cons, not_or]; exact ⟨by decide, hp⟩
      · simp
    unfold restP
    cases s1 with
    | false => rw [h1 rfl]; simp only [Bool.false_eq_true, if_false, List.append_nil]; exact cutP_none hn
    | true => exact cutP_some hn bu
  rw [parse6, hc]
  simp only
  by_cases hb : s1 = true ∧ wordsP bu false = false
  · rw [if_pos hb, if_pos (show badW s1 s2 pr bu from .inl hb)]
  · rw [if_neg hb]
    cases s2 with
    | false =>
      rw [if_neg (show ¬ badW s1 false pr bu from fun h => Or.elim h hb (fun h => by cases h.1)), h2 rfl]
      simp [parse7]
    | true =>
      have : prefP 45 (45 :: pr) = (pr, true) := by simp [prefP]
      simp only [if_true]
      rw [parse7, if_neg (by simp), this]
      cases hw : wordsP pr true with
      | true => rw [if_pos ⟨rfl, rfl⟩, if_neg (show ¬ badW s1 true pr bu from fun h => Or.elim h hb (fun h => by rw [hw] at h; cases h.2))]
      | false => rw [if_neg (fun h => by cases h.2), if_pos (show badW s1 true pr bu from .inr ⟨rfl, hw⟩)]
theorem parse6_bad (mj mi pa : Bs) {c : UInt8} {x : Bs} {s1 s2 : Bool} {pr bu : Bs} (hx : 43 ∉ c :: x) (hc : c ≠ 45) (hp : 43 ∉ pr) : parse6 mj mi pa ((c :: x) ++ restP s1 s2 pr bu) = none := by
  have hcut : (cutP 43 ((c :: x) ++ restP s1 s2 pr bu)).1 = (c :: x) ++ (if s2 = true then 45 :: pr else []) := by
    have hn : (43 : UInt8) ∉ (c :: x) ++ (if s2 = true then 45 :: pr else []) := by
      rw [List.mem_append, not_or]
      refine ⟨hx, ?_⟩
      split
      · simp only [List.mem_cons, not_or]; exact ⟨by decide, hp⟩
      · simp
    unfold restP
    rw [← List.append_assoc]
    cases s1 with
    | false => simp only [Bool.false_eq_true, if_false, List.append_nil]; rw [cutP_none hn]
    | true => simp only [if_true]; rw [cutP_some hn bu]
  rw [parse6]
  split
  · rfl
  · rw [hcut, parse7, if_neg (by simp), if_neg]
    rw [List.cons_append, prefP, if_neg hc]
    exact fun h => by cases h.1
theorem getD46 (y t : Bs) : (((46 :: y) ++ t).getD 0 0).toNat = 46 := rfl
theorem parse1_split (x pr bu : Bs) (s1 s2 : Bool) (hx1 : 43 ∉ x) (hx2 : 45 ∉ x) (h1 : s1 = false → bu = []) (h2 : s2 = false → pr = []) (hp : 43 ∉ pr) :
    parse1 (x ++ restP s1 s2 pr bu) = if badW s1 s2 pr bu then none else rp3 x pr bu (s1 || s2) := by
  have hrest := rest_head s1 s2 pr bu
  have ht : restP s1 s2 pr bu = [] ∨ isD ((restP s1 s2 pr bu).getD 0 0) = false := hrest.elim (fun h => .inl h.1) (fun h => .inr h.2.1)
  have p6 := fun mj mi pa => parse6_rest mj mi pa h1 h2 hp
  have p6b : ∀ mj mi pa c y, 43 ∉ c :: y → c ≠ 45 → parse6 mj mi pa ((c :: y) ++ restP s1 s2 pr bu) = none := fun mj mi pa c y a b => parse6_bad mj mi pa a b hp
  have hnb : restP s1 s2 pr bu = [] → ¬ badW s1 s2 pr bu := by
    intro e
    rcases hrest with ⟨_, rfl, rfl⟩ | h
    · rintro (h | h) <;> cases h.1
    · exact absurd e h.1
  have none_if : ∀ {o : Option Ver}, o = none → (if badW s1 s2 pr bu then none else o) = none := by
    intro o h; subst h; split <;> rfl
  rw [parse1]
  rcases num_split x (restP s1 s2 pr bu) ht with ⟨d, y, hx, hd, hn, hy⟩ | ⟨hn, hb⟩
  rotate_left
  · rw [if_pos hn, none_if (rp3_bad hb)]
  rw [hn, if_neg (by simp)]
  simp only
  rw [parse2]
  rcases hy with ⟨rfl, hs⟩ | ⟨y', rfl, hs⟩ | ⟨c, y', rfl, hc, hb⟩
  · rcases hrest with ⟨he, rfl, rfl⟩ | ⟨hne, _, h46, hso⟩
    · rw [if_neg (hnb he), List.nil_append, he, if_pos rfl, h1 rfl, h2 rfl, rp3, hs, if_neg (by simp), if_pos (by simp [rnumB_num.2 hd])]
      rfl
    · rw [List.nil_append, if_neg hne, if_pos (by simpa using h46), none_if]
      rw [rp3, hs, if_pos (.inr ⟨hso, by simp⟩)]
  rotate_left
  · rw [if_neg (by simp), if_pos, none_if (rp3_bad hb)]
    rw [List.cons_append]
    exact fun e => hc (UInt8.toNat.inj e)
  rw [if_neg (by simp), if_neg (fun h => h (getD46 _ _)), List.cons_append, List.drop_one, List.tail_cons, parse3]
  have hy1 : 43 ∉ y' := fun h => hx1 (by rw [hx]; simp [h])
  have hy2 : 45 ∉ y' := fun h => hx2 (by rw [hx]; simp [h])
  rcases num_split y' (restP s1 s2 pr bu) ht with ⟨d2, z, hz, hd2, hn2, hyz⟩ | ⟨hn2, hb⟩
  rotate_left
  · rw [if_pos hn2, none_if (rp3_bad ?_)]
    obtain ⟨w, a, b⟩ := hb
    exact ⟨w, by rw [hs]; exact List.mem_cons_of_mem _ a, b⟩
  rw [hn2, if_neg (by simp)]
  simp only
  rw [parse4]
  rcases hyz with ⟨rfl, hs2⟩ | ⟨z', rfl, hs2⟩ | ⟨c, z', rfl, hc, hb⟩
  · rw [hs2] at hs
    rcases hrest with ⟨he, rfl, rfl⟩ | ⟨hne, _, h46, hso⟩
    · rw [if_neg (hnb he), List.nil_append, he, if_pos rfl, h1 rfl, h2 rfl, rp3, hs, if_neg (by simp), if_pos (by simp [rnumB_num.2 hd, rnumB_num.2 hd2])]
      rfl
    · rw [List.nil_append, if_neg hne, if_pos (by simpa using h46), none_if]
      rw [rp3, hs, if_pos (.inr ⟨hso, by simp⟩)]
  rotate_left
  · rw [if_neg (by simp), if_pos, none_if (rp3_bad ?_)]
    · obtain ⟨w, a, b⟩ := hb
      exact ⟨w, by rw [hs]; exact List.mem_cons_of_mem _ a, b⟩
    · rw [List.cons_append]
      exact fun e => hc (UInt8.toNat.inj e)
  rw [hs2] at hs
  rw [if_neg (by simp), if_neg (fun h => h (getD46 _ _)), List.cons_append, List.drop_one, List.tail_cons, parse5]
  have hz1 : 43 ∉ z' := fun h => hy1 (by rw [hz]; simp [h])
  have hz2 : 45 ∉ z' := fun h => hy2 (by rw [hz]; simp [h])
  rcases num_split z' (restP s1 s2 pr bu) ht with ⟨d3, u, hu, hd3, hn3, hyu⟩ | ⟨hn3, hb⟩
  rotate_left
  · rw [if_pos hn3, none_if (rp3_bad ?_)]
    obtain ⟨w, a, b⟩ := hb
    exact ⟨w, by rw [hs]; exact List.mem_cons_of_mem _ (List.mem_cons_of_mem _ a), b⟩
  rw [hn3, if_neg (by simp)]
  simp only
  have hu1 : 43 ∉ u := fun h => hz1 (by rw [hu]; simp [h])
  have hu2 : 45 ∉ u := fun h => hz2 (by rw [hu]; simp [h])
  rcases hyu with ⟨rfl, hs3⟩ | ⟨u', rfl, hs3⟩ | ⟨c, u', rfl, hc, hb⟩
  · have e3 : rp3 x pr bu (s1 || s2) = some ⟨d, d2, d3, pr, bu, 0⟩ := by
      rw [rp3, hs, hs3, if_neg (by simp), if_pos (by simp [rnumB_num.2 hd, rnumB_num.2 hd2, rnumB_num.2 hd3])]
      rfl
    rw [List.nil_append, p6, e3]
  · rw [p6b _ _ _ _ _ hu1 (by decide), none_if]
    have := (splitB_lenle 46 u').2
    rw [rp3, hs, hs3, if_pos (.inl (by simp only [List.length_cons]; omega))]
  · rw [p6b _ _ _ _ _ hu1 (fun e => hu2 (by rw [e]; simp)), none_if (rp3_bad ?_)]
    obtain ⟨w, a, b⟩ := hb
    exact ⟨w, by rw [hs]; exact List.mem_cons_of_mem _ (List.mem_cons_of_mem _ a), b⟩
theorem rp1_eq (r : Bs) : rp1 r = parse1 r := by
  have c1 := cutP_spec 43 r
  have n1 := (cutP_not 43 r).1
  rw [rp1, rp2]
  obtain ⟨r1, bu, s1, hq⟩ : ∃ a b c, cutP 43 r = (a, b, c) := ⟨_, _, _, rfl⟩
  rw [hq] at c1 n1 ⊢
  simp only at c1 n1 ⊢
  have c2 := cutP_spec 45 r1
  have n2 := (cutP_not 45 r1).1
  obtain ⟨r2, pr, s2, hq2⟩ : ∃ a b c, cutP 45 r1 = (a, b, c) := ⟨_, _, _, rfl⟩
  rw [hq2] at c2 n2 ⊢
  simp only at c2 n2 ⊢
  have hr2 : 43 ∉ r2 := fun h => n1 (by rw [c2.1]; simp [h])
  have hpr : 43 ∉ pr := by
    cases s2 with
    | false => rw [c2.2 rfl]; simp
    | true => exact fun h => n1 (by rw [c2.1]; simp [h])
  have e : r = r2 ++ restP s1 s2 pr bu := by rw [c1.1, c2.1, List.append_assoc]; rfl
  rw [e, parse1_split r2 pr bu s1 s2 hr2 n2 c1.2 c2.2 hpr]
  by_cases a : s1 = true ∧ wordsP bu false = false
  · rw [if_pos a, if_pos (show badW s1 s2 pr bu from .inl a)]
  · rw [if_neg a]
    by_cases b : s2 = true ∧ wordsP pr true = false
    · rw [if_pos b, if_pos (show badW s1 s2 pr bu from .inr b)]
    · rw [if_neg b, if_neg (show ¬ badW s1 s2 pr bu from fun h => Or.elim h a b)]
theorem rparse_eq (s : Bs) : rparseP s = parseP s := by
  rw [rparseP, parseP]
  cases s with
  | nil => rfl
  | cons x r =>
    by_cases hx : x = 118
    · subst hx
      have hp : prefP 118 (118 :: r) = (r, true) := by simp [prefP]
      rw [hp]
      by_cases h2 : (118 :: r).length < 2
      · have : r = [] := List.eq_nil_of_length_eq_zero (by simp at h2; omega)
        subst this; rfl
      · by_cases h1 : 100 < (118 :: r).length
        · rw [if_pos (.inr (.inl h1)), if_pos (.inr h1)]
        · rw [if_neg (fun h => h.elim h2 (fun h => h.elim h1 (fun h => h rfl))), if_neg (fun h => h.elim (fun h => by cases h) h1)]
          exact rp1_eq r
    · have hp : prefP 118 (x :: r) = (x :: r, false) := by simp [prefP, hx]
      rw [hp, if_pos (.inr (.inr (fun e => hx (UInt8.toNat.inj e)))), if_pos (.inl rfl)]
theorem rparse_ok' (s : Bs) (hs : s.length ≤ 9223372036854775807) : SpecR Tryd.prog 17 [.str s] (parseA (parseP s)) := by
  have := rparse_ok s hs
  rwa [rparse_eq] at this
theorem rcanonical_ok (s : Bs) (hs : s.length ≤ 9223372036854775807) : SpecR Tryd.prog 18 [.str s] (.str (canonP s)) := by
  refine Cod.rcanonical_spec (fun E R hN hR => ?_)
  have h1 := rparse_ok' s hs
  have l1 := @parseP_len s
  rw [canonP] at hR
  cases hp : parseP s with
  | none =>
    rw [hp] at h1 hR
    simp only [parseA, verA, noV, Option.getD_none, Option.isSome_none] at h1
    simp (disch := first | omega | (simp only [List.length_append, List.length_cons, List.length_nil, List.length_set, List.length_map, List.length_take, List.length_drop, List.length_range, List.length_replicate, List.length_reverse]; omega)) only [go_sem, Nat.reduceBEq, Nat.reduceAdd, Nat.reduceSub, Nat.reduceMul, Nat.reduceLT, Nat.reduceLeDiff, Nat.reduceEqDiff, Int.reduceAdd, Int.reduceSub, Int.reduceMul, Int.reduceNeg, Int.reduceLT, Int.reduceLE, Int.reduceEq, Int.reduceToNat, UInt8.reduceOfNat, reduceCtorEq]
    refine call_ro h1 rfl rfl ?_
    simp (disch := first | omega | (simp only [List.length_append, List.length_cons, List.length_nil, List.length_set, List.length_map, List.length_take, List.length_drop, List.length_range, List.length_replicate, List.length_reverse]; omega)) only [go_sem, Nat.reduceBEq, Nat.reduceAdd, Nat.reduceSub, Nat.reduceMul, Nat.reduceLT, Nat.reduceLeDiff, Nat.reduceEqDiff, Int.reduceAdd, Int.reduceSub, Int.reduceMul, Int.reduceNeg, Int.reduceLT, Int.reduceLE, Int.reduceEq, Int.reduceToNat, UInt8.reduceOfNat, reduceCtorEq]
    exact hR.wk (h' := []) (r' := .str []) (ar' := [.undef]) rfl (.le (by simp (disch := first | omega | (simp only [List.length_append, List.length_cons, List.length_nil, List.length_set, List.length_map, List.length_take, List.length_drop, List.length_range, List.length_replicate, List.length_reverse]; omega)) only [go_sem, Nat.reduceBEq, Nat.reduceAdd, Nat.reduceSub, Nat.reduceMul, Nat.reduceLT, Nat.reduceLeDiff, Nat.reduceEqDiff, Int.reduceAdd, Int.reduceSub, Int.reduceMul, Int.reduceNeg, Int.reduceLT, Int.reduceLE, Int.reduceEq, Int.reduceToNat, UInt8.reduceOfNat, reduceCtorEq])) ⟨rfl, rfl⟩
  | some v =>
    rw [hp] at h1 hR
    obtain ⟨_, a1, a2, a3, a4, _⟩ := l1 hp
    simp only [parseA, verA, Option.getD_some, Option.isSome_some] at h1
    simp (disch := first | omega | (simp only [List.length_append, List.length_cons, List.length_nil, List.length_set, List.length_map, List.length_take, List.length_drop, List.length_range, List.length_replicate, List.length_reverse]; omega)) only [go_sem, Nat.reduceBEq, Nat.reduceAdd, Nat.reduceSub, Nat.reduceMul, Nat.reduceLT, Nat.reduceLeDiff, Nat.reduceEqDiff, Int.reduceAdd, Int.reduceSub, Int.reduceMul, Int.reduceNeg, Int.reduceLT, Int.reduceLE, Int.reduceEq, Int.reduceToNat, UInt8.reduceOfNat, reduceCtorEq]
    refine call_ro h1 rfl rfl ?_
    by_cases hpr : v.pr = []
    · simp (disch := first | omega | (simp only [List.length_append, List.length_cons, List.length_nil, List.length_set, List.length_map, List.length_take, List.length_drop, List.length_range, List.length_replicate, List.length_reverse]; omega)) only [go_sem, Nat.reduceBEq, Nat.reduceAdd, Nat.reduceSub, Nat.reduceMul, Nat.reduceLT, Nat.reduceLeDiff, Nat.reduceEqDiff, Int.reduceAdd, Int.reduceSub, Int.reduceMul, Int.reduceNeg, Int.reduceLT, Int.reduceLE, Int.reduceEq, Int.reduceToNat, UInt8.reduceOfNat, reduceCtorEq, hpr]
      exact hR.wk (h' := []) (r' := .str (canonV v)) (ar' := [.undef]) rfl (.le (by rw [canonV, if_pos hpr]; simp (disch := first | omega | (simp only [List.length_append, List.length_cons, List.length_nil, List.length_set, List.length_map, List.length_take, List.length_drop, List.length_range, List.length_replicate, List.length_reverse]; omega)) only [go_sem, Nat.reduceBEq, Nat.reduceAdd, Nat.reduceSub, Nat.reduceMul, Nat.reduceLT, Nat.reduceLeDiff, Nat.reduceEqDiff, Int.reduceAdd, Int.reduceSub, Int.reduceMul, Int.reduceNeg, Int.reduceLT, Int.reduceLE, Int.reduceEq, Int.reduceToNat, UInt8.reduceOfNat, reduceCtorEq])) ⟨rfl, rfl⟩
    · simp (disch := first | omega | (simp only [List.length_append, List.length_cons, List.length_nil, List.length_set, List.length_map, List.length_take, List.length_drop, List.length_range, List.length_replicate, List.length_reverse]; omega)) only [go_sem, Nat.reduceBEq, Nat.reduceAdd, Nat.reduceSub, Nat.reduceMul, Nat.reduceLT, Nat.reduceLeDiff, Nat.reduceEqDiff, Int.reduceAdd, Int.reduceSub, Int.reduceMul, Int.reduceNeg, Int.reduceLT, Int.reduceLE, Int.reduceEq, Int.reduceToNat, UInt8.reduceOfNat, reduceCtorEq, hpr]
      exact hR.wk (h' := []) (r' := .str (canonV v)) (ar' := [.undef]) rfl (.le (by rw [canonV, if_neg hpr]; simp (disch := first | omega | (simp only [List.length_append, List.length_cons, List.length_nil, List.length_set, List.length_map, List.length_take, List.length_drop, List.length_range, List.length_replicate, List.length_reverse]; omega)) only [go_sem, Nat.reduceBEq, Nat.reduceAdd, Nat.reduceSub, Nat.reduceMul, Nat.reduceLT, Nat.reduceLeDiff, Nat.reduceEqDiff, Int.reduceAdd, Int.reduceSub, Int.reduceMul, Int.reduceNeg, Int.reduceLT, Int.reduceLE, Int.reduceEq, Int.reduceToNat, UInt8.reduceOfNat, reduceCtorEq])) ⟨rfl, rfl⟩
theorem semverParses_ok (s : Bs) (hs : s.length ≤ 9223372036854775807) : SpecR Tryd.prog 6 [.str s] (.bool true) := by
  refine Cod.lparses_spec (fun E R hN hR => ?_)
  have h1 := parse_ok s hs
  have h2 := rparse_ok' s hs
  have h3 := canonical_ok s hs
  have h4 := rcanonical_ok s hs
  have h5 := major_ok s hs
  have l1 := @parseP_len s
  rw [majorP] at h5
  cases hp : parseP s with
  | none =>
    rw [hp] at h1 h2 h5
    simp only [parseA, verA, noV, Option.getD_none, Option.isSome_none] at h1 h2
    simp only at h5
    simp (disch := first | omega | (simp only [List.length_append, List.length_cons, List.length_nil, List.length_set, List.length_map, List.length_take, List.length_drop, List.length_range, List.length_replicate, List.length_reverse]; omega)) only [go_sem, Nat.reduceBEq, Nat.reduceAdd, Nat.reduceSub, Nat.reduceMul, Nat.reduceLT, Nat.reduceLeDiff, Nat.reduceEqDiff, Int.reduceAdd, Int.reduceSub, Int.reduceMul, Int.reduceNeg, Int.reduceLT, Int.reduceLE, Int.reduceEq, Int.reduceToNat, UInt8.reduceOfNat, reduceCtorEq]
    refine call_ro h1 rfl rfl ?_
    simp (disch := first | omega | (simp only [List.length_append, List.length_cons, List.length_nil, List.length_set, List.length_map, List.length_take, List.length_drop, List.length_range, List.length_replicate, List.length_reverse]; omega)) only [go_sem, Nat.reduceBEq, Nat.reduceAdd, Nat.reduceSub, Nat.reduceMul, Nat.reduceLT, Nat.reduceLeDiff, Nat.reduceEqDiff, Int.reduceAdd, Int.reduceSub, Int.reduceMul, Int.reduceNeg, Int.reduceLT, Int.reduceLE, Int.reduceEq, Int.reduceToNat, UInt8.reduceOfNat, reduceCtorEq]
    refine call_ro h2 rfl rfl ?_
    simp (disch := first | omega | (simp only [List.length_append, List.length_cons, List.length_nil, List.length_set, List.length_map, List.length_take, List.length_drop, List.length_range, List.length_replicate, List.length_reverse]; omega)) only [go_sem, Nat.reduceBEq, Nat.reduceAdd, Nat.reduceSub, Nat.reduceMul, Nat.reduceLT, Nat.reduceLeDiff, Nat.reduceEqDiff, Int.reduceAdd, Int.reduceSub, Int.reduceMul, Int.reduceNeg, Int.reduceLT, Int.reduceLE, Int.reduceEq, Int.reduceToNat, UInt8.reduceOfNat, reduceCtorEq]
    refine vcW_cut hN (fun _ : Unit => ⟨[(0, .str s), (3, .vptr 34003 0), (4, .bool false), (5, .vptr 34005 0), (6, .bool false), (7, .str [])], [(34003, .var [.str [], .str [], .str [], .str [], .str [], .int .i64 0]), (34005, .var [.str [], .str [], .str [], .str [], .str [], .int .i64 0])]⟩) (fun _ => True) (fun R1 hR1 => ?_) ?_
    · simp (disch := first | omega | (simp only [List.length_append, List.length_cons, List.length_nil, List.length_set, List.length_map, List.length_take, List.length_drop, List.length_range, List.length_replicate, List.length_reverse]; omega)) only [go_sem, Nat.reduceBEq, Nat.reduceAdd, Nat.reduceSub, Nat.reduceMul, Nat.reduceLT, Nat.reduceLeDiff, Nat.reduceEqDiff, Int.reduceAdd, Int.reduceSub, Int.reduceMul, Int.reduceNeg, Int.reduceLT, Int.reduceLE, Int.reduceEq, Int.reduceToNat, UInt8.reduceOfNat, reduceCtorEq]
      exact hR1 () _ trivial (.le (by simp (disch := first | omega | (simp only [List.length_append, List.length_cons, List.length_nil, List.length_set, List.length_map, List.length_take, List.length_drop, List.length_range, List.length_replicate, List.length_reverse]; omega)) only [go_sem, Nat.reduceBEq, Nat.reduceAdd, Nat.reduceSub, Nat.reduceMul, Nat.reduceLT, Nat.reduceLeDiff, Nat.reduceEqDiff, Int.reduceAdd, Int.reduceSub, Int.reduceMul, Int.reduceNeg, Int.reduceLT, Int.reduceLE, Int.reduceEq, Int.reduceToNat, UInt8.reduceOfNat, reduceCtorEq]))
    rintro _ _
    simp (disch := first | omega | (simp only [List.length_append, List.length_cons, List.length_nil, List.length_set, List.length_map, List.length_take, List.length_drop, List.length_range, List.length_replicate, List.length_reverse]; omega)) only [go_sem, Nat.reduceBEq, Nat.reduceAdd, Nat.reduceSub, Nat.reduceMul, Nat.reduceLT, Nat.reduceLeDiff, Nat.reduceEqDiff, Int.reduceAdd, Int.reduceSub, Int.reduceMul, Int.reduceNeg, Int.reduceLT, Int.reduceLE, Int.reduceEq, Int.reduceToNat, UInt8.reduceOfNat, reduceCtorEq]
    refine call_ro awake_ok rfl rfl ?_
    simp (disch := first | omega | (simp only [List.length_append, List.length_cons, List.length_nil, List.length_set, List.length_map, List.length_take, List.length_drop, List.length_range, List.length_replicate, List.length_reverse]; omega)) only [go_sem, Nat.reduceBEq, Nat.reduceAdd, Nat.reduceSub, Nat.reduceMul, Nat.reduceLT, Nat.reduceLeDiff, Nat.reduceEqDiff, Int.reduceAdd, Int.reduceSub, Int.reduceMul, Int.reduceNeg, Int.reduceLT, Int.reduceLE, Int.reduceEq, Int.reduceToNat, UInt8.reduceOfNat, reduceCtorEq]
    refine gcyes_of (callT_ro (by simp (disch := first | omega | (simp only [List.length_append, List.length_cons, List.length_nil, List.length_set, List.length_map, List.length_take, List.length_drop, List.length_range, List.length_replicate, List.length_reverse]; omega)) only [go_sem, Nat.reduceBEq, Nat.reduceAdd, Nat.reduceSub, Nat.reduceMul, Nat.reduceLT, Nat.reduceLeDiff, Nat.reduceEqDiff, Int.reduceAdd, Int.reduceSub, Int.reduceMul, Int.reduceNeg, Int.reduceLT, Int.reduceLE, Int.reduceEq, Int.reduceToNat, UInt8.reduceOfNat, reduceCtorEq]) h3 (by simp (disch := first | omega | (simp only [List.length_append, List.length_cons, List.length_nil, List.length_set, List.length_map, List.length_take, List.length_drop, List.length_range, List.length_replicate, List.length_reverse]; omega)) only [go_sem, Nat.reduceBEq, Nat.reduceAdd, Nat.reduceSub, Nat.reduceMul, Nat.reduceLT, Nat.reduceLeDiff, Nat.reduceEqDiff, Int.reduceAdd, Int.reduceSub, Int.reduceMul, Int.reduceNeg, Int.reduceLT, Int.reduceLE, Int.reduceEq, Int.reduceToNat, UInt8.reduceOfNat, reduceCtorEq]) rfl rfl ?_)
    simp (disch := first | omega | (simp only [List.length_append, List.length_cons, List.length_nil, List.length_set, List.length_map, List.length_take, List.length_drop, List.length_range, List.length_replicate, List.length_reverse]; omega)) only [go_sem, Nat.reduceBEq, Nat.reduceAdd, Nat.reduceSub, Nat.reduceMul, Nat.reduceLT, Nat.reduceLeDiff, Nat.reduceEqDiff, Int.reduceAdd, Int.reduceSub, Int.reduceMul, Int.reduceNeg, Int.reduceLT, Int.reduceLE, Int.reduceEq, Int.reduceToNat, UInt8.reduceOfNat, reduceCtorEq]
    refine gcyes_of (callT_ro (by simp (disch := first | omega | (simp only [List.length_append, List.length_cons, List.length_nil, List.length_set, List.length_map, List.length_take, List.length_drop, List.length_range, List.length_replicate, List.length_reverse]; omega)) only [go_sem, Nat.reduceBEq, Nat.reduceAdd, Nat.reduceSub, Nat.reduceMul, Nat.reduceLT, Nat.reduceLeDiff, Nat.reduceEqDiff, Int.reduceAdd, Int.reduceSub, Int.reduceMul, Int.reduceNeg, Int.reduceLT, Int.reduceLE, Int.reduceEq, Int.reduceToNat, UInt8.reduceOfNat, reduceCtorEq]) h4 (by simp (disch := first | omega | (simp only [List.length_append, List.length_cons, List.length_nil, List.length_set, List.length_map, List.length_take, List.length_drop, List.length_range, List.length_replicate, List.length_reverse]; omega)) only [go_sem, Nat.reduceBEq, Nat.reduceAdd, Nat.reduceSub, Nat.reduceMul, Nat.reduceLT, Nat.reduceLeDiff, Nat.reduceEqDiff, Int.reduceAdd, Int.reduceSub, Int.reduceMul, Int.reduceNeg, Int.reduceLT, Int.reduceLE, Int.reduceEq, Int.reduceToNat, UInt8.reduceOfNat, reduceCtorEq]) rfl rfl ?_)
    simp (disch := first | omega | (simp only [List.length_append, List.length_cons, List.length_nil, List.length_set, List.length_map, List.length_take, List.length_drop, List.length_range, List.length_replicate, List.length_reverse]; omega)) only [go_sem, Nat.reduceBEq, Nat.reduceAdd, Nat.reduceSub, Nat.reduceMul, Nat.reduceLT, Nat.reduceLeDiff, Nat.reduceEqDiff, Int.reduceAdd, Int.reduceSub, Int.reduceMul, Int.reduceNeg, Int.reduceLT, Int.reduceLE, Int.reduceEq, Int.reduceToNat, UInt8.reduceOfNat, reduceCtorEq]
    refine gcyes_of (callT_ro (by simp (disch := first | omega | (simp only [List.length_append, List.length_cons, List.length_nil, List.length_set, List.length_map, List.length_take, List.length_drop, List.length_range, List.length_replicate, List.length_reverse]; omega)) only [go_sem, Nat.reduceBEq, Nat.reduceAdd, Nat.reduceSub, Nat.reduceMul, Nat.reduceLT, Nat.reduceLeDiff, Nat.reduceEqDiff, Int.reduceAdd, Int.reduceSub, Int.reduceMul, Int.reduceNeg, Int.reduceLT, Int.reduceLE, Int.reduceEq, Int.reduceToNat, UInt8.reduceOfNat, reduceCtorEq]) h5 (by simp (disch := first | omega | (simp only [List.length_append, List.length_cons, List.length_nil, List.length_set, List.length_map, List.length_take, List.length_drop, List.length_range, List.length_replicate, List.length_reverse]; omega)) only [go_sem, Nat.reduceBEq, Nat.reduceAdd, Nat.reduceSub, Nat.reduceMul, Nat.reduceLT, Nat.reduceLeDiff, Nat.reduceEqDiff, Int.reduceAdd, Int.reduceSub, Int.reduceMul, Int.reduceNeg, Int.reduceLT, Int.reduceLE, Int.reduceEq, Int.reduceToNat, UInt8.reduceOfNat, reduceCtorEq]) rfl rfl ?_)
    simp (disch := first | omega | (simp only [List.length_append, List.length_cons, List.length_nil, List.length_set, List.length_map, List.length_take, List.length_drop, List.length_range, List.length_replicate, List.length_reverse]; omega)) only [go_sem, Nat.reduceBEq, Nat.reduceAdd, Nat.reduceSub, Nat.reduceMul, Nat.reduceLT, Nat.reduceLeDiff, Nat.reduceEqDiff, Int.reduceAdd, Int.reduceSub, Int.reduceMul, Int.reduceNeg, Int.reduceLT, Int.reduceLE, Int.reduceEq, Int.reduceToNat, UInt8.reduceOfNat, reduceCtorEq]
    exact hR.wk (h' := []) (r' := .bool true) (ar' := [.undef]) rfl (.le (by simp (disch := first | omega | (simp only [List.length_append, List.length_cons, List.length_nil, List.length_set, List.length_map, List.length_take, List.length_drop, List.length_range, List.length_replicate, List.length_reverse]; omega)) only [go_sem, Nat.reduceBEq, Nat.reduceAdd, Nat.reduceSub, Nat.reduceMul, Nat.reduceLT, Nat.reduceLeDiff, Nat.reduceEqDiff, Int.reduceAdd, Int.reduceSub, Int.reduceMul, Int.reduceNeg, Int.reduceLT, Int.reduceLE, Int.reduceEq, Int.reduceToNat, UInt8.reduceOfNat, reduceCtorEq])) ⟨rfl, rfl⟩
  | some v =>
    rw [hp] at h1 h2 h5
    obtain ⟨_, a1, a2, a3, a4, _⟩ := l1 hp
    simp only [parseA, verA, Option.getD_some, Option.isSome_some] at h1 h2
    simp only at h5
    simp (disch := first | omega | (simp only [List.length_append, List.length_cons, List.length_nil, List.length_set, List.length_map, List.length_take, List.length_drop, List.length_range, List.length_replicate, List.length_reverse]; omega)) only [go_sem, Nat.reduceBEq, Nat.reduceAdd, Nat.reduceSub, Nat.reduceMul, Nat.reduceLT, Nat.reduceLeDiff, Nat.reduceEqDiff, Int.reduceAdd, Int.reduceSub, Int.reduceMul, Int.reduceNeg, Int.reduceLT, Int.reduceLE, Int.reduceEq, Int.reduceToNat, UInt8.reduceOfNat, reduceCtorEq]
    refine call_ro h1 rfl rfl ?_
    simp (disch := first | omega | (simp only [List.length_append, List.length_cons, List.length_nil, List.length_set, List.length_map, List.length_take, List.length_drop, List.length_range, List.length_replicate, List.length_reverse]; omega)) only [go_sem, Nat.reduceBEq, Nat.reduceAdd, Nat.reduceSub, Nat.reduceMul, Nat.reduceLT, Nat.reduceLeDiff, Nat.reduceEqDiff, Int.reduceAdd, Int.reduceSub, Int.reduceMul, Int.reduceNeg, Int.reduceLT, Int.reduceLE, Int.reduceEq, Int.reduceToNat, UInt8.reduceOfNat, reduceCtorEq]
    refine call_ro h2 rfl rfl ?_
    simp (disch := first | omega | (simp only [List.length_append, List.length_cons, List.length_nil, List.length_set, List.length_map, List.length_take, List.length_drop, List.length_range, List.length_replicate, List.length_reverse]; omega)) only [go_sem, Nat.reduceBEq, Nat.reduceAdd, Nat.reduceSub, Nat.reduceMul, Nat.reduceLT, Nat.reduceLeDiff, Nat.reduceEqDiff, Int.reduceAdd, Int.reduceSub, Int.reduceMul, Int.reduceNeg, Int.reduceLT, Int.reduceLE, Int.reduceEq, Int.reduceToNat, UInt8.reduceOfNat, reduceCtorEq]
    refine vcW_cut hN (fun _ : Unit => ⟨[(0, .str s), (3, .vptr 34003 0), (4, .bool true), (5, .vptr 34005 0), (6, .bool true), (7, .str ([118] ++ v.mj))], [(34003, .var [.str v.mj, .str v.mi, .str v.pa, .str v.pr, .str v.bu, .int .i64 v.sh]), (34005, .var [.str v.mj, .str v.mi, .str v.pa, .str v.pr, .str v.bu, .int .i64 v.sh])]⟩) (fun _ => True) (fun R1 hR1 => ?_) ?_
    · simp (disch := first | omega | (simp only [List.length_append, List.length_cons, List.length_nil, List.length_set, List.length_map, List.length_take, List.length_drop, List.length_range, List.length_replicate, List.length_reverse]; omega)) only [go_sem, Nat.reduceBEq, Nat.reduceAdd, Nat.reduceSub, Nat.reduceMul, Nat.reduceLT, Nat.reduceLeDiff, Nat.reduceEqDiff, Int.reduceAdd, Int.reduceSub, Int.reduceMul, Int.reduceNeg, Int.reduceLT, Int.reduceLE, Int.reduceEq, Int.reduceToNat, UInt8.reduceOfNat, reduceCtorEq]
      exact hR1 () _ trivial (.le (by simp (disch := first | omega | (simp only [List.length_append, List.length_cons, List.length_nil, List.length_set, List.length_map, List.length_take, List.length_drop, List.length_range, List.length_replicate, List.length_reverse]; omega)) only [go_sem, Nat.reduceBEq, Nat.reduceAdd, Nat.reduceSub, Nat.reduceMul, Nat.reduceLT, Nat.reduceLeDiff, Nat.reduceEqDiff, Int.reduceAdd, Int.reduceSub, Int.reduceMul, Int.reduceNeg, Int.reduceLT, Int.reduceLE, Int.reduceEq, Int.reduceToNat, UInt8.reduceOfNat, reduceCtorEq]))
    rintro _ _
    simp (disch := first | omega | (simp only [List.length_append, List.length_cons, List.length_nil, List.length_set, List.length_map, List.length_take, List.length_drop, List.length_range, List.length_replicate, List.length_reverse]; omega)) only [go_sem, Nat.reduceBEq, Nat.reduceAdd, Nat.reduceSub, Nat.reduceMul, Nat.reduceLT, Nat.reduceLeDiff, Nat.reduceEqDiff, Int.reduceAdd, Int.reduceSub, Int.reduceMul, Int.reduceNeg, Int.reduceLT, Int.reduceLE, Int.reduceEq, Int.reduceToNat, UInt8.reduceOfNat, reduceCtorEq]
    refine call_ro awake_ok rfl rfl ?_
    simp (disch := first | omega | (simp only [List.length_append, List.length_cons, List.length_nil, List.length_set, List.length_map, List.length_take, List.length_drop, List.length_range, List.length_replicate, List.length_reverse]; omega)) only [go_sem, Nat.reduceBEq, Nat.reduceAdd, Nat.reduceSub, Nat.reduceMul, Nat.reduceLT, Nat.reduceLeDiff, Nat.reduceEqDiff, Int.reduceAdd, Int.reduceSub, Int.reduceMul, Int.reduceNeg, Int.reduceLT, Int.reduceLE, Int.reduceEq, Int.reduceToNat, UInt8.reduceOfNat, reduceCtorEq]
    refine gcyes_of (callT_ro (by simp (disch := first | omega | (simp only [List.length_append, List.length_cons, List.length_nil, List.length_set, List.length_map, List.length_take, List.length_drop, List.length_range, List.length_replicate, List.length_reverse]; omega)) only [go_sem, Nat.reduceBEq, Nat.reduceAdd, Nat.reduceSub, Nat.reduceMul, Nat.reduceLT, Nat.reduceLeDiff, Nat.reduceEqDiff, Int.reduceAdd, Int.reduceSub, Int.reduceMul, Int.reduceNeg, Int.reduceLT, Int.reduceLE, Int.reduceEq, Int.reduceToNat, UInt8.reduceOfNat, reduceCtorEq]) h3 (by simp (disch := first | omega | (simp only [List.length_append, List.length_cons, List.length_nil, List.length_set, List.length_map, List.length_take, List.length_drop, List.length_range, List.length_replicate, List.length_reverse]; omega)) only [go_sem, Nat.reduceBEq, Nat.reduceAdd, Nat.reduceSub, Nat.reduceMul, Nat.reduceLT, Nat.reduceLeDiff, Nat.reduceEqDiff, Int.reduceAdd, Int.reduceSub, Int.reduceMul, Int.reduceNeg, Int.reduceLT, Int.reduceLE, Int.reduceEq, Int.reduceToNat, UInt8.reduceOfNat, reduceCtorEq]) rfl rfl ?_)
    simp (disch := first | omega | (simp only [List.length_append, List.length_cons, List.length_nil, List.length_set, List.length_map, List.length_take, List.length_drop, List.length_range, List.length_replicate, List.length_reverse]; omega)) only [go_sem, Nat.reduceBEq, Nat.reduceAdd, Nat.reduceSub, Nat.reduceMul, Nat.reduceLT, Nat.reduceLeDiff, Nat.reduceEqDiff, Int.reduceAdd, Int.reduceSub, Int.reduceMul, Int.reduceNeg, Int.reduceLT, Int.reduceLE, Int.reduceEq, Int.reduceToNat, UInt8.reduceOfNat, reduceCtorEq]
    refine gcyes_of (callT_ro (by simp (disch := first | omega | (simp only [List.length_append, List.length_cons, List.length_nil, List.length_set, List.length_map, List.length_take, List.length_drop, List.length_range, List.length_replicate, List.length_reverse]; omega)) only [go_sem, Nat.reduceBEq, Nat.reduceAdd, Nat.reduceSub, Nat.reduceMul, Nat.reduceLT, Nat.reduceLeDiff, Nat.reduceEqDiff, Int.reduceAdd, Int.reduceSub, Int.reduceMul, Int.reduceNeg, Int.reduceLT, Int.reduceLE, Int.reduceEq, Int.reduceToNat, UInt8.reduceOfNat, reduceCtorEq]) h4 (by simp (disch := first | omega | (simp only [List.length_append, List.length_cons, List.length_nil, List.length_set, List.length_map, List.length_take, List.length_drop, List.length_range, List.length_replicate, List.length_reverse]; omega)) only [go_sem, Nat.reduceBEq, Nat.reduceAdd, Nat.reduceSub, Nat.reduceMul, Nat.reduceLT, Nat.reduceLeDiff, Nat.reduceEqDiff, Int.reduceAdd, Int.reduceSub, Int.reduceMul, Int.reduceNeg, Int.reduceLT, Int.reduceLE, Int.reduceEq, Int.reduceToNat, UInt8.reduceOfNat, reduceCtorEq]) rfl rfl ?_)
    simp (disch := first | omega | (simp only [List.length_append, List.length_cons, List.length_nil, List.length_set, List.length_map, List.length_take, List.length_drop, List.length_range, List.length_replicate, List.length_reverse]; omega)) only [go_sem, Nat.reduceBEq, Nat.reduceAdd, Nat.reduceSub, Nat.reduceMul, Nat.reduceLT, Nat.reduceLeDiff, Nat.reduceEqDiff, Int.reduceAdd, Int.reduceSub, Int.reduceMul, Int.reduceNeg, Int.reduceLT, Int.reduceLE, Int.reduceEq, Int.reduceToNat, UInt8.reduceOfNat, reduceCtorEq]
    refine gcyes_of (callT_ro (by simp (disch := first | omega | (simp only [List.length_append, List.length_cons, List.length_nil, List.length_set, List.length_map, List.length_take, List.length_drop, List.length_range, List.length_replicate, List.length_reverse]; omega)) only [go_sem, Nat.reduceBEq, Nat.reduceAdd, Nat.reduceSub, Nat.reduceMul, Nat.reduceLT, Nat.reduceLeDiff, Nat.reduceEqDiff, Int.reduceAdd, Int.reduceSub, Int.reduceMul, Int.reduceNeg, Int.reduceLT, Int.reduceLE, Int.reduceEq, Int.reduceToNat, UInt8.reduceOfNat, reduceCtorEq]) h5 (by simp (disch := first | omega | (simp only [List.length_append, List.length_cons, List.length_nil, List.length_set, List.length_map, List.length_take, List.length_drop, List.length_range, List.length_replicate, List.length_reverse]; omega)) only [go_sem, Nat.reduceBEq, Nat.reduceAdd, Nat.reduceSub, Nat.reduceMul, Nat.reduceLT, Nat.reduceLeDiff, Nat.reduceEqDiff, Int.reduceAdd, Int.reduceSub, Int.reduceMul, Int.reduceNeg, Int.reduceLT, Int.reduceLE, Int.reduceEq, Int.reduceToNat, UInt8.reduceOfNat, reduceCtorEq]) rfl rfl ?_)
    simp (disch := first | omega | (simp only [List.length_append, List.length_cons, List.length_nil, List.length_set, List.length_map, List.length_take, List.length_drop, List.length_range, List.length_replicate, List.length_reverse]; omega)) only [go_sem, Nat.reduceBEq, Nat.reduceAdd, Nat.reduceSub, Nat.reduceMul, Nat.reduceLT, Nat.reduceLeDiff, Nat.reduceEqDiff, Int.reduceAdd, Int.reduceSub, Int.reduceMul, Int.reduceNeg, Int.reduceLT, Int.reduceLE, Int.reduceEq, Int.reduceToNat, UInt8.reduceOfNat, reduceCtorEq]
    exact hR.wk (h' := []) (r' := .bool true) (ar' := [.undef]) rfl (.le (by simp (disch := first | omega | (simp only [List.length_append, List.length_cons, List.length_nil, List.length_set, List.length_map, List.length_take, List.length_drop, List.length_range, List.length_replicate, List.length_reverse]; omega)) only [go_sem, Nat.reduceBEq, Nat.reduceAdd, Nat.reduceSub, Nat.reduceMul, Nat.reduceLT, Nat.reduceLeDiff, Nat.reduceEqDiff, Int.reduceAdd, Int.reduceSub, Int.reduceMul, Int.reduceNeg, Int.reduceLT, Int.reduceLE, Int.reduceEq, Int.reduceToNat, UInt8.reduceOfNat, reduceCtorEq])) ⟨rfl, rfl⟩
end Go.Proofs.YtjjhicejabggdaaDoor.Sv
