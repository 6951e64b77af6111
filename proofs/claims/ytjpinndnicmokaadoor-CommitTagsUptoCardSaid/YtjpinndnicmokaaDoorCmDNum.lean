/- Commit: the document's numbers. -/
import Derived.Test.YtjpinndnicmokaaDoorCmDRead
set_option linter.all false
namespace Go.Proofs.YtjpinndnicmokaaDoor.Cm
open Eng Ob
set_option maxRecDepth 10000
theorem wrap64_rng (x : Int) : -9223372036854775808 ≤ IntKind.i64.wrap x ∧ IntKind.i64.wrap x ≤ 9223372036854775807 := by
  simp only [IntKind.wrap, IntKind.signed, IntKind.bits]
  simp
  omega
theorem no_num {s : Bs} {k : Nat} (hk : k < s.length) (hbad : ¬ (k = 0 ∧ s.getD 0 0 = 45)) (h : ¬ (48 ≤ (s.getD k 0).toNat ∧ (s.getD k 0).toNat ≤ 57) ∨ 20 < s.length) : numI s = none := by
  cases hn : numI s with
  | none => rfl
  | some v =>
    exfalso
    obtain ⟨e, _, v0, v1⟩ := numI_some hn
    have hl := itoa_len v v1 v0
    rw [e] at hl
    rcases h with h | h
    · subst e
      have hg : (Lib.itoa v).getD k 0 = (Lib.itoa v)[k] := by simp [hk]
      rw [hg] at h
      by_cases hneg : v < 0
      · have e : Lib.itoa v = 45 :: Lib.decDigits v.natAbs := by unfold Lib.itoa; rw [if_pos hneg]
        have hk0 : k ≠ 0 := by
          rintro rfl
          exact hbad ⟨rfl, by rw [e]; rfl⟩
        obtain ⟨j, rfl⟩ : ∃ j, k = j + 1 := ⟨k - 1, by omega⟩
        have hx : (Lib.itoa v)[j + 1] ∈ Lib.decDigits v.natAbs := by
          simp only [e, List.getElem_cons_succ]
          exact List.getElem_mem _
        exact h (dec_digit _ _ (Nat.le_refl _) _ hx)
      · have e : Lib.itoa v = Lib.decDigits v.toNat := by unfold Lib.itoa; rw [if_neg hneg]
        have hx : (Lib.itoa v)[k] ∈ Lib.decDigits v.toNat := by
          simp only [e]
          exact List.getElem_mem _
        exact h (dec_digit _ _ (Nat.le_refl _) _ hx)
    · omega
def dnumP (s : Bs) (x : AV) : Prop := (∃ v, numI s = some v ∧ x = .tup [.int .i64 v, .bool true]) ∨ (numI s = none ∧ ∃ n, x = .tup [.int .i64 n, .bool false])
theorem dnum_no (s : Bs) (h : numI s = none) (hs : s.length ≤ 9223372036854775807) : Eng.Spec Tryd.prog 55 [] [.str s] (fun h x _ => h = [] ∧ ∃ n, x = .tup [.int .i64 n, .bool false]) := by
  refine Cod.dnum_spec (fun E R hN hR => ?_)
  have key : ∀ neg : Bool, vcW Tryd.prog E Cod.dnum_2 (KQ.post [.tmp 2, .tmp 3] 1 R) ⟨[(0, .str s), (4, .bool neg)], []⟩ := by
    intro neg
    simp (disch := first | omega | (simp only [Lx]; omega)) only [go_sem, simprocAttr]
    refine vcW_loop hN (fun a : Nat × Int => ⟨[(0, .str s), (4, .bool neg), (5, .int .i64 a.2), (6, .int .i64 a.1)], []⟩) (fun a => a.1 ≤ s.length ∧ -9223372036854775808 ≤ a.2 ∧ a.2 ≤ 9223372036854775807) (fun a => s.length - a.1) (0, 0) (.le (by simp (disch := first | omega | (simp only [Lx]; omega)) only [go_sem, simprocAttr])) ⟨by simp, by simp, by simp⟩ ?_
    rintro ⟨k, n⟩ R1 ⟨hk, n0, n1⟩ hR1
    simp only at hk n0 n1
    by_cases hlt : k < s.length
    · have step : ∀ m : Int, -9223372036854775808 ≤ m → m ≤ 9223372036854775807 → ∀ st', Wk st' ⟨[(0, .str s), (4, .bool neg), (5, .int .i64 m), (6, .int .i64 ((k : Int) + 1))], []⟩ → R1.ap st' := fun m m0 m1 st' hw => hR1 (k + 1, m) st' (by simp only; omega) ⟨by simp only; omega, m0, m1⟩ (by simpa using hw)
      have hc := (s.getD k 0).toNat_lt
      generalize hg : s.getD k 0 = c at *
      by_cases hskip : neg = true ∧ k = 0
      · obtain ⟨rfl, rfl⟩ := hskip
        simp (disch := first | omega | (simp only [Lx]; omega)) only [go_sem, simprocAttr]
        (repeat (first | (with_reducible refine gskip_of ?_) | (with_reducible refine gcskip_of ?_) | (with_reducible refine gopen_of ?_)) <;> simp (disch := first | omega | (simp only [Lx]; omega)) only [go_sem, simprocAttr])
        exact step _ n0 n1 _ (.le (by simp (disch := first | omega | (simp only [Lx]; omega)) only [go_sem, simprocAttr]))
      · have bad : R [] (.tup [.int .i64 0, .bool false]) [.undef] := hR.ro ⟨rfl, 0, rfl⟩
        have leaf : (neg = false ∧ k = 0) ∨ (neg = false ∧ ¬ (k : Int) = 0) ∨ (neg = true ∧ ¬ (k : Int) = 0) := by
          cases neg with
          | false => by_cases hk0 : k = 0
                     · exact .inl ⟨rfl, hk0⟩
                     · exact .inr (.inl ⟨rfl, by omega⟩)
          | true => exact .inr (.inr ⟨rfl, fun e => hskip ⟨rfl, by omega⟩⟩)
        by_cases h1 : 48 ≤ c.toNat
        · by_cases h2 : c.toNat ≤ 57
          · by_cases h3 : s.length ≤ 20
            · have st1 := step (IntKind.i64.wrap (IntKind.i64.wrap (10 * n) + (0 - ((c.toNat : Int) - 48)))) (wrap64_rng _).1 (wrap64_rng _).2
              have st2 := step (IntKind.i64.wrap (IntKind.i64.wrap (10 * n) + ((c.toNat : Int) - 48))) (wrap64_rng _).1 (wrap64_rng _).2
              rcases leaf with ⟨rfl, rfl⟩ | ⟨rfl, hk0⟩ | ⟨rfl, hk0⟩
              · simp (disch := first | omega | (simp only [Lx]; omega)) only [go_sem, simprocAttr, hg]
                (repeat (first | (with_reducible refine gskip_of ?_) | (with_reducible refine gcskip_of ?_) | (with_reducible refine gopen_of ?_)) <;> simp (disch := first | omega | (simp only [Lx]; omega)) only [go_sem, simprocAttr, hg])
                exact st2 _ (.le (by simp (disch := first | omega | (simp only [Lx]; omega)) only [go_sem, simprocAttr]))
              · simp (disch := first | omega | (simp only [Lx]; omega)) only [go_sem, simprocAttr, hg]
                (repeat (first | (with_reducible refine gskip_of ?_) | (with_reducible refine gcskip_of ?_) | (with_reducible refine gopen_of ?_)) <;> simp (disch := first | omega | (simp only [Lx]; omega)) only [go_sem, simprocAttr, hg])
                exact st2 _ (.le (by simp (disch := first | omega | (simp only [Lx]; omega)) only [go_sem, simprocAttr]))
              · simp (disch := first | omega | (simp only [Lx]; omega)) only [go_sem, simprocAttr, hg]
                (repeat (first | (with_reducible refine gskip_of ?_) | (with_reducible refine gcskip_of ?_) | (with_reducible refine gopen_of ?_)) <;> simp (disch := first | omega | (simp only [Lx]; omega)) only [go_sem, simprocAttr, hg])
                exact st1 _ (.le (by simp (disch := first | omega | (simp only [Lx]; omega)) only [go_sem, simprocAttr]))
            · rcases leaf with ⟨rfl, rfl⟩ | ⟨rfl, hk0⟩ | ⟨rfl, hk0⟩ <;> (simp (disch := first | omega | (simp only [Lx]; omega)) only [go_sem, simprocAttr, hg]; (repeat (first | (with_reducible refine gskip_of ?_) | (with_reducible refine gcskip_of ?_) | (with_reducible refine gopen_of ?_)) <;> simp (disch := first | omega | (simp only [Lx]; omega)) only [go_sem, simprocAttr, hg]); exact bad)
          · rcases leaf with ⟨rfl, rfl⟩ | ⟨rfl, hk0⟩ | ⟨rfl, hk0⟩ <;> (simp (disch := first | omega | (simp only [Lx]; omega)) only [go_sem, simprocAttr, hg]; (repeat (first | (with_reducible refine gskip_of ?_) | (with_reducible refine gcskip_of ?_) | (with_reducible refine gopen_of ?_)) <;> simp (disch := first | omega | (simp only [Lx]; omega)) only [go_sem, simprocAttr, hg]); exact bad)
        · rcases leaf with ⟨rfl, rfl⟩ | ⟨rfl, hk0⟩ | ⟨rfl, hk0⟩ <;> (simp (disch := first | omega | (simp only [Lx]; omega)) only [go_sem, simprocAttr, hg]; (repeat (first | (with_reducible refine gskip_of ?_) | (with_reducible refine gcskip_of ?_) | (with_reducible refine gopen_of ?_)) <;> simp (disch := first | omega | (simp only [Lx]; omega)) only [go_sem, simprocAttr, hg]); exact bad)
    · obtain rfl : k = s.length := by omega
      simp (disch := first | omega | (simp only [Lx]; omega)) only [go_sem, simprocAttr]
      refine call_ro (rdig_ok n n0 n1) rfl rfl ?_
      have hne : ¬ Lib.itoa n = s := fun e => by
        have := numI_itoa n n0 n1
        rw [e, h] at this; cases this
      simp (disch := first | omega | (simp only [Lx]; omega)) only [go_sem, simprocAttr]
      exact hR.wk (h' := []) (r' := .tup [.int .i64 n, .bool false]) (ar' := [.undef]) rfl (.le (by simp (disch := first | omega | (simp only [Lx]; omega)) only [go_sem, simprocAttr])) ⟨rfl, n, rfl⟩
  cases s with
  | nil =>
    have key := key false
    simp (disch := first | omega | (simp only [Lx]; omega)) only [go_sem, simprocAttr] at key
    simp (disch := first | omega | (simp only [Lx]; omega)) only [go_sem, simprocAttr]
    (repeat (first | (with_reducible refine gskip_of ?_) | (with_reducible refine gcskip_of ?_) | (with_reducible refine gopen_of ?_)) <;> simp (disch := first | omega | (simp only [Lx]; omega)) only [go_sem, simprocAttr])
    exact key
  | cons b r =>
    by_cases h45 : b = 45
    · subst h45
      have key := key true
      have e45 : ((UInt8.toNat 45 : Nat) : Int) = 45 := rfl
      simp (disch := first | omega | (simp only [Lx]; omega)) only [go_sem, simprocAttr] at key
      simp (disch := first | omega | (simp only [Lx]; omega)) only [go_sem, simprocAttr, e45]
      (repeat (first | (with_reducible refine gskip_of ?_) | (with_reducible refine gcskip_of ?_) | (with_reducible refine gopen_of ?_)) <;> simp (disch := first | omega | (simp only [Lx]; omega)) only [go_sem, simprocAttr, e45])
      exact key
    · have h45' : ¬ ((b.toNat : Int) = 45) := fun e => h45 (UInt8.toNat.inj (by show _ = 45; omega))
      have key := key false
      simp (disch := first | omega | (simp only [Lx]; omega)) only [go_sem, simprocAttr] at key
      simp (disch := first | omega | (simp only [Lx]; omega)) only [go_sem, simprocAttr, h45']
      (repeat (first | (with_reducible refine gskip_of ?_) | (with_reducible refine gcskip_of ?_) | (with_reducible refine gopen_of ?_)) <;> simp (disch := first | omega | (simp only [Lx]; omega)) only [go_sem, simprocAttr, h45'])
      exact key
theorem from_step {s : Bs} {k p m : Nat} (hk : k < s.length) (h : Lib.decFrom p (s.drop k) = some m) : 48 ≤ (s.getD k 0).toNat ∧ (s.getD k 0).toNat ≤ 57 ∧ Lib.decFrom (p * 10 + ((s.getD k 0).toNat - 48)) (s.drop (k + 1)) = some m ∧ p * 10 + ((s.getD k 0).toNat - 48) ≤ m := by
  have hd : s.drop k = s.getD k 0 :: s.drop (k + 1) := by
    rw [List.drop_eq_getElem_cons hk]; simp [hk]
  rw [hd] at h
  simp only [Lib.decFrom] at h
  split at h
  · rename_i d hd
    obtain ⟨h1, h2, rfl⟩ := digitVal_some hd
    exact ⟨h1, h2, h, decFrom_le _ _ _ h⟩
  · cases h
theorem dnum_pos (m : Nat) (hm : m ≤ 9223372036854775807) : Eng.Spec Tryd.prog 55 [] [.str (Lib.decDigits m)] (fun h x _ => h = [] ∧ x = .tup [.int .i64 m, .bool true]) := by
  refine Cod.dnum_spec (fun E R hN hR => ?_)
  have hfrom := dec_from m m (Nat.le_refl _)
  have hlen := (dec_len 18 m).1 (by omega)
  have hdig := rdig_ok m (by omega) (by omega)
  rw [Lib.itoa_nonneg] at hdig
  have hne := dec_ne m
  have hfirst := dec_digit m m (Nat.le_refl _)
  generalize Lib.decDigits m = s at *
  have key : vcW Tryd.prog E Cod.dnum_2 (KQ.post [.tmp 2, .tmp 3] 1 R) ⟨[(0, .str s), (4, .bool false)], []⟩ := by
    simp (disch := first | omega | (simp only [Lx]; omega)) only [go_sem, simprocAttr]
    refine vcW_loop hN (fun a : Nat × Nat => ⟨[(0, .str s), (4, .bool false), (5, .int .i64 (a.2 : Int)), (6, .int .i64 a.1)], []⟩) (fun a => a.1 ≤ s.length ∧ Lib.decFrom a.2 (s.drop a.1) = some m) (fun a => s.length - a.1) (0, 0) (.le (by simp (disch := first | omega | (simp only [Lx]; omega)) only [go_sem, simprocAttr])) ⟨by simp, by simpa using hfrom⟩ ?_
    rintro ⟨k, p⟩ R1 ⟨hk, hp⟩ hR1
    simp only at hk hp
    by_cases hlt : k < s.length
    · obtain ⟨g1, g2, g3, g4⟩ := from_step hlt hp
      generalize hg : s.getD k 0 = c at *
      have fin := fun st' => hR1 (k + 1, p * 10 + (c.toNat - 48)) st' (by simp only; omega) ⟨by simp only; omega, g3⟩
      simp only at fin
      have e : ((p * 10 + (c.toNat - 48) : Nat) : Int) = 10 * (p : Int) + ((c.toNat : Int) - 48) := by omega
      rw [e] at fin
      by_cases hk0 : (k : Int) = 0
      · obtain rfl : k = 0 := by omega
        simp (disch := first | omega | (simp only [Lx]; omega)) only [go_sem, simprocAttr, hg]
        (repeat (first | (with_reducible refine gskip_of ?_) | (with_reducible refine gcskip_of ?_) | (with_reducible refine gopen_of ?_)) <;> simp (disch := first | omega | (simp only [Lx]; omega)) only [go_sem, simprocAttr, hg])
        exact fin _ (.le (by simp (disch := first | omega | (simp only [Lx]; omega)) only [go_sem, simprocAttr]))
      · simp (disch := first | omega | (simp only [Lx]; omega)) only [go_sem, simprocAttr, hg]
        (repeat (first | (with_reducible refine gskip_of ?_) | (with_reducible refine gcskip_of ?_) | (with_reducible refine gopen_of ?_)) <;> simp (disch := first | omega | (simp only [Lx]; omega)) only [go_sem, simprocAttr, hg])
        exact fin _ (.le (by simp (disch := first | omega | (simp only [Lx]; omega)) only [go_sem, simprocAttr]))
    · obtain rfl : k = s.length := by omega
      rw [List.drop_of_length_le (by omega)] at hp
      obtain rfl : p = m := by simpa [Lib.decFrom] using hp
      simp (disch := first | omega | (simp only [Lx]; omega)) only [go_sem, simprocAttr]
      refine call_ro hdig rfl rfl ?_
      simp (disch := first | omega | (simp only [Lx]; omega)) only [go_sem, simprocAttr]
      exact hR.wk (h' := []) (r' := .tup [.int .i64 p, .bool true]) (ar' := [.undef]) rfl (.le (by simp (disch := first | omega | (simp only [Lx]; omega)) only [go_sem, simprocAttr])) ⟨rfl, rfl⟩
  cases s with
  | nil => exact absurd rfl hne
  | cons b r =>
    have hb := hfirst b (List.mem_cons_self ..)
    have h45' : ¬ ((b.toNat : Int) = 45) := by omega
    simp (disch := first | omega | (simp only [Lx]; omega)) only [go_sem, simprocAttr] at key
    simp (disch := first | omega | (simp only [Lx]; omega)) only [go_sem, simprocAttr, h45']
    (repeat (first | (with_reducible refine gskip_of ?_) | (with_reducible refine gcskip_of ?_) | (with_reducible refine gopen_of ?_)) <;> simp (disch := first | omega | (simp only [Lx]; omega)) only [go_sem, simprocAttr, h45'])
    exact key
theorem dnum_neg (m : Nat) (hm : m ≤ 9223372036854775808) (hm0 : 0 < m) : Eng.Spec Tryd.prog 55 [] [.str (45 :: Lib.decDigits m)] (fun h x _ => h = [] ∧ x = .tup [.int .i64 (-(m : Int)), .bool true]) := by
  refine Cod.dnum_spec (fun E R hN hR => ?_)
  have hfrom := dec_from m m (Nat.le_refl _)
  have hlen := (dec_len 18 m).1 (by omega)
  have hdig := rdig_neg m m (Nat.le_refl _) (by omega) (by omega)
  have e45 : ((UInt8.toNat 45 : Nat) : Int) = 45 := rfl
  generalize hs : (45 : UInt8) :: Lib.decDigits m = s at *
  have hsl : s.length ≤ 20 := by rw [← hs]; simp; omega
  have hs1 : 1 ≤ s.length := by rw [← hs]; simp
  have hdr : s.drop 1 = Lib.decDigits m := by rw [← hs]; rfl
  have hg0 : s.getD 0 0 = 45 := by rw [← hs]; rfl
  have key : vcW Tryd.prog E Cod.dnum_2 (KQ.post [.tmp 2, .tmp 3] 1 R) ⟨[(0, .str s), (4, .bool true)], []⟩ := by
    simp (disch := first | omega | (simp only [Lx]; omega)) only [go_sem, simprocAttr]
    refine vcW_loop hN (fun a : Nat × Nat => ⟨[(0, .str s), (4, .bool true), (5, .int .i64 (-(a.2 : Int))), (6, .int .i64 a.1)], []⟩) (fun a => a.1 ≤ s.length ∧ ((a.1 = 0 ∧ a.2 = 0) ∨ (1 ≤ a.1 ∧ Lib.decFrom a.2 (s.drop a.1) = some m))) (fun a => s.length - a.1) (0, 0) (.le (by simp (disch := first | omega | (simp only [Lx]; omega)) only [go_sem, simprocAttr])) ⟨by simp, .inl ⟨rfl, rfl⟩⟩ ?_
    rintro ⟨k, p⟩ R1 ⟨hk, hp⟩ hR1
    simp only at hk hp
    by_cases hlt : k < s.length
    · rcases hp with ⟨rfl, rfl⟩ | ⟨hk1, hp⟩
      · have fin := fun st' => hR1 (1, 0) st' (by simp only; omega) ⟨by simp only; omega, .inr ⟨Nat.le_refl _, by simp only; rw [hdr]; exact hfrom⟩⟩
        simp only at fin
        simp (disch := first | omega | (simp only [Lx]; omega)) only [go_sem, simprocAttr]
        (repeat (first | (with_reducible refine gskip_of ?_) | (with_reducible refine gcskip_of ?_) | (with_reducible refine gopen_of ?_)) <;> simp (disch := first | omega | (simp only [Lx]; omega)) only [go_sem, simprocAttr])
        exact fin _ (.le (by simp (disch := first | omega | (simp only [Lx]; omega)) only [go_sem, simprocAttr]))
      · obtain ⟨g1, g2, g3, g4⟩ := from_step hlt hp
        generalize hg : s.getD k 0 = c at *
        have fin := fun st' => hR1 (k + 1, p * 10 + (c.toNat - 48)) st' (by simp only; omega) ⟨by simp only; omega, .inr ⟨by simp only; omega, g3⟩⟩
        simp only at fin
        have e : -((p * 10 + (c.toNat - 48) : Nat) : Int) = 10 * (-(p : Int)) + (0 - ((c.toNat : Int) - 48)) := by omega
        rw [e] at fin
        have hk0 : ¬ (k : Int) = 0 := by omega
        simp (disch := first | omega | (simp only [Lx]; omega)) only [go_sem, simprocAttr, hg]
        (repeat (first | (with_reducible refine gskip_of ?_) | (with_reducible refine gcskip_of ?_) | (with_reducible refine gopen_of ?_)) <;> simp (disch := first | omega | (simp only [Lx]; omega)) only [go_sem, simprocAttr, hg])
        exact fin _ (.le (by simp (disch := first | omega | (simp only [Lx]; omega)) only [go_sem, simprocAttr]))
    · obtain rfl : k = s.length := by omega
      rcases hp with ⟨h0, _⟩ | ⟨_, hp⟩
      · omega
      rw [List.drop_of_length_le (by omega)] at hp
      obtain rfl : p = m := by simpa [Lib.decFrom] using hp
      simp (disch := first | omega | (simp only [Lx]; omega)) only [go_sem, simprocAttr]
      refine call_ro hdig rfl rfl ?_
      simp (disch := first | omega | (simp only [Lx]; omega)) only [go_sem, simprocAttr]
      exact hR.wk (h' := []) (r' := .tup [.int .i64 (-(p : Int)), .bool true]) (ar' := [.undef]) rfl (.le (by simp (disch := first | omega | (simp only [Lx]; omega)) only [go_sem, simprocAttr])) ⟨rfl, rfl⟩
  simp (disch := first | omega | (simp only [Lx]; omega)) only [go_sem, simprocAttr] at key
  simp (disch := first | omega | (simp only [Lx]; omega)) only [go_sem, simprocAttr, hg0, e45]
  (repeat (first | (with_reducible refine gskip_of ?_) | (with_reducible refine gcskip_of ?_) | (with_reducible refine gopen_of ?_)) <;> simp (disch := first | omega | (simp only [Lx]; omega)) only [go_sem, simprocAttr, hg0, e45])
  exact key
theorem spec_mono {P : Program} {f : Nat} {h : HP} {args : List AV} {A B : HP → AV → List AV → Prop} (hs : Eng.Spec P f h args A) (k : ∀ h x a, A h x a → B h x a) : Eng.Spec P f h args B := by
  intro X0 ρ w vs h1 h2 h3 h4 h5
  refine (hs X0 ρ w vs h1 h2 h3 h4 h5).mono ?_
  rintro e w' ⟨v, h', r, ρ', ar, g1, g2, g3⟩
  exact ⟨v, h', r, ρ', ar, g1, k _ _ _ g2, g3⟩
theorem dnum_ok (s : Bs) (hs : s.length ≤ 9223372036854775807) : Eng.Spec Tryd.prog 55 [] [.str s] (fun h x _ => h = [] ∧ dnumP s x) := by
  cases hn : numI s with
  | none => exact spec_mono (dnum_no s hn hs) (fun h x _ ⟨h1, n, h2⟩ => ⟨h1, .inr ⟨hn, n, h2⟩⟩)
  | some v =>
    obtain ⟨e, _, v0, v1⟩ := numI_some hn
    unfold Lib.itoa at e
    split at e
    · subst e
      refine spec_mono (dnum_neg v.natAbs (by omega) (by omega)) (fun h x _ ⟨h1, h2⟩ => ⟨h1, .inl ⟨v, hn, ?_⟩⟩)
      rw [h2]; congr; omega
    · subst e
      refine spec_mono (dnum_pos v.toNat (by omega)) (fun h x _ ⟨h1, h2⟩ => ⟨h1, .inl ⟨v, hn, ?_⟩⟩)
      rw [h2]; congr; omega
end Go.Proofs.YtjpinndnicmokaaDoor.Cm
