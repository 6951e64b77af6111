/- Pseudo: a number one less. -/
import Derived.Test.YtgkcbhdpenmogaaDoorPsCal
set_option linter.all false
namespace Go.Proofs.YtgkcbhdpenmogaaDoor.Ps
open Eng Sv
set_option maxRecDepth 10000
theorem lastNZ : ∀ (n : Bs), (∃ x ∈ n, x ≠ 48) → ∃ p c k, n = p ++ c :: List.replicate k (48 : UInt8) ∧ c ≠ 48
  | [], h => by obtain ⟨x, hx, _⟩ := h; cases hx
  | x :: r, h => by
    by_cases hr : ∃ y ∈ r, y ≠ 48
    · obtain ⟨p, c, k, e, hc⟩ := lastNZ r hr
      exact ⟨x :: p, c, k, by rw [e]; rfl, hc⟩
    · have hall : ∀ y ∈ r, y = 48 := fun y hy => Classical.byContradiction fun hn => hr ⟨y, hy, hn⟩
      have hx : x ≠ 48 := by
        obtain ⟨y, hy, hne⟩ := h
        rcases List.mem_cons.1 hy with rfl | hy
        · exact hne
        · exact absurd (hall y hy) hne
      exact ⟨[], x, r.length, by rw [List.nil_append, (List.eq_replicate_iff.2 ⟨rfl, hall⟩ : r = List.replicate r.length 48)]; simp, hx⟩
def stripP (s : Bs) : Bs := if 1 < s.length ∧ s.getD 0 0 = 48 then s.drop 1 else s
def lessP (p : Bs) (c : UInt8) (k : Nat) : Bs := stripP (p ++ (c - 1) :: List.replicate k 57)
/-- with the last j of the noughts turned -/
def mid9 (p : Bs) (c : UInt8) (k j : Nat) : Bs := p ++ c :: (List.replicate (k - j) 48 ++ List.replicate j 57)
theorem mid9_len (p : Bs) (c : UInt8) {k j : Nat} (h : j ≤ k) : (mid9 p c k j).length = p.length + k + 1 := by unfold mid9; simp; omega
theorem mid9_at (p : Bs) (c : UInt8) {k j : Nat} (h : j < k) : (mid9 p c k j).getD (p.length + k - j) 0 = 48 := by
  unfold mid9
  rw [List.getD_eq_getElem?_getD, List.getElem?_append_right (by omega), show p.length + k - j - p.length = (k - j - 1) + 1 by omega, List.getElem?_cons_succ, List.getElem?_append_left (by simp; omega), List.getElem?_replicate, if_pos (by omega)]
  rfl
theorem mid9_end (p : Bs) (c : UInt8) (k : Nat) : (mid9 p c k k).getD p.length 0 = c := by
  unfold mid9
  rw [List.getD_eq_getElem?_getD, List.getElem?_append_right (Nat.le_refl _)]
  simp
theorem mid9_set (p : Bs) (c : UInt8) {k j : Nat} (h : j < k) : (mid9 p c k j).set (p.length + k - j) 57 = mid9 p c k (j + 1) := by
  unfold mid9
  rw [List.set_append_right _ _ (by omega), show p.length + k - j - p.length = (k - j - 1) + 1 by omega, List.set_cons_succ, List.set_append_left _ _ (by simp; omega)]
  congr 2
  have e : List.replicate (k - j) (48 : UInt8) = List.replicate (k - (j + 1)) 48 ++ [48] := by
    rw [show k - j = k - (j + 1) + 1 by omega, List.replicate_succ']
  rw [e, List.set_append_right _ _ (by simp; omega), List.length_replicate, show k - j - 1 - (k - (j + 1)) = 0 by omega, List.replicate_succ]
  simp
theorem mid9_last (p : Bs) (c : UInt8) (k : Nat) : (mid9 p c k k).set p.length (c - 1) = p ++ (c - 1) :: List.replicate k 57 := by
  unfold mid9
  rw [List.set_append_right _ _ (Nat.le_refl _), Nat.sub_self, Nat.sub_self]
  rfl
theorem set_ub (L : Bs) (i : Nat) (b : UInt8) : (L.map ub).set i (ub b) = (L.set i b).map ub := by rw [List.map_set]
theorem less_ok (p : Bs) (c : UInt8) (k : Nat) (hc : c ≠ 48) (h0 : 48 ≤ c.toNat) (h1 : c.toNat ≤ 57) (hl : p.length + k ≤ 1000000) :
    SpecR Tryd.prog 19 [.str (p ++ c :: List.replicate k 48)] (.str (lessP p c k)) := by
  refine Cod.less_spec (fun E R hN hR => ?_)
  have hne : ¬ (p ++ c :: List.replicate k 48 = [48]) := by
    intro e
    cases p with
    | nil => exact hc (List.cons.inj e).1
    | cons x r =>
      have := congrArg List.length e
      simp at this
  have hm0 : p ++ c :: List.replicate k 48 = mid9 p c k 0 := by unfold mid9; simp
  rw [hm0] at hne ⊢
  have hl0 := mid9_len p c (Nat.zero_le k)
  simp (disch := first | omega | (simp only [Lx]; omega)) only [go_sem, simprocAttr, hne]
  refine vcW_loop hN (fun j : Nat => ⟨[(3, .sl 61008 0 (p.length + k + 1)), (4, .int .i64 ((p.length + k - j : Nat) : Int))], [(61008, .arr 1 ((mid9 p c k j).map ub))]⟩) (fun j => j ≤ k) (fun j => k - j) 0 (.le ?_) (by omega) ?_
  · simp (disch := first | omega | (simp only [Lx]; omega)) only [go_sem, simprocAttr, hl0]
  rintro j R1 hj hR1
  have hlen := mid9_len p c hj
  have eN : ((p.length + k - j : Nat) : Int).toNat = p.length + k - j := by omega
  by_cases hlt : j < k
  · have hat := mid9_at p c hlt
    have hst := mid9_set p c hlt
    have e48 : ((UInt8.toNat 48 : Nat) : Int) = 48 := rfl
    have e57 : AV.int .u8 57 = ub 57 := rfl
    have hnx := fun st' => hR1 (j + 1) st' (by omega) (by omega)
    rw [← hst] at hnx
    have eI : ((p.length + k - (j + 1) : Nat) : Int) = ((p.length + k - j : Nat) : Int) - 1 := by omega
    rw [eI] at hnx
    generalize mid9 p c k j = L at *
    have hI : p.length + k - j < L.length := by omega
    generalize p.length + k - j = I at *
    simp (disch := first | omega | (simp only [Lx]; omega)) only [go_sem, simprocAttr, hat, e48, eN]
    refine hnx _ (.le ?_)
    simp (disch := first | omega | (simp only [Lx]; omega)) only [go_sem, simprocAttr, e57, set_ub]
  · obtain rfl : j = k := by omega
    have hend := mid9_end p c j
    have hlast := mid9_last p c j
    have hc48 : ¬ ((c.toNat : Int) = 48) := fun e => hc (UInt8.toNat.inj (by show _ = 48; omega))
    have hc1 : AV.int .u8 ((c.toNat : Int) - 1) = ub (c - 1) := by
      have : (c - 1).toNat = c.toNat - 1 := by
        rw [UInt8.toNat_sub_of_le _ _ (by rw [UInt8.le_iff_toNat_le]; show 1 ≤ c.toNat; omega)]; rfl
      unfold ub
      rw [this]; congr 1; omega
    have eP : p.length + j - j = p.length := by omega
    have hI : p.length < (mid9 p c j j).length := by omega
    unfold lessP stripP at hR
    rw [eP] at eN ⊢
    generalize hX : p ++ (c - 1) :: List.replicate j 57 = X at *
    have hXl : X.length = p.length + j + 1 := by rw [← hlast, List.length_set]; exact hlen
    generalize mid9 p c j j = L at *
    have hx0 := (X.getD 0 0).toNat_lt
    have hset : (L.map ub).set p.length (.int .u8 ((c.toNat : Int) - 1)) = X.map ub := by rw [hc1, set_ub, hlast]
    by_cases h1l : 1 < X.length
    · by_cases hx : X.getD 0 0 = 48
      · rw [if_pos ⟨h1l, hx⟩] at hR
        have hxe : (((X.getD 0 0).toNat : Nat) : Int) = 48 := by rw [hx]; rfl
        simp (disch := first | omega | (simp only [Lx]; omega)) only [go_sem, simprocAttr, hend, hc48, eN, hset, hXl, Cod.less_jn]
        (repeat (first | (with_reducible refine gskip_of ?_) | (with_reducible refine gcskip_of ?_) | (with_reducible refine gopen_of ?_)) <;> simp (disch := first | omega | (simp only [Lx]; omega)) only [go_sem, simprocAttr, hend, hc48, eN, hset, hxe, Cod.less_jn])
        exact hR.ro ⟨rfl, rfl⟩
      · rw [if_neg (fun h => hx h.2)] at hR
        have hx48 : ¬ (((X.getD 0 0).toNat : Int) = 48) := fun e => hx (UInt8.toNat.inj (by show _ = 48; omega))
        simp (disch := first | omega | (simp only [Lx]; omega)) only [go_sem, simprocAttr, hend, hc48, eN, hset, hXl, Cod.less_jn]
        (repeat (first | (with_reducible refine gskip_of ?_) | (with_reducible refine gcskip_of ?_) | (with_reducible refine gopen_of ?_)) <;> simp (disch := first | omega | (simp only [Lx]; omega)) only [go_sem, simprocAttr, hend, hc48, eN, hset, hx48, Cod.less_jn])
        exact hR.ro ⟨rfl, rfl⟩
    · rw [if_neg (fun h => h1l h.1)] at hR
      simp (disch := first | omega | (simp only [Lx]; omega)) only [go_sem, simprocAttr, hend, hc48, eN, hset, hXl, Cod.less_jn]
      (repeat (first | (with_reducible refine gskip_of ?_) | (with_reducible refine gcskip_of ?_) | (with_reducible refine gopen_of ?_)) <;> simp (disch := first | omega | (simp only [Lx]; omega)) only [go_sem, simprocAttr, hend, hc48, eN, hset, Cod.less_jn])
      exact hR.ro ⟨rfl, rfl⟩
theorem below_ok (p : Bs) (c : UInt8) (k : Nat) (hc : c ≠ 48) (h0 : 48 ≤ c.toNat) (h1 : c.toNat ≤ 57) (hl : p.length + k ≤ 1000000) :
    SpecR Tryd.prog 24 [.str (p ++ c :: List.replicate k 48)] (.str (lessP p c k)) := by
  refine Cod.below_spec (fun E R hN hR => ?_)
  have hm0 : p ++ c :: List.replicate k 48 = mid9 p c k 0 := by unfold mid9; simp
  rw [hm0]
  have hl0 := mid9_len p c (Nat.zero_le k)
  simp (disch := first | omega | (simp only [Lx]; omega)) only [go_sem, simprocAttr]
  refine vcW_loop hN (fun j : Nat => ⟨[(0, .str (mid9 p c k 0)), (3, .int .i64 ((p.length + k + 1 - j : Nat) : Int))], []⟩) (fun j => j ≤ k) (fun j => k - j) 0 (.le ?_) (by omega) ?_
  · simp (disch := first | omega | (simp only [Lx]; omega)) only [go_sem, simprocAttr, hl0]
  rintro j R1 hj hR1
  have hat0 : j < k → (mid9 p c k 0).getD (p.length + k - j) 0 = 48 := by
    intro h
    rw [← hm0, List.getD_eq_getElem?_getD, List.getElem?_append_right (by omega), show p.length + k - j - p.length = (k - j - 1) + 1 by omega, List.getElem?_cons_succ, List.getElem?_replicate, if_pos (by omega)]
    rfl
  have hatc : (mid9 p c k 0).getD p.length 0 = c := by
    rw [← hm0, List.getD_eq_getElem?_getD, List.getElem?_append_right (Nat.le_refl _)]
    simp
  have eN : ((p.length + k + 1 - j : Nat) - 1 : Int).toNat = p.length + k - j := by omega
  by_cases hlt : j < k
  · have hat := hat0 hlt
    have hate : ((((mid9 p c k 0).getD (p.length + k - j) 0).toNat : Nat) : Int) = 48 := by rw [hat]; rfl
    have hnx := fun st' => hR1 (j + 1) st' (by omega) (by omega)
    have eI : ((p.length + k + 1 - (j + 1) : Nat) : Int) = ((p.length + k + 1 - j : Nat) : Int) - 1 := by omega
    rw [eI] at hnx
    have hI : ((p.length + k + 1 - j : Nat) : Int) - 1 < (mid9 p c k 0).length := by omega
    have hI0 : 1 ≤ ((p.length + k + 1 - j : Nat) : Int) := by omega
    have hI2 : ((p.length + k + 1 - j : Nat) : Int) ≤ 1000001 := by omega
    generalize mid9 p c k 0 = L at *
    generalize ((p.length + k + 1 - j : Nat) : Int) = I at *
    simp (disch := first | omega | (simp only [Lx]; omega)) only [go_sem, simprocAttr, eN, hate]
    exact hnx _ (.le (by simp (disch := first | omega | (simp only [Lx]; omega)) only [go_sem, simprocAttr]))
  · obtain rfl : j = k := by omega
    have hc48 : ¬ ((c.toNat : Int) = 48) := fun e => hc (UInt8.toNat.inj (by show _ = 48; omega))
    have eI : ((p.length + j + 1 - j : Nat) : Int) = (p.length : Int) + 1 := by omega
    have eN2 : ((p.length : Int) + 1 - 1).toNat = p.length := by omega
    rw [eI]
    have hpl : p.length < (mid9 p c j 0).length := by omega
    have htk : (mid9 p c j 0).take p.length = p := by rw [← hm0]; simp
    generalize mid9 p c j 0 = L at *
    simp (disch := first | omega | (simp only [Lx]; omega)) only [go_sem, simprocAttr, eN2, hatc, hc48]
    refine vcW_loop hN (fun i : Nat => ⟨[(0, .str L), (3, .int .i64 ((p.length : Int) + 1)), (4, .str (List.replicate i 57)), (5, .int .i64 ((p.length : Int) + 1 + i))], []⟩) (fun i => i ≤ j) (fun i => j - i) 0 (.le (by simp (disch := first | omega | (simp only [Lx]; omega)) only [go_sem, simprocAttr])) (by omega) ?_
    rintro i R2 hi hR2
    have hLl : L.length = p.length + j + 1 := by omega
    by_cases hlt2 : i < j
    · have hnx := fun st' => hR2 (i + 1) st' (by omega) (by omega)
      rw [List.replicate_succ', show ((p.length : Int) + 1 + ((i + 1 : Nat) : Int)) = (p.length : Int) + 1 + (i : Int) + 1 by omega] at hnx
      simp (disch := first | omega | (simp only [Lx]; omega)) only [go_sem, simprocAttr]
      exact hnx _ (.le (by simp (disch := first | omega | (simp only [Lx]; omega)) only [go_sem, simprocAttr]))
    · obtain rfl : i = j := by omega
      have hc1 : AV.int .u8 ((c.toNat : Int) - 1) = ub (c - 1) := by
        have : (c - 1).toNat = c.toNat - 1 := by
          rw [UInt8.toNat_sub_of_le _ _ (by rw [UInt8.le_iff_toNat_le]; show 1 ≤ c.toNat; omega)]; rfl
        unfold ub
        rw [this]; congr 1; omega
      have hab : allB [AV.int .u8 ((c.toNat : Int) - 1)] = true := by rw [hc1]; exact allB_ub (xs := [c - 1])
      have hby : bytesOf [AV.int .u8 ((c.toNat : Int) - 1)] = [c - 1] := by rw [hc1]; exact bytesOf_ub (xs := [c - 1])
      have hX : p ++ [c - 1] ++ List.replicate i 57 = p ++ (c - 1) :: List.replicate i 57 := by simp
      unfold lessP stripP at hR
      rw [← hX] at hR
      have hXl : (p ++ [c - 1] ++ List.replicate i 57).length = p.length + i + 1 := by simp; omega
      have hx0 := ((p ++ [c - 1] ++ List.replicate i 57).getD 0 0).toNat_lt
      by_cases h1l : 1 < p.length + i + 1
      · by_cases hx : (p ++ [c - 1] ++ List.replicate i 57).getD 0 0 = 48
        · rw [if_pos ⟨by omega, hx⟩] at hR
          have hxe : ((((p ++ [c - 1] ++ List.replicate i 57).getD 0 0).toNat : Nat) : Int) = 48 := by rw [hx]; rfl
          simp (disch := first | omega | (simp only [Lx]; omega)) only [go_sem, simprocAttr, eN2, hatc, htk, hab, hby]
          (repeat (first | (with_reducible refine gskip_of ?_) | (with_reducible refine gcskip_of ?_) | (with_reducible refine gopen_of ?_)) <;> simp (disch := first | omega | (simp only [Lx]; omega)) only [go_sem, simprocAttr, hxe])
          exact hR.ro ⟨rfl, rfl⟩
        · rw [if_neg (fun h => hx h.2)] at hR
          have hx48 : ¬ ((((p ++ [c - 1] ++ List.replicate i 57).getD 0 0).toNat : Int) = 48) := fun e => hx (UInt8.toNat.inj (by show _ = 48; omega))
          simp (disch := first | omega | (simp only [Lx]; omega)) only [go_sem, simprocAttr, eN2, hatc, htk, hab, hby]
          (repeat (first | (with_reducible refine gskip_of ?_) | (with_reducible refine gcskip_of ?_) | (with_reducible refine gopen_of ?_)) <;> simp (disch := first | omega | (simp only [Lx]; omega)) only [go_sem, simprocAttr, hx48])
          exact hR.ro ⟨rfl, rfl⟩
      · rw [if_neg (fun h => h1l (by omega))] at hR
        simp (disch := first | omega | (simp only [Lx]; omega)) only [go_sem, simprocAttr, eN2, hatc, htk, hab, hby]
        (repeat (first | (with_reducible refine gskip_of ?_) | (with_reducible refine gcskip_of ?_) | (with_reducible refine gopen_of ?_)) <;> simp (disch := first | omega | (simp only [Lx]; omega)) only [go_sem, simprocAttr])
        exact hR.ro ⟨rfl, rfl⟩
end Go.Proofs.YtgkcbhdpenmogaaDoor.Ps
