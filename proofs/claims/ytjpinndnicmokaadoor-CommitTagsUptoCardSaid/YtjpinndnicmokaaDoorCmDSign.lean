/- Commit: the document's who and when. -/
import Derived.Test.YtjpinndnicmokaaDoorCmDNum
set_option linter.all false
namespace Go.Proofs.YtjpinndnicmokaaDoor.Cm
open Eng Ob
set_option maxRecDepth 10000
/-- where the blanks stand among the first k signs -/
def posL (l : Bs) : Nat → List Int
  | 0 => []
  | k + 1 => if l.getD k 0 = 32 then posL l k ++ [(k : Int)] else posL l k
theorem posL_no {l : Bs} : ∀ {n k : Nat}, k ≤ n → (∀ j, k ≤ j → j < n → l.getD j 0 ≠ 32) → posL l n = posL l k
  | 0, k, h, _ => by obtain rfl : k = 0 := by omega
                     rfl
  | n + 1, k, h, hno => by
    by_cases hk : k = n + 1
    · rw [hk]
    · rw [posL, if_neg (hno n (by omega) (by omega))]
      exact posL_no (by omega) (fun j h1 h2 => hno j h1 (by omega))
theorem posL_take {l : Bs} {i : Nat} : ∀ {n : Nat}, n ≤ i → posL (l.take i) n = posL l n
  | 0, _ => rfl
  | n + 1, h => by
    have e : (l.take i).getD n 0 = l.getD n 0 := by
      simp only [List.getD_eq_getElem?_getD]
      rw [List.getElem?_take_of_lt (by omega)]
    rw [posL, posL, e, posL_take (by omega)]
theorem lcut_pos (l : Bs) : (lcut 32 l = none ∧ posL l l.length = []) ∨ ∃ j : Nat, j < l.length ∧ lcut 32 l = some (l.take j, l.drop (j + 1)) ∧ posL l l.length = posL (l.take j) (l.take j).length ++ [(j : Int)] := by
  rcases lcut_index l with ⟨_, h⟩ | ⟨j, hj, _, h⟩
  · refine .inl ⟨h, ?_⟩
    have hn := lcut_none h
    rw [posL_no (k := 0) (Nat.zero_le _) (fun j _ hj e => hn (by
      have : l.getD j 0 = l[j] := by simp [hj]
      rw [← e, this]; exact List.getElem_mem _))]
    rfl
  · refine .inr ⟨j, hj, h, ?_⟩
    obtain ⟨e, hn⟩ := lcut_some h
    have hx : l.getD j 0 = 32 := by
      have hd : l.drop j = l.getD j 0 :: l.drop (j + 1) := by
        rw [List.drop_eq_getElem_cons hj]; simp [hj]
      have h2 := List.take_append_drop j l
      rw [hd] at h2
      have h3 : l.take j ++ l.getD j 0 :: l.drop (j + 1) = l.take j ++ 32 :: l.drop (j + 1) := h2.trans e
      exact (List.cons.inj (List.append_cancel_left h3)).1
    rw [posL_no (k := j + 1) (by omega) (fun i h1 h2 e => hn (by
      have : l.getD i 0 = (l.drop (j + 1))[i - (j + 1)]'(by rw [List.length_drop]; omega) := by
        rw [List.getElem_drop]
        have e2 : j + 1 + (i - (j + 1)) = i := by omega
        simp [e2, h2]
      rw [← e, this]; exact List.getElem_mem _))]
    rw [posL, if_pos hx, List.length_take, Nat.min_eq_left (by omega), posL_take (Nat.le_refl _)]
theorem posL_len (l : Bs) : ∀ k, (posL l k).length ≤ k
  | 0 => Nat.le_refl _
  | k + 1 => by
    have := posL_len l k
    rw [posL]
    split
    · simp; omega
    · omega
theorem posL_yes {l : Bs} {k : Nat} (h : l.getD k 0 = 32) : posL l (k + 1) = posL l k ++ [(k : Int)] := by rw [posL, if_pos h]
theorem posL_skip {l : Bs} {k : Nat} (h : ¬ l.getD k 0 = 32) : posL l (k + 1) = posL l k := by rw [posL, if_neg h]
def signU (w t z : Bs) : Option Sg := match numI t with
  | none => none
  | some tm => match zoneO z with
    | none => none
    | some zn => some ⟨w, tm, zn⟩
def signA (o : Option Sg) : AV := match o with | some s => .tup [sgA s, .bool true] | none => .tup [sgA ⟨[], 0, 0⟩, .bool false]
theorem dtail_ok {E : Env} {R : HP → AV → List AV → Prop} {w z : Bs} {tm : Int} {rest : List AV} {l : Bs} (hN : E.N ≤ 1000000) (hz5 : z.length = 5) (hR : PostTo (fun h x _ => h = [] ∧ x = signA (signL l)) R)
    (ret : ∀ x, signA ((zoneO z).map fun zn => ⟨w, tm, zn⟩) = x → ∀ h0 a, R h0 x [a]) :
    vcW Tryd.prog E Cod.dread_10 (KQ.post [.cell 2 true 3, .tmp 3] 1 R) ⟨[(2, .vptr 26002 0), (8, .vptr 26008 0), (10, .str z), (69, .bool false)], [(26008, .var [.str w, .int .i64 tm, .int .i64 0]), (26002, .var [.str [], .int .i64 0, .int .i64 0]), (26014, .arr 1 rest)]⟩ := by
  match z, hz5 with
  | [s, a, b, c, d], _ =>
  have bad : zoneO [s, a, b, c, d] = none → ∀ h0 a, R h0 (.tup [.agg [.str [], .int .i64 0, .int .i64 0], .bool false]) [a] := fun h => ret _ (by rw [h]; rfl)
  simp (disch := first | omega | (simp only [Lx]; omega)) only [go_sem, simprocAttr]
  refine vcW_loop hN (fun k : Nat => ⟨[(2, .vptr 26002 0), (8, .vptr 26008 0), (10, .str [s, a, b, c, d]), (11, .int .i64 k)], [(26008, .var [.str w, .int .i64 tm, .int .i64 0]), (26002, .var [.str [], .int .i64 0, .int .i64 0]), (26014, .arr 1 rest)]⟩) (fun k => 1 ≤ k ∧ k ≤ 5 ∧ ∀ j, 1 ≤ j → j < k → isD ([s, a, b, c, d].getD j 0) = true) (fun k => 5 - k) 1 (.le (by simp (disch := first | omega | (simp only [Lx]; omega)) only [go_sem, simprocAttr])) ⟨by omega, by omega, fun j h1 h2 => by omega⟩ ?_
  rintro k R1 ⟨hk1, hk5, hall⟩ hR1
  by_cases hlt : k < 5
  · have hbad : isD ([s, a, b, c, d].getD k 0) = false → zoneO [s, a, b, c, d] = none := by
      intro h
      unfold zoneO
      simp only
      rw [if_neg]
      rintro ⟨h1, h2, h3, h4⟩
      have : k = 1 ∨ k = 2 ∨ k = 3 ∨ k = 4 := by omega
      rcases this with rfl | rfl | rfl | rfl
      · rw [show [s, a, b, c, d].getD 1 0 = a from rfl, h1] at h; cases h
      · rw [show [s, a, b, c, d].getD 2 0 = b from rfl, h2] at h; cases h
      · rw [show [s, a, b, c, d].getD 3 0 = c from rfl, h3] at h; cases h
      · rw [show [s, a, b, c, d].getD 4 0 = d from rfl, h4] at h; cases h
    have hx := ([s, a, b, c, d].getD k 0).toNat_lt
    have hstep : isD ([s, a, b, c, d].getD k 0) = true → ∀ st', Wk st' ⟨[(2, .vptr 26002 0), (8, .vptr 26008 0), (10, .str [s, a, b, c, d]), (11, .int .i64 ((k : Int) + 1))], [(26008, .var [.str w, .int .i64 tm, .int .i64 0]), (26002, .var [.str [], .int .i64 0, .int .i64 0]), (26014, .arr 1 rest)]⟩ → R1.ap st' := fun hd st' hw => hR1 (k + 1) st' (by omega) ⟨by omega, by omega, fun j h1 h2 => by
      by_cases hj : j = k
      · rw [hj]; exact hd
      · exact hall j h1 (by omega)⟩ (by simpa using hw)
    generalize hg : [s, a, b, c, d].getD k 0 = x at *
    have hlen : [s, a, b, c, d].length = 5 := rfl
    generalize [s, a, b, c, d] = z at *
    unfold isD at hbad hstep
    by_cases h1 : 48 ≤ x.toNat
    · by_cases h2 : x.toNat ≤ 57
      · have hstep := hstep (by simp [h1, h2])
        simp (disch := first | omega | (simp only [Lx]; omega)) only [go_sem, simprocAttr, hg]
        (repeat (first | (with_reducible refine gskip_of ?_) | (with_reducible refine gcskip_of ?_) | (with_reducible refine gopen_of ?_)) <;> simp (disch := first | omega | (simp only [Lx]; omega)) only [go_sem, simprocAttr, hg])
        exact hstep _ (.le (by simp (disch := first | omega | (simp only [Lx]; omega)) only [go_sem, simprocAttr]))
      · have bad := bad (hbad (by simp [h1, h2]))
        simp (disch := first | omega | (simp only [Lx]; omega)) only [go_sem, simprocAttr, hg]
        (repeat (first | (with_reducible refine gskip_of ?_) | (with_reducible refine gcskip_of ?_) | (with_reducible refine gopen_of ?_)) <;> simp (disch := first | omega | (simp only [Lx]; omega)) only [go_sem, simprocAttr, hg])
        exact bad _ _
    · have bad := bad (hbad (by simp [h1]))
      simp (disch := first | omega | (simp only [Lx]; omega)) only [go_sem, simprocAttr, hg]
      (repeat (first | (with_reducible refine gskip_of ?_) | (with_reducible refine gcskip_of ?_) | (with_reducible refine gopen_of ?_)) <;> simp (disch := first | omega | (simp only [Lx]; omega)) only [go_sem, simprocAttr, hg])
      exact bad _ _
  · obtain rfl : k = 5 := by omega
    have da := hall 1 (by omega) (by omega)
    have db := hall 2 (by omega) (by omega)
    have dc := hall 3 (by omega) (by omega)
    have dd := hall 4 (by omega) (by omega)
    simp only [List.getD_cons_succ, List.getD_cons_zero] at da db dc dd
    have hzo : zoneO [s, a, b, c, d] = if dv c * 10 + dv d < 60 ∧ (s = 43 ∨ s = 45) ∧ [s, a, b, c, d] ≠ [45, 48, 48, 48, 48] then
        some (if s = 45 then -((60 * (dv a * 10 + dv b) + (dv c * 10 + dv d) : Nat) : Int) else ((60 * (dv a * 10 + dv b) + (dv c * 10 + dv d) : Nat) : Int)) else none := by
      unfold zoneO
      simp only
      rw [if_pos ⟨da, db, dc, dd⟩]
    have la := dv_lt da; have lb := dv_lt db; have lc := dv_lt dc; have ld := dv_lt dd
    have na : (a.toNat : Int) - 48 = dv a := by unfold isD at da; unfold dv; simp at da; omega
    have nb : (b.toNat : Int) - 48 = dv b := by unfold isD at db; unfold dv; simp at db; omega
    have nc : (c.toNat : Int) - 48 = dv c := by unfold isD at dc; unfold dv; simp at dc; omega
    have nd : (d.toNat : Int) - 48 = dv d := by unfold isD at dd; unfold dv; simp at dd; omega
    have e45 : ((UInt8.toNat 45 : Nat) : Int) = 45 := rfl
    have e43 : ((UInt8.toNat 43 : Nat) : Int) = 43 := rfl
    obtain ⟨m, hm⟩ : ∃ m : Nat, 60 * (dv a * 10 + dv b) + (dv c * 10 + dv d) = m := ⟨_, rfl⟩
    have hm' : 60 * ((dv a : Int) * 10 + (dv b : Int)) + ((dv c : Int) * 10 + (dv d : Int)) = (m : Int) := by omega
    rw [hm] at hzo
    by_cases h60 : dv c * 10 + dv d < 60
    · by_cases hz : [s, a, b, c, d] = [45, 48, 48, 48, 48]
      · have bad2 := bad (by rw [hzo, if_neg (fun h => h.2.2 hz)])
        obtain ⟨rfl, rfl, rfl, rfl, rfl⟩ : s = 45 ∧ a = 48 ∧ b = 48 ∧ c = 48 ∧ d = 48 := by simpa using hz
        simp (disch := first | omega | (simp only [Lx]; omega)) only [go_sem, simprocAttr, e45]
        (repeat (first | (with_reducible refine gskip_of ?_) | (with_reducible refine gcskip_of ?_) | (with_reducible refine gopen_of ?_)) <;> simp (disch := first | omega | (simp only [Lx]; omega)) only [go_sem, simprocAttr, e45])
        exact bad2 _ _
      · by_cases h45 : s = 45
        · have ret2 := ret (signA (some ⟨w, tm, -(m : Int)⟩)) (by rw [hzo, if_pos ⟨h60, .inr h45, hz⟩, if_pos h45]; rfl)
          unfold signA sgA at ret2
          subst h45
          simp (disch := first | omega | (simp only [Lx]; omega)) only [go_sem, simprocAttr, e45, na, nb, nc, nd, hm', hz]
          (repeat (first | (with_reducible refine gskip_of ?_) | (with_reducible refine gcskip_of ?_) | (with_reducible refine gopen_of ?_)) <;> simp (disch := first | omega | (simp only [Lx]; omega)) only [go_sem, simprocAttr, e45, na, nb, nc, nd, hm', hz])
          rw [show (0 : Int) - (m : Int) = -(m : Int) by omega]
          exact ret2 _ _
        · have h45' : ¬ ((s.toNat : Int) = 45) := fun e => h45 (UInt8.toNat.inj (by show _ = 45; omega))
          by_cases h43 : s = 43
          · have ret2 := ret (signA (some ⟨w, tm, (m : Int)⟩)) (by rw [hzo, if_pos ⟨h60, .inl h43, hz⟩, if_neg h45]; rfl)
            unfold signA sgA at ret2
            subst h43
            simp (disch := first | omega | (simp only [Lx]; omega)) only [go_sem, simprocAttr, e43, na, nb, nc, nd, hm', hz]
            (repeat (first | (with_reducible refine gskip_of ?_) | (with_reducible refine gcskip_of ?_) | (with_reducible refine gopen_of ?_)) <;> simp (disch := first | omega | (simp only [Lx]; omega)) only [go_sem, simprocAttr, e43, na, nb, nc, nd, hm', hz])
            exact ret2 _ _
          · have h43' : ¬ ((s.toNat : Int) = 43) := fun e => h43 (UInt8.toNat.inj (by show _ = 43; omega))
            have bad2 := bad (by rw [hzo, if_neg (fun h => h.2.1.elim h43 h45)])
            simp (disch := first | omega | (simp only [Lx]; omega)) only [go_sem, simprocAttr, na, nb, nc, nd, hm']
            (repeat (first | (with_reducible refine gskip_of ?_) | (with_reducible refine gcskip_of ?_) | (with_reducible refine gopen_of ?_)) <;> simp (disch := first | omega | (simp only [Lx]; omega)) only [go_sem, simprocAttr, na, nb, nc, nd, hm'])
            exact bad2 _ _
    · have bad2 := bad (by rw [hzo, if_neg (fun h => h60 h.1)])
      simp (disch := first | omega | (simp only [Lx]; omega)) only [go_sem, simprocAttr, na, nb, nc, nd, hm']
      (repeat (first | (with_reducible refine gskip_of ?_) | (with_reducible refine gcskip_of ?_) | (with_reducible refine gopen_of ?_)) <;> simp (disch := first | omega | (simp only [Lx]; omega)) only [go_sem, simprocAttr, na, nb, nc, nd, hm'])
      exact bad2 _ _
theorem dread_ok (l : Bs) (hl : l.length ≤ 1000000000000) : SpecR Tryd.prog 38 [.str l] (signA (signL l)) := by
  refine Cod.dread_spec (fun E R hN hR => ?_)
  have ret : ∀ x, signA (signL l) = x → ∀ h0 a, R h0 x [a] := fun x h h0 a => hR.wk (h' := []) (r' := x) (ar' := [a]) rfl (.le (by simp (disch := first | omega | (simp only [Lx]; omega)) only [go_sem, simprocAttr])) ⟨rfl, by rw [h]⟩
  simp (disch := first | omega | (simp only [Lx]; omega)) only [go_sem, simprocAttr]
  refine vcW_loop hN (fun k : Nat => ⟨[(0, .str l), (2, .vptr 26002 0), (4, .sl 26014 0 (posL l k).length), (5, .int .i64 k)], [(26002, .var [.str [], .int .i64 0, .int .i64 0]), (26014, .arr 1 ((posL l k).map (.int .i64)))]⟩) (fun k => k ≤ l.length) (fun k => l.length - k) 0 (.le (by simp (disch := first | omega | (simp only [Lx]; omega)) only [go_sem, simprocAttr, posL])) (by omega) ?_
  rintro k R1 hk hR1
  have hpl := posL_len l k
  by_cases hlt : k < l.length
  · by_cases h32 : l.getD k 0 = 32
    · have e32 : ((UInt8.toNat 32 : Nat) : Int) = 32 := rfl
      have fin := fun st' => hR1 (k + 1) st' (by omega) (by omega)
      rw [posL_yes h32, List.length_append, List.map_append] at fin
      simp only [List.length_cons, List.length_nil, List.map_cons, List.map_nil] at fin
      simp (disch := first | omega | (simp only [Lx]; omega)) only [go_sem, simprocAttr, h32, e32]
      exact fin _ (.le (by simp (disch := first | omega | (simp only [Lx]; omega)) only [go_sem, simprocAttr]))
    · have h32' : ¬ (((l.getD k 0).toNat : Int) = 32) := fun e => h32 (UInt8.toNat.inj (by show _ = 32; omega))
      have fin := fun st' => hR1 (k + 1) st' (by omega) (by omega)
      rw [posL_skip h32] at fin
      simp (disch := first | omega | (simp only [Lx]; omega)) only [go_sem, simprocAttr, h32']
      exact fin _ (.le (by simp (disch := first | omega | (simp only [Lx]; omega)) only [go_sem, simprocAttr]))
  · obtain rfl : k = l.length := by omega
    rcases lcut_pos l with ⟨e, hp⟩ | ⟨j, hj, e, hp⟩
    · have ret := ret (signA none) (by unfold signL; rw [e])
      unfold signA sgA at ret
      rw [hp]
      simp (disch := first | omega | (simp only [Lx]; omega)) only [go_sem, simprocAttr]
      exact ret _ _
    rcases lcut_pos (l.take j) with ⟨e', hp'⟩ | ⟨i, hi, e', hp'⟩
    · have ret := ret (signA none) (by unfold signL; rw [e]; simp only; rw [e'])
      unfold signA sgA at ret
      rw [hp, hp']
      simp (disch := first | omega | (simp only [Lx]; omega)) only [go_sem, simprocAttr]
      exact ret _ _
    rw [hp'] at hp
    have hsg : signL l = signU (l.take i) ((l.take j).drop (i + 1)) (l.drop (j + 1)) := by
      rw [List.length_take] at hi
      have ett : (l.take j).take i = l.take i := by rw [List.take_take, Nat.min_eq_left (show i ≤ j by omega)]
      rw [← ett]
      unfold signL; rw [e]; simp only; rw [e']; rfl
    rw [hp]
    generalize posL (List.take i (List.take j l)) (List.take i (List.take j l)).length = P at *
    have hPl : P.length + 2 ≤ l.length := by
      rw [hp] at hpl; simp at hpl; omega
    rw [hsg] at ret
    rw [List.length_take] at hi
    have e1 : ((j : Int)).toNat = j := by omega
    have e2 : ((i : Int) + 1).toNat = i + 1 := by omega
    have e3 : List.take (j - (i + 1)) (List.drop (i + 1) l) = (l.take j).drop (i + 1) := by rw [List.drop_take]
    have g1 : (P ++ [(i : Int)] ++ [(j : Int)]).getD ((P.length : Int) + 1 + 1 - 2).toNat 0 = i := by
      rw [show ((P.length : Int) + 1 + 1 - 2).toNat = P.length by omega]
      simp
    have g2 : (P ++ [(i : Int)] ++ [(j : Int)]).getD ((P.length : Int) + 1 + 1 - 1).toNat 0 = j := by
      rw [show ((P.length : Int) + 1 + 1 - 1).toNat = P.length + 1 by omega]
      simp
    have hnum := dnum_ok ((l.take j).drop (i + 1)) (by rw [List.length_drop, List.length_take]; omega)
    simp (disch := first | omega | (simp only [Lx]; omega)) only [go_sem, simprocAttr, g1, g2, e1, e2, e3]
    generalize hT : (l.take j).drop (i + 1) = T at *
    generalize hZ : l.drop (j + 1) = z at *
    refine call_ro' hnum rfl ?_
    rintro h' v as' ⟨rfl, hv⟩
    unfold signU at ret
    rcases hv with ⟨tm, hn, rfl⟩ | ⟨hn, n, rfl⟩
    · refine ⟨rfl, rfl, ?_⟩
      rw [hn] at ret
      simp only at ret
      have hzl : z.length = l.length - (j + 1) := by rw [← hZ, List.length_drop]
      have hzt : List.take (l.length - (j + 1)) z = z := List.take_of_length_le (by omega)
      by_cases hz5 : z.length = 5
      · have T := dtail_ok (w := l.take i) (tm := tm) hN hz5 hR (fun x hx => by
          have := ret x (by rw [← hx]; cases zoneO z <;> rfl)
          exact this) (rest := (P ++ [(i : Int)] ++ [(j : Int)]).map (.int .i64))
        simp (disch := first | omega | (simp only [Lx]; omega)) only [go_sem, simprocAttr, hZ, e2, hzt, hz5]
        simp (disch := first | omega | (simp only [Lx]; omega)) only [go_sem, simprocAttr] at T
        exact T
      · have hzo : zoneO z = none := by
          unfold zoneO
          split
          · exact absurd rfl hz5
          · rfl
        rw [hzo] at ret
        have ret := ret (signA none) rfl
        unfold signA sgA at ret
        simp (disch := first | omega | (simp only [Lx]; omega)) only [go_sem, simprocAttr, hZ, e2, hzt, hz5]
        exact ret _ _
    · refine ⟨rfl, rfl, ?_⟩
      rw [hn] at ret
      have ret := ret (signA none) rfl
      unfold signA sgA at ret
      simp (disch := first | omega | (simp only [Lx]; omega)) only [go_sem, simprocAttr, hZ, e2]
      (repeat (first | (with_reducible refine gskip_of ?_) | (with_reducible refine gcskip_of ?_) | (with_reducible refine gopen_of ?_)) <;> simp (disch := first | omega | (simp only [Lx]; omega)) only [go_sem, simprocAttr])
      exact ret _ _
end Go.Proofs.YtjpinndnicmokaaDoor.Cm
