/- Commit: the reader: who and when, where it isn't so. -/
import Derived.Test.YtjpinndnicmokaaDoorCmSign
set_option linter.all false
namespace Go.Proofs.YtjpinndnicmokaaDoor.Cm
open Eng Ob
set_option maxRecDepth 10000
theorem zoneT_ne {z : Bs} (h : zoneO z = none) {n : Int} (h0 : -5999 ≤ n) (h1 : n ≤ 5999) : ¬ zoneT n = z := fun e => by
  have := zoneO_zoneT n h0 h1
  rw [e, h] at this; cases this
theorem quo_rng {n : Int} (h0 : -999 ≤ n) (h1 : n ≤ 9999) (h2 : n.tmod 100 < 60) : -639 ≤ n.tdiv 100 * 60 + n.tmod 100 ∧ n.tdiv 100 * 60 + n.tmod 100 ≤ 5999 := by
  have e := Int.mul_tdiv_add_tmod n 100
  by_cases hn : 0 ≤ n
  · rw [Int.tdiv_eq_ediv_of_nonneg hn, Int.tmod_eq_emod_of_nonneg hn] at *
    omega
  · obtain ⟨m, rfl⟩ : ∃ m : Int, n = -m := ⟨-n, by omega⟩
    rw [Int.neg_tdiv, Int.neg_tmod, Int.tdiv_eq_ediv_of_nonneg (by omega), Int.tmod_eq_emod_of_nonneg (by omega)] at *
    omega
theorem quo_ab {n : Int} (h0 : -999 ≤ n) (h1 : n ≤ 9999) : ∃ a b : Int, n.tdiv 100 = a ∧ n.tmod 100 = b ∧ -9 ≤ a ∧ a ≤ 99 ∧ -99 ≤ b ∧ b ≤ 99 := by
  refine ⟨_, _, rfl, rfl, ?_⟩
  by_cases hn : 0 ≤ n
  · rw [Int.tdiv_eq_ediv_of_nonneg hn, Int.tmod_eq_emod_of_nonneg hn] at *
    omega
  · obtain ⟨m, rfl⟩ : ∃ m : Int, n = -m := ⟨-n, by omega⟩
    rw [Int.neg_tdiv, Int.neg_tmod, Int.tdiv_eq_ediv_of_nonneg (by omega), Int.tmod_eq_emod_of_nonneg (by omega)] at *
    omega
theorem atoi_or (s : Bs) : (∃ n, Lib.atoiAll s = .ok n ∧ ∀ v, atoiA s v → v = .tup [.int .i64 n, .lit .nilIface]) ∨ ∀ v, atoiA s v → ∃ n t p, v = .tup [.int .i64 n, .lit (.iface t p)] := by
  unfold atoiA
  cases Lib.atoiAll s
  · rename_i n
    exact .inl ⟨n, rfl, fun v h => h⟩
  · exact .inr fun v h => h
  · exact .inr fun v h => h
theorem tail_no {E : Env} {w r l z : Bs} {i : Nat} {tm : Int} (hz : zoneO z = none) (hz5 : z.length = 5) (hi : i < l.length) (hl : l.length ≤ 140737488351232) (hN : E.N ≤ 1000000) :
    vcW Tryd.prog E Cod.rsign_9 (KQ.dies wrongV) ⟨[(4, .vptr 11004 0), (5, .str l), (7, .int .i64 i), (8, .int .i64 tm), (10, .str z), (59, .bool false), (2000000, .vptr 12007 0), (2000001, .str w)], [(12007, .var [.str r]), (11004, .var [.str [], .int .i64 0, .int .i64 0])]⟩ := by
  have ha := atoi_ok (z.drop 1) (by rw [List.length_drop]; omega)
  have hd1 : (List.drop 1 z).length = 4 := by rw [List.length_drop]; omega
  simp (disch := first | omega | (simp only [Lx]; omega)) only [go_sem, simprocAttr]
  refine call_ro' ha rfl ?_
  rintro h' v as' ⟨rfl, hv⟩
  rcases atoi_or (z.drop 1) with ⟨n, hat, hn⟩ | hn
  · obtain rfl := hn v hv
    refine ⟨rfl, rfl, ?_⟩
    obtain ⟨n0, n1⟩ := atoi4 hd1 hat
    have hq := quo_rng n0 n1
    obtain ⟨a, b, ha0, hb0, a0, a1, b0, b1⟩ := quo_ab n0 n1
    rw [ha0, hb0] at hq
    by_cases hm : b < 60
    · obtain ⟨q0, q1⟩ := hq hm
      simp (disch := first | omega | (simp only [Lx]; omega)) only [go_sem, simprocAttr, ha0, hb0]
      (repeat (first | (with_reducible refine gskip_of ?_) | (with_reducible refine gcskip_of ?_) | (with_reducible refine gopen_of ?_)) <;> simp (disch := first | omega | (simp only [Lx]; omega)) only [go_sem, simprocAttr, ha0, hb0])
      generalize a * 60 + b = zn at *
      obtain ⟨s, r', rfl⟩ : ∃ s r', z = s :: r' := by
        cases z with
        | nil => simp at hz5
        | cons s r' => exact ⟨s, r', rfl⟩
      have fin : ∀ m : Int, -5999 ≤ m → m ≤ 5999 → vcW Tryd.prog E Cod.rsign_13 (KQ.dies wrongV) ⟨[(4, .vptr 11004 0), (10, .str (s :: r')), (12, .vptr 11012 0), (2000000, .vptr 12007 0), (2000001, .str w)], [(11012, .var [.str (l.take i), .int .i64 tm, .int .i64 m]), (12007, .var [.str r]), (11004, .var [.str [], .int .i64 0, .int .i64 0])]⟩ := by
        intro m m0 m1
        have hne := zoneT_ne hz m0 m1
        simp (disch := first | omega | (simp only [Lx]; omega)) only [go_sem, simprocAttr]
        refine call_ro (zone_ok m m0 m1) rfl rfl ?_
        simp (disch := first | omega | (simp only [Lx]; omega)) only [go_sem, simprocAttr]
        exact died
      by_cases hs5 : s = 45
      · subst hs5
        have e45 : ((UInt8.toNat 45 : Nat) : Int) = 45 := rfl
        have := fin (0 - zn) (by omega) (by omega)
        simp (disch := first | omega | (simp only [Lx]; omega)) only [go_sem, simprocAttr, Cod.rsign_jn, e45]
        exact vcW_mid_wk hN _ (.le (by simp (disch := first | omega | (simp only [Lx]; omega)) only [go_sem, simprocAttr])) this
      · have hs45 : ¬ ((s.toNat : Int) = 45) := fun e => hs5 (UInt8.toNat.inj (by show _ = 45; omega))
        have := fin zn (by omega) (by omega)
        simp (disch := first | omega | (simp only [Lx]; omega)) only [go_sem, simprocAttr, Cod.rsign_jn, hs45]
        exact vcW_mid_wk hN _ (.le (by simp (disch := first | omega | (simp only [Lx]; omega)) only [go_sem, simprocAttr])) this
    · simp (disch := first | omega | (simp only [Lx]; omega)) only [go_sem, simprocAttr, ha0, hb0]
      (repeat (first | (with_reducible refine gskip_of ?_) | (with_reducible refine gcskip_of ?_) | (with_reducible refine gopen_of ?_)) <;> simp (disch := first | omega | (simp only [Lx]; omega)) only [go_sem, simprocAttr, ha0, hb0])
      exact died
  · obtain ⟨n, t, p, rfl⟩ := hn v hv
    refine ⟨rfl, rfl, ?_⟩
    simp (disch := first | omega | (simp only [Lx]; omega)) only [go_sem, simprocAttr]
    (repeat (first | (with_reducible refine gskip_of ?_) | (with_reducible refine gcskip_of ?_) | (with_reducible refine gopen_of ?_)) <;> simp (disch := first | omega | (simp only [Lx]; omega)) only [go_sem, simprocAttr])
    exact died
theorem rsign_noL (w s : Bs) (h : lineL w s = none) (hs : s.length ≤ 4000000000000000000) (hw : w.length ≤ 100) :
    Eng.SpecDies Tryd.prog 53 [(12007, .var [.str s])] [.vptr 12007 0, .str w] wrongV := by
  refine Cod.rsign_dies (fun E hN => ?_)
  have hd := rline_no w s h hs hw
  simp (disch := first | omega | (simp only [Lx]; omega)) only [go_sem, simprocAttr]
  refine dc_die [(12007, .var [.str s])] hd (by simp (disch := first | omega | (simp only [Lx]; omega)) only [go_sem, simprocAttr]) ?_
  simp (disch := first | omega | (simp only [Lx]; omega)) only [go_sem, simprocAttr]
theorem rsign_no (w s l r : Bs) (h : lineL w s = some (l, r)) (hl : signL l = none) (hs : s.length ≤ 4000000000000000000) (hll : l.length ≤ 140737488351232) (hw : w.length ≤ 100) :
    Eng.SpecDies Tryd.prog 53 [(12007, .var [.str s])] [.vptr 12007 0, .str w] wrongV := by
  refine Cod.rsign_dies (fun E hN => ?_)
  have hlen := lineL_len h
  have hln := rline_ok w s l r h hs hw
  have hb1 := lastb_ok l (by omega)
  simp (disch := first | omega | (simp only [Lx]; omega)) only [go_sem, simprocAttr]
  refine dc_ret ?_
  refine call_win [(12007, .var [.str s])] hln (by simp (disch := first | omega | (simp only [Lx]; omega)) only [go_sem, simprocAttr]) nofun ?_
  rintro h' v as' ⟨rfl, rfl, rfl⟩
  refine ⟨rfl, rfl, ?_⟩
  unfold signL at hl
  rcases lcut_index l with ⟨hlj, e⟩ | ⟨j, hj, hlj, e⟩
  · rw [hlj] at hb1
    simp (disch := first | omega | (simp only [Lx]; omega)) only [go_sem, simprocAttr]
    refine call_ro hb1 rfl rfl ?_
    simp (disch := first | omega | (simp only [Lx]; omega)) only [go_sem, simprocAttr]
    exact died
  rw [hlj] at hb1
  rw [e] at hl
  simp only at hl
  have hb2 := lastb_ok (l.take j) (by rw [List.length_take]; omega)
  have e1 : ((j : Int)).toNat = j := by omega
  rcases lcut_index (l.take j) with ⟨hli, e'⟩ | ⟨i, hi, hli, e'⟩
  · rw [hli] at hb2
    simp (disch := first | omega | (simp only [Lx]; omega)) only [go_sem, simprocAttr]
    refine call_ro hb1 rfl rfl ?_
    simp (disch := first | omega | (simp only [Lx]; omega)) only [go_sem, simprocAttr]
    refine call_ro hb2 rfl rfl ?_
    simp (disch := first | omega | (simp only [Lx]; omega)) only [go_sem, simprocAttr]
    exact died
  rw [hli] at hb2
  rw [e'] at hl
  simp only at hl
  rw [List.length_take] at hi
  have e2 : ((i : Int) + 1).toNat = i + 1 := by omega
  have e3 : List.take (j - (i + 1)) (List.drop (i + 1) l) = (l.take j).drop (i + 1) := by rw [List.drop_take]
  have ha1 := atoi_ok ((l.take j).drop (i + 1)) (by rw [List.length_drop, List.length_take]; omega)
  simp (disch := first | omega | (simp only [Lx]; omega)) only [go_sem, simprocAttr]
  refine call_ro hb1 rfl rfl ?_
  simp (disch := first | omega | (simp only [Lx]; omega)) only [go_sem, simprocAttr]
  refine call_ro hb2 rfl rfl ?_
  simp (disch := first | omega | (simp only [Lx]; omega)) only [go_sem, simprocAttr, e2, e3]
  refine call_ro' ha1 rfl ?_
  rintro h' v as' ⟨rfl, hv⟩
  generalize hT : (l.take j).drop (i + 1) = T at *
  generalize hZ : l.drop (j + 1) = z at *
  rcases atoi_or T with ⟨tm, hat, hn⟩ | hn
  · obtain rfl := hn v hv
    refine ⟨rfl, rfl, ?_⟩
    have tb := Lib.atoiAll_bounds hat
    have hit := itoa_ok tm tb.1 tb.2
    by_cases hit2 : Lib.itoa tm = T
    · have hnum : numI T = some tm := by unfold numI; rw [hat]; simp only; rw [if_pos hit2]
      rw [hnum] at hl
      simp only at hl
      have hzo : zoneO z = none := by
        cases hz : zoneO z with
        | none => rfl
        | some q => rw [hz] at hl; cases hl
      by_cases hz5 : z.length = 5
      · have T := tail_no (w := w) (r := r) (l := l) (i := i) (tm := tm) hzo hz5 (by omega) (by omega) hN
        have hd1 : (List.drop 1 z).length = 4 := by rw [List.length_drop]; omega
        simp (disch := first | omega | (simp only [Lx]; omega)) only [go_sem, simprocAttr] at T
        simp (disch := first | omega | (simp only [Lx]; omega)) only [go_sem, simprocAttr]
        (repeat (first | (with_reducible refine gskip_of ?_) | (with_reducible refine gcskip_of ?_) | (with_reducible refine gopen_of ?_)) <;> simp (disch := first | omega | (simp only [Lx]; omega)) only [go_sem, simprocAttr])
        refine gcyes_of (callT_ro (by simp (disch := first | omega | (simp only [Lx]; omega)) only [go_sem, simprocAttr]) hit (by simp (disch := first | omega | (simp only [Lx]; omega)) only [go_sem, simprocAttr]) rfl rfl ?_)
        simp (disch := first | omega | (simp only [Lx]; omega)) only [go_sem, simprocAttr, e2, e3, hit2, hZ, hz5]
        (repeat (first | (with_reducible refine gskip_of ?_) | (with_reducible refine gcskip_of ?_) | (with_reducible refine gopen_of ?_)) <;> simp (disch := first | omega | (simp only [Lx]; omega)) only [go_sem, simprocAttr, e2, e3, hit2, hZ, hz5])
        exact T
      · simp (disch := first | omega | (simp only [Lx]; omega)) only [go_sem, simprocAttr]
        (repeat (first | (with_reducible refine gskip_of ?_) | (with_reducible refine gcskip_of ?_) | (with_reducible refine gopen_of ?_)) <;> simp (disch := first | omega | (simp only [Lx]; omega)) only [go_sem, simprocAttr])
        refine gcyes_of (callT_ro (by simp (disch := first | omega | (simp only [Lx]; omega)) only [go_sem, simprocAttr]) hit (by simp (disch := first | omega | (simp only [Lx]; omega)) only [go_sem, simprocAttr]) rfl rfl ?_)
        simp (disch := first | omega | (simp only [Lx]; omega)) only [go_sem, simprocAttr, e2, e3, hit2, hZ, hz5]
        (repeat (first | (with_reducible refine gskip_of ?_) | (with_reducible refine gcskip_of ?_) | (with_reducible refine gopen_of ?_)) <;> simp (disch := first | omega | (simp only [Lx]; omega)) only [go_sem, simprocAttr, e2, e3, hit2, hZ, hz5])
        exact died
    · simp (disch := first | omega | (simp only [Lx]; omega)) only [go_sem, simprocAttr]
      (repeat (first | (with_reducible refine gskip_of ?_) | (with_reducible refine gcskip_of ?_) | (with_reducible refine gopen_of ?_)) <;> simp (disch := first | omega | (simp only [Lx]; omega)) only [go_sem, simprocAttr])
      refine gcyes_of (callT_ro (by simp (disch := first | omega | (simp only [Lx]; omega)) only [go_sem, simprocAttr]) hit (by simp (disch := first | omega | (simp only [Lx]; omega)) only [go_sem, simprocAttr]) rfl rfl ?_)
      simp (disch := first | omega | (simp only [Lx]; omega)) only [go_sem, simprocAttr, e2, e3, hit2, hZ]
      (repeat (first | (with_reducible refine gskip_of ?_) | (with_reducible refine gcskip_of ?_) | (with_reducible refine gopen_of ?_)) <;> simp (disch := first | omega | (simp only [Lx]; omega)) only [go_sem, simprocAttr, e2, e3, hit2, hZ])
      exact died
  · obtain ⟨n, t, p, rfl⟩ := hn v hv
    refine ⟨rfl, rfl, ?_⟩
    simp (disch := first | omega | (simp only [Lx]; omega)) only [go_sem, simprocAttr]
    (repeat (first | (with_reducible refine gskip_of ?_) | (with_reducible refine gcskip_of ?_) | (with_reducible refine gopen_of ?_)) <;> simp (disch := first | omega | (simp only [Lx]; omega)) only [go_sem, simprocAttr])
    exact died
end Go.Proofs.YtjpinndnicmokaaDoor.Cm
