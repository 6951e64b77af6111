/- Commit: the reader: who and when. -/
import Derived.Test.YtjpinndnicmokaaDoorCmRead
set_option linter.all false
namespace Go.Proofs.YtjpinndnicmokaaDoor.Cm
open Eng Ob
set_option maxRecDepth 10000
theorem tail_ok {E : Env} {R : HP → AV → List AV → Prop} {w r l z : Bs} {i : Nat} {tm zn : Int} (hz : zoneO z = some zn) (hi : i < l.length) (hN : E.N ≤ 1000000)
    (hR : PostTo (fun h' x ar => h' = [(12007, .var [.str r])] ∧ x = sgA ⟨l.take i, tm, zn⟩ ∧ ar = [.vptr 12007 0, .str w]) R) :
    vcW Tryd.prog E Cod.rsign_9 (KQ.post [.cell 4 true 3] 2 R) ⟨[(4, .vptr 11004 0), (5, .str l), (7, .int .i64 i), (8, .int .i64 tm), (10, .str z), (59, .bool false), (2000000, .vptr 12007 0), (2000001, .str w)], [(12007, .var [.str r]), (11004, .var [.str [], .int .i64 0, .int .i64 0])]⟩ := by
  obtain ⟨zz, z0, z1⟩ := zoneO_some hz
  have hzo := zone_ok zn z0 z1
  unfold zoneO at hz
  split at hz
  · rename_i s a b c d
    split at hz
    · rename_i hd
      obtain ⟨da, db, dc, dd⟩ := hd
      split at hz
      · rename_i hc
        obtain ⟨hm, hs, _⟩ := hc
        have hn := Option.some.inj hz
        have la := dv_lt da; have lb := dv_lt db; have lc := dv_lt dc; have ld := dv_lt dd
        have hat := digits4 da db dc dd
        obtain ⟨n, hn4⟩ : ∃ n : Nat, dv a * 1000 + dv b * 100 + dv c * 10 + dv d = n := ⟨_, rfl⟩
        rw [hn4] at hat
        have ha := atoi_ok [a, b, c, d] (by simp)
        obtain ⟨m, hmm⟩ : ∃ m : Nat, n / 100 * 60 + n % 100 = m := ⟨_, rfl⟩
        have hm1 : m = 60 * (dv a * 10 + dv b) + (dv c * 10 + dv d) := by omega
        rw [← hm1] at hn
        rw [zz] at hzo
        simp (disch := first | omega | (simp only [Lx]; omega)) only [go_sem, simprocAttr]
        refine call_ro' ha rfl ?_
        rintro h' v as' ⟨rfl, hv⟩
        unfold atoiA at hv
        rw [hat] at hv
        simp only at hv
        subst hv
        refine ⟨rfl, rfl, ?_⟩
        have hmod : n % 100 < 60 := by omega
        have e1 : (n : Int) / 100 * 60 + (n : Int) % 100 = (m : Int) := by omega
        simp (disch := first | omega | (simp only [Lx]; omega)) only [go_sem, simprocAttr]
        (repeat (first | (with_reducible refine gskip_of ?_) | (with_reducible refine gcskip_of ?_) | (with_reducible refine gopen_of ?_)) <;> simp (disch := first | omega | (simp only [Lx]; omega)) only [go_sem, simprocAttr])
        simp (disch := first | omega | (simp only [Lx]; omega)) only [go_sem, simprocAttr, e1]
        simp (disch := first | omega | (simp only [Lx]; omega)) only [go_sem, simprocAttr, Cod.rsign_jn]
        by_cases hs5 : s = 45
        · subst hs5
          rw [if_pos rfl] at hn
          rw [← hn] at hzo hR
          have e45 : ((UInt8.toNat 45 : Nat) : Int) = 45 := rfl
          simp (disch := first | omega | (simp only [Lx]; omega)) only [go_sem, simprocAttr, e45]
          refine vcW_mid hN ?_
          simp (disch := first | omega | (simp only [Lx]; omega)) only [go_sem, simprocAttr]
          rw [show (0 : Int) - (m : Int) = -(m : Int) by omega]
          refine call_ro hzo rfl rfl ?_
          simp (disch := first | omega | (simp only [Lx]; omega)) only [go_sem, simprocAttr]
          exact hR.wk (h' := [(12007, .var [.str r])]) (r' := sgA ⟨l.take i, tm, -(m : Int)⟩) (ar' := [.vptr 12007 0, .str w]) rfl (.le (by simp (disch := first | omega | (simp only [Lx]; omega)) only [go_sem, simprocAttr, sgA])) ⟨rfl, rfl, rfl⟩
        · rw [if_neg hs5] at hn
          rw [← hn] at hzo hR
          have hs45 : ¬ ((s.toNat : Int) = 45) := fun e => hs5 (UInt8.toNat.inj (by show _ = 45; omega))
          simp (disch := first | omega | (simp only [Lx]; omega)) only [go_sem, simprocAttr, hs45]
          refine vcW_mid hN ?_
          simp (disch := first | omega | (simp only [Lx]; omega)) only [go_sem, simprocAttr]
          refine call_ro hzo rfl rfl ?_
          simp (disch := first | omega | (simp only [Lx]; omega)) only [go_sem, simprocAttr]
          exact hR.wk (h' := [(12007, .var [.str r])]) (r' := sgA ⟨l.take i, tm, (m : Int)⟩) (ar' := [.vptr 12007 0, .str w]) rfl (.le (by simp (disch := first | omega | (simp only [Lx]; omega)) only [go_sem, simprocAttr, sgA])) ⟨rfl, rfl, rfl⟩
      · cases hz
    · cases hz
  · cases hz
theorem rsign_ok (w s l r : Bs) (sg : Sg) (h : lineL w s = some (l, r)) (hl : signL l = some sg) (hs : s.length ≤ 4000000000000000000) (hll : l.length ≤ 140737488351232) (hw : w.length ≤ 100) :
    Eng.Spec Tryd.prog 53 [(12007, .var [.str s])] [.vptr 12007 0, .str w] (fun h' x ar => h' = [(12007, .var [.str r])] ∧ x = sgA sg ∧ ar = [.vptr 12007 0, .str w]) := by
  refine Cod.rsign_spec (fun E R hN hR => ?_)
  have hlen := lineL_len h
  have hln := rline_ok w s l r h hs hw
  obtain ⟨sT, ⟨t0, t1⟩, z0, z1⟩ := signL_some hl
  unfold signL at hl
  split at hl
  · cases hl
  rename_i x z hx
  split at hl
  · cases hl
  rename_i wh t hw2
  split at hl
  · cases hl
  rename_i tm ht
  split at hl
  · cases hl
  rename_i zn hz
  obtain rfl := Option.some.inj hl
  simp only at t0 t1 z0 z1
  rcases lcut_index l with ⟨_, e⟩ | ⟨j, hj, hlj, e⟩
  · rw [hx] at e; cases e
  rw [hx] at e
  obtain ⟨rfl, rfl⟩ := Prod.mk.inj (Option.some.inj e)
  rcases lcut_index (l.take j) with ⟨_, e⟩ | ⟨i, hi, hli, e⟩
  · rw [hw2] at e; cases e
  rw [hw2] at e
  obtain ⟨rfl, rfl⟩ := Prod.mk.inj (Option.some.inj e)
  rw [List.length_take] at hi
  obtain ⟨n1, n2, _, _⟩ := numI_some ht
  obtain ⟨zz, _, _⟩ := zoneO_some hz
  have hb1 := lastb_ok l (by omega)
  have hb2 := lastb_ok (l.take j) (by rw [List.length_take]; omega)
  rw [hlj] at hb1
  rw [hli] at hb2
  have ha1 := atoi_ok ((l.take j).drop (i + 1)) (by rw [List.length_drop, List.length_take]; omega)
  have hit := itoa_ok tm t0 t1
  have e1 : ((j : Int)).toNat = j := by omega
  have e2 : ((i : Int) + 1).toNat = i + 1 := by omega
  have e3 : List.take (j - (i + 1)) (List.drop (i + 1) l) = (l.take j).drop (i + 1) := by rw [List.drop_take]
  simp (disch := first | omega | (simp only [Lx]; omega)) only [go_sem, simprocAttr]
  refine dc_ret ?_
  refine call_win [(12007, .var [.str s])] hln (by simp (disch := first | omega | (simp only [Lx]; omega)) only [go_sem, simprocAttr]) nofun ?_
  rintro h' v as' ⟨rfl, rfl, rfl⟩
  refine ⟨rfl, rfl, ?_⟩
  simp (disch := first | omega | (simp only [Lx]; omega)) only [go_sem, simprocAttr]
  refine call_ro hb1 rfl rfl ?_
  simp (disch := first | omega | (simp only [Lx]; omega)) only [go_sem, simprocAttr]
  refine call_ro hb2 rfl rfl ?_
  simp (disch := first | omega | (simp only [Lx]; omega)) only [go_sem, simprocAttr, e2, e3]
  refine call_ro' ha1 rfl ?_
  rintro h' v as' ⟨rfl, hv⟩
  unfold atoiA at hv
  rw [n2] at hv
  simp only at hv
  subst hv
  refine ⟨rfl, rfl, ?_⟩
  generalize hT : (l.take j).drop (i + 1) = T at *
  generalize hZ : l.drop (j + 1) = z at *
  have hz5 : z.length = 5 := by rw [← zz]; rfl
  simp (disch := first | omega | (simp only [Lx]; omega)) only [go_sem, simprocAttr]
  (repeat (first | (with_reducible refine gskip_of ?_) | (with_reducible refine gcskip_of ?_) | (with_reducible refine gopen_of ?_)) <;> simp (disch := first | omega | (simp only [Lx]; omega)) only [go_sem, simprocAttr])
  refine gcyes_of (callT_ro (by simp (disch := first | omega | (simp only [Lx]; omega)) only [go_sem, simprocAttr]) hit (by simp (disch := first | omega | (simp only [Lx]; omega)) only [go_sem, simprocAttr]) rfl rfl ?_)
  simp (disch := first | omega | (simp only [Lx]; omega)) only [go_sem, simprocAttr, e2, e3, n1, hZ, hz5]
  (repeat (first | (with_reducible refine gskip_of ?_) | (with_reducible refine gcskip_of ?_) | (with_reducible refine gopen_of ?_)) <;> simp (disch := first | omega | (simp only [Lx]; omega)) only [go_sem, simprocAttr, e2, e3, n1, hZ, hz5])
  rw [List.take_take, Nat.min_eq_left (by omega)] at hR
  have T := tail_ok (w := w) (r := r) (l := l) (i := i) (tm := tm) hz (by omega) hN hR
  have hd1 : (List.drop 1 z).length = 4 := by rw [List.length_drop]; omega
  simp (disch := first | omega | (simp only [Lx]; omega)) only [go_sem, simprocAttr] at T
  exact T
end Go.Proofs.YtjpinndnicmokaaDoor.Cm
