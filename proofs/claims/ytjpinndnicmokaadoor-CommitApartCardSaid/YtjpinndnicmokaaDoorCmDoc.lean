/- Commit: the document's lines, signs, checks and bytes. -/
import Derived.Test.YtjpinndnicmokaaDoorCmLine
set_option linter.all false
namespace Go.Proofs.YtjpinndnicmokaaDoor.Cm
open Eng Ob
set_option maxRecDepth 10000
theorem dline_ok (s : Bs) (hs : s.length ≤ 9223372036854775807) : SpecR Tryd.prog 15 [.str s] (.bool (lineP s)) := by
  refine Cod.dline_spec (fun E R hN hR => ?_)
  have c10 := Lib.contains_iff_indexByte s 10
  have c0 := Lib.contains_iff_indexByte s 0
  have yes : lineP s = true → R [] (.bool true) [.undef] := fun h => hR.ro ⟨rfl, by rw [h]⟩
  have no : lineP s = false → R [] (.bool false) [.undef] := fun h => hR.ro ⟨rfl, by rw [h]⟩
  have f10 : SpecR Tryd.prog 33 [.str s, .int .u8 10] (.int .i64 (Lib.indexByte s 10)) := find_ok s 10 hs
  have f0 : SpecR Tryd.prog 33 [.str s, .int .u8 0] (.int .i64 (Lib.indexByte s 0)) := find_ok s 0 hs
  unfold lineP at yes no
  by_cases h1 : 1 ≤ s.length
  · by_cases h2 : s.length ≤ 100
    · simp (disch := first | omega | (simp only [Lx]; omega)) only [go_sem, simprocAttr]
      (repeat (first | (with_reducible refine gskip_of ?_) | (with_reducible refine gcskip_of ?_) | (with_reducible refine gopen_of ?_)) <;> simp (disch := first | omega | (simp only [Lx]; omega)) only [go_sem, simprocAttr])
      refine gcyes_of (callT_ro (by simp (disch := first | omega | (simp only [Lx]; omega)) only [go_sem, simprocAttr]) f10 (by simp (disch := first | omega | (simp only [Lx]; omega)) only [go_sem, simprocAttr]) rfl rfl ?_)
      by_cases h3 : Lib.indexByte s 10 < 0
      · rw [decide_eq_false (by omega)] at c10
        simp (disch := first | omega | (simp only [Lx]; omega)) only [go_sem, simprocAttr]
        (repeat (first | (with_reducible refine gskip_of ?_) | (with_reducible refine gcskip_of ?_) | (with_reducible refine gopen_of ?_)) <;> simp (disch := first | omega | (simp only [Lx]; omega)) only [go_sem, simprocAttr])
        refine gcyes_of (callT_ro (by simp (disch := first | omega | (simp only [Lx]; omega)) only [go_sem, simprocAttr]) f0 (by simp (disch := first | omega | (simp only [Lx]; omega)) only [go_sem, simprocAttr]) rfl rfl ?_)
        by_cases h4 : Lib.indexByte s 0 < 0
        · rw [decide_eq_false (by omega)] at c0
          have yes := yes (by simp only [h1, h2, c10, c0, decide_true]; rfl)
          simp (disch := first | omega | (simp only [Lx]; omega)) only [go_sem, simprocAttr]
          exact yes
        · rw [decide_eq_true (by omega)] at c0
          have no := no (by simp only [h1, h2, c10, c0, decide_true]; rfl)
          simp (disch := first | omega | (simp only [Lx]; omega)) only [go_sem, simprocAttr]
          exact no
      · rw [decide_eq_true (by omega)] at c10
        have no := no (by simp only [h1, h2, c10, decide_true]; rfl)
        simp (disch := first | omega | (simp only [Lx]; omega)) only [go_sem, simprocAttr]
        (repeat (first | (with_reducible refine gskip_of ?_) | (with_reducible refine gcskip_of ?_) | (with_reducible refine gopen_of ?_)) <;> simp (disch := first | omega | (simp only [Lx]; omega)) only [go_sem, simprocAttr])
        exact no
    · have no := no (by simp only [h1, h2, decide_true, decide_false]; rfl)
      simp (disch := first | omega | (simp only [Lx]; omega)) only [go_sem, simprocAttr]
      (repeat (first | (with_reducible refine gskip_of ?_) | (with_reducible refine gcskip_of ?_) | (with_reducible refine gopen_of ?_)) <;> simp (disch := first | omega | (simp only [Lx]; omega)) only [go_sem, simprocAttr])
      exact no
  · have no := no (by simp only [h1, decide_false]; rfl)
    simp (disch := first | omega | (simp only [Lx]; omega)) only [go_sem, simprocAttr]
    (repeat (first | (with_reducible refine gskip_of ?_) | (with_reducible refine gcskip_of ?_) | (with_reducible refine gopen_of ?_)) <;> simp (disch := first | omega | (simp only [Lx]; omega)) only [go_sem, simprocAttr])
    exact no
theorem dsigned_ok (s : Sg) (hs : s.who.length ≤ 9223372036854775807) : SpecR Tryd.prog 20 [sgA s] (.bool (signedP s)) := by
  refine Cod.dsigned_spec (fun E R hN hR => ?_)
  have yes : signedP s = true → ∀ h0, R h0 (.bool true) [.undef] := fun h h0 => hR.wk (h' := []) (r' := .bool true) (ar' := [.undef]) rfl (.le (by simp (disch := first | omega | (simp only [Lx]; omega)) only [go_sem, simprocAttr])) ⟨rfl, by rw [h]⟩
  have no : signedP s = false → ∀ h0, R h0 (.bool false) [.undef] := fun h h0 => hR.wk (h' := []) (r' := .bool false) (ar' := [.undef]) rfl (.le (by simp (disch := first | omega | (simp only [Lx]; omega)) only [go_sem, simprocAttr])) ⟨rfl, by rw [h]⟩
  unfold signedP at yes no
  simp (disch := first | omega | (simp only [Lx]; omega)) only [go_sem, simprocAttr, sgA]
  refine call_ro (dline_ok s.who hs) rfl rfl ?_
  cases h1 : lineP s.who with
  | false =>
    have no := no (by simp [h1])
    simp (disch := first | omega | (simp only [Lx]; omega)) only [go_sem, simprocAttr]
    (repeat (first | (with_reducible refine gskip_of ?_) | (with_reducible refine gcskip_of ?_) | (with_reducible refine gopen_of ?_)) <;> simp (disch := first | omega | (simp only [Lx]; omega)) only [go_sem, simprocAttr])
    exact no _
  | true =>
    by_cases h2 : 0 ≤ s.time
    · by_cases h3 : s.time ≤ 253402300799
      · by_cases h4 : -840 ≤ s.zone
        · by_cases h5 : s.zone ≤ 840
          · have yes := yes (by simp [h1, h2, h3, h4, h5])
            simp (disch := first | omega | (simp only [Lx]; omega)) only [go_sem, simprocAttr]
            (repeat (first | (with_reducible refine gskip_of ?_) | (with_reducible refine gcskip_of ?_) | (with_reducible refine gopen_of ?_)) <;> simp (disch := first | omega | (simp only [Lx]; omega)) only [go_sem, simprocAttr])
            exact yes _
          · have no := no (by simp [h1, h2, h3, h4, h5])
            simp (disch := first | omega | (simp only [Lx]; omega)) only [go_sem, simprocAttr]
            (repeat (first | (with_reducible refine gskip_of ?_) | (with_reducible refine gcskip_of ?_) | (with_reducible refine gopen_of ?_)) <;> simp (disch := first | omega | (simp only [Lx]; omega)) only [go_sem, simprocAttr])
            exact no _
        · have no := no (by simp [h1, h2, h3, h4])
          simp (disch := first | omega | (simp only [Lx]; omega)) only [go_sem, simprocAttr]
          (repeat (first | (with_reducible refine gskip_of ?_) | (with_reducible refine gcskip_of ?_) | (with_reducible refine gopen_of ?_)) <;> simp (disch := first | omega | (simp only [Lx]; omega)) only [go_sem, simprocAttr])
          exact no _
      · have no := no (by simp [h1, h2, h3])
        simp (disch := first | omega | (simp only [Lx]; omega)) only [go_sem, simprocAttr]
        (repeat (first | (with_reducible refine gskip_of ?_) | (with_reducible refine gcskip_of ?_) | (with_reducible refine gopen_of ?_)) <;> simp (disch := first | omega | (simp only [Lx]; omega)) only [go_sem, simprocAttr])
        exact no _
    · have no := no (by simp [h1, h2])
      simp (disch := first | omega | (simp only [Lx]; omega)) only [go_sem, simprocAttr]
      (repeat (first | (with_reducible refine gskip_of ?_) | (with_reducible refine gcskip_of ?_) | (with_reducible refine gopen_of ?_)) <;> simp (disch := first | omega | (simp only [Lx]; omega)) only [go_sem, simprocAttr])
      exact no _
theorem two_ok (n : Nat) (h : n < 100) : SpecR Tryd.prog 40 [.int .i64 (n : Int)] (.str (tw n)) := by
  refine Cod.two_spec (fun E R hN hR => ?_)
  have hd := rdig_ok (n : Int) (by omega) (by omega)
  rw [Lib.itoa_nonneg] at hd
  unfold tw at hR
  by_cases h1 : n < 10
  · have e := dec_small h1
    rw [e] at hd
    simp (disch := first | omega | (simp only [Lx]; omega)) only [go_sem, simprocAttr]
    refine call_ro hd rfl rfl ?_
    simp (disch := first | omega | (simp only [Lx]; omega)) only [go_sem, simprocAttr]
    refine hR.ro ⟨rfl, ?_⟩
    rw [show n / 10 = 0 by omega, show n % 10 = n by omega]; rfl
  · have e := dec_big h1
    rw [dec_small (n := n / 10) (by omega)] at e
    rw [e] at hd
    simp (disch := first | omega | (simp only [Lx]; omega)) only [go_sem, simprocAttr]
    refine call_ro hd rfl rfl ?_
    simp (disch := first | omega | (simp only [Lx]; omega)) only [go_sem, simprocAttr]
    exact hR.ro ⟨rfl, rfl⟩
theorem dsign_ok (s : Sg) (h : SgOK s) (hs : s.who.length ≤ 140737488351232) : SpecR Tryd.prog 21 [sgA s] (.str (signT s)) := by
  refine Cod.dsign_spec (fun E R hN hR => ?_)
  obtain ⟨t1, z1, z2⟩ := h
  have hl := itoa_len s.time t1.2 t1.1
  have hd := rdig_ok s.time t1.1 t1.2
  unfold signT zoneT at hR
  have fin : ∀ (m : Nat) (g : UInt8) (ys : List (Nat × AV)), s.zone.natAbs = m → m ≤ 5999 → (if s.zone < 0 then (45 : UInt8) else 43) = g →
      vcW Tryd.prog E (.mid Cod.dsign_4) (KQ.post [.tmp 2] 1 R) ⟨(1, .vptr 19001 0) :: (3, .str [g]) :: (4, .int .i64 (m : Int)) :: ys, [(19001, .var [.str s.who, .int .i64 s.time, .int .i64 s.zone])]⟩ := by
    intro m g ys hm hb hg
    rw [hm, hg] at hR
    have w1 := two_ok (m / 60) (by omega)
    have w2 := two_ok (m % 60) (by omega)
    have l1 : (tw (m / 60)).length = 2 := rfl
    have l2 : (tw (m % 60)).length = 2 := rfl
    refine vcW_mid hN ?_
    simp (disch := first | omega | (simp only [Lx]; omega)) only [go_sem, simprocAttr]
    refine call_ro hd rfl rfl ?_
    simp (disch := first | omega | (simp only [Lx]; omega)) only [go_sem, simprocAttr]
    refine call_ro w1 rfl rfl ?_
    simp (disch := first | omega | (simp only [Lx]; omega)) only [go_sem, simprocAttr]
    refine call_ro w2 rfl rfl ?_
    simp (disch := first | omega | (simp only [Lx]; omega)) only [go_sem, simprocAttr]
    have e : s.who ++ [32] ++ Lib.itoa s.time ++ [32] ++ [g] ++ tw (m / 60) ++ tw (m % 60) = s.who ++ 32 :: (Lib.itoa s.time ++ 32 :: g :: (tw (m / 60) ++ tw (m % 60))) := by simp
    rw [e]
    exact hR.wk (h' := []) (r' := .str (s.who ++ 32 :: (Lib.itoa s.time ++ 32 :: g :: (tw (m / 60) ++ tw (m % 60))))) (ar' := [.undef]) rfl (.le (by simp (disch := first | omega | (simp only [Lx]; omega)) only [go_sem, simprocAttr])) ⟨rfl, rfl⟩
  by_cases h : s.zone < 0
  · simp (disch := first | omega | (simp only [Lx]; omega)) only [go_sem, simprocAttr, sgA, Cod.dsign_jn]
    have := fin s.zone.natAbs 45 [] rfl (by omega) (by rw [if_pos h])
    rw [show ((s.zone.natAbs : Nat) : Int) = 0 - s.zone by omega] at this
    exact this
  · simp (disch := first | omega | (simp only [Lx]; omega)) only [go_sem, simprocAttr, sgA, Cod.dsign_jn]
    have := fin s.zone.natAbs 43 [(8, .bool false)] rfl (by omega) (by rw [if_neg h])
    rw [show ((s.zone.natAbs : Nat) : Int) = s.zone by omega] at this
    exact this
theorem dcheck_ok (c : Cmt) (hs : CmSz c) : SpecR Tryd.prog 11 [cmA c] (.int .i64 (checkP c)) := by
  refine Cod.dcheck_spec (fun E R hN hR => ?_)
  obtain ⟨s1, ⟨s2, s3⟩, s4, s5, s6⟩ := hs
  have ret : ∀ v, checkP c = v → ∀ h0 a, R h0 (.int .i64 v) [a] := fun v h h0 a => hR.wk (h' := []) (r' := .int .i64 v) (ar' := [a]) rfl (.le (by simp (disch := first | omega | (simp only [Lx]; omega)) only [go_sem, simprocAttr])) ⟨rfl, by rw [h]⟩
  unfold checkP at ret
  by_cases h1 : 16 < c.parents.length
  · have ret := ret 2 (if_pos h1)
    simp (disch := first | omega | (simp only [Lx]; omega)) only [go_sem, simprocAttr, cmA]
    exact ret _ _
  rw [if_neg h1] at ret
  simp (disch := first | omega | (simp only [Lx]; omega)) only [go_sem, simprocAttr, cmA]
  refine vcW_loop hN (fun k : Nat => ⟨[(1, .vptr 20001 0), (10, .ro 1 (c.parents.map .str)), (11, .int .i64 c.parents.length), (12, .int .i64 k)], [(20001, .var [.str c.tree, .ro 1 (c.parents.map .str), .str c.author.who, .int .i64 c.author.time, .int .i64 c.author.zone, .str c.committer.who, .int .i64 c.committer.time, .int .i64 c.committer.zone, .str c.msg])]⟩) (fun k => k ≤ c.parents.length ∧ (c.parents.take k).all idP = true) (fun k => c.parents.length - k) 0 (.le (by simp (disch := first | omega | (simp only [Lx]; omega)) only [go_sem, simprocAttr])) ⟨by omega, by simp⟩ ?_
  rintro k R1 ⟨hk, hall⟩ hR1
  by_cases hlt : k < c.parents.length
  · have hp := s3 (c.parents.getD k []) (getD_memB [] _ hlt)
    have htk := take_all c.parents hlt
    rw [hall, Bool.true_and] at htk
    simp (disch := first | omega | (simp only [Lx]; omega)) only [go_sem, simprocAttr]
    refine call_ro (did_ok _ (by omega)) rfl rfl ?_
    cases hi : idP (c.parents.getD k []) with
    | false =>
      rw [hi] at htk
      have ret := ret 4 (if_neg (fun h => by rw [take_all_no htk] at h; exact absurd h.1 (by decide)))
      simp (disch := first | omega | (simp only [Lx]; omega)) only [go_sem, simprocAttr]
      exact ret _ _
    | true =>
      rw [hi] at htk
      simp (disch := first | omega | (simp only [Lx]; omega)) only [go_sem, simprocAttr]
      exact hR1 (k + 1) _ (by omega) ⟨by omega, htk⟩ (.le (by simp (disch := first | omega | (simp only [Lx]; omega)) only [go_sem, simprocAttr]))
  · obtain rfl : k = c.parents.length := by omega
    rw [List.take_of_length_le (by omega)] at hall
    have bad : (idP c.tree && signedP c.author && signedP c.committer) = false → ∀ h0 a, R h0 (.int .i64 4) [a] := fun h => ret 4 (if_neg (fun g => by rw [g.2.1, g.2.2.1, g.2.2.2] at h; cases h))
    simp (disch := first | omega | (simp only [Lx]; omega)) only [go_sem, simprocAttr]
    refine call_ro (did_ok c.tree (by omega)) rfl rfl ?_
    cases h2 : idP c.tree with
    | false =>
      have bad := bad (by rw [h2]; rfl)
      simp (disch := first | omega | (simp only [Lx]; omega)) only [go_sem, simprocAttr]
      (repeat (first | (with_reducible refine gskip_of ?_) | (with_reducible refine gcskip_of ?_) | (with_reducible refine gopen_of ?_)) <;> simp (disch := first | omega | (simp only [Lx]; omega)) only [go_sem, simprocAttr])
      exact bad _ _
    | true =>
      simp (disch := first | omega | (simp only [Lx]; omega)) only [go_sem, simprocAttr]
      (repeat (first | (with_reducible refine gskip_of ?_) | (with_reducible refine gcskip_of ?_) | (with_reducible refine gopen_of ?_)) <;> simp (disch := first | omega | (simp only [Lx]; omega)) only [go_sem, simprocAttr])
      refine gcyes_of (callT_ro (by simp (disch := first | omega | (simp only [Lx]; omega)) only [go_sem, simprocAttr, sgA]) (dsigned_ok c.author (by omega)) (by simp (disch := first | omega | (simp only [Lx]; omega)) only [go_sem, simprocAttr]) rfl rfl ?_)
      cases h3 : signedP c.author with
      | false =>
        have bad := bad (by rw [h2, h3]; rfl)
        simp (disch := first | omega | (simp only [Lx]; omega)) only [go_sem, simprocAttr]
        (repeat (first | (with_reducible refine gskip_of ?_) | (with_reducible refine gcskip_of ?_) | (with_reducible refine gopen_of ?_)) <;> simp (disch := first | omega | (simp only [Lx]; omega)) only [go_sem, simprocAttr])
        exact bad _ _
      | true =>
        simp (disch := first | omega | (simp only [Lx]; omega)) only [go_sem, simprocAttr]
        (repeat (first | (with_reducible refine gskip_of ?_) | (with_reducible refine gcskip_of ?_) | (with_reducible refine gopen_of ?_)) <;> simp (disch := first | omega | (simp only [Lx]; omega)) only [go_sem, simprocAttr])
        refine gcyes_of (callT_ro (by simp (disch := first | omega | (simp only [Lx]; omega)) only [go_sem, simprocAttr, sgA]) (dsigned_ok c.committer (by omega)) (by simp (disch := first | omega | (simp only [Lx]; omega)) only [go_sem, simprocAttr]) rfl rfl ?_)
        cases h4 : signedP c.committer with
        | false =>
          have bad := bad (by rw [h2, h3, h4]; rfl)
          simp (disch := first | omega | (simp only [Lx]; omega)) only [go_sem, simprocAttr]
          exact bad _ _
        | true =>
          have ret := ret 0 (if_pos ⟨hall, h2, h3, h4⟩)
          simp (disch := first | omega | (simp only [Lx]; omega)) only [go_sem, simprocAttr]
          exact ret _ _
theorem dtext_ok (c : Cmt) (hs : CmSz c) (hok : checkP c = 0) : SpecR Tryd.prog 18 [cmA c] (.str (textP c)) := by
  have hs' := hs
  obtain ⟨s1, ⟨s2, s3⟩, s4, s5, s6⟩ := hs
  refine Cod.dtext_spec (fun E R hN hR => ?_)
  obtain ⟨z1, z2, z3⟩ := checkP_sz hs' hok
  obtain ⟨_, _, _, h2, h3⟩ := checkP_ok hok
  have ha := dsign_ok c.author (signedP_sg h2) (by omega)
  have hb := dsign_ok c.committer (signedP_sg h3) (by omega)
  unfold sgA at ha hb
  simp (disch := first | omega | (simp only [Lx]; omega)) only [go_sem, simprocAttr, cmA]
  refine vcW_loop hN (fun k : Nat => ⟨[(1, .vptr 21001 0), (3, .str (wTree ++ 32 :: (c.tree ++ 10 :: parT (c.parents.take k)))), (11, .ro 1 (c.parents.map .str)), (12, .int .i64 c.parents.length), (13, .int .i64 k)], [(21001, .var [.str c.tree, .ro 1 (c.parents.map .str), .str c.author.who, .int .i64 c.author.time, .int .i64 c.author.zone, .str c.committer.who, .int .i64 c.committer.time, .int .i64 c.committer.zone, .str c.msg])]⟩) (fun k => k ≤ c.parents.length) (fun k => c.parents.length - k) 0 (.le (by simp (disch := first | omega | (simp only [Lx]; omega)) only [go_sem, simprocAttr]; rfl)) (by omega) ?_
  rintro k R1 hk hR1
  have hwt : wTree.length = 4 := rfl
  have hwp : wParent.length = 6 := rfl
  have z3k := z3 k
  by_cases hlt : k < c.parents.length
  · have hp := s3 (c.parents.getD k []) (getD_memB [] _ hlt)
    have z3s := z3 (k + 1)
    have hsn := parT_snoc c.parents hlt
    have e : wTree ++ 32 :: (c.tree ++ 10 :: parT (c.parents.take k)) ++ 112 :: 97 :: 114 :: 101 :: 110 :: 116 :: 32 :: (c.parents.getD k [] ++ [10]) = wTree ++ 32 :: (c.tree ++ 10 :: parT (c.parents.take (k + 1))) := by
      rw [hsn]; simp [wParent]
    simp (disch := first | omega | (simp only [Lx]; omega)) only [go_sem, simprocAttr, e]
    exact hR1 (k + 1) _ (by omega) (by omega) (.le (by simp (disch := first | omega | (simp only [Lx]; omega)) only [go_sem, simprocAttr]))
  · obtain rfl : k = c.parents.length := by omega
    rw [List.take_of_length_le (by omega)] at z3k ⊢
    simp (disch := first | omega | (simp only [Lx]; omega)) only [go_sem, simprocAttr]
    refine call_ro ha rfl rfl ?_
    simp (disch := first | omega | (simp only [Lx]; omega)) only [go_sem, simprocAttr]
    refine call_ro hb rfl rfl ?_
    simp (disch := first | omega | (simp only [Lx]; omega)) only [go_sem, simprocAttr]
    have e : wTree ++ 32 :: (c.tree ++ 10 :: parT c.parents) ++ [97, 117, 116, 104, 111, 114, 32] ++ signT c.author ++ [10] ++ [99, 111, 109, 109, 105, 116, 116, 101, 114, 32] ++ signT c.committer ++ [10, 10] ++ c.msg = textP c := by simp [textP, wAuthor, wCommitter]
    rw [e]
    exact hR.wk (h' := []) (r' := .str (textP c)) (ar' := [.undef]) rfl (.le (by simp (disch := first | omega | (simp only [Lx]; omega)) only [go_sem, simprocAttr])) ⟨rfl, rfl⟩
theorem same7_ok (a b : List Bs) (ha : a.length ≤ 140737488351232) (hb : b.length ≤ 140737488351232) : SpecR Tryd.prog 34 [.ro 1 (a.map .str), .ro 1 (b.map .str)] (.bool (decide (a = b))) := by
  refine Cod.same7_spec (fun E R hN hR => ?_)
  by_cases hl : a.length = b.length
  · simp (disch := first | omega | (simp only [Lx]; omega)) only [go_sem, simprocAttr, hl]
    refine vcW_loop hN (fun k : Nat => ⟨[(0, .ro 1 (a.map .str)), (1, .ro 1 (b.map .str)), (12, .int .i64 a.length), (13, .int .i64 k)], []⟩) (fun k => k ≤ a.length ∧ a.take k = b.take k) (fun k => a.length - k) 0 (.le (by simp (disch := first | omega | (simp only [Lx]; omega)) only [go_sem, simprocAttr, hl])) ⟨by omega, by simp⟩ ?_
    rintro k R1 ⟨hk, hall⟩ hR1
    by_cases hlt : k < a.length
    · have t1 := take_succB [] a hlt
      have t2 := take_succB [] b (k := k) (by omega)
      by_cases he : a.getD k [] = b.getD k []
      · simp (disch := first | omega | (simp only [Lx]; omega)) only [go_sem, simprocAttr, he]
        exact hR1 (k + 1) _ (by omega) ⟨by omega, by rw [t1, t2, hall, he]⟩ (.le (by simp (disch := first | omega | (simp only [Lx]; omega)) only [go_sem, simprocAttr]))
      · simp (disch := first | omega | (simp only [Lx]; omega)) only [go_sem, simprocAttr, he]
        refine hR.ro ⟨rfl, ?_⟩
        rw [decide_eq_false (fun e => he (by rw [e]))]
    · obtain rfl : k = a.length := by omega
      rw [List.take_of_length_le (by omega), List.take_of_length_le (by omega)] at hall
      simp (disch := first | omega | (simp only [Lx]; omega)) only [go_sem, simprocAttr]
      exact hR.ro ⟨rfl, by rw [decide_eq_true hall]⟩
  · simp (disch := first | omega | (simp only [Lx]; omega)) only [go_sem, simprocAttr, hl]
    refine hR.ro ⟨rfl, ?_⟩
    rw [decide_eq_false (fun e => hl (by rw [e]))]
theorem sg_ext {a b : Sg} : a = b ↔ a.who = b.who ∧ a.time = b.time ∧ a.zone = b.zone := by
  cases a; cases b; simp
def sameC (a b : Cmt) : Bool := decide (a.tree = b.tree) && decide (a.parents = b.parents) && decide (a.author = b.author) && decide (a.committer = b.committer) && decide (a.msg = b.msg)
theorem dsame_ok (a b : Cmt) (ha : CmSz a) (hb : CmSz b) : SpecR Tryd.prog 16 [cmA a, cmA b] (.bool (sameC a b)) := by
  refine Cod.dsame_spec (fun E R hN hR => ?_)
  have hp := same7_ok a.parents b.parents ha.2.1.1 hb.2.1.1
  have ret : ∀ v, sameC a b = v → ∀ h0 x y, R h0 (.bool v) [x, y] := fun v h h0 x y => hR.wk (h' := []) (r' := .bool v) (ar' := [x, y]) rfl (.le (by simp (disch := first | omega | (simp only [Lx]; omega)) only [go_sem, simprocAttr])) ⟨rfl, by rw [h]⟩
  unfold sameC at ret
  by_cases h1 : a.tree = b.tree
  · simp (disch := first | omega | (simp only [Lx]; omega)) only [go_sem, simprocAttr, cmA, h1]
    (repeat (first | (with_reducible refine gskip_of ?_) | (with_reducible refine gcskip_of ?_) | (with_reducible refine gopen_of ?_)) <;> simp (disch := first | omega | (simp only [Lx]; omega)) only [go_sem, simprocAttr])
    refine gcyes_of (callT_ro (by simp (disch := first | omega | (simp only [Lx]; omega)) only [go_sem, simprocAttr]) hp (by simp (disch := first | omega | (simp only [Lx]; omega)) only [go_sem, simprocAttr]) rfl rfl ?_)
    by_cases h2 : a.parents = b.parents
    · simp (disch := first | omega | (simp only [Lx]; omega)) only [go_sem, simprocAttr, h2]
      (repeat (first | (with_reducible refine gskip_of ?_) | (with_reducible refine gcskip_of ?_) | (with_reducible refine gopen_of ?_)) <;> simp (disch := first | omega | (simp only [Lx]; omega)) only [go_sem, simprocAttr])
      refine ret _ ?_ _ _ _
      rw [decide_eq_true h1, decide_eq_true h2, Bool.true_and, Bool.true_and, ← Bool.decide_and, ← Bool.decide_and]
      exact decide_eq_decide.2 (by rw [sg_ext, sg_ext])
    · have ret := ret false (by simp [h2])
      simp (disch := first | omega | (simp only [Lx]; omega)) only [go_sem, simprocAttr, h2]
      (repeat (first | (with_reducible refine gskip_of ?_) | (with_reducible refine gcskip_of ?_) | (with_reducible refine gopen_of ?_)) <;> simp (disch := first | omega | (simp only [Lx]; omega)) only [go_sem, simprocAttr])
      exact ret _ _ _
  · have ret := ret false (by simp [h1])
    simp (disch := first | omega | (simp only [Lx]; omega)) only [go_sem, simprocAttr, cmA, h1]
    (repeat (first | (with_reducible refine gskip_of ?_) | (with_reducible refine gcskip_of ?_) | (with_reducible refine gopen_of ?_)) <;> simp (disch := first | omega | (simp only [Lx]; omega)) only [go_sem, simprocAttr])
    exact ret _ _ _
end Go.Proofs.YtjpinndnicmokaaDoor.Cm
