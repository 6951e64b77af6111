import Derived.Test.YtkeleoneecofhaaDoorGrRef
set_option linter.all false
namespace Go.Proofs.YtkeleoneecofhaaDoor.Gr
open Eng
set_option maxRecDepth 10000
def f64 (n : Int) : Nat := FloatKind.f64.nearest n
def cpx (z : Int × Int) : AV := .cx .f64 (FloatKind.f64.nearest z.1) (FloatKind.f64.nearest z.2)
def rep (i x : Int) : Int := if x = i then -1 else x
def parLoop (k : Nat) : List Int → Nat → List Int → List Int
  | l, _, [] => l
  | l, n, x :: r => parLoop k (if n = 0 ∧ findI l 0 x < 0 then l.set k x else takeL l x) (n + 1) r
def rowOf (i : Nat) (l p : List Int) : List Int := parLoop (takeK l i).toNat ((takeL l i).map (rep i)) 0 p
def placesGo : Nat → List Int → List (List Int) → List (Int × Int) → List (List Int) → Option (List (Int × Int) × List (List Int))
  | _, _, [], a, rs => some (a, rs)
  | i, l, p :: r, a, rs => if 40 < (rowOf i l p).length then none else placesGo (i + 1) (rowOf i l p) r (a ++ [(takeK l i, (i : Int))]) (rs ++ [rowOf i l p])
/-- what Places comes to: each commit's place, the rows, the error -/
def placesP (ps : List (List Int)) : List (Int × Int) × List (List Int) × Int :=
  if checkP ps = 0 then match placesGo 0 [] ps [] [] with
    | some (a, rs) => (a, rs, 0)
    | none => ([], [], 2)
  else ([], [], checkP ps)
theorem takeK_bd (xs : List Int) (i : Int) : 0 ≤ takeK xs i ∧ takeK xs i < (takeL xs i).length := by
  have b1 := findI_bd xs 0 i
  have b2 := findI_bd xs 0 (-1)
  rw [takeL_length]
  unfold takeK
  split <;> (try split) <;> (try split) <;> omega
theorem takeL_le (xs : List Int) (i : Int) : (takeL xs i).length ≤ xs.length + 1 ∧ xs.length ≤ (takeL xs i).length := by
  rw [takeL_length]; split <;> omega
theorem cpx_app (xs : List (Int × Int)) (a b : Int) : xs.map cpx ++ [.cx .f64 (FloatKind.f64.nearest a) (FloatKind.f64.nearest b)] = (xs ++ [(a, b)]).map cpx := by simp [cpx]
theorem cells_cpx (xs : List (Int × Int)) : (xs.map cpx).all cellsOK = true := by simp [cellsOK, cellsOf, isCell, cpx]
theorem rep_get {i : Int} {l c : List Int} {j : Nat} (hj : j < l.length) (hc : c = (l.take j).map (rep i) ++ l.drop j) : c.length = l.length ∧ c.getD j 0 = l.getD j 0 ∧ ∀ y, c.set j y = (l.take j).map (rep i) ++ y :: l.drop (j + 1) := by
  subst hc
  refine ⟨by simp; omega, ?_, fun y => ?_⟩
  · simp [List.getD_eq_getElem?_getD, List.getElem?_append, Nat.min_eq_left (Nat.le_of_lt hj)]
  · rw [List.set_append, List.length_map, List.length_take, Nat.min_eq_left (Nat.le_of_lt hj), if_neg (by omega), Nat.sub_self, drop_consD 0 l hj]; rfl
theorem rep_snoc {i : Int} {l : List Int} {j : Nat} (hj : j < l.length) : (l.take (j + 1)).map (rep i) = (l.take j).map (rep i) ++ [rep i (l.getD j 0)] := by
  rw [take_succD 0 l hj]; simp
set_option maxHeartbeats 1000000 in
theorem gplaces_ok (ps : List (List Int)) (h1 : ps.length ≤ 1000) (h2 : ∀ r ∈ ps, r.length ≤ 1000) : SpecR Tryd.prog 8 [.ro 1 (rowsA ps)]
    (.tup [.ro 1 ((placesP ps).1.map cpx), .ro 1 (rowsA (placesP ps).2.1), .int .i64 (placesP ps).2.2]) := by
  refine Cod.gplaces_spec (fun E R hN hR => ?_)
  simp (disch := first | omega | (simp only [List.length_append, List.length_cons, List.length_nil, List.length_set, List.length_map, List.length_take, List.length_drop, List.length_range, List.length_replicate, List.length_reverse]; omega)) only [go_sem, Nat.reduceBEq, Nat.reduceAdd, Nat.reduceSub, Nat.reduceMul, Nat.reduceLT, Nat.reduceLeDiff, Nat.reduceEqDiff, Int.reduceAdd, Int.reduceSub, Int.reduceMul, Int.reduceNeg, Int.reduceLT, Int.reduceLE, Int.reduceEq, Int.reduceToNat, UInt8.reduceOfNat, reduceCtorEq]
  refine call_ro (gcheck_ok ps h1 h2) rfl rfl ?_
  by_cases hc : checkP ps = 0
  rotate_left
  · simp (disch := first | omega | (simp only [List.length_append, List.length_cons, List.length_nil, List.length_set, List.length_map, List.length_take, List.length_drop, List.length_range, List.length_replicate, List.length_reverse]; omega)) only [go_sem, Nat.reduceBEq, Nat.reduceAdd, Nat.reduceSub, Nat.reduceMul, Nat.reduceLT, Nat.reduceLeDiff, Nat.reduceEqDiff, Int.reduceAdd, Int.reduceSub, Int.reduceMul, Int.reduceNeg, Int.reduceLT, Int.reduceLE, Int.reduceEq, Int.reduceToNat, UInt8.reduceOfNat, reduceCtorEq]
    exact hR.val (.tup (.cons (.nil 1) (.cons (.nil 1) (.cons (.refl _) .nil)))) ⟨rfl, by simp [placesP, hc]⟩
  have hP : placesP ps = match placesGo 0 [] ps [] [] with | some (a, rs) => (a, rs, 0) | none => ([], [], 2) := by simp [placesP, hc]
  simp (disch := first | omega | (simp only [List.length_append, List.length_cons, List.length_nil, List.length_set, List.length_map, List.length_take, List.length_drop, List.length_range, List.length_replicate, List.length_reverse]; omega)) only [go_sem, Nat.reduceBEq, Nat.reduceAdd, Nat.reduceSub, Nat.reduceMul, Nat.reduceLT, Nat.reduceLeDiff, Nat.reduceEqDiff, Int.reduceAdd, Int.reduceSub, Int.reduceMul, Int.reduceNeg, Int.reduceLT, Int.reduceLE, Int.reduceEq, Int.reduceToNat, UInt8.reduceOfNat, reduceCtorEq, hc]
  refine vcW_loop hN (fun a : Nat × List Int × List (Int × Int) × List (List Int) => ⟨[(6, .sl 6036 0 a.2.2.1.length), (7, .sl 6081 0 a.2.2.2.length), (8, .vptr 6008 0), (20, .ro 1 (rowsA ps)), (21, .int .i64 ps.length), (22, .int .i64 a.1)],
      [(6036, .arr 1 (a.2.2.1.map cpx)), (6081, .arr 1 (rowsA a.2.2.2)), (2028, .arr 1 (ints a.2.1)), (6008, .var [.sl 2028 0 a.2.1.length])]⟩)
    (fun a => a.1 ≤ ps.length ∧ a.2.1.length ≤ 40 ∧ a.2.2.1.length = a.1 ∧ a.2.2.2.length = a.1 ∧ placesGo a.1 a.2.1 (ps.drop a.1) a.2.2.1 a.2.2.2 = placesGo 0 [] ps [] [])
    (fun a => ps.length - a.1) (0, [], [], []) (.nil 6 6036 1 rfl (.nil 7 6081 1 rfl (.nilV 6008 0 2028 1 [.nilsl] rfl rfl rfl (.le (by simp (disch := first | omega | (simp only [List.length_append, List.length_cons, List.length_nil, List.length_set, List.length_map, List.length_take, List.length_drop, List.length_range, List.length_replicate, List.length_reverse]; omega)) only [go_sem, Nat.reduceBEq, Nat.reduceAdd, Nat.reduceSub, Nat.reduceMul, Nat.reduceLT, Nat.reduceLeDiff, Nat.reduceEqDiff, Int.reduceAdd, Int.reduceSub, Int.reduceMul, Int.reduceNeg, Int.reduceLT, Int.reduceLE, Int.reduceEq, Int.reduceToNat, UInt8.reduceOfNat, reduceCtorEq]))))) ⟨by simp, by simp, rfl, rfl, rfl⟩ ?_
  rintro ⟨k, l, ac, rs⟩ R1 ⟨hk, hl, hla, hlr, hgo⟩ hR1
  simp only at hk hl hla hlr hgo
  by_cases hlt : k < ps.length
  · rw [drop_consD [] ps hlt, placesGo] at hgo
    have hrl := h2 _ (getD_memD [] ps hlt)
    obtain ⟨p, hp⟩ : ∃ p, p = ps.getD k [] := ⟨_, rfl⟩
    rw [← hp] at hgo hrl
    have htl := takeL_le l k
    have htk := takeK_bd l k
    simp (disch := first | omega | (simp only [List.length_append, List.length_cons, List.length_nil, List.length_set, List.length_map, List.length_take, List.length_drop, List.length_range, List.length_replicate, List.length_reverse]; omega)) only [go_sem, Nat.reduceBEq, Nat.reduceAdd, Nat.reduceSub, Nat.reduceMul, Nat.reduceLT, Nat.reduceLeDiff, Nat.reduceEqDiff, Int.reduceAdd, Int.reduceSub, Int.reduceMul, Int.reduceNeg, Int.reduceLT, Int.reduceLE, Int.reduceEq, Int.reduceToNat, UInt8.reduceOfNat, reduceCtorEq, ← hp]
    refine call_win (lanesH l) (take_own l k (by omega)) (by simp (disch := first | omega | (simp only [List.length_append, List.length_cons, List.length_nil, List.length_set, List.length_map, List.length_take, List.length_drop, List.length_range, List.length_replicate, List.length_reverse]; omega)) only [go_sem, Nat.reduceBEq, Nat.reduceAdd, Nat.reduceSub, Nat.reduceMul, Nat.reduceLT, Nat.reduceLeDiff, Nat.reduceEqDiff, Int.reduceAdd, Int.reduceSub, Int.reduceMul, Int.reduceNeg, Int.reduceLT, Int.reduceLE, Int.reduceEq, Int.reduceToNat, UInt8.reduceOfNat, reduceCtorEq]) nofun ?_
    rintro h' v ar ⟨rfl, rfl, rfl⟩
    refine ⟨rfl, rfl, ?_⟩
    simp (disch := first | omega | (simp only [List.length_append, List.length_cons, List.length_nil, List.length_set, List.length_map, List.length_take, List.length_drop, List.length_range, List.length_replicate, List.length_reverse]; omega)) only [go_sem, Nat.reduceBEq, Nat.reduceAdd, Nat.reduceSub, Nat.reduceMul, Nat.reduceLT, Nat.reduceLeDiff, Nat.reduceEqDiff, Int.reduceAdd, Int.reduceSub, Int.reduceMul, Int.reduceNeg, Int.reduceLT, Int.reduceLE, Int.reduceEq, Int.reduceToNat, UInt8.reduceOfNat, reduceCtorEq, cells_cpx, cpx_app]
    obtain ⟨l1, hl1⟩ : ∃ l1, l1 = takeL l k := ⟨_, rfl⟩
    obtain ⟨kk, hkk⟩ : ∃ kk, kk = takeK l k := ⟨_, rfl⟩
    rw [← hl1] at htl htk
    rw [← hkk] at htk
    have hrow : rowOf k l p = parLoop kk.toNat (l1.map (rep k)) 0 p := by rw [hl1, hkk]; rfl
    rw [← hkk] at hgo
    obtain ⟨ac2, hac⟩ : ∃ ac2, ac2 = ac ++ [(kk, (k : Int))] := ⟨_, rfl⟩
    have hal : ac2.length = k + 1 := by rw [hac]; simp [hla]
    rw [← hac] at hgo
    rw [← hl1, ← hkk, ← hac]
    refine vcW_loop hN (fun a : Nat × List Int => ⟨[(6, .sl 6036 0 (k + 1)), (7, .sl 6081 0 k), (8, .vptr 6008 0), (9, .int .i64 k), (10, .ro 1 (ints p)), (11, .int .i64 kk), (20, .ro 1 (rowsA ps)), (21, .int .i64 ps.length), (22, .int .i64 k), (38, .int .i64 l1.length), (39, .int .i64 a.1)],
        [(6036, .arr 1 (ac2.map cpx)), (6081, .arr 1 (rowsA rs)), (2028, .arr 1 (ints a.2)), (6008, .var [.sl 2028 0 l1.length])]⟩)
      (fun a => a.1 ≤ l1.length ∧ a.2.length = l1.length ∧ a.2 = (l1.take a.1).map (rep k) ++ l1.drop a.1)
      (fun a => l1.length - a.1) (0, l1) (.le (by simp (disch := first | omega | (simp only [List.length_append, List.length_cons, List.length_nil, List.length_set, List.length_map, List.length_take, List.length_drop, List.length_range, List.length_replicate, List.length_reverse]; omega)) only [go_sem, Nat.reduceBEq, Nat.reduceAdd, Nat.reduceSub, Nat.reduceMul, Nat.reduceLT, Nat.reduceLeDiff, Nat.reduceEqDiff, Int.reduceAdd, Int.reduceSub, Int.reduceMul, Int.reduceNeg, Int.reduceLT, Int.reduceLE, Int.reduceEq, Int.reduceToNat, UInt8.reduceOfNat, reduceCtorEq])) ⟨by simp, rfl, by simp⟩ ?_
    rintro ⟨j, c⟩ R2 ⟨hj, hcl, hce⟩ hR2
    simp only at hj hcl hce
    by_cases hjl : j < l1.length
    · obtain ⟨_, hg, hset⟩ := rep_get hjl hce
      have hsn := rep_snoc (i := (k : Int)) hjl
      simp (disch := first | omega | (simp only [List.length_append, List.length_cons, List.length_nil, List.length_set, List.length_map, List.length_take, List.length_drop, List.length_range, List.length_replicate, List.length_reverse]; omega)) only [go_sem, Nat.reduceBEq, Nat.reduceAdd, Nat.reduceSub, Nat.reduceMul, Nat.reduceLT, Nat.reduceLeDiff, Nat.reduceEqDiff, Int.reduceAdd, Int.reduceSub, Int.reduceMul, Int.reduceNeg, Int.reduceLT, Int.reduceLE, Int.reduceEq, Int.reduceToNat, UInt8.reduceOfNat, reduceCtorEq, hg]
      refine ifW_dec (fun he => ?_) (fun he => ?_)
      · simp (disch := first | omega | (simp only [List.length_append, List.length_cons, List.length_nil, List.length_set, List.length_map, List.length_take, List.length_drop, List.length_range, List.length_replicate, List.length_reverse]; omega)) only [go_sem, Nat.reduceBEq, Nat.reduceAdd, Nat.reduceSub, Nat.reduceMul, Nat.reduceLT, Nat.reduceLeDiff, Nat.reduceEqDiff, Int.reduceAdd, Int.reduceSub, Int.reduceMul, Int.reduceNeg, Int.reduceLT, Int.reduceLE, Int.reduceEq, Int.reduceToNat, UInt8.reduceOfNat, reduceCtorEq, he]
        refine hR2 (j + 1, c.set j (-1)) _ (by simp only; omega) ⟨by simp only; omega, by simp [hcl], ?_⟩ (.le (by simp (disch := first | omega | (simp only [List.length_append, List.length_cons, List.length_nil, List.length_set, List.length_map, List.length_take, List.length_drop, List.length_range, List.length_replicate, List.length_reverse]; omega)) only [go_sem, Nat.reduceBEq, Nat.reduceAdd, Nat.reduceSub, Nat.reduceMul, Nat.reduceLT, Nat.reduceLeDiff, Nat.reduceEqDiff, Int.reduceAdd, Int.reduceSub, Int.reduceMul, Int.reduceNeg, Int.reduceLT, Int.reduceLE, Int.reduceEq, Int.reduceToNat, UInt8.reduceOfNat, reduceCtorEq]))
        rw [hset, hsn, he, rep, if_pos rfl]; simp
      · simp (disch := first | omega | (simp only [List.length_append, List.length_cons, List.length_nil, List.length_set, List.length_map, List.length_take, List.length_drop, List.length_range, List.length_replicate, List.length_reverse]; omega)) only [go_sem, Nat.reduceBEq, Nat.reduceAdd, Nat.reduceSub, Nat.reduceMul, Nat.reduceLT, Nat.reduceLeDiff, Nat.reduceEqDiff, Int.reduceAdd, Int.reduceSub, Int.reduceMul, Int.reduceNeg, Int.reduceLT, Int.reduceLE, Int.reduceEq, Int.reduceToNat, UInt8.reduceOfNat, reduceCtorEq]
        refine hR2 (j + 1, c) _ (by simp only; omega) ⟨by simp only; omega, hcl, ?_⟩ (.le (by simp (disch := first | omega | (simp only [List.length_append, List.length_cons, List.length_nil, List.length_set, List.length_map, List.length_take, List.length_drop, List.length_range, List.length_replicate, List.length_reverse]; omega)) only [go_sem, Nat.reduceBEq, Nat.reduceAdd, Nat.reduceSub, Nat.reduceMul, Nat.reduceLT, Nat.reduceLeDiff, Nat.reduceEqDiff, Int.reduceAdd, Int.reduceSub, Int.reduceMul, Int.reduceNeg, Int.reduceLT, Int.reduceLE, Int.reduceEq, Int.reduceToNat, UInt8.reduceOfNat, reduceCtorEq]))
        rw [hsn, rep, if_neg he, hce, drop_consD 0 l1 hjl]; simp
    · obtain rfl : j = l1.length := by omega
      have hcm : c = l1.map (rep k) := by rw [hce]; simp
      rw [← hcm] at hrow
      clear hR2 hce
      simp (disch := first | omega | (simp only [List.length_append, List.length_cons, List.length_nil, List.length_set, List.length_map, List.length_take, List.length_drop, List.length_range, List.length_replicate, List.length_reverse]; omega)) only [go_sem, Nat.reduceBEq, Nat.reduceAdd, Nat.reduceSub, Nat.reduceMul, Nat.reduceLT, Nat.reduceLeDiff, Nat.reduceEqDiff, Int.reduceAdd, Int.reduceSub, Int.reduceMul, Int.reduceNeg, Int.reduceLT, Int.reduceLE, Int.reduceEq, Int.reduceToNat, UInt8.reduceOfNat, reduceCtorEq]
      refine vcW_loop hN (fun a : Nat × List Int => ⟨[(6, .sl 6036 0 (k + 1)), (7, .sl 6081 0 k), (8, .vptr 6008 0), (11, .int .i64 kk), (20, .ro 1 (rowsA ps)), (21, .int .i64 ps.length), (22, .int .i64 k), (52, .ro 1 (ints p)), (53, .int .i64 p.length), (54, .int .i64 a.1)],
          [(6036, .arr 1 (ac2.map cpx)), (6081, .arr 1 (rowsA rs)), (2028, .arr 1 (ints a.2)), (6008, .var [.sl 2028 0 a.2.length])]⟩)
        (fun a => a.1 ≤ p.length ∧ l1.length ≤ a.2.length ∧ a.2.length ≤ 41 + a.1 ∧ parLoop kk.toNat a.2 a.1 (p.drop a.1) = rowOf k l p)
        (fun a => p.length - a.1) (0, c) (.le (by simp (disch := first | omega | (simp only [List.length_append, List.length_cons, List.length_nil, List.length_set, List.length_map, List.length_take, List.length_drop, List.length_range, List.length_replicate, List.length_reverse]; omega)) only [go_sem, Nat.reduceBEq, Nat.reduceAdd, Nat.reduceSub, Nat.reduceMul, Nat.reduceLT, Nat.reduceLeDiff, Nat.reduceEqDiff, Int.reduceAdd, Int.reduceSub, Int.reduceMul, Int.reduceNeg, Int.reduceLT, Int.reduceLE, Int.reduceEq, Int.reduceToNat, UInt8.reduceOfNat, reduceCtorEq])) ⟨by simp, by simp [hcl], by simp; omega, hrow.symm⟩ ?_
      rintro ⟨n, m⟩ R3 ⟨hn, hm1, hm2, hpl⟩ hR3
      simp only at hn hm1 hm2 hpl
      by_cases hnl : n < p.length
      · rw [drop_consD 0 p hnl, parLoop] at hpl
        obtain ⟨x, hx⟩ : ∃ x, x = p.getD n 0 := ⟨_, rfl⟩
        rw [← hx] at hpl
        simp (disch := first | omega | (simp only [List.length_append, List.length_cons, List.length_nil, List.length_set, List.length_map, List.length_take, List.length_drop, List.length_range, List.length_replicate, List.length_reverse]; omega)) only [go_sem, Nat.reduceBEq, Nat.reduceAdd, Nat.reduceSub, Nat.reduceMul, Nat.reduceLT, Nat.reduceLeDiff, Nat.reduceEqDiff, Int.reduceAdd, Int.reduceSub, Int.reduceMul, Int.reduceNeg, Int.reduceLT, Int.reduceLE, Int.reduceEq, Int.reduceToNat, UInt8.reduceOfNat, reduceCtorEq, ← hx]
        (repeat (first | (with_reducible refine gskip_of ?_) | (with_reducible refine gcskip_of ?_) | (with_reducible refine gopen_of ?_)) <;> simp (disch := first | omega | (simp only [List.length_append, List.length_cons, List.length_nil, List.length_set, List.length_map, List.length_take, List.length_drop, List.length_range, List.length_replicate, List.length_reverse]; omega)) only [go_sem, Nat.reduceBEq, Nat.reduceAdd, Nat.reduceSub, Nat.reduceMul, Nat.reduceLT, Nat.reduceLeDiff, Nat.reduceEqDiff, Int.reduceAdd, Int.reduceSub, Int.reduceMul, Int.reduceNeg, Int.reduceLT, Int.reduceLE, Int.reduceEq, Int.reduceToNat, UInt8.reduceOfNat, reduceCtorEq])
        refine gcall_flat (bs := [.ro 1 (ints m), .int .i64 x]) (by simp (disch := first | omega | (simp only [List.length_append, List.length_cons, List.length_nil, List.length_set, List.length_map, List.length_take, List.length_drop, List.length_range, List.length_replicate, List.length_reverse]; omega)) only [go_sem, Nat.reduceBEq, Nat.reduceAdd, Nat.reduceSub, Nat.reduceMul, Nat.reduceLT, Nat.reduceLeDiff, Nat.reduceEqDiff, Int.reduceAdd, Int.reduceSub, Int.reduceMul, Int.reduceNeg, Int.reduceLT, Int.reduceLE, Int.reduceEq, Int.reduceToNat, UInt8.reduceOfNat, reduceCtorEq]) (fun _ => find_ok m x (by omega)) (fun he => by simp (disch := first | omega | (simp only [List.length_append, List.length_cons, List.length_nil, List.length_set, List.length_map, List.length_take, List.length_drop, List.length_range, List.length_replicate, List.length_reverse]; omega)) only [go_sem, Nat.reduceBEq, Nat.reduceAdd, Nat.reduceSub, Nat.reduceMul, Nat.reduceLT, Nat.reduceLeDiff, Nat.reduceEqDiff, Int.reduceAdd, Int.reduceSub, Int.reduceMul, Int.reduceNeg, Int.reduceLT, Int.reduceLE, Int.reduceEq, Int.reduceToNat, UInt8.reduceOfNat, reduceCtorEq, he]) rfl ?_
        simp (disch := first | omega | (simp only [List.length_append, List.length_cons, List.length_nil, List.length_set, List.length_map, List.length_take, List.length_drop, List.length_range, List.length_replicate, List.length_reverse]; omega)) only [go_sem, Nat.reduceBEq, Nat.reduceAdd, Nat.reduceSub, Nat.reduceMul, Nat.reduceLT, Nat.reduceLeDiff, Nat.reduceEqDiff, Int.reduceAdd, Int.reduceSub, Int.reduceMul, Int.reduceNeg, Int.reduceLT, Int.reduceLE, Int.reduceEq, Int.reduceToNat, UInt8.reduceOfNat, reduceCtorEq]
        (repeat (first | (with_reducible refine gskip_of ?_) | (with_reducible refine gcskip_of ?_) | (with_reducible refine gopen_of ?_)) <;> simp (disch := first | omega | (simp only [List.length_append, List.length_cons, List.length_nil, List.length_set, List.length_map, List.length_take, List.length_drop, List.length_range, List.length_replicate, List.length_reverse]; omega)) only [go_sem, Nat.reduceBEq, Nat.reduceAdd, Nat.reduceSub, Nat.reduceMul, Nat.reduceLT, Nat.reduceLeDiff, Nat.reduceEqDiff, Int.reduceAdd, Int.reduceSub, Int.reduceMul, Int.reduceNeg, Int.reduceLT, Int.reduceLE, Int.reduceEq, Int.reduceToNat, UInt8.reduceOfNat, reduceCtorEq])
        refine ifW_dec (fun he => ?_) (fun he => ?_)
        · have he' : n = 0 ∧ findI m 0 x < 0 := ⟨by omega, he.2⟩
          rw [if_pos he'] at hpl
          simp (disch := first | omega | (simp only [List.length_append, List.length_cons, List.length_nil, List.length_set, List.length_map, List.length_take, List.length_drop, List.length_range, List.length_replicate, List.length_reverse]; omega)) only [go_sem, Nat.reduceBEq, Nat.reduceAdd, Nat.reduceSub, Nat.reduceMul, Nat.reduceLT, Nat.reduceLeDiff, Nat.reduceEqDiff, Int.reduceAdd, Int.reduceSub, Int.reduceMul, Int.reduceNeg, Int.reduceLT, Int.reduceLE, Int.reduceEq, Int.reduceToNat, UInt8.reduceOfNat, reduceCtorEq]
          exact hR3 (n + 1, m.set kk.toNat x) _ (by simp only; omega) ⟨by simp only; omega, by simpa using hm1, by simp only [List.length_set]; omega, hpl⟩ (.le (by simp (disch := first | omega | (simp only [List.length_append, List.length_cons, List.length_nil, List.length_set, List.length_map, List.length_take, List.length_drop, List.length_range, List.length_replicate, List.length_reverse]; omega)) only [go_sem, Nat.reduceBEq, Nat.reduceAdd, Nat.reduceSub, Nat.reduceMul, Nat.reduceLT, Nat.reduceLeDiff, Nat.reduceEqDiff, Int.reduceAdd, Int.reduceSub, Int.reduceMul, Int.reduceNeg, Int.reduceLT, Int.reduceLE, Int.reduceEq, Int.reduceToNat, UInt8.reduceOfNat, reduceCtorEq]))
        · have he' : ¬ (n = 0 ∧ findI m 0 x < 0) := fun e => he ⟨by omega, e.2⟩
          rw [if_neg he'] at hpl
          have htl2 := takeL_le m x
          simp (disch := first | omega | (simp only [List.length_append, List.length_cons, List.length_nil, List.length_set, List.length_map, List.length_take, List.length_drop, List.length_range, List.length_replicate, List.length_reverse]; omega)) only [go_sem, Nat.reduceBEq, Nat.reduceAdd, Nat.reduceSub, Nat.reduceMul, Nat.reduceLT, Nat.reduceLeDiff, Nat.reduceEqDiff, Int.reduceAdd, Int.reduceSub, Int.reduceMul, Int.reduceNeg, Int.reduceLT, Int.reduceLE, Int.reduceEq, Int.reduceToNat, UInt8.reduceOfNat, reduceCtorEq]
          refine call_win (lanesH m) (take_own m x (by omega)) (by simp (disch := first | omega | (simp only [List.length_append, List.length_cons, List.length_nil, List.length_set, List.length_map, List.length_take, List.length_drop, List.length_range, List.length_replicate, List.length_reverse]; omega)) only [go_sem, Nat.reduceBEq, Nat.reduceAdd, Nat.reduceSub, Nat.reduceMul, Nat.reduceLT, Nat.reduceLeDiff, Nat.reduceEqDiff, Int.reduceAdd, Int.reduceSub, Int.reduceMul, Int.reduceNeg, Int.reduceLT, Int.reduceLE, Int.reduceEq, Int.reduceToNat, UInt8.reduceOfNat, reduceCtorEq]) nofun ?_
          rintro h' v ar ⟨rfl, rfl, rfl⟩
          refine ⟨rfl, rfl, ?_⟩
          simp (disch := first | omega | (simp only [List.length_append, List.length_cons, List.length_nil, List.length_set, List.length_map, List.length_take, List.length_drop, List.length_range, List.length_replicate, List.length_reverse]; omega)) only [go_sem, Nat.reduceBEq, Nat.reduceAdd, Nat.reduceSub, Nat.reduceMul, Nat.reduceLT, Nat.reduceLeDiff, Nat.reduceEqDiff, Int.reduceAdd, Int.reduceSub, Int.reduceMul, Int.reduceNeg, Int.reduceLT, Int.reduceLE, Int.reduceEq, Int.reduceToNat, UInt8.reduceOfNat, reduceCtorEq]
          exact hR3 (n + 1, takeL m x) _ (by simp only; omega) ⟨by simp only; omega, by simp only; omega, by simp only; omega, hpl⟩ (.le (by simp (disch := first | omega | (simp only [List.length_append, List.length_cons, List.length_nil, List.length_set, List.length_map, List.length_take, List.length_drop, List.length_range, List.length_replicate, List.length_reverse]; omega)) only [go_sem, Nat.reduceBEq, Nat.reduceAdd, Nat.reduceSub, Nat.reduceMul, Nat.reduceLT, Nat.reduceLeDiff, Nat.reduceEqDiff, Int.reduceAdd, Int.reduceSub, Int.reduceMul, Int.reduceNeg, Int.reduceLT, Int.reduceLE, Int.reduceEq, Int.reduceToNat, UInt8.reduceOfNat, reduceCtorEq]))
      · obtain rfl : n = p.length := by omega
        rw [List.drop_length, parLoop] at hpl
        rw [← hpl] at hgo
        clear hR3
        by_cases hbig : 40 < m.length
        · rw [if_pos hbig] at hgo
          simp (disch := first | omega | (simp only [List.length_append, List.length_cons, List.length_nil, List.length_set, List.length_map, List.length_take, List.length_drop, List.length_range, List.length_replicate, List.length_reverse]; omega)) only [go_sem, Nat.reduceBEq, Nat.reduceAdd, Nat.reduceSub, Nat.reduceMul, Nat.reduceLT, Nat.reduceLeDiff, Nat.reduceEqDiff, Int.reduceAdd, Int.reduceSub, Int.reduceMul, Int.reduceNeg, Int.reduceLT, Int.reduceLE, Int.reduceEq, Int.reduceToNat, UInt8.reduceOfNat, reduceCtorEq, Cod.gplaces_jn]
          exact hR.val (.tup (.cons (.nil 1) (.cons (.nil 1) (.cons (.refl _) .nil)))) ⟨rfl, by rw [hP, ← hgo]; rfl⟩
        · rw [if_neg hbig] at hgo
          simp (disch := first | omega | (simp only [List.length_append, List.length_cons, List.length_nil, List.length_set, List.length_map, List.length_take, List.length_drop, List.length_range, List.length_replicate, List.length_reverse]; omega)) only [go_sem, Nat.reduceBEq, Nat.reduceAdd, Nat.reduceSub, Nat.reduceMul, Nat.reduceLT, Nat.reduceLeDiff, Nat.reduceEqDiff, Int.reduceAdd, Int.reduceSub, Int.reduceMul, Int.reduceNeg, Int.reduceLT, Int.reduceLE, Int.reduceEq, Int.reduceToNat, UInt8.reduceOfNat, reduceCtorEq, Cod.gplaces_jn]
          exact hR1 (k + 1, m, ac2, rs ++ [m]) _ (by simp only; omega) ⟨by simp only; omega, by simp only; omega, hal, by simp [hlr], hgo⟩ (.le (by simp (disch := first | omega | (simp only [List.length_append, List.length_cons, List.length_nil, List.length_set, List.length_map, List.length_take, List.length_drop, List.length_range, List.length_replicate, List.length_reverse]; omega)) only [go_sem, Nat.reduceBEq, Nat.reduceAdd, Nat.reduceSub, Nat.reduceMul, Nat.reduceLT, Nat.reduceLeDiff, Nat.reduceEqDiff, Int.reduceAdd, Int.reduceSub, Int.reduceMul, Int.reduceNeg, Int.reduceLT, Int.reduceLE, Int.reduceEq, Int.reduceToNat, UInt8.reduceOfNat, reduceCtorEq]))
  · obtain rfl : k = ps.length := by omega
    rw [List.drop_length, placesGo] at hgo
    simp (disch := first | omega | (simp only [List.length_append, List.length_cons, List.length_nil, List.length_set, List.length_map, List.length_take, List.length_drop, List.length_range, List.length_replicate, List.length_reverse]; omega)) only [go_sem, Nat.reduceBEq, Nat.reduceAdd, Nat.reduceSub, Nat.reduceMul, Nat.reduceLT, Nat.reduceLeDiff, Nat.reduceEqDiff, Int.reduceAdd, Int.reduceSub, Int.reduceMul, Int.reduceNeg, Int.reduceLT, Int.reduceLE, Int.reduceEq, Int.reduceToNat, UInt8.reduceOfNat, reduceCtorEq]
    refine hR.wk (h' := []) (r' := .tup [.ro 1 (ac.map cpx), .ro 1 (rowsA rs), .int .i64 0]) rfl (.frz 6036 (.frz 6081 (.le (by simp (disch := first | omega | (simp only [List.length_append, List.length_cons, List.length_nil, List.length_set, List.length_map, List.length_take, List.length_drop, List.length_range, List.length_replicate, List.length_reverse]; omega)) only [go_sem, Nat.reduceBEq, Nat.reduceAdd, Nat.reduceSub, Nat.reduceMul, Nat.reduceLT, Nat.reduceLeDiff, Nat.reduceEqDiff, Int.reduceAdd, Int.reduceSub, Int.reduceMul, Int.reduceNeg, Int.reduceLT, Int.reduceLE, Int.reduceEq, Int.reduceToNat, UInt8.reduceOfNat, reduceCtorEq])))) ⟨rfl, ?_⟩
    rw [hP, ← hgo]
end Go.Proofs.YtkeleoneecofhaaDoor.Gr
