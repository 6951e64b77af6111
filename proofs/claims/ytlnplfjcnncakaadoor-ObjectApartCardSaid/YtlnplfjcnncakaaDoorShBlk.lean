/- SHA-1: the program's turning, words, schedule, rounds, blocks. -/
import Derived.Test.YtlnplfjcnncakaaDoorShP
import Derived.Test.YtlnplfjcnncakaaDoorShCode
set_option linter.all false
namespace Go.Proofs.YtlnplfjcnncakaaDoor.Sh
open Eng
set_option maxRecDepth 10000
theorem and31 {k : Nat} (hk : k < 32) : bits .and .u64 (k : Int) 31 = k := by
  show IntKind.u64.wrap ((BitVec.ofInt 64 (k : Int) &&& BitVec.ofInt 64 31).toNat : Int) = _
  rw [BitVec.ofInt_natCast, BitVec.toNat_and, BitVec.toNat_ofNat, Nat.mod_eq_of_lt (by omega), show (BitVec.ofInt 64 31).toNat = 2 ^ 5 - 1 by decide, Nat.and_two_pow_sub_one_of_lt_two_pow (by omega)]
  exact wrap_u64 (by omega)
theorem rot_or (x : W) {k : Nat} (hk : k < 32) : bits .or .u32 (IntKind.u32.wrap (↑(BitVec.toNat x) * 2 ^ k)) ((↑(BitVec.toNat x) : Int).fdiv (2 ^ (32 - k))) = (x.rotateLeft k).toNat := by
  rw [wshl, wshr, wor, BitVec.rotateLeft_def, Nat.mod_eq_of_lt hk]
theorem rotl_ok (x : W) (k : Nat) (hk : k < 32) : SpecR Tryd.prog 60 [.int .u32 x.toNat, .int .i64 k] (.int .u32 (x.rotateLeft k).toNat) := by
  refine Cod.rotl_spec (fun E R hN hR => ?_)
  have h1 := and31 hk
  simp (disch := first | omega | (simp only [List.length_append, List.length_cons, List.length_nil, List.length_set, List.length_map, List.length_take, List.length_drop, List.length_range, List.length_replicate, List.length_reverse]; omega)) only [go_sem, Nat.reduceBEq, Nat.reduceAdd, Nat.reduceSub, Nat.reduceMul, Nat.reduceLT, Nat.reduceLeDiff, Nat.reduceEqDiff, Int.reduceAdd, Int.reduceSub, Int.reduceMul, Int.reduceNeg, Int.reduceLT, Int.reduceLE, Int.reduceEq, Int.reduceToNat, UInt8.reduceOfNat, reduceCtorEq, h1]
  refine hR.ro ⟨rfl, ?_⟩
  rw [show min k 32 = k by omega, show min ((32 : Int) - k).toNat 32 = 32 - k by omega, rot_or x hk]
theorem byteW_eq (p : Bs) (i : Nat) : ((p.getD i 0).toNat : Int) = ((byteW p i).toNat : Int) := by
  rw [byteW, BitVec.toNat_ofNat, Nat.mod_eq_of_lt]
  have := (p.getD i 0).toNat_lt
  omega
theorem word_ok (p : Bs) (hp : 4 ≤ p.length) : SpecR Tryd.prog 59 [.str p] (.int .u32 (wordB p 0).toNat) := by
  refine Cod.word_spec (fun E R hN hR => ?_)
  simp (disch := first | omega | (simp only [List.length_append, List.length_cons, List.length_nil, List.length_set, List.length_map, List.length_take, List.length_drop, List.length_range, List.length_replicate, List.length_reverse]; omega)) only [go_sem, Nat.reduceBEq, Nat.reduceAdd, Nat.reduceSub, Nat.reduceMul, Nat.reduceLT, Nat.reduceLeDiff, Nat.reduceEqDiff, Int.reduceAdd, Int.reduceSub, Int.reduceMul, Int.reduceNeg, Int.reduceLT, Int.reduceLE, Int.reduceEq, Int.reduceToNat, UInt8.reduceOfNat, reduceCtorEq, byteW_eq, wrapW]
  refine hR.ro ⟨rfl, ?_⟩
  rw [show min 24 32 = 24 by rfl, show min 16 32 = 16 by rfl, show min 8 32 = 8 by rfl, wshl, wshl, wshl, wor, wor, wor]
  rfl
theorem z80 : (List.replicate 80 0#32).map u32 = [.int .u32 0, .int .u32 0, .int .u32 0, .int .u32 0, .int .u32 0, .int .u32 0, .int .u32 0, .int .u32 0, .int .u32 0, .int .u32 0, .int .u32 0, .int .u32 0, .int .u32 0, .int .u32 0, .int .u32 0, .int .u32 0, .int .u32 0, .int .u32 0, .int .u32 0, .int .u32 0, .int .u32 0, .int .u32 0, .int .u32 0, .int .u32 0, .int .u32 0, .int .u32 0, .int .u32 0, .int .u32 0, .int .u32 0, .int .u32 0, .int .u32 0, .int .u32 0, .int .u32 0, .int .u32 0, .int .u32 0, .int .u32 0, .int .u32 0, .int .u32 0, .int .u32 0, .int .u32 0, .int .u32 0, .int .u32 0, .int .u32 0, .int .u32 0, .int .u32 0, .int .u32 0, .int .u32 0, .int .u32 0, .int .u32 0, .int .u32 0, .int .u32 0, .int .u32 0, .int .u32 0, .int .u32 0, .int .u32 0, .int .u32 0, .int .u32 0, .int .u32 0, .int .u32 0, .int .u32 0, .int .u32 0, .int .u32 0, .int .u32 0, .int .u32 0, .int .u32 0, .int .u32 0, .int .u32 0, .int .u32 0, .int .u32 0, .int .u32 0, .int .u32 0, .int .u32 0, .int .u32 0, .int .u32 0, .int .u32 0, .int .u32 0, .int .u32 0, .int .u32 0, .int .u32 0, .int .u32 0] := by rfl
theorem nth_c0 (x : AV) (r : List AV) : nth (x :: r) 0 = x := (rfl)
theorem nth_cs (x : AV) (r : List AV) (k : Nat) : nth (x :: r) (k + 1) = nth r k := by simp [nth]
theorem getD_u32 {xs : List W} {i : Nat} (h : i < xs.length) : (xs.map u32).getD i .undef = .int .u32 (xs.getD i 0#32).toNat := by
  simp [List.getD_eq_getElem?_getD, h, u32]
theorem drop_u32 {xs : List W} {i : Nat} (h : i < xs.length) : ((xs.map u32).drop i).getD 0 .undef = .int .u32 (xs.getD i 0#32).toNat := by
  simp [List.getD_eq_getElem?_getD, h, u32]
theorem seg_u32 {xs : List W} {i : Nat} {y : W} (h : i < xs.length) : (xs.map u32).take i ++ [.int .u32 y.toNat] ++ (xs.map u32).drop (i + 1) = (xs.set i y).map u32 := by
  rw [← u32_eq, ← List.map_take, ← List.map_drop, List.set_eq_take_append_cons_drop, if_pos h]; simp
/-- the five words, as they stand in memory -/
abbrev hW (h : H5) : List AV := [.int .u32 h.a.toNat, .int .u32 h.b.toNat, .int .u32 h.c.toNat, .int .u32 h.d.toNat, .int .u32 h.e.toNat]
/-- the words that have been added up so far, and the sum they belong to -/
abbrev hashH (h : H5) (r : Bs) (n : Int) : HP := [(105900, .var [.sl 105015 0 5, .str r, .int .u64 n]), (105015, .arr 1 (hW h))]
theorem wordB_drop (p : Bs) (k : Nat) : wordB (p.drop k) 0 = wordB p k := by
  simp [wordB, byteW, List.getD_eq_getElem?_getD, List.getElem?_drop]
theorem block1_ok (h : H5) (p r : Bs) (n : Int) (hp : p.length = 64) : SpecG Tryd.prog 49 2 (hashH h r n) [.sl 105015 0 5, .str p, .vptr 105900 0, .vptr 105900 0]
    (fun h' v ar => h' = hashH (blk h p) r n ∧ v = .tup [] ∧ ar = [.sl 105015 0 5, .str p, .vptr 105900 0, .vptr 105900 0]) := by
  refine Cod.block1_spec (fun E R hN hR => ?_)
  simp (disch := first | omega | (simp only [List.length_append, List.length_cons, List.length_nil, List.length_set, List.length_map, List.length_take, List.length_drop, List.length_range, List.length_replicate, List.length_reverse]; omega)) only [go_sem, Nat.reduceBEq, Nat.reduceAdd, Nat.reduceSub, Nat.reduceMul, Nat.reduceLT, Nat.reduceLeDiff, Nat.reduceEqDiff, Int.reduceAdd, Int.reduceSub, Int.reduceMul, Int.reduceNeg, Int.reduceLT, Int.reduceLE, Int.reduceEq, Int.reduceToNat, UInt8.reduceOfNat, reduceCtorEq, hashH, hW]
  refine vcW_loop hN (fun i : Nat => ⟨[(0, .sl 105015 0 5), (1, .str p), (4, .vptr 104004 0), (15, .int .i64 i), (2000000, .sl 105015 0 5), (2000001, .str p), (2000002, .vptr 105900 0), (2000003, .vptr 105900 0)],
    [(104004, .var ((sched p i).map u32)), (105900, .var [.sl 105015 0 5, .str r, .int .u64 n]), (105015, .arr 1 (hW h))]⟩) (fun i => i ≤ 80) (fun i => 80 - i) 0 (.le (by simp (disch := first | omega | (simp only [List.length_append, List.length_cons, List.length_nil, List.length_set, List.length_map, List.length_take, List.length_drop, List.length_range, List.length_replicate, List.length_reverse]; omega)) only [go_sem, Nat.reduceBEq, Nat.reduceAdd, Nat.reduceSub, Nat.reduceMul, Nat.reduceLT, Nat.reduceLeDiff, Nat.reduceEqDiff, Int.reduceAdd, Int.reduceSub, Int.reduceMul, Int.reduceNeg, Int.reduceLT, Int.reduceLE, Int.reduceEq, Int.reduceToNat, UInt8.reduceOfNat, reduceCtorEq, sched_zero, z80])) (by omega) ?_
  rintro i R1 hi hR1
  have hsl := sched_len p i
  by_cases hlt : i < 80
  · have hss := sched_succ p i
    generalize hw : sched p i = w at *
    by_cases h16 : i < 16
    · have hstep : sstep p w i = w.set i (wordB p (4 * i)) := by unfold sstep; rw [if_pos h16]
      rw [hstep] at hss
      have hw2 := word_ok (p.drop (4 * i)) (by rw [List.length_drop]; omega)
      rw [wordB_drop] at hw2
      have e1 : (4 * (i : Int)).toNat = 4 * i := by omega
      simp (disch := first | omega | (simp only [List.length_append, List.length_cons, List.length_nil, List.length_set, List.length_map, List.length_take, List.length_drop, List.length_range, List.length_replicate, List.length_reverse]; omega)) only [go_sem, Nat.reduceBEq, Nat.reduceAdd, Nat.reduceSub, Nat.reduceMul, Nat.reduceLT, Nat.reduceLeDiff, Nat.reduceEqDiff, Int.reduceAdd, Int.reduceSub, Int.reduceMul, Int.reduceNeg, Int.reduceLT, Int.reduceLE, Int.reduceEq, Int.reduceToNat, UInt8.reduceOfNat, reduceCtorEq, e1]
      refine call_ro hw2 rfl rfl ?_
      simp (disch := first | omega | (simp only [List.length_append, List.length_cons, List.length_nil, List.length_set, List.length_map, List.length_take, List.length_drop, List.length_range, List.length_replicate, List.length_reverse]; omega)) only [go_sem, Nat.reduceBEq, Nat.reduceAdd, Nat.reduceSub, Nat.reduceMul, Nat.reduceLT, Nat.reduceLeDiff, Nat.reduceEqDiff, Int.reduceAdd, Int.reduceSub, Int.reduceMul, Int.reduceNeg, Int.reduceLT, Int.reduceLE, Int.reduceEq, Int.reduceToNat, UInt8.reduceOfNat, reduceCtorEq, seg_u32, Nat.mul_one]
      exact hR1 (i + 1) _ (by omega) (by omega) (.le (by simp (disch := first | omega | (simp only [List.length_append, List.length_cons, List.length_nil, List.length_set, List.length_map, List.length_take, List.length_drop, List.length_range, List.length_replicate, List.length_reverse]; omega)) only [go_sem, Nat.reduceBEq, Nat.reduceAdd, Nat.reduceSub, Nat.reduceMul, Nat.reduceLT, Nat.reduceLeDiff, Nat.reduceEqDiff, Int.reduceAdd, Int.reduceSub, Int.reduceMul, Int.reduceNeg, Int.reduceLT, Int.reduceLE, Int.reduceEq, Int.reduceToNat, UInt8.reduceOfNat, reduceCtorEq, hss]))
    · have hstep : sstep p w i = w.set i ((w.getD (i - 3) 0#32 ^^^ w.getD (i - 8) 0#32 ^^^ w.getD (i - 14) 0#32 ^^^ w.getD (i - 16) 0#32).rotateLeft 1) := by unfold sstep; rw [if_neg h16]
      rw [hstep] at hss
      have hr := rotl_ok (w.getD (i - 3) 0#32 ^^^ w.getD (i - 8) 0#32 ^^^ w.getD (i - 14) 0#32 ^^^ w.getD (i - 16) 0#32) 1 (by omega)
      have e3 : ((i : Int) - 3).toNat = i - 3 := by omega
      have e8 : ((i : Int) - 8).toNat = i - 8 := by omega
      have e14 : ((i : Int) - 14).toNat = i - 14 := by omega
      have e16 : ((i : Int) - 16).toNat = i - 16 := by omega
      simp (disch := first | omega | (simp only [List.length_append, List.length_cons, List.length_nil, List.length_set, List.length_map, List.length_take, List.length_drop, List.length_range, List.length_replicate, List.length_reverse]; omega)) only [go_sem, Nat.reduceBEq, Nat.reduceAdd, Nat.reduceSub, Nat.reduceMul, Nat.reduceLT, Nat.reduceLeDiff, Nat.reduceEqDiff, Int.reduceAdd, Int.reduceSub, Int.reduceMul, Int.reduceNeg, Int.reduceLT, Int.reduceLE, Int.reduceEq, Int.reduceToNat, UInt8.reduceOfNat, reduceCtorEq, e3, e8, e14, e16, Nat.mul_one, drop_u32, wxor]
      refine call_ro hr rfl rfl ?_
      simp (disch := first | omega | (simp only [List.length_append, List.length_cons, List.length_nil, List.length_set, List.length_map, List.length_take, List.length_drop, List.length_range, List.length_replicate, List.length_reverse]; omega)) only [go_sem, Nat.reduceBEq, Nat.reduceAdd, Nat.reduceSub, Nat.reduceMul, Nat.reduceLT, Nat.reduceLeDiff, Nat.reduceEqDiff, Int.reduceAdd, Int.reduceSub, Int.reduceMul, Int.reduceNeg, Int.reduceLT, Int.reduceLE, Int.reduceEq, Int.reduceToNat, UInt8.reduceOfNat, reduceCtorEq, seg_u32, Nat.mul_one]
      exact hR1 (i + 1) _ (by omega) (by omega) (.le (by simp (disch := first | omega | (simp only [List.length_append, List.length_cons, List.length_nil, List.length_set, List.length_map, List.length_take, List.length_drop, List.length_range, List.length_replicate, List.length_reverse]; omega)) only [go_sem, Nat.reduceBEq, Nat.reduceAdd, Nat.reduceSub, Nat.reduceMul, Nat.reduceLT, Nat.reduceLeDiff, Nat.reduceEqDiff, Int.reduceAdd, Int.reduceSub, Int.reduceMul, Int.reduceNeg, Int.reduceLT, Int.reduceLE, Int.reduceEq, Int.reduceToNat, UInt8.reduceOfNat, reduceCtorEq, hss]))
  · obtain rfl : i = 80 := by omega
    simp (disch := first | omega | (simp only [List.length_append, List.length_cons, List.length_nil, List.length_set, List.length_map, List.length_take, List.length_drop, List.length_range, List.length_replicate, List.length_reverse]; omega)) only [go_sem, Nat.reduceBEq, Nat.reduceAdd, Nat.reduceSub, Nat.reduceMul, Nat.reduceLT, Nat.reduceLeDiff, Nat.reduceEqDiff, Int.reduceAdd, Int.reduceSub, Int.reduceMul, Int.reduceNeg, Int.reduceLT, Int.reduceLE, Int.reduceEq, Int.reduceToNat, UInt8.reduceOfNat, reduceCtorEq, nth_c0, nth_cs]
    generalize hw : sched p 80 = w at *
    refine vcW_loop hN (fun i : Nat => ⟨[(0, .sl 105015 0 5), (6, .int .u32 (rounds w h i).a.toNat), (7, .int .u32 (rounds w h i).b.toNat), (8, .int .u32 (rounds w h i).c.toNat), (9, .int .u32 (rounds w h i).d.toNat), (10, .int .u32 (rounds w h i).e.toNat),
      (65, .agg (w.map u32)), (66, .int .i64 i), (2000000, .sl 105015 0 5), (2000001, .str p), (2000002, .vptr 105900 0), (2000003, .vptr 105900 0)],
      [(105900, .var [.sl 105015 0 5, .str r, .int .u64 n]), (105015, .arr 1 (hW h))]⟩) (fun i => i ≤ 80) (fun i => 80 - i) 0 (.le (by simp (disch := first | omega | (simp only [List.length_append, List.length_cons, List.length_nil, List.length_set, List.length_map, List.length_take, List.length_drop, List.length_range, List.length_replicate, List.length_reverse]; omega)) only [go_sem, Nat.reduceBEq, Nat.reduceAdd, Nat.reduceSub, Nat.reduceMul, Nat.reduceLT, Nat.reduceLeDiff, Nat.reduceEqDiff, Int.reduceAdd, Int.reduceSub, Int.reduceMul, Int.reduceNeg, Int.reduceLT, Int.reduceLE, Int.reduceEq, Int.reduceToNat, UInt8.reduceOfNat, reduceCtorEq, rounds_zero])) (by omega) ?_
    rintro i R2 hi hR2
    by_cases hlt : i < 80
    · have hrs := rounds_succ w h i
      generalize hx : rounds w h i = x at *
      have hst : rstep w x i = ⟨x.a.rotateLeft 5 + fOf i x.b x.c x.d + x.e + kOf i + w.getD i 0#32, x.a, x.b.rotateLeft 30, x.c, x.d⟩ := rfl
      have rest : ∀ (f : W) (k : Int), f = fOf i x.b x.c x.d → k = ((kOf i).toNat : Int) → vcW Tryd.prog E Cod.block1_19 (KQ.blk 3 (KQ.seq Tryd.prog E Cod.block1_14 (KQ.rnd R2 (KQ.blk 2 (KQ.seq Tryd.prog E Cod.block1_4 (KQ.post [] 4 R))))))
          ⟨[(0, .sl 105015 0 5), (6, .int .u32 x.a.toNat), (7, .int .u32 x.b.toNat), (8, .int .u32 x.c.toNat), (9, .int .u32 x.d.toNat), (10, .int .u32 x.e.toNat), (12, .int .u32 (w.getD i 0#32).toNat), (13, .int .u32 f.toNat), (14, .int .u32 k),
            (65, .agg (w.map u32)), (66, .int .i64 i), (2000000, .sl 105015 0 5), (2000001, .str p), (2000002, .vptr 105900 0), (2000003, .vptr 105900 0)], [(105900, .var [.sl 105015 0 5, .str r, .int .u64 n]), (105015, .arr 1 (hW h))]⟩ := by
        intro f k hf hk
        subst hk
        have r5 := rotl_ok x.a 5 (by omega)
        have r30 := rotl_ok x.b 30 (by omega)
        simp (disch := first | omega | (simp only [List.length_append, List.length_cons, List.length_nil, List.length_set, List.length_map, List.length_take, List.length_drop, List.length_range, List.length_replicate, List.length_reverse]; omega)) only [go_sem, Nat.reduceBEq, Nat.reduceAdd, Nat.reduceSub, Nat.reduceMul, Nat.reduceLT, Nat.reduceLeDiff, Nat.reduceEqDiff, Int.reduceAdd, Int.reduceSub, Int.reduceMul, Int.reduceNeg, Int.reduceLT, Int.reduceLE, Int.reduceEq, Int.reduceToNat, UInt8.reduceOfNat, reduceCtorEq]
        refine call_ro r5 rfl rfl ?_
        simp (disch := first | omega | (simp only [List.length_append, List.length_cons, List.length_nil, List.length_set, List.length_map, List.length_take, List.length_drop, List.length_range, List.length_replicate, List.length_reverse]; omega)) only [go_sem, Nat.reduceBEq, Nat.reduceAdd, Nat.reduceSub, Nat.reduceMul, Nat.reduceLT, Nat.reduceLeDiff, Nat.reduceEqDiff, Int.reduceAdd, Int.reduceSub, Int.reduceMul, Int.reduceNeg, Int.reduceLT, Int.reduceLE, Int.reduceEq, Int.reduceToNat, UInt8.reduceOfNat, reduceCtorEq, wadd]
        refine call_ro r30 rfl rfl ?_
        simp (disch := first | omega | (simp only [List.length_append, List.length_cons, List.length_nil, List.length_set, List.length_map, List.length_take, List.length_drop, List.length_range, List.length_replicate, List.length_reverse]; omega)) only [go_sem, Nat.reduceBEq, Nat.reduceAdd, Nat.reduceSub, Nat.reduceMul, Nat.reduceLT, Nat.reduceLeDiff, Nat.reduceEqDiff, Int.reduceAdd, Int.reduceSub, Int.reduceMul, Int.reduceNeg, Int.reduceLT, Int.reduceLE, Int.reduceEq, Int.reduceToNat, UInt8.reduceOfNat, reduceCtorEq]
        refine hR2 (i + 1) _ (by omega) (by omega) (.le ?_)
        rw [hrs, hst, ← hf]
        simp (disch := first | omega | (simp only [List.length_append, List.length_cons, List.length_nil, List.length_set, List.length_map, List.length_take, List.length_drop, List.length_range, List.length_replicate, List.length_reverse]; omega)) only [go_sem, Nat.reduceBEq, Nat.reduceAdd, Nat.reduceSub, Nat.reduceMul, Nat.reduceLT, Nat.reduceLeDiff, Nat.reduceEqDiff, Int.reduceAdd, Int.reduceSub, Int.reduceMul, Int.reduceNeg, Int.reduceLT, Int.reduceLE, Int.reduceEq, Int.reduceToNat, UInt8.reduceOfNat, reduceCtorEq]
      have hd : (i : Int).tdiv 20 = ((i / 20 : Nat) : Int) := rfl
      have hnot : bits .xor .u32 (if IntKind.u32.signed = true then -1 else IntKind.u32.max) (x.b.toNat : Int) = (~~~x.b).toNat := wnot x.b
      by_cases h20 : i < 20
      · have hq : i / 20 = 0 := by omega
        rw [hq] at hd
        simp (disch := first | omega | (simp only [List.length_append, List.length_cons, List.length_nil, List.length_set, List.length_map, List.length_take, List.length_drop, List.length_range, List.length_replicate, List.length_reverse]; omega)) only [go_sem, Nat.reduceBEq, Nat.reduceAdd, Nat.reduceSub, Nat.reduceMul, Nat.reduceLT, Nat.reduceLeDiff, Nat.reduceEqDiff, Int.reduceAdd, Int.reduceSub, Int.reduceMul, Int.reduceNeg, Int.reduceLT, Int.reduceLE, Int.reduceEq, Int.reduceToNat, UInt8.reduceOfNat, reduceCtorEq, hd, getD_u32, wxor, wand, wor, hnot, Cod.block1_jn]
        refine vcW_mid hN (rest _ 1518500249 ?_ ?_)
        · unfold fOf; rw [if_pos h20]
        · unfold kOf; rw [if_pos h20]; decide
      · by_cases h40 : i < 40
        · have hq : i / 20 = 1 := by omega
          rw [hq] at hd
          simp (disch := first | omega | (simp only [List.length_append, List.length_cons, List.length_nil, List.length_set, List.length_map, List.length_take, List.length_drop, List.length_range, List.length_replicate, List.length_reverse]; omega)) only [go_sem, Nat.reduceBEq, Nat.reduceAdd, Nat.reduceSub, Nat.reduceMul, Nat.reduceLT, Nat.reduceLeDiff, Nat.reduceEqDiff, Int.reduceAdd, Int.reduceSub, Int.reduceMul, Int.reduceNeg, Int.reduceLT, Int.reduceLE, Int.reduceEq, Int.reduceToNat, UInt8.reduceOfNat, reduceCtorEq, hd, getD_u32, wxor, wand, wor, hnot, Cod.block1_jn]
          refine vcW_mid hN (rest _ 1859775393 ?_ ?_)
          · unfold fOf; rw [if_neg h20, if_pos h40]
          · unfold kOf; rw [if_neg h20, if_pos h40]; decide
        · by_cases h60 : i < 60
          · have hq : i / 20 = 2 := by omega
            rw [hq] at hd
            simp (disch := first | omega | (simp only [List.length_append, List.length_cons, List.length_nil, List.length_set, List.length_map, List.length_take, List.length_drop, List.length_range, List.length_replicate, List.length_reverse]; omega)) only [go_sem, Nat.reduceBEq, Nat.reduceAdd, Nat.reduceSub, Nat.reduceMul, Nat.reduceLT, Nat.reduceLeDiff, Nat.reduceEqDiff, Int.reduceAdd, Int.reduceSub, Int.reduceMul, Int.reduceNeg, Int.reduceLT, Int.reduceLE, Int.reduceEq, Int.reduceToNat, UInt8.reduceOfNat, reduceCtorEq, hd, getD_u32, wxor, wand, wor, hnot, Cod.block1_jn]
            refine vcW_mid hN (rest _ 2400959708 ?_ ?_)
            · unfold fOf; rw [if_neg h20, if_neg h40, if_pos h60]
            · unfold kOf; rw [if_neg h20, if_neg h40, if_pos h60]; decide
          · have hq : i / 20 = 3 := by omega
            rw [hq] at hd
            simp (disch := first | omega | (simp only [List.length_append, List.length_cons, List.length_nil, List.length_set, List.length_map, List.length_take, List.length_drop, List.length_range, List.length_replicate, List.length_reverse]; omega)) only [go_sem, Nat.reduceBEq, Nat.reduceAdd, Nat.reduceSub, Nat.reduceMul, Nat.reduceLT, Nat.reduceLeDiff, Nat.reduceEqDiff, Int.reduceAdd, Int.reduceSub, Int.reduceMul, Int.reduceNeg, Int.reduceLT, Int.reduceLE, Int.reduceEq, Int.reduceToNat, UInt8.reduceOfNat, reduceCtorEq, hd, getD_u32, wxor, wand, wor, hnot, Cod.block1_jn]
            refine vcW_mid_wk hN _ (.le ?_) (rest (x.b ^^^ x.c ^^^ x.d) 3395469782 ?_ ?_)
            · simp (disch := first | omega | (simp only [List.length_append, List.length_cons, List.length_nil, List.length_set, List.length_map, List.length_take, List.length_drop, List.length_range, List.length_replicate, List.length_reverse]; omega)) only [go_sem, Nat.reduceBEq, Nat.reduceAdd, Nat.reduceSub, Nat.reduceMul, Nat.reduceLT, Nat.reduceLeDiff, Nat.reduceEqDiff, Int.reduceAdd, Int.reduceSub, Int.reduceMul, Int.reduceNeg, Int.reduceLT, Int.reduceLE, Int.reduceEq, Int.reduceToNat, UInt8.reduceOfNat, reduceCtorEq]
            · unfold fOf; rw [if_neg h20, if_neg h40, if_neg h60]
            · unfold kOf; rw [if_neg h20, if_neg h40, if_neg h60]; decide
    · obtain rfl : i = 80 := by omega
      generalize hx : rounds w h 80 = x at *
      simp (disch := first | omega | (simp only [List.length_append, List.length_cons, List.length_nil, List.length_set, List.length_map, List.length_take, List.length_drop, List.length_range, List.length_replicate, List.length_reverse]; omega)) only [go_sem, Nat.reduceBEq, Nat.reduceAdd, Nat.reduceSub, Nat.reduceMul, Nat.reduceLT, Nat.reduceLeDiff, Nat.reduceEqDiff, Int.reduceAdd, Int.reduceSub, Int.reduceMul, Int.reduceNeg, Int.reduceLT, Int.reduceLE, Int.reduceEq, Int.reduceToNat, UInt8.reduceOfNat, reduceCtorEq, nth_c0, nth_cs, wadd, hW]
      exact hR.le (h' := hashH (h.add x) r n) (by simp (disch := first | omega | (simp only [List.length_append, List.length_cons, List.length_nil, List.length_set, List.length_map, List.length_take, List.length_drop, List.length_range, List.length_replicate, List.length_reverse]; omega)) only [go_sem, Nat.reduceBEq, Nat.reduceAdd, Nat.reduceSub, Nat.reduceMul, Nat.reduceLT, Nat.reduceLeDiff, Nat.reduceEqDiff, Int.reduceAdd, Int.reduceSub, Int.reduceMul, Int.reduceNeg, Int.reduceLT, Int.reduceLE, Int.reduceEq, Int.reduceToNat, UInt8.reduceOfNat, reduceCtorEq, H5.add]) ⟨by rw [blk, hw, hx], rfl, rfl⟩
end Go.Proofs.YtlnplfjcnncakaaDoor.Sh
