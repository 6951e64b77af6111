/- objects: kinds, heads, names. -/
import Derived.Test.YtlnplfjcnncakaaDoorObNum
import Derived.Test.YtlnplfjcnncakaaDoorShHex
set_option linter.all false
namespace Go.Proofs.YtlnplfjcnncakaaDoor.Ob
open Eng
set_option maxRecDepth 10000
def nameP (k : Int) : Bs := if k = 1 then [99, 111, 109, 109, 105, 116] else if k = 2 then [116, 114, 101, 101] else if k = 3 then [98, 108, 111, 98] else if k = 4 then [116, 97, 103] else []
theorem name_ok (k : Int) : SpecR Tryd.prog 14 [.int .i64 k] (.str (nameP k)) := by
  refine Cod.oname_spec (fun E R hN hR => ?_)
  unfold nameP at hR
  by_cases h1 : k = 1
  · subst h1
    simp (disch := first | omega | (simp only [List.length_append, List.length_cons, List.length_nil, List.length_set, List.length_map, List.length_take, List.length_drop, List.length_range, List.length_replicate, List.length_reverse]; omega)) only [go_sem, Nat.reduceBEq, Nat.reduceAdd, Nat.reduceSub, Nat.reduceMul, Nat.reduceLT, Nat.reduceLeDiff, Nat.reduceEqDiff, Int.reduceAdd, Int.reduceSub, Int.reduceMul, Int.reduceNeg, Int.reduceLT, Int.reduceLE, Int.reduceEq, Int.reduceToNat, UInt8.reduceOfNat, reduceCtorEq]
    exact hR.ro ⟨rfl, rfl⟩
  by_cases h2 : k = 2
  · subst h2
    simp (disch := first | omega | (simp only [List.length_append, List.length_cons, List.length_nil, List.length_set, List.length_map, List.length_take, List.length_drop, List.length_range, List.length_replicate, List.length_reverse]; omega)) only [go_sem, Nat.reduceBEq, Nat.reduceAdd, Nat.reduceSub, Nat.reduceMul, Nat.reduceLT, Nat.reduceLeDiff, Nat.reduceEqDiff, Int.reduceAdd, Int.reduceSub, Int.reduceMul, Int.reduceNeg, Int.reduceLT, Int.reduceLE, Int.reduceEq, Int.reduceToNat, UInt8.reduceOfNat, reduceCtorEq]
    exact hR.ro ⟨rfl, rfl⟩
  by_cases h3 : k = 3
  · subst h3
    simp (disch := first | omega | (simp only [List.length_append, List.length_cons, List.length_nil, List.length_set, List.length_map, List.length_take, List.length_drop, List.length_range, List.length_replicate, List.length_reverse]; omega)) only [go_sem, Nat.reduceBEq, Nat.reduceAdd, Nat.reduceSub, Nat.reduceMul, Nat.reduceLT, Nat.reduceLeDiff, Nat.reduceEqDiff, Int.reduceAdd, Int.reduceSub, Int.reduceMul, Int.reduceNeg, Int.reduceLT, Int.reduceLE, Int.reduceEq, Int.reduceToNat, UInt8.reduceOfNat, reduceCtorEq]
    exact hR.ro ⟨rfl, rfl⟩
  by_cases h4 : k = 4
  · subst h4
    simp (disch := first | omega | (simp only [List.length_append, List.length_cons, List.length_nil, List.length_set, List.length_map, List.length_take, List.length_drop, List.length_range, List.length_replicate, List.length_reverse]; omega)) only [go_sem, Nat.reduceBEq, Nat.reduceAdd, Nat.reduceSub, Nat.reduceMul, Nat.reduceLT, Nat.reduceLeDiff, Nat.reduceEqDiff, Int.reduceAdd, Int.reduceSub, Int.reduceMul, Int.reduceNeg, Int.reduceLT, Int.reduceLE, Int.reduceEq, Int.reduceToNat, UInt8.reduceOfNat, reduceCtorEq]
    exact hR.ro ⟨rfl, rfl⟩
  rw [if_neg h1, if_neg h2, if_neg h3, if_neg h4] at hR
  simp (disch := first | omega | (simp only [List.length_append, List.length_cons, List.length_nil, List.length_set, List.length_map, List.length_take, List.length_drop, List.length_range, List.length_replicate, List.length_reverse]; omega)) only [go_sem, Nat.reduceBEq, Nat.reduceAdd, Nat.reduceSub, Nat.reduceMul, Nat.reduceLT, Nat.reduceLeDiff, Nat.reduceEqDiff, Int.reduceAdd, Int.reduceSub, Int.reduceMul, Int.reduceNeg, Int.reduceLT, Int.reduceLE, Int.reduceEq, Int.reduceToNat, UInt8.reduceOfNat, reduceCtorEq]
  exact hR.ro ⟨rfl, rfl⟩
theorem name_len (k : Int) : (nameP k).length ≤ 6 := by
  unfold nameP
  repeat' (first | (split) | simp)
def objA (k : Int) (d : Bs) : AV := .agg [.int .i64 k, .str d]
def checkP (k : Int) (d : Bs) : Int := if nameP k = [] then 10 else if 65000 < d.length then 2 else 0
theorem check_ok (k : Int) (d : Bs) (hd : d.length ≤ 9223372036854775807) : SpecR Tryd.prog 13 [objA k d] (.int .i64 (checkP k d)) := by
  refine Cod.check_spec (fun E R hN hR => ?_)
  unfold checkP at hR
  simp (disch := first | omega | (simp only [List.length_append, List.length_cons, List.length_nil, List.length_set, List.length_map, List.length_take, List.length_drop, List.length_range, List.length_replicate, List.length_reverse]; omega)) only [go_sem, Nat.reduceBEq, Nat.reduceAdd, Nat.reduceSub, Nat.reduceMul, Nat.reduceLT, Nat.reduceLeDiff, Nat.reduceEqDiff, Int.reduceAdd, Int.reduceSub, Int.reduceMul, Int.reduceNeg, Int.reduceLT, Int.reduceLE, Int.reduceEq, Int.reduceToNat, UInt8.reduceOfNat, reduceCtorEq, objA]
  refine call_ro (name_ok k) rfl rfl ?_
  by_cases h1 : nameP k = []
  · rw [if_pos h1] at hR
    simp (disch := first | omega | (simp only [List.length_append, List.length_cons, List.length_nil, List.length_set, List.length_map, List.length_take, List.length_drop, List.length_range, List.length_replicate, List.length_reverse]; omega)) only [go_sem, Nat.reduceBEq, Nat.reduceAdd, Nat.reduceSub, Nat.reduceMul, Nat.reduceLT, Nat.reduceLeDiff, Nat.reduceEqDiff, Int.reduceAdd, Int.reduceSub, Int.reduceMul, Int.reduceNeg, Int.reduceLT, Int.reduceLE, Int.reduceEq, Int.reduceToNat, UInt8.reduceOfNat, reduceCtorEq, h1]
    exact hR.ro ⟨rfl, rfl⟩
  · rw [if_neg h1] at hR
    by_cases h2 : 65000 < d.length
    · rw [if_pos h2] at hR
      simp (disch := first | omega | (simp only [List.length_append, List.length_cons, List.length_nil, List.length_set, List.length_map, List.length_take, List.length_drop, List.length_range, List.length_replicate, List.length_reverse]; omega)) only [go_sem, Nat.reduceBEq, Nat.reduceAdd, Nat.reduceSub, Nat.reduceMul, Nat.reduceLT, Nat.reduceLeDiff, Nat.reduceEqDiff, Int.reduceAdd, Int.reduceSub, Int.reduceMul, Int.reduceNeg, Int.reduceLT, Int.reduceLE, Int.reduceEq, Int.reduceToNat, UInt8.reduceOfNat, reduceCtorEq, h1]
      exact hR.ro ⟨rfl, rfl⟩
    · rw [if_neg h2] at hR
      simp (disch := first | omega | (simp only [List.length_append, List.length_cons, List.length_nil, List.length_set, List.length_map, List.length_take, List.length_drop, List.length_range, List.length_replicate, List.length_reverse]; omega)) only [go_sem, Nat.reduceBEq, Nat.reduceAdd, Nat.reduceSub, Nat.reduceMul, Nat.reduceLT, Nat.reduceLeDiff, Nat.reduceEqDiff, Int.reduceAdd, Int.reduceSub, Int.reduceMul, Int.reduceNeg, Int.reduceLT, Int.reduceLE, Int.reduceEq, Int.reduceToNat, UInt8.reduceOfNat, reduceCtorEq, h1]
      exact hR.ro ⟨rfl, rfl⟩
def textP (k : Int) (d : Bs) : Bs := nameP k ++ 32 :: (Lib.itoa d.length ++ 0 :: d)
def encA (k : Int) (d : Bs) : AV := if checkP k d = 0 then .tup [.str (textP k d), .int .i64 0] else .tup [.str [], .int .i64 (checkP k d)]
theorem encode_ok (k : Int) (d : Bs) (hd : d.length ≤ 9223372036854775807) : SpecR Tryd.prog 10 [objA k d] (encA k d) := by
  refine Cod.encode_spec (fun E R hN hR => ?_)
  unfold encA at hR
  simp (disch := first | omega | (simp only [List.length_append, List.length_cons, List.length_nil, List.length_set, List.length_map, List.length_take, List.length_drop, List.length_range, List.length_replicate, List.length_reverse]; omega)) only [go_sem, Nat.reduceBEq, Nat.reduceAdd, Nat.reduceSub, Nat.reduceMul, Nat.reduceLT, Nat.reduceLeDiff, Nat.reduceEqDiff, Int.reduceAdd, Int.reduceSub, Int.reduceMul, Int.reduceNeg, Int.reduceLT, Int.reduceLE, Int.reduceEq, Int.reduceToNat, UInt8.reduceOfNat, reduceCtorEq, objA]
  refine call_ro (check_ok k d hd) rfl rfl ?_
  by_cases h : checkP k d = 0
  · rw [if_pos h] at hR
    have hl : d.length ≤ 65000 := by
      unfold checkP at h
      split at h
      · cases h
      · split at h
        · cases h
        · omega
    have hnl := name_len k
    have hil := itoa_len d.length (by omega) (by omega)
    have hi := itoa_ok d.length (by omega) (by omega)
    simp (disch := first | omega | (simp only [List.length_append, List.length_cons, List.length_nil, List.length_set, List.length_map, List.length_take, List.length_drop, List.length_range, List.length_replicate, List.length_reverse]; omega)) only [go_sem, Nat.reduceBEq, Nat.reduceAdd, Nat.reduceSub, Nat.reduceMul, Nat.reduceLT, Nat.reduceLeDiff, Nat.reduceEqDiff, Int.reduceAdd, Int.reduceSub, Int.reduceMul, Int.reduceNeg, Int.reduceLT, Int.reduceLE, Int.reduceEq, Int.reduceToNat, UInt8.reduceOfNat, reduceCtorEq, h]
    refine call_ro (name_ok k) rfl rfl ?_
    simp (disch := first | omega | (simp only [List.length_append, List.length_cons, List.length_nil, List.length_set, List.length_map, List.length_take, List.length_drop, List.length_range, List.length_replicate, List.length_reverse]; omega)) only [go_sem, Nat.reduceBEq, Nat.reduceAdd, Nat.reduceSub, Nat.reduceMul, Nat.reduceLT, Nat.reduceLeDiff, Nat.reduceEqDiff, Int.reduceAdd, Int.reduceSub, Int.reduceMul, Int.reduceNeg, Int.reduceLT, Int.reduceLE, Int.reduceEq, Int.reduceToNat, UInt8.reduceOfNat, reduceCtorEq]
    refine call_ro hi rfl rfl ?_
    simp (disch := first | omega | (simp only [List.length_append, List.length_cons, List.length_nil, List.length_set, List.length_map, List.length_take, List.length_drop, List.length_range, List.length_replicate, List.length_reverse]; omega)) only [go_sem, Nat.reduceBEq, Nat.reduceAdd, Nat.reduceSub, Nat.reduceMul, Nat.reduceLT, Nat.reduceLeDiff, Nat.reduceEqDiff, Int.reduceAdd, Int.reduceSub, Int.reduceMul, Int.reduceNeg, Int.reduceLT, Int.reduceLE, Int.reduceEq, Int.reduceToNat, UInt8.reduceOfNat, reduceCtorEq]
    refine hR.ro ⟨rfl, ?_⟩
    simp [textP]
  · rw [if_neg h] at hR
    simp (disch := first | omega | (simp only [List.length_append, List.length_cons, List.length_nil, List.length_set, List.length_map, List.length_take, List.length_drop, List.length_range, List.length_replicate, List.length_reverse]; omega)) only [go_sem, Nat.reduceBEq, Nat.reduceAdd, Nat.reduceSub, Nat.reduceMul, Nat.reduceLT, Nat.reduceLeDiff, Nat.reduceEqDiff, Int.reduceAdd, Int.reduceSub, Int.reduceMul, Int.reduceNeg, Int.reduceLT, Int.reduceLE, Int.reduceEq, Int.reduceToNat, UInt8.reduceOfNat, reduceCtorEq, h]
    exact hR.ro ⟨rfl, rfl⟩
def idA (k : Int) (d : Bs) : AV := if checkP k d = 0 then .tup [.str (Sh.hexOf (Sh.sha1 (textP k d))), .int .i64 0] else .tup [.str [], .int .i64 (checkP k d)]
theorem check_len {k : Int} {d : Bs} (h : checkP k d = 0) : d.length ≤ 65000 := by
  unfold checkP at h
  split at h
  · cases h
  · split at h
    · cases h
    · omega
theorem text_len (k : Int) {d : Bs} (h : d.length ≤ 65000) : (textP k d).length ≤ 66000 := by
  have hnl := name_len k
  have hil := itoa_len d.length (by omega) (by omega)
  unfold textP
  simp only [List.length_append, List.length_cons]
  omega
theorem id_ok (k : Int) (d : Bs) (hd : d.length ≤ 9223372036854775807) : SpecR Tryd.prog 11 [objA k d] (idA k d) := by
  refine Cod.oid_spec (fun E R hN hR => ?_)
  have he := encode_ok k d hd
  unfold encA at he
  unfold idA at hR
  by_cases h : checkP k d = 0
  · rw [if_pos h] at hR he
    have hl := text_len k (check_len h)
    have hs := Sh.sum1_ok (textP k d) (by omega)
    have hh := Sh.hex_ok (Sh.sha1 (textP k d)) (by rw [Sh.sha1_len]; omega)
    simp (disch := first | omega | (simp only [List.length_append, List.length_cons, List.length_nil, List.length_set, List.length_map, List.length_take, List.length_drop, List.length_range, List.length_replicate, List.length_reverse]; omega)) only [go_sem, Nat.reduceBEq, Nat.reduceAdd, Nat.reduceSub, Nat.reduceMul, Nat.reduceLT, Nat.reduceLeDiff, Nat.reduceEqDiff, Int.reduceAdd, Int.reduceSub, Int.reduceMul, Int.reduceNeg, Int.reduceLT, Int.reduceLE, Int.reduceEq, Int.reduceToNat, UInt8.reduceOfNat, reduceCtorEq, objA]
    refine call_ro he rfl rfl ?_
    simp (disch := first | omega | (simp only [List.length_append, List.length_cons, List.length_nil, List.length_set, List.length_map, List.length_take, List.length_drop, List.length_range, List.length_replicate, List.length_reverse]; omega)) only [go_sem, Nat.reduceBEq, Nat.reduceAdd, Nat.reduceSub, Nat.reduceMul, Nat.reduceLT, Nat.reduceLeDiff, Nat.reduceEqDiff, Int.reduceAdd, Int.reduceSub, Int.reduceMul, Int.reduceNeg, Int.reduceLT, Int.reduceLE, Int.reduceEq, Int.reduceToNat, UInt8.reduceOfNat, reduceCtorEq]
    refine call_ro hs rfl rfl ?_
    simp (disch := first | omega | (simp only [List.length_append, List.length_cons, List.length_nil, List.length_set, List.length_map, List.length_take, List.length_drop, List.length_range, List.length_replicate, List.length_reverse]; omega)) only [go_sem, Nat.reduceBEq, Nat.reduceAdd, Nat.reduceSub, Nat.reduceMul, Nat.reduceLT, Nat.reduceLeDiff, Nat.reduceEqDiff, Int.reduceAdd, Int.reduceSub, Int.reduceMul, Int.reduceNeg, Int.reduceLT, Int.reduceLE, Int.reduceEq, Int.reduceToNat, UInt8.reduceOfNat, reduceCtorEq]
    refine call_ro hh rfl rfl ?_
    simp (disch := first | omega | (simp only [List.length_append, List.length_cons, List.length_nil, List.length_set, List.length_map, List.length_take, List.length_drop, List.length_range, List.length_replicate, List.length_reverse]; omega)) only [go_sem, Nat.reduceBEq, Nat.reduceAdd, Nat.reduceSub, Nat.reduceMul, Nat.reduceLT, Nat.reduceLeDiff, Nat.reduceEqDiff, Int.reduceAdd, Int.reduceSub, Int.reduceMul, Int.reduceNeg, Int.reduceLT, Int.reduceLE, Int.reduceEq, Int.reduceToNat, UInt8.reduceOfNat, reduceCtorEq]
    exact hR.ro ⟨rfl, rfl⟩
  · rw [if_neg h] at hR he
    simp (disch := first | omega | (simp only [List.length_append, List.length_cons, List.length_nil, List.length_set, List.length_map, List.length_take, List.length_drop, List.length_range, List.length_replicate, List.length_reverse]; omega)) only [go_sem, Nat.reduceBEq, Nat.reduceAdd, Nat.reduceSub, Nat.reduceMul, Nat.reduceLT, Nat.reduceLeDiff, Nat.reduceEqDiff, Int.reduceAdd, Int.reduceSub, Int.reduceMul, Int.reduceNeg, Int.reduceLT, Int.reduceLE, Int.reduceEq, Int.reduceToNat, UInt8.reduceOfNat, reduceCtorEq, objA]
    refine call_ro he rfl rfl ?_
    simp (disch := first | omega | (simp only [List.length_append, List.length_cons, List.length_nil, List.length_set, List.length_map, List.length_take, List.length_drop, List.length_range, List.length_replicate, List.length_reverse]; omega)) only [go_sem, Nat.reduceBEq, Nat.reduceAdd, Nat.reduceSub, Nat.reduceMul, Nat.reduceLT, Nat.reduceLeDiff, Nat.reduceEqDiff, Int.reduceAdd, Int.reduceSub, Int.reduceMul, Int.reduceNeg, Int.reduceLT, Int.reduceLE, Int.reduceEq, Int.reduceToNat, UInt8.reduceOfNat, reduceCtorEq, h]
    exact hR.ro ⟨rfl, rfl⟩
theorem awake_ok : SpecR Tryd.prog 9 [] (.bool true) := by
  refine Cod.awake_spec (fun E R hN hR => ?_)
  have hi := id_ok 3 [] (by simp)
  have e1 : checkP 3 [] = 0 := by decide
  have e2 : textP 3 [] = [98, 108, 111, 98, 32, 48, 0] := by
    unfold textP
    rw [show Lib.itoa (([] : Bs).length : Int) = Lib.decDigits 0 from rfl, dec_small (by omega)]
    rfl
  unfold idA at hi
  rw [if_pos e1, e2, Sh.blob0] at hi
  simp (disch := first | omega | (simp only [List.length_append, List.length_cons, List.length_nil, List.length_set, List.length_map, List.length_take, List.length_drop, List.length_range, List.length_replicate, List.length_reverse]; omega)) only [go_sem, Nat.reduceBEq, Nat.reduceAdd, Nat.reduceSub, Nat.reduceMul, Nat.reduceLT, Nat.reduceLeDiff, Nat.reduceEqDiff, Int.reduceAdd, Int.reduceSub, Int.reduceMul, Int.reduceNeg, Int.reduceLT, Int.reduceLE, Int.reduceEq, Int.reduceToNat, UInt8.reduceOfNat, reduceCtorEq]
  refine call_ro hi rfl rfl ?_
  simp (disch := first | omega | (simp only [List.length_append, List.length_cons, List.length_nil, List.length_set, List.length_map, List.length_take, List.length_drop, List.length_range, List.length_replicate, List.length_reverse]; omega)) only [go_sem, Nat.reduceBEq, Nat.reduceAdd, Nat.reduceSub, Nat.reduceMul, Nat.reduceLT, Nat.reduceLeDiff, Nat.reduceEqDiff, Int.reduceAdd, Int.reduceSub, Int.reduceMul, Int.reduceNeg, Int.reduceLT, Int.reduceLE, Int.reduceEq, Int.reduceToNat, UInt8.reduceOfNat, reduceCtorEq]
  exact hR.ro ⟨rfl, rfl⟩
end Go.Proofs.YtlnplfjcnncakaaDoor.Ob
