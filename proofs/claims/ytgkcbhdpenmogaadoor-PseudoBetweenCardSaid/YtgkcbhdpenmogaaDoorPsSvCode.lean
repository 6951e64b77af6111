/- Code of functions as the engine reads it: written by a program (code2.py). -/
import Derived.Test.YtgkcbhdpenmogaaDoorEngX
import Derived.Test.YtgkcbhdpenmogaaDoorProg
import Derived.KernelRfl
set_option linter.all false
namespace Go.Proofs.YtgkcbhdpenmogaaDoor.Cod
open Eng
set_option maxRecDepth 100000
/- cartulary/semver.number -/
def number_4o : List ROp := [.val 35 true 1035 (.mov (.t 0)),
   .val 36 true 1036 (.mov (.t 5)),
   .val 37 true 1037 (.slcS (.t 35) none (some (.t 36))),
   .val 38 true 1038 (.mov (.t 0)),
   .val 39 true 1039 (.mov (.t 5)),
   .val 40 true 1040 (.slcS (.t 38) (some (.t 39)) none),
   .val 2 true 1002 (.mov (.t 37)),
   .v 3 (.mov (.t 40)),
   .v 4 (.mov (.c (.bool true)))]
def number_4 : AK := .seq (.reg number_4o [2, 3, 4]) .ret
def number_7o : List ROp := [.v 2 (.mov (.c (.str []))),
   .v 3 (.mov (.c (.str []))),
   .v 4 (.mov (.c (.bool false)))]
def number_7 : AK := .seq (.reg number_7o [2, 3, 4]) .ret
def number_6 : AK := .cond (.t 34) number_7 .skip
def number_5o : List ROp := [.v 24 (.mov (.t 5)),
   .v 25 (.bin .eql (.t 24) (.c (.int .i64 0))),
   .v 26 (.mov (.t 25)),
   .gval 27 26 false false 1027 (.mov (.t 5)),
   .gval 28 26 false false 1028 (.bin .gtr (.t 27) (.c (.int .i64 1))),
   .gval 29 26 false false 1029 (.mov (.t 28)),
   .gval 30 29 true false 1030 (.mov (.t 0)),
   .gval 31 29 true false 1031 (.sidx (.t 30) (.c (.int .i64 0))),
   .gval 32 29 true false 1032 (.bin .eql (.t 31) (.c (.int .u8 48))),
   .gval 33 26 false false 1033 (.pick (.t 29) (.t 32) (.c (.bool false))),
   .v 34 (.pick (.t 26) (.c (.bool true)) (.t 33))]
def number_5 : AK := .seq (.reg number_5o [0, 5, 34]) number_6
def number_3 : AK := .seq number_5 number_4
def number_11o : List ROp := [.v 22 (.mov (.t 5)),
   .v 23 (.bin .add (.t 22) (.c (.int .i64 1))),
   .v 5 (.mov (.t 23))]
def number_11 : AK := .reg number_11o [0, 5]
def number_10 : AK := .block 1 number_11
def number_13 : AK := .cond (.t 21) .skip (.exit 0)
def number_12o : List ROp := [.v 6 (.mov (.t 5)),
   .v 7 (.mov (.t 0)),
   .v 8 (.len true (.t 7)),
   .v 9 (.bin .lss (.t 6) (.t 8)),
   .v 10 (.mov (.t 9)),
   .gval 11 10 true false 1011 (.mov (.t 0)),
   .gval 12 10 true false 1012 (.mov (.t 5)),
   .gval 13 10 true false 1013 (.sidx (.t 11) (.t 12)),
   .gval 14 10 true false 1014 (.bin .geq (.t 13) (.c (.int .u8 48))),
   .v 15 (.pick (.t 10) (.t 14) (.c (.bool false))),
   .v 16 (.mov (.t 15)),
   .gval 17 16 true false 1017 (.mov (.t 0)),
   .gval 18 16 true false 1018 (.mov (.t 5)),
   .gval 19 16 true false 1019 (.sidx (.t 17) (.t 18)),
   .gval 20 16 true false 1020 (.bin .leq (.t 19) (.c (.int .u8 57))),
   .v 21 (.pick (.t 16) (.t 20) (.c (.bool false)))]
def number_12 : AK := .seq (.reg number_12o [0, 5, 21]) number_13
def number_9 : AK := .seq number_12 number_10
def number_L0 : AK := .loop number_9
def number_8 : AK := .block 0 number_L0
def number_2 : AK := .seq number_8 number_3
def number_1o : List ROp := [.v 5 (.mov (.c (.int .i64 0)))]
def number_1 : AK := .seq (.reg number_1o [0, 5]) number_2
def number_0o : List ROp := [.v 2 (.mov (.c (.str []))),
   .v 3 (.mov (.c (.str []))),
   .v 4 (.mov (.c (.bool false)))]
def number_0 : AK := .seq (.reg number_0o [0]) number_1
def number : AK := number_0
theorem number_vc (P : Program) (E : Env) (Q : KQ) (st : St) :
  (vcW P E number_4 Q st = aopsW P number_4o st (KS.reg [2, 3, 4] (KQ.seq P E .ret Q))) ∧
  (vcW P E number_7 Q st = aopsW P number_7o st (KS.reg [2, 3, 4] (KQ.seq P E .ret Q))) ∧
  (vcW P E number_6 Q st = cndW P E (ev st (.t 34)) number_7 .skip Q st) ∧
  (vcW P E number_5 Q st = aopsW P number_5o st (KS.reg [0, 5, 34] (KQ.seq P E number_6 Q))) ∧
  (vcW P E number_3 Q st = vcW P E number_5 (KQ.seq P E number_4 Q) st) ∧
  (vcW P E number_11 Q st = aopsW P number_11o st (KS.reg [0, 5] Q)) ∧
  (vcW P E number_10 Q st = vcW P E number_11 (KQ.blk 1 Q) st) ∧
  (vcW P E number_13 Q st = cndW P E (ev st (.t 21)) .skip (.exit 0) Q st) ∧
  (vcW P E number_12 Q st = aopsW P number_12o st (KS.reg [0, 5, 21] (KQ.seq P E number_13 Q))) ∧
  (vcW P E number_9 Q st = vcW P E number_12 (KQ.seq P E number_10 Q) st) ∧
  (vcW P E number_8 Q st = vcW P E number_L0 (KQ.blk 0 Q) st) ∧
  (vcW P E number_2 Q st = vcW P E number_8 (KQ.seq P E number_3 Q) st) ∧
  (vcW P E number_1 Q st = aopsW P number_1o st (KS.reg [0, 5] (KQ.seq P E number_2 Q))) ∧
  (vcW P E number_0 Q st = aopsW P number_0o st (KS.reg [0] (KQ.seq P E number_1 Q))) ∧
  (vcW P E number Q st = vcW P E number_0 Q st) :=
  ⟨rfl, rfl, vcW_cond, rfl, rfl, rfl, rfl, vcW_cond, rfl, rfl, rfl, rfl, rfl, rfl, rfl⟩
theorem number_jn (P : Program) (E : Env) (Q : KQ) (st : St) :
  (True) :=
  trivial
attribute [go_sem] number_vc number_4o number_7o number_5o number_11o number_12o number_1o number_0o
noncomputable def numberB : Code := (Tryd.f36.body).getD .skip
theorem number_eq : trCode Tryd.prog 41 1000 numberB = number.erase 1000 := by kernel_rfl
theorem number_body : Tryd.f36.body = some numberB := by kernel_rfl
theorem number_n : Tryd.f36.ntmps = 41 := by kernel_rfl
theorem number_r : Tryd.f36.results.toList.map (trRes Tryd.prog) = [.tmp 2, .tmp 3, .tmp 4] := by kernel_rfl
theorem number_spec {h : HP} {a0 : AV} {Post : HP → AV → List AV → Prop} (hp : ∀ (E : Env) (R : HP → AV → List AV → Prop), E.N ≤ 1000000 → PostTo Post R → vcW Tryd.prog E number (KQ.post [.tmp 2, .tmp 3, .tmp 4] 1 R) ⟨[(0, a0)], h⟩) : Eng.Spec Tryd.prog 36 h [a0] Post := spec_wk (
  spec_of (c := number.erase 1000) (B := 1000) Tryd.func36 number_body (by rw [number_n, number_eq]) (by rw [number_n]; decide) (by rw [number_n]; exact (by decide : 1 ≤ 41)) (fun E hE hB hrd => by
    have hN : E.N ≤ 1000000 := by
      rw [hE, number_n]; decide
    rw [number_r, ← hB]
    exact awp_slots [(0, a0)] ⟨rfl, trivial⟩ (vcW_sound hN _ (hp E _ hN fin_self))))
/- cartulary/semver.digits -/
def digits_1o : List ROp := [.v 3 (.mov (.t 0)),
   .v 4 (.bin .neq (.t 3) (.c (.str []))),
   .v 5 (.mov (.t 4)),
   .gval 6 5 true false 2006 (.mov (.t 0)),
   .gcal 7 5 true false 2007 62 [(.t 6), (.c (.str [48, 49, 50, 51, 52, 53, 54, 55, 56, 57]))],
   .gval 8 5 true false 2008 (.bin .eql (.t 7) (.c (.str []))),
   .v 9 (.pick (.t 5) (.t 8) (.c (.bool false))),
   .v 2 (.mov (.t 9))]
def digits_1 : AK := .seq (.reg digits_1o [2]) .ret
def digits_0o : List ROp := [.v 2 (.mov (.c (.bool false)))]
def digits_0 : AK := .seq (.reg digits_0o [0]) digits_1
def digits : AK := digits_0
theorem digits_vc (P : Program) (E : Env) (Q : KQ) (st : St) :
  (vcW P E digits_1 Q st = aopsW P digits_1o st (KS.reg [2] (KQ.seq P E .ret Q))) ∧
  (vcW P E digits_0 Q st = aopsW P digits_0o st (KS.reg [0] (KQ.seq P E digits_1 Q))) ∧
  (vcW P E digits Q st = vcW P E digits_0 Q st) :=
  ⟨rfl, rfl, rfl⟩
theorem digits_jn (P : Program) (E : Env) (Q : KQ) (st : St) :
  (True) :=
  trivial
attribute [go_sem] digits_vc digits_1o digits_0o
noncomputable def digitsB : Code := (Tryd.f51.body).getD .skip
theorem digits_eq : trCode Tryd.prog 10 2000 digitsB = digits.erase 2000 := by kernel_rfl
theorem digits_body : Tryd.f51.body = some digitsB := by kernel_rfl
theorem digits_n : Tryd.f51.ntmps = 10 := by kernel_rfl
theorem digits_r : Tryd.f51.results.toList.map (trRes Tryd.prog) = [.tmp 2] := by kernel_rfl
theorem digits_spec {h : HP} {a0 : AV} {Post : HP → AV → List AV → Prop} (hp : ∀ (E : Env) (R : HP → AV → List AV → Prop), E.N ≤ 1000000 → PostTo Post R → vcW Tryd.prog E digits (KQ.post [.tmp 2] 1 R) ⟨[(0, a0)], h⟩) : Eng.Spec Tryd.prog 51 h [a0] Post := spec_wk (
  spec_of (c := digits.erase 2000) (B := 2000) Tryd.func51 digits_body (by rw [digits_n, digits_eq]) (by rw [digits_n]; decide) (by rw [digits_n]; exact (by decide : 1 ≤ 10)) (fun E hE hB hrd => by
    have hN : E.N ≤ 1000000 := by
      rw [hE, digits_n]; decide
    rw [digits_r, ← hB]
    exact awp_slots [(0, a0)] ⟨rfl, trivial⟩ (vcW_sound hN _ (hp E _ hN fin_self))))
/- cartulary/semver.words -/
def words_2o : List ROp := [.effN false 3000 (.st 1 (.t 4) (.c (.bool true)))]
def words_2 : AK := .seq (.reg words_2o [4]) .ret
def words_11o : List ROp := [.v 64 (.bin .add (.t 33) (.c (.int .i64 1))),
   .v 33 (.mov (.t 64))]
def words_11 : AK := .reg words_11o [4, 31, 32, 33, 3000003, 3000004]
def words_16o : List ROp := [.effN false 3000 (.st 1 (.t 4) (.c (.bool false)))]
def words_16 : AK := .seq (.reg words_16o [3000003, 3000004]) .ret
def words_15 : AK := .cond (.t 63) words_16 .skip
def words_14o : List ROp := [.v 37 (.mov (.t 7)),
   .v 38 (.bin .geq (.t 37) (.c (.int .u8 48))),
   .v 39 (.mov (.t 38)),
   .gval 40 39 true false 3040 (.mov (.t 7)),
   .gval 41 39 true false 3041 (.bin .leq (.t 40) (.c (.int .u8 57))),
   .v 42 (.pick (.t 39) (.t 41) (.c (.bool false))),
   .v 43 (.mov (.t 42)),
   .gval 44 43 false false 3044 (.mov (.t 7)),
   .gval 45 43 false false 3045 (.bin .geq (.t 44) (.c (.int .u8 97))),
   .gval 46 43 false false 3046 (.mov (.t 45)),
   .gval 47 46 true false 3047 (.mov (.t 7)),
   .gval 48 46 true false 3048 (.bin .leq (.t 47) (.c (.int .u8 122))),
   .gval 49 43 false false 3049 (.pick (.t 46) (.t 48) (.c (.bool false))),
   .v 50 (.pick (.t 43) (.c (.bool true)) (.t 49)),
   .v 51 (.mov (.t 50)),
   .gval 52 51 false false 3052 (.mov (.t 7)),
   .gval 53 51 false false 3053 (.bin .geq (.t 52) (.c (.int .u8 65))),
   .gval 54 51 false false 3054 (.mov (.t 53)),
   .gval 55 54 true false 3055 (.mov (.t 7)),
   .gval 56 54 true false 3056 (.bin .leq (.t 55) (.c (.int .u8 90))),
   .gval 57 51 false false 3057 (.pick (.t 54) (.t 56) (.c (.bool false))),
   .v 58 (.pick (.t 51) (.c (.bool true)) (.t 57)),
   .v 59 (.mov (.t 58)),
   .gval 60 59 false false 3060 (.mov (.t 7)),
   .gval 61 59 false false 3061 (.bin .eql (.t 60) (.c (.int .u8 45))),
   .v 62 (.pick (.t 59) (.c (.bool true)) (.t 61)),
   .v 63 (.un .not (.t 62))]
def words_14 : AK := .seq (.reg words_14o [4, 31, 32, 33, 63, 3000003, 3000004]) words_15
def words_13o : List ROp := [.v 35 (.idxA 1 (.t 31) (.t 33)),
   .v 36 (.ld false 1 (.t 35)),
   .v 7 (.mov (.t 36))]
def words_13 : AK := .seq (.reg words_13o [4, 7, 31, 32, 33, 3000003, 3000004]) words_14
def words_12 : AK := .block 3 words_13
def words_10 : AK := .seq words_12 words_11
def words_17 : AK := .cond (.t 34) .skip (.exit 2)
def words_9 : AK := .seq words_17 words_10
def words_8o : List ROp := [.v 34 (.bin .lss (.t 33) (.t 32))]
def words_8 : AK := .seq (.reg words_8o [4, 31, 32, 33, 34, 3000003, 3000004]) words_9
def words_L0 : AK := .loop words_8
def words_7 : AK := .block 2 words_L0
def words_6o : List ROp := [.v 30 (.mov (.t 5)),
   .eff 31 false 3031 (.stb (.t 30)),
   .v 32 (.len false (.t 31)),
   .v 33 (.mov (.c (.int .i64 0)))]
def words_6 : AK := .seq (.reg words_6o [4, 31, 32, 33, 3000003, 3000004]) words_7
def words_20o : List ROp := [.effN false 3000 (.st 1 (.t 4) (.c (.bool false)))]
def words_20 : AK := .seq (.reg words_20o [3000003, 3000004]) .ret
def words_19 : AK := .cond (.t 29) words_20 .skip
def words_18o : List ROp := [.v 11 (.mov (.t 5)),
   .v 12 (.bin .eql (.t 11) (.c (.str []))),
   .v 13 (.mov (.t 12)),
   .gval 14 13 false false 3014 (.ld false 1 (.t 3)),
   .gval 15 13 false false 3015 (.mov (.t 14)),
   .gval 16 15 true false 3016 (.mov (.t 5)),
   .gcal 17 15 true false 3017 51 [(.t 16)],
   .gval 18 13 false false 3018 (.pick (.t 15) (.t 17) (.c (.bool false))),
   .gval 19 13 false false 3019 (.mov (.t 18)),
   .gval 20 19 true false 3020 (.mov (.t 5)),
   .gval 21 19 true false 3021 (.len true (.t 20)),
   .gval 22 19 true false 3022 (.bin .gtr (.t 21) (.c (.int .i64 1))),
   .gval 23 13 false false 3023 (.pick (.t 19) (.t 22) (.c (.bool false))),
   .gval 24 13 false false 3024 (.mov (.t 23)),
   .gval 25 24 true false 3025 (.mov (.t 5)),
   .gval 26 24 true false 3026 (.sidx (.t 25) (.c (.int .i64 0))),
   .gval 27 24 true false 3027 (.bin .eql (.t 26) (.c (.int .u8 48))),
   .gval 28 13 false false 3028 (.pick (.t 24) (.t 27) (.c (.bool false))),
   .v 29 (.pick (.t 13) (.c (.bool true)) (.t 28))]
def words_18 : AK := .seq (.reg words_18o [4, 5, 29, 3000003, 3000004]) words_19
def words_5 : AK := .seq words_18 words_6
def words_4 : AK := .block 1 words_5
/- kept through the loop: [3, 4] -/
def words_3o : List ROp := [.v 8 (.mov (.t 0))]
def words_3 : AK := .split words_3o 9 54 (.t 8) 46 0 10 5 words_4
def words_1 : AK := .seq words_3 words_2
def words_0o : List ROp := [.eff 3 false 3003 (.box 1 (.t 1)),
   .eff 4 false 3004 (.alloc [.bool false])]
def words_0 : AK := .seq (.reg words_0o [0, 3, 4]) words_1
def words : AK := words_0
theorem words_vc (P : Program) (E : Env) (Q : KQ) (st : St) :
  (vcW P E words_2 Q st = aopsW P words_2o st (KS.reg [4] (KQ.seq P E .ret Q))) ∧
  (vcW P E words_11 Q st = aopsW P words_11o st (KS.reg [4, 31, 32, 33, 3000003, 3000004] Q)) ∧
  (vcW P E words_16 Q st = aopsW P words_16o st (KS.reg [3000003, 3000004] (KQ.seq P E .ret Q))) ∧
  (vcW P E words_15 Q st = cndW P E (ev st (.t 63)) words_16 .skip Q st) ∧
  (vcW P E words_14 Q st = aopsW P words_14o st (KS.reg [4, 31, 32, 33, 63, 3000003, 3000004] (KQ.seq P E words_15 Q))) ∧
  (vcW P E words_13 Q st = aopsW P words_13o st (KS.reg [4, 7, 31, 32, 33, 3000003, 3000004] (KQ.seq P E words_14 Q))) ∧
  (vcW P E words_12 Q st = vcW P E words_13 (KQ.blk 3 Q) st) ∧
  (vcW P E words_10 Q st = vcW P E words_12 (KQ.seq P E words_11 Q) st) ∧
  (vcW P E words_17 Q st = cndW P E (ev st (.t 34)) .skip (.exit 2) Q st) ∧
  (vcW P E words_9 Q st = vcW P E words_17 (KQ.seq P E words_10 Q) st) ∧
  (vcW P E words_8 Q st = aopsW P words_8o st (KS.reg [4, 31, 32, 33, 34, 3000003, 3000004] (KQ.seq P E words_9 Q))) ∧
  (vcW P E words_7 Q st = vcW P E words_L0 (KQ.blk 2 Q) st) ∧
  (vcW P E words_6 Q st = aopsW P words_6o st (KS.reg [4, 31, 32, 33, 3000003, 3000004] (KQ.seq P E words_7 Q))) ∧
  (vcW P E words_20 Q st = aopsW P words_20o st (KS.reg [3000003, 3000004] (KQ.seq P E .ret Q))) ∧
  (vcW P E words_19 Q st = cndW P E (ev st (.t 29)) words_20 .skip Q st) ∧
  (vcW P E words_18 Q st = aopsW P words_18o st (KS.reg [4, 5, 29, 3000003, 3000004] (KQ.seq P E words_19 Q))) ∧
  (vcW P E words_5 Q st = vcW P E words_18 (KQ.seq P E words_6 Q) st) ∧
  (vcW P E words_4 Q st = vcW P E words_5 (KQ.blk 1 Q) st) ∧
  (vcW P E words_3 Q st = aopsW P words_3o st (KS.spl P E 9 54 (.t 8) 46 0 10 5 words_4 Q)) ∧
  (vcW P E words_1 Q st = vcW P E words_3 (KQ.seq P E words_2 Q) st) ∧
  (vcW P E words_0 Q st = aopsW P words_0o st (KS.reg [0, 3, 4] (KQ.seq P E words_1 Q))) ∧
  (vcW P E words Q st = vcW P E words_0 Q st) :=
  ⟨rfl, rfl, rfl, vcW_cond, rfl, rfl, rfl, rfl, vcW_cond, rfl, rfl, rfl, rfl, rfl, vcW_cond, rfl, rfl, rfl, rfl, rfl, rfl, rfl⟩
theorem words_jn (P : Program) (E : Env) (Q : KQ) (st : St) :
  (True) :=
  trivial
attribute [go_sem] words_vc words_2o words_11o words_16o words_14o words_13o words_8o words_6o words_20o words_18o words_3o words_0o
noncomputable def wordsB : Code := (Tryd.f38.body).getD .skip
theorem words_eq : trCode Tryd.prog 65 3000 wordsB = words.erase 3000 := by kernel_rfl
theorem words_body : Tryd.f38.body = some wordsB := by kernel_rfl
theorem words_n : Tryd.f38.ntmps = 65 := by kernel_rfl
theorem words_r : Tryd.f38.results.toList.map (trRes Tryd.prog) = [.cell 4 false 1] := by kernel_rfl
theorem words_spec {h : HP} {a0 a1 : AV} {Post : HP → AV → List AV → Prop} (hp : ∀ (E : Env) (R : HP → AV → List AV → Prop), E.N ≤ 1000000 → E.rd = none → PostTo Post R → vcW Tryd.prog E words (KQ.post [.cell 4 false 1] 2 R) ⟨[(0, a0), (1, a1)], h⟩) : Eng.Spec Tryd.prog 38 h [a0, a1] Post := spec_wk (
  spec_of (c := words.erase 3000) (B := 3000) Tryd.func38 words_body (by rw [words_n, words_eq]) (by rw [words_n]; decide) (by rw [words_n]; exact (by decide : 2 ≤ 65)) (fun E hE hB hrd => by
    have hN : E.N ≤ 1000000 := by
      rw [hE, words_n]; decide
    rw [words_r, ← hB]
    exact awp_slots [(0, a0), (1, a1)] ⟨rfl, rfl, trivial⟩ (vcW_sound hN _ (hp E _ hN hrd fin_self))))
/- cartulary/semver.Parse -/
def parse_16o : List ROp := [.v 96 (.bld [.str [], .str [], .str [], .str [], .str [], .int .i64 0] []),
   .effN false 4000 (.st 6 (.t 2) (.t 96)),
   .v 3 (.mov (.c (.bool false)))]
def parse_16 : AK := .seq (.reg parse_16o [2, 3]) .ret
def parse_15 : AK := .seq (.label 0) parse_16
def parse_20o : List ROp := [.v 95 (.ld true 6 (.t 4)),
   .effN false 4000 (.st 6 (.t 2) (.t 95)),
   .v 3 (.mov (.c (.bool true)))]
def parse_20 : AK := .seq (.reg parse_20o [2, 3]) .ret
def parse_19 : AK := .cond (.t 94) parse_20 .skip
def parse_18o : List ROp := [.v 89 (.mov (.t 5)),
   .v 90 (.mov (.t 89)),
   .gval 91 90 true false 4091 (.fldA false 3 1 (.t 4)),
   .gval 92 90 true false 4092 (.ld false 1 (.t 91)),
   .gcal 93 90 true false 4093 38 [(.t 92), (.c (.bool true))],
   .v 94 (.pick (.t 90) (.t 93) (.c (.bool false)))]
def parse_18 : AK := .seq (.reg parse_18o [2, 4, 94]) parse_19
def parse_17o : List ROp := [.v 84 (.mov (.t 6)),
   .cal (some 85) false 4085 35 [(.t 84), (.c (.str [45]))],
   .v 83 (.mov (.t 85)),
   .v 86 (.ext (.t 83) 0),
   .v 87 (.ext (.t 83) 1),
   .v 88 (.fldA false 3 1 (.t 4)),
   .effN false 4000 (.st 1 (.t 88) (.t 86)),
   .v 5 (.mov (.t 87))]
def parse_17 : AK := .seq (.reg parse_17o [2, 4, 5]) parse_18
def parse_14 : AK := .seq parse_17 parse_15
def parse_23o : List ROp := [.v 82 (.ld true 6 (.t 4)),
   .effN false 4000 (.st 6 (.t 2) (.t 82)),
   .v 3 (.mov (.c (.bool true)))]
def parse_23 : AK := .seq (.reg parse_23o [2, 3]) .ret
def parse_22 : AK := .cond (.t 81) parse_23 .skip
def parse_21o : List ROp := [.v 80 (.mov (.t 6)),
   .v 81 (.bin .eql (.t 80) (.c (.str [])))]
def parse_21 : AK := .seq (.reg parse_21o [2, 4, 6, 81]) parse_22
def parse_13 : AK := .seq parse_21 parse_14
def parse_26 : AK := .cond (.t 79) (.goto 0) .skip
def parse_25o : List ROp := [.v 73 (.mov (.t 5)),
   .v 74 (.mov (.t 73)),
   .gval 75 74 true false 4075 (.fldA false 4 1 (.t 4)),
   .gval 76 74 true false 4076 (.ld false 1 (.t 75)),
   .gcal 77 74 true false 4077 38 [(.t 76), (.c (.bool false))],
   .gval 78 74 true false 4078 (.un .not (.t 77)),
   .v 79 (.pick (.t 74) (.t 78) (.c (.bool false)))]
def parse_25 : AK := .seq (.reg parse_25o [2, 4, 6, 79]) parse_26
def parse_24o : List ROp := [.v 67 (.mov (.t 6)),
   .cal (some 68) false 4068 37 [(.t 67), (.c (.str [43]))],
   .v 66 (.mov (.t 68)),
   .v 69 (.ext (.t 66) 0),
   .v 70 (.ext (.t 66) 1),
   .v 71 (.ext (.t 66) 2),
   .v 6 (.mov (.t 69)),
   .v 72 (.fldA false 4 1 (.t 4)),
   .effN false 4000 (.st 1 (.t 72) (.t 70)),
   .v 5 (.mov (.t 71))]
def parse_24 : AK := .seq (.reg parse_24o [2, 4, 5, 6]) parse_25
def parse_12 : AK := .seq parse_24 parse_13
def parse_29 : AK := .cond (.t 65) (.goto 0) .skip
def parse_28o : List ROp := [.v 64 (.mov (.t 5)),
   .v 65 (.un .not (.t 64))]
def parse_28 : AK := .seq (.reg parse_28o [2, 4, 6, 65]) parse_29
def parse_27o : List ROp := [.v 57 (.mov (.t 6)),
   .v 58 (.slcS (.t 57) (some (.c (.int .i64 1))) none),
   .cal (some 59) false 4059 36 [(.t 58)],
   .v 56 (.mov (.t 59)),
   .v 60 (.ext (.t 56) 0),
   .v 61 (.ext (.t 56) 1),
   .v 62 (.ext (.t 56) 2),
   .v 63 (.fldA false 2 1 (.t 4)),
   .effN false 4000 (.st 1 (.t 63) (.t 60)),
   .v 6 (.mov (.t 61)),
   .v 5 (.mov (.t 62))]
def parse_27 : AK := .seq (.reg parse_27o [2, 4, 5, 6]) parse_28
def parse_11 : AK := .seq parse_27 parse_12
def parse_31 : AK := .cond (.t 55) (.goto 0) .skip
def parse_30o : List ROp := [.v 53 (.mov (.t 6)),
   .v 54 (.sidx (.t 53) (.c (.int .i64 0))),
   .v 55 (.bin .neq (.t 54) (.c (.int .u8 46)))]
def parse_30 : AK := .seq (.reg parse_30o [2, 4, 6, 55]) parse_31
def parse_10 : AK := .seq parse_30 parse_11
def parse_35o : List ROp := [.v 52 (.ld true 6 (.t 4)),
   .effN false 4000 (.st 6 (.t 2) (.t 52)),
   .v 3 (.mov (.c (.bool true)))]
def parse_35 : AK := .seq (.reg parse_35o [2, 3]) .ret
def parse_34o : List ROp := [.v 50 (.fldA false 2 1 (.t 4)),
   .effN false 4000 (.st 1 (.t 50) (.c (.str [48]))),
   .v 51 (.fldA false 5 1 (.t 4)),
   .effN false 4000 (.st 1 (.t 51) (.c (.int .i64 1)))]
def parse_34 : AK := .seq (.reg parse_34o [2, 4]) parse_35
def parse_33 : AK := .cond (.t 49) parse_34 .skip
def parse_32o : List ROp := [.v 48 (.mov (.t 6)),
   .v 49 (.bin .eql (.t 48) (.c (.str [])))]
def parse_32 : AK := .seq (.reg parse_32o [2, 4, 6, 49]) parse_33
def parse_9 : AK := .seq parse_32 parse_10
def parse_38 : AK := .cond (.t 47) (.goto 0) .skip
def parse_37o : List ROp := [.v 46 (.mov (.t 5)),
   .v 47 (.un .not (.t 46))]
def parse_37 : AK := .seq (.reg parse_37o [2, 4, 6, 47]) parse_38
def parse_36o : List ROp := [.v 39 (.mov (.t 6)),
   .v 40 (.slcS (.t 39) (some (.c (.int .i64 1))) none),
   .cal (some 41) false 4041 36 [(.t 40)],
   .v 38 (.mov (.t 41)),
   .v 42 (.ext (.t 38) 0),
   .v 43 (.ext (.t 38) 1),
   .v 44 (.ext (.t 38) 2),
   .v 45 (.fldA false 1 1 (.t 4)),
   .effN false 4000 (.st 1 (.t 45) (.t 42)),
   .v 6 (.mov (.t 43)),
   .v 5 (.mov (.t 44))]
def parse_36 : AK := .seq (.reg parse_36o [2, 4, 5, 6]) parse_37
def parse_8 : AK := .seq parse_36 parse_9
def parse_40 : AK := .cond (.t 37) (.goto 0) .skip
def parse_39o : List ROp := [.v 35 (.mov (.t 6)),
   .v 36 (.sidx (.t 35) (.c (.int .i64 0))),
   .v 37 (.bin .neq (.t 36) (.c (.int .u8 46)))]
def parse_39 : AK := .seq (.reg parse_39o [2, 4, 6, 37]) parse_40
def parse_7 : AK := .seq parse_39 parse_8
def parse_44o : List ROp := [.v 34 (.ld true 6 (.t 4)),
   .effN false 4000 (.st 6 (.t 2) (.t 34)),
   .v 3 (.mov (.c (.bool true)))]
def parse_44 : AK := .seq (.reg parse_44o [2, 3]) .ret
def parse_43o : List ROp := [.v 31 (.fldA false 1 1 (.t 4)),
   .effN false 4000 (.st 1 (.t 31) (.c (.str [48]))),
   .v 32 (.fldA false 2 1 (.t 4)),
   .effN false 4000 (.st 1 (.t 32) (.c (.str [48]))),
   .v 33 (.fldA false 5 1 (.t 4)),
   .effN false 4000 (.st 1 (.t 33) (.c (.int .i64 2)))]
def parse_43 : AK := .seq (.reg parse_43o [2, 4]) parse_44
def parse_42 : AK := .cond (.t 30) parse_43 .skip
def parse_41o : List ROp := [.v 29 (.mov (.t 6)),
   .v 30 (.bin .eql (.t 29) (.c (.str [])))]
def parse_41 : AK := .seq (.reg parse_41o [2, 4, 6, 30]) parse_42
def parse_6 : AK := .seq parse_41 parse_7
def parse_47 : AK := .cond (.t 28) (.goto 0) .skip
def parse_46o : List ROp := [.v 27 (.mov (.t 5)),
   .v 28 (.un .not (.t 27))]
def parse_46 : AK := .seq (.reg parse_46o [2, 4, 6, 28]) parse_47
def parse_45o : List ROp := [.v 21 (.mov (.t 6)),
   .cal (some 22) false 4022 36 [(.t 21)],
   .v 20 (.mov (.t 22)),
   .v 23 (.ext (.t 20) 0),
   .v 24 (.ext (.t 20) 1),
   .v 25 (.ext (.t 20) 2),
   .v 26 (.fldA false 0 1 (.t 4)),
   .effN false 4000 (.st 1 (.t 26) (.t 23)),
   .v 6 (.mov (.t 24)),
   .v 5 (.mov (.t 25))]
def parse_45 : AK := .seq (.reg parse_45o [2, 4, 5, 6]) parse_46
def parse_5 : AK := .seq parse_45 parse_6
def parse_49 : AK := .cond (.t 19) (.goto 0) .skip
def parse_48o : List ROp := [.v 13 (.mov (.t 7)),
   .v 14 (.un .not (.t 13)),
   .v 15 (.mov (.t 14)),
   .gval 16 15 false false 4016 (.mov (.t 0)),
   .gval 17 15 false false 4017 (.len true (.t 16)),
   .gval 18 15 false false 4018 (.bin .gtr (.t 17) (.c (.int .i64 100))),
   .v 19 (.pick (.t 15) (.c (.bool true)) (.t 18))]
def parse_48 : AK := .seq (.reg parse_48o [2, 4, 6, 19]) parse_49
def parse_4 : AK := .seq parse_48 parse_5
def parse_3o : List ROp := [.v 9 (.mov (.t 0)),
   .cal (some 10) false 4010 35 [(.t 9), (.c (.str [118]))],
   .v 8 (.mov (.t 10)),
   .v 11 (.ext (.t 8) 0),
   .v 12 (.ext (.t 8) 1),
   .v 6 (.mov (.t 11)),
   .v 7 (.mov (.t 12))]
def parse_3 : AK := .seq (.reg parse_3o [0, 2, 4, 6, 7]) parse_4
def parse_2o : List ROp := [.v 5 (.mov (.c (.bool false)))]
def parse_2 : AK := .seq (.reg parse_2o [0, 2, 4]) parse_3
def parse_1o : List ROp := [.eff 4 false 4004 (.alloc [.str [], .str [], .str [], .str [], .str [], .int .i64 0])]
def parse_1 : AK := .seq (.reg parse_1o [0, 2, 4]) parse_2
def parse_S : AK := .scope parse_1
def parse_0o : List ROp := [.eff 2 false 4002 (.alloc [.str [], .str [], .str [], .str [], .str [], .int .i64 0]),
   .v 3 (.mov (.c (.bool false)))]
def parse_0 : AK := .seq (.reg parse_0o [0, 2]) parse_S
def parse : AK := parse_0
theorem parse_vc (P : Program) (E : Env) (Q : KQ) (st : St) :
  (vcW P E parse_16 Q st = aopsW P parse_16o st (KS.reg [2, 3] (KQ.seq P E .ret Q))) ∧
  (vcW P E parse_15 Q st = vcW P E (.label 0) (KQ.seq P E parse_16 Q) st) ∧
  (vcW P E parse_20 Q st = aopsW P parse_20o st (KS.reg [2, 3] (KQ.seq P E .ret Q))) ∧
  (vcW P E parse_19 Q st = cndW P E (ev st (.t 94)) parse_20 .skip Q st) ∧
  (vcW P E parse_18 Q st = aopsW P parse_18o st (KS.reg [2, 4, 94] (KQ.seq P E parse_19 Q))) ∧
  (vcW P E parse_17 Q st = aopsW P parse_17o st (KS.reg [2, 4, 5] (KQ.seq P E parse_18 Q))) ∧
  (vcW P E parse_14 Q st = vcW P E parse_17 (KQ.seq P E parse_15 Q) st) ∧
  (vcW P E parse_23 Q st = aopsW P parse_23o st (KS.reg [2, 3] (KQ.seq P E .ret Q))) ∧
  (vcW P E parse_22 Q st = cndW P E (ev st (.t 81)) parse_23 .skip Q st) ∧
  (vcW P E parse_21 Q st = aopsW P parse_21o st (KS.reg [2, 4, 6, 81] (KQ.seq P E parse_22 Q))) ∧
  (vcW P E parse_13 Q st = vcW P E parse_21 (KQ.seq P E parse_14 Q) st) ∧
  (vcW P E parse_26 Q st = cndW P E (ev st (.t 79)) (.goto 0) .skip Q st) ∧
  (vcW P E parse_25 Q st = aopsW P parse_25o st (KS.reg [2, 4, 6, 79] (KQ.seq P E parse_26 Q))) ∧
  (vcW P E parse_24 Q st = aopsW P parse_24o st (KS.reg [2, 4, 5, 6] (KQ.seq P E parse_25 Q))) ∧
  (vcW P E parse_12 Q st = vcW P E parse_24 (KQ.seq P E parse_13 Q) st) ∧
  (vcW P E parse_29 Q st = cndW P E (ev st (.t 65)) (.goto 0) .skip Q st) ∧
  (vcW P E parse_28 Q st = aopsW P parse_28o st (KS.reg [2, 4, 6, 65] (KQ.seq P E parse_29 Q))) ∧
  (vcW P E parse_27 Q st = aopsW P parse_27o st (KS.reg [2, 4, 5, 6] (KQ.seq P E parse_28 Q))) ∧
  (vcW P E parse_11 Q st = vcW P E parse_27 (KQ.seq P E parse_12 Q) st) ∧
  (vcW P E parse_31 Q st = cndW P E (ev st (.t 55)) (.goto 0) .skip Q st) ∧
  (vcW P E parse_30 Q st = aopsW P parse_30o st (KS.reg [2, 4, 6, 55] (KQ.seq P E parse_31 Q))) ∧
  (vcW P E parse_10 Q st = vcW P E parse_30 (KQ.seq P E parse_11 Q) st) ∧
  (vcW P E parse_35 Q st = aopsW P parse_35o st (KS.reg [2, 3] (KQ.seq P E .ret Q))) ∧
  (vcW P E parse_34 Q st = aopsW P parse_34o st (KS.reg [2, 4] (KQ.seq P E parse_35 Q))) ∧
  (vcW P E parse_33 Q st = cndW P E (ev st (.t 49)) parse_34 .skip Q st) ∧
  (vcW P E parse_32 Q st = aopsW P parse_32o st (KS.reg [2, 4, 6, 49] (KQ.seq P E parse_33 Q))) ∧
  (vcW P E parse_9 Q st = vcW P E parse_32 (KQ.seq P E parse_10 Q) st) ∧
  (vcW P E parse_38 Q st = cndW P E (ev st (.t 47)) (.goto 0) .skip Q st) ∧
  (vcW P E parse_37 Q st = aopsW P parse_37o st (KS.reg [2, 4, 6, 47] (KQ.seq P E parse_38 Q))) ∧
  (vcW P E parse_36 Q st = aopsW P parse_36o st (KS.reg [2, 4, 5, 6] (KQ.seq P E parse_37 Q))) ∧
  (vcW P E parse_8 Q st = vcW P E parse_36 (KQ.seq P E parse_9 Q) st) ∧
  (vcW P E parse_40 Q st = cndW P E (ev st (.t 37)) (.goto 0) .skip Q st) ∧
  (vcW P E parse_39 Q st = aopsW P parse_39o st (KS.reg [2, 4, 6, 37] (KQ.seq P E parse_40 Q))) ∧
  (vcW P E parse_7 Q st = vcW P E parse_39 (KQ.seq P E parse_8 Q) st) ∧
  (vcW P E parse_44 Q st = aopsW P parse_44o st (KS.reg [2, 3] (KQ.seq P E .ret Q))) ∧
  (vcW P E parse_43 Q st = aopsW P parse_43o st (KS.reg [2, 4] (KQ.seq P E parse_44 Q))) ∧
  (vcW P E parse_42 Q st = cndW P E (ev st (.t 30)) parse_43 .skip Q st) ∧
  (vcW P E parse_41 Q st = aopsW P parse_41o st (KS.reg [2, 4, 6, 30] (KQ.seq P E parse_42 Q))) ∧
  (vcW P E parse_6 Q st = vcW P E parse_41 (KQ.seq P E parse_7 Q) st) ∧
  (vcW P E parse_47 Q st = cndW P E (ev st (.t 28)) (.goto 0) .skip Q st) ∧
  (vcW P E parse_46 Q st = aopsW P parse_46o st (KS.reg [2, 4, 6, 28] (KQ.seq P E parse_47 Q))) ∧
  (vcW P E parse_45 Q st = aopsW P parse_45o st (KS.reg [2, 4, 5, 6] (KQ.seq P E parse_46 Q))) ∧
  (vcW P E parse_5 Q st = vcW P E parse_45 (KQ.seq P E parse_6 Q) st) ∧
  (vcW P E parse_49 Q st = cndW P E (ev st (.t 19)) (.goto 0) .skip Q st) ∧
  (vcW P E parse_48 Q st = aopsW P parse_48o st (KS.reg [2, 4, 6, 19] (KQ.seq P E parse_49 Q))) ∧
  (vcW P E parse_4 Q st = vcW P E parse_48 (KQ.seq P E parse_5 Q) st) ∧
  (vcW P E parse_3 Q st = aopsW P parse_3o st (KS.reg [0, 2, 4, 6, 7] (KQ.seq P E parse_4 Q))) ∧
  (vcW P E parse_2 Q st = aopsW P parse_2o st (KS.reg [0, 2, 4] (KQ.seq P E parse_3 Q))) ∧
  (vcW P E parse_1 Q st = aopsW P parse_1o st (KS.reg [0, 2, 4] (KQ.seq P E parse_2 Q))) ∧
  (vcW P E parse_0 Q st = aopsW P parse_0o st (KS.reg [0, 2] (KQ.seq P E parse_S Q))) ∧
  (vcW P E parse Q st = vcW P E parse_0 Q st) :=
  ⟨rfl, rfl, rfl, vcW_cond, rfl, rfl, rfl, rfl, vcW_cond, rfl, rfl, vcW_cond, rfl, rfl, rfl, vcW_cond, rfl, rfl, rfl, vcW_cond, rfl, rfl, rfl, rfl, vcW_cond, rfl, rfl, vcW_cond, rfl, rfl, rfl, vcW_cond, rfl, rfl, rfl, rfl, vcW_cond, rfl, rfl, vcW_cond, rfl, rfl, rfl, vcW_cond, rfl, rfl, rfl, rfl, rfl, rfl, rfl⟩
theorem parse_jn (P : Program) (E : Env) (Q : KQ) (st : St) :
  (True) :=
  trivial
attribute [go_sem] parse_vc parse_16o parse_20o parse_18o parse_17o parse_23o parse_21o parse_25o parse_24o parse_28o parse_27o parse_30o parse_35o parse_34o parse_32o parse_37o parse_36o parse_39o parse_44o parse_43o parse_41o parse_46o parse_45o parse_48o parse_3o parse_2o parse_1o parse_0o
noncomputable def parseB : Code := (Tryd.f15.body).getD .skip
theorem parse_eq : trCode Tryd.prog 97 4000 parseB = parse.erase 4000 := by kernel_rfl
theorem parse_body : Tryd.f15.body = some parseB := by kernel_rfl
theorem parse_n : Tryd.f15.ntmps = 97 := by kernel_rfl
theorem parse_r : Tryd.f15.results.toList.map (trRes Tryd.prog) = [.cell 2 true 6, .tmp 3] := by kernel_rfl
theorem parse_spec {h : HP} {a0 : AV} {Post : HP → AV → List AV → Prop} (hp : ∀ (E : Env) (R : HP → AV → List AV → Prop), E.N ≤ 1000000 → PostTo Post R → vcW Tryd.prog E parse (KQ.post [.cell 2 true 6, .tmp 3] 1 R) ⟨[(0, a0)], h⟩) : Eng.Spec Tryd.prog 15 h [a0] Post := spec_wk (
  spec_of (c := parse.erase 4000) (B := 4000) Tryd.func15 parse_body (by rw [parse_n, parse_eq]) (by rw [parse_n]; decide) (by rw [parse_n]; exact (by decide : 1 ≤ 97)) (fun E hE hB hrd => by
    have hN : E.N ≤ 1000000 := by
      rw [hE, parse_n]; decide
    rw [parse_r, ← hB]
    exact awp_slots [(0, a0)] ⟨rfl, trivial⟩ (vcW_sound hN _ (hp E _ hN fin_self))))
/- cartulary/semver.Canonical -/
def canonical_5o : List ROp := [.v 32 (.mov (.t 5)),
   .v 2 (.mov (.t 32))]
def canonical_5 : AK := .seq (.reg canonical_5o [2]) .ret
def canonical_8o : List ROp := [.v 27 (.mov (.t 5)),
   .v 28 (.fldA false 3 1 (.t 3)),
   .v 29 (.ld false 1 (.t 28)),
   .v 30 (.bin .add (.c (.str [45])) (.t 29)),
   .v 31 (.bin .add (.t 27) (.t 30)),
   .v 5 (.mov (.t 31))]
def canonical_8 : AK := .reg canonical_8o [5]
def canonical_7 : AK := .cond (.t 26) canonical_8 .skip
def canonical_6o : List ROp := [.v 24 (.fldA false 3 1 (.t 3)),
   .v 25 (.ld false 1 (.t 24)),
   .v 26 (.bin .neq (.t 25) (.c (.str [])))]
def canonical_6 : AK := .seq (.reg canonical_6o [3, 5, 26]) canonical_7
def canonical_4 : AK := .seq canonical_6 canonical_5
def canonical_3o : List ROp := [.v 13 (.fldA false 0 1 (.t 3)),
   .v 14 (.ld false 1 (.t 13)),
   .v 15 (.bin .add (.c (.str [118])) (.t 14)),
   .v 16 (.bin .add (.t 15) (.c (.str [46]))),
   .v 17 (.fldA false 1 1 (.t 3)),
   .v 18 (.ld false 1 (.t 17)),
   .v 19 (.bin .add (.t 16) (.t 18)),
   .v 20 (.bin .add (.t 19) (.c (.str [46]))),
   .v 21 (.fldA false 2 1 (.t 3)),
   .v 22 (.ld false 1 (.t 21)),
   .v 23 (.bin .add (.t 20) (.t 22)),
   .v 5 (.mov (.t 23))]
def canonical_3 : AK := .seq (.reg canonical_3o [3, 5]) canonical_4
def canonical_11o : List ROp := [.v 2 (.mov (.c (.str [])))]
def canonical_11 : AK := .seq (.reg canonical_11o [2]) .ret
def canonical_10 : AK := .cond (.t 12) canonical_11 .skip
def canonical_9o : List ROp := [.v 11 (.mov (.t 4)),
   .v 12 (.un .not (.t 11))]
def canonical_9 : AK := .seq (.reg canonical_9o [3, 12]) canonical_10
def canonical_2 : AK := .seq canonical_9 canonical_3
def canonical_1o : List ROp := [.v 7 (.mov (.t 0)),
   .cal (some 8) false 5008 15 [(.t 7)],
   .v 6 (.mov (.t 8)),
   .v 9 (.ext (.t 6) 0),
   .v 10 (.ext (.t 6) 1),
   .eff 3 false 5003 (.alloc [.str [], .str [], .str [], .str [], .str [], .int .i64 0]),
   .effN false 5000 (.st 6 (.t 3) (.t 9)),
   .v 4 (.mov (.t 10))]
def canonical_1 : AK := .seq (.reg canonical_1o [3, 4]) canonical_2
def canonical_0o : List ROp := [.v 2 (.mov (.c (.str [])))]
def canonical_0 : AK := .seq (.reg canonical_0o [0]) canonical_1
def canonical : AK := canonical_0
theorem canonical_vc (P : Program) (E : Env) (Q : KQ) (st : St) :
  (vcW P E canonical_5 Q st = aopsW P canonical_5o st (KS.reg [2] (KQ.seq P E .ret Q))) ∧
  (vcW P E canonical_8 Q st = aopsW P canonical_8o st (KS.reg [5] Q)) ∧
  (vcW P E canonical_7 Q st = cndW P E (ev st (.t 26)) canonical_8 .skip Q st) ∧
  (vcW P E canonical_6 Q st = aopsW P canonical_6o st (KS.reg [3, 5, 26] (KQ.seq P E canonical_7 Q))) ∧
  (vcW P E canonical_4 Q st = vcW P E canonical_6 (KQ.seq P E canonical_5 Q) st) ∧
  (vcW P E canonical_3 Q st = aopsW P canonical_3o st (KS.reg [3, 5] (KQ.seq P E canonical_4 Q))) ∧
  (vcW P E canonical_11 Q st = aopsW P canonical_11o st (KS.reg [2] (KQ.seq P E .ret Q))) ∧
  (vcW P E canonical_10 Q st = cndW P E (ev st (.t 12)) canonical_11 .skip Q st) ∧
  (vcW P E canonical_9 Q st = aopsW P canonical_9o st (KS.reg [3, 12] (KQ.seq P E canonical_10 Q))) ∧
  (vcW P E canonical_2 Q st = vcW P E canonical_9 (KQ.seq P E canonical_3 Q) st) ∧
  (vcW P E canonical_1 Q st = aopsW P canonical_1o st (KS.reg [3, 4] (KQ.seq P E canonical_2 Q))) ∧
  (vcW P E canonical_0 Q st = aopsW P canonical_0o st (KS.reg [0] (KQ.seq P E canonical_1 Q))) ∧
  (vcW P E canonical Q st = vcW P E canonical_0 Q st) :=
  ⟨rfl, rfl, vcW_cond, rfl, rfl, rfl, rfl, vcW_cond, rfl, rfl, rfl, rfl, rfl⟩
theorem canonical_jn (P : Program) (E : Env) (Q : KQ) (st : St) :
  (True) :=
  trivial
attribute [go_sem] canonical_vc canonical_5o canonical_8o canonical_6o canonical_3o canonical_11o canonical_9o canonical_1o canonical_0o
noncomputable def canonicalB : Code := (Tryd.f14.body).getD .skip
theorem canonical_eq : trCode Tryd.prog 33 5000 canonicalB = canonical.erase 5000 := by kernel_rfl
theorem canonical_body : Tryd.f14.body = some canonicalB := by kernel_rfl
theorem canonical_n : Tryd.f14.ntmps = 33 := by kernel_rfl
theorem canonical_r : Tryd.f14.results.toList.map (trRes Tryd.prog) = [.tmp 2] := by kernel_rfl
theorem canonical_spec {h : HP} {a0 : AV} {Post : HP → AV → List AV → Prop} (hp : ∀ (E : Env) (R : HP → AV → List AV → Prop), E.N ≤ 1000000 → PostTo Post R → vcW Tryd.prog E canonical (KQ.post [.tmp 2] 1 R) ⟨[(0, a0)], h⟩) : Eng.Spec Tryd.prog 14 h [a0] Post := spec_wk (
  spec_of (c := canonical.erase 5000) (B := 5000) Tryd.func14 canonical_body (by rw [canonical_n, canonical_eq]) (by rw [canonical_n]; decide) (by rw [canonical_n]; exact (by decide : 1 ≤ 33)) (fun E hE hB hrd => by
    have hN : E.N ≤ 1000000 := by
      rw [hE, canonical_n]; decide
    rw [canonical_r, ← hB]
    exact awp_slots [(0, a0)] ⟨rfl, trivial⟩ (vcW_sound hN _ (hp E _ hN fin_self))))
/- cartulary/semver.byNumber -/
def byNumber_2o : List ROp := [.v 16 (.mov (.t 0)),
   .v 17 (.mov (.t 1)),
   .cal (some 18) false 7018 50 [(.t 16), (.t 17)],
   .v 4 (.mov (.t 18))]
def byNumber_2 : AK := .seq (.reg byNumber_2o [4]) .ret
def byNumber_5o : List ROp := [.v 10 (.mov (.t 0)),
   .v 11 (.len true (.t 10)),
   .v 12 (.mov (.t 1)),
   .v 13 (.len true (.t 12)),
   .v 14 (.bin .sub (.t 11) (.t 13)),
   .cal (some 15) false 7015 49 [(.t 14)],
   .v 4 (.mov (.t 15))]
def byNumber_5 : AK := .seq (.reg byNumber_5o [4]) .ret
def byNumber_4 : AK := .cond (.t 9) byNumber_5 .skip
def byNumber_3o : List ROp := [.v 5 (.mov (.t 0)),
   .v 6 (.len true (.t 5)),
   .v 7 (.mov (.t 1)),
   .v 8 (.len true (.t 7)),
   .v 9 (.bin .neq (.t 6) (.t 8))]
def byNumber_3 : AK := .seq (.reg byNumber_3o [0, 1, 9]) byNumber_4
def byNumber_1 : AK := .seq byNumber_3 byNumber_2
def byNumber_0o : List ROp := [.v 4 (.mov (.c (.int .i64 0)))]
def byNumber_0 : AK := .seq (.reg byNumber_0o [0, 1]) byNumber_1
def byNumber : AK := byNumber_0
theorem byNumber_vc (P : Program) (E : Env) (Q : KQ) (st : St) :
  (vcW P E byNumber_2 Q st = aopsW P byNumber_2o st (KS.reg [4] (KQ.seq P E .ret Q))) ∧
  (vcW P E byNumber_5 Q st = aopsW P byNumber_5o st (KS.reg [4] (KQ.seq P E .ret Q))) ∧
  (vcW P E byNumber_4 Q st = cndW P E (ev st (.t 9)) byNumber_5 .skip Q st) ∧
  (vcW P E byNumber_3 Q st = aopsW P byNumber_3o st (KS.reg [0, 1, 9] (KQ.seq P E byNumber_4 Q))) ∧
  (vcW P E byNumber_1 Q st = vcW P E byNumber_3 (KQ.seq P E byNumber_2 Q) st) ∧
  (vcW P E byNumber_0 Q st = aopsW P byNumber_0o st (KS.reg [0, 1] (KQ.seq P E byNumber_1 Q))) ∧
  (vcW P E byNumber Q st = vcW P E byNumber_0 Q st) :=
  ⟨rfl, rfl, vcW_cond, rfl, rfl, rfl, rfl⟩
theorem byNumber_jn (P : Program) (E : Env) (Q : KQ) (st : St) :
  (True) :=
  trivial
attribute [go_sem] byNumber_vc byNumber_2o byNumber_5o byNumber_3o byNumber_0o
noncomputable def byNumberB : Code := (Tryd.f33.body).getD .skip
theorem byNumber_eq : trCode Tryd.prog 19 7000 byNumberB = byNumber.erase 7000 := by kernel_rfl
theorem byNumber_body : Tryd.f33.body = some byNumberB := by kernel_rfl
theorem byNumber_n : Tryd.f33.ntmps = 19 := by kernel_rfl
theorem byNumber_r : Tryd.f33.results.toList.map (trRes Tryd.prog) = [.tmp 4] := by kernel_rfl
theorem byNumber_spec {h : HP} {a0 a1 : AV} {Post : HP → AV → List AV → Prop} (hp : ∀ (E : Env) (R : HP → AV → List AV → Prop), E.N ≤ 1000000 → PostTo Post R → vcW Tryd.prog E byNumber (KQ.post [.tmp 4] 2 R) ⟨[(0, a0), (1, a1)], h⟩) : Eng.Spec Tryd.prog 33 h [a0, a1] Post := spec_wk (
  spec_of (c := byNumber.erase 7000) (B := 7000) Tryd.func33 byNumber_body (by rw [byNumber_n, byNumber_eq]) (by rw [byNumber_n]; decide) (by rw [byNumber_n]; exact (by decide : 2 ≤ 19)) (fun E hE hB hrd => by
    have hN : E.N ≤ 1000000 := by
      rw [hE, byNumber_n]; decide
    rw [byNumber_r, ← hB]
    exact awp_slots [(0, a0), (1, a1)] ⟨rfl, rfl, trivial⟩ (vcW_sound hN _ (hp E _ hN fin_self))))
/- cartulary/semver.sign -/
def sign_1o : List ROp := [.v 3 (.mov (.t 0)),
   .v 4 (.mm false (.t 3) (.c (.int .i64 1))),
   .v 5 (.mm true (.c (.int .i64 (-1))) (.t 4)),
   .v 2 (.mov (.t 5))]
def sign_1 : AK := .seq (.reg sign_1o [2]) .ret
def sign_0o : List ROp := [.v 2 (.mov (.c (.int .i64 0)))]
def sign_0 : AK := .seq (.reg sign_0o [0]) sign_1
def sign : AK := sign_0
theorem sign_vc (P : Program) (E : Env) (Q : KQ) (st : St) :
  (vcW P E sign_1 Q st = aopsW P sign_1o st (KS.reg [2] (KQ.seq P E .ret Q))) ∧
  (vcW P E sign_0 Q st = aopsW P sign_0o st (KS.reg [0] (KQ.seq P E sign_1 Q))) ∧
  (vcW P E sign Q st = vcW P E sign_0 Q st) :=
  ⟨rfl, rfl, rfl⟩
theorem sign_jn (P : Program) (E : Env) (Q : KQ) (st : St) :
  (True) :=
  trivial
attribute [go_sem] sign_vc sign_1o sign_0o
noncomputable def signB : Code := (Tryd.f49.body).getD .skip
theorem sign_eq : trCode Tryd.prog 6 8000 signB = sign.erase 8000 := by kernel_rfl
theorem sign_body : Tryd.f49.body = some signB := by kernel_rfl
theorem sign_n : Tryd.f49.ntmps = 6 := by kernel_rfl
theorem sign_r : Tryd.f49.results.toList.map (trRes Tryd.prog) = [.tmp 2] := by kernel_rfl
theorem sign_spec {h : HP} {a0 : AV} {Post : HP → AV → List AV → Prop} (hp : ∀ (E : Env) (R : HP → AV → List AV → Prop), E.N ≤ 1000000 → PostTo Post R → vcW Tryd.prog E sign (KQ.post [.tmp 2] 1 R) ⟨[(0, a0)], h⟩) : Eng.Spec Tryd.prog 49 h [a0] Post := spec_wk (
  spec_of (c := sign.erase 8000) (B := 8000) Tryd.func49 sign_body (by rw [sign_n, sign_eq]) (by rw [sign_n]; decide) (by rw [sign_n]; exact (by decide : 1 ≤ 6)) (fun E hE hB hrd => by
    have hN : E.N ≤ 1000000 := by
      rw [hE, sign_n]; decide
    rw [sign_r, ← hB]
    exact awp_slots [(0, a0)] ⟨rfl, trivial⟩ (vcW_sound hN _ (hp E _ hN fin_self))))
/- cartulary/semver.byWords -/
def byWords_4o : List ROp := [.v 4 (.mov (.c (.int .i64 1)))]
def byWords_4 : AK := .seq (.reg byWords_4o [4]) .ret
def byWords_7o : List ROp := [.v 4 (.mov (.c (.int .i64 (-1))))]
def byWords_7 : AK := .seq (.reg byWords_7o [4]) .ret
def byWords_6 : AK := .cond (.t 60) byWords_7 .skip
def byWords_5o : List ROp := [.v 59 (.mov (.t 0)),
   .v 60 (.bin .eql (.t 59) (.c (.str [])))]
def byWords_5 : AK := .seq (.reg byWords_5o [60]) byWords_6
def byWords_3 : AK := .seq byWords_5 byWords_4
def byWords_17o : List ROp := [.v 56 (.mov (.t 5)),
   .v 57 (.mov (.t 6)),
   .cal (some 58) false 9058 50 [(.t 56), (.t 57)],
   .v 4 (.mov (.t 58))]
def byWords_17 : AK := .seq (.reg byWords_17o [4]) .ret
def byWords_21o : List ROp := [.v 49 (.mov (.t 5)),
   .v 50 (.mov (.t 6)),
   .cal (some 51) false 9051 33 [(.t 49), (.t 50)],
   .v 4 (.mov (.t 51))]
def byWords_21 : AK := .seq (.reg byWords_21o [4]) .ret
def byWords_24o : List ROp := [.v 4 (.mov (.c (.int .i64 (-1))))]
def byWords_24 : AK := .seq (.reg byWords_24o [4]) .ret
def byWords_27o : List ROp := [.v 4 (.mov (.c (.int .i64 1)))]
def byWords_27 : AK := .seq (.reg byWords_27o [4]) .ret
def byWords_26 : AK := .cond (.t 54) byWords_27 .skip
def byWords_25o : List ROp := [.v 55 (.mov (.t 8)),
   .v 54 (.mov (.t 55))]
def byWords_25 : AK := .seq (.reg byWords_25o [5, 6, 54]) byWords_26
def byWords_23 : AK := .cond (.t 52) byWords_24 byWords_25
def byWords_22o : List ROp := [.v 53 (.mov (.t 7)),
   .v 52 (.mov (.t 53))]
def byWords_22 : AK := .seq (.reg byWords_22o [5, 6, 8, 52]) byWords_23
def byWords_20 : AK := .cond (.t 44) byWords_21 byWords_22
def byWords_19o : List ROp := [.v 45 (.mov (.t 7)),
   .v 46 (.mov (.t 45)),
   .gval 47 46 true false 9047 (.mov (.t 8)),
   .v 48 (.pick (.t 46) (.t 47) (.c (.bool false))),
   .v 44 (.mov (.t 48))]
def byWords_19 : AK := .seq (.reg byWords_19o [5, 6, 7, 8, 44]) byWords_20
def byWords_18 : AK := .block 3 byWords_19
def byWords_16 : AK := .seq byWords_18 byWords_17
def byWords_15o : List ROp := [.v 40 (.mov (.t 5)),
   .cal (some 41) false 9041 51 [(.t 40)],
   .v 42 (.mov (.t 6)),
   .cal (some 43) false 9043 51 [(.t 42)],
   .v 7 (.mov (.t 41)),
   .v 8 (.mov (.t 43))]
def byWords_15 : AK := .seq (.reg byWords_15o [5, 6, 7, 8]) byWords_16
def byWords_29 : AK := .cond (.t 39) (.exit 2) .skip
def byWords_28o : List ROp := [.v 37 (.mov (.t 5)),
   .v 38 (.mov (.t 6)),
   .v 39 (.bin .eql (.t 37) (.t 38))]
def byWords_28 : AK := .seq (.reg byWords_28o [0, 1, 5, 6, 39]) byWords_29
def byWords_14 : AK := .seq byWords_28 byWords_15
def byWords_13o : List ROp := [.v 32 (.mov (.t 1)),
   .cal (some 33) false 9033 37 [(.t 32), (.c (.str [46]))],
   .v 31 (.mov (.t 33)),
   .v 34 (.ext (.t 31) 0),
   .v 35 (.ext (.t 31) 1),
   .v 36 (.ext (.t 31) 2),
   .v 6 (.mov (.t 34)),
   .v 1 (.mov (.t 35))]
def byWords_13 : AK := .seq (.reg byWords_13o [0, 1, 5, 6]) byWords_14
def byWords_12o : List ROp := [.v 26 (.mov (.t 0)),
   .cal (some 27) false 9027 37 [(.t 26), (.c (.str [46]))],
   .v 25 (.mov (.t 27)),
   .v 28 (.ext (.t 25) 0),
   .v 29 (.ext (.t 25) 1),
   .v 30 (.ext (.t 25) 2),
   .v 5 (.mov (.t 28)),
   .v 0 (.mov (.t 29))]
def byWords_12 : AK := .seq (.reg byWords_12o [0, 1, 5]) byWords_13
def byWords_11o : List ROp := [.v 5 (.mov (.c (.str []))),
   .v 6 (.mov (.c (.str [])))]
def byWords_11 : AK := .seq (.reg byWords_11o [0, 1]) byWords_12
def byWords_10 : AK := .block 2 byWords_11
def byWords_31 : AK := .cond (.t 24) .skip (.exit 1)
def byWords_30o : List ROp := [.v 19 (.mov (.t 0)),
   .v 20 (.bin .neq (.t 19) (.c (.str []))),
   .v 21 (.mov (.t 20)),
   .gval 22 21 true false 9022 (.mov (.t 1)),
   .gval 23 21 true false 9023 (.bin .neq (.t 22) (.c (.str []))),
   .v 24 (.pick (.t 21) (.t 23) (.c (.bool false)))]
def byWords_30 : AK := .seq (.reg byWords_30o [0, 1, 24]) byWords_31
def byWords_9 : AK := .seq byWords_30 byWords_10
def byWords_L0 : AK := .loop byWords_9
def byWords_8 : AK := .block 1 byWords_L0
def byWords_2 : AK := .seq byWords_8 byWords_3
def byWords_35o : List ROp := [.v 4 (.mov (.c (.int .i64 0)))]
def byWords_35 : AK := .seq (.reg byWords_35o [4]) .ret
def byWords_38o : List ROp := [.v 4 (.mov (.c (.int .i64 1)))]
def byWords_38 : AK := .seq (.reg byWords_38o [4]) .ret
def byWords_41o : List ROp := [.v 4 (.mov (.c (.int .i64 (-1))))]
def byWords_41 : AK := .seq (.reg byWords_41o [4]) .ret
def byWords_40 : AK := .cond (.t 16) byWords_41 .skip
def byWords_39o : List ROp := [.v 17 (.mov (.t 1)),
   .v 18 (.bin .eql (.t 17) (.c (.str []))),
   .v 16 (.mov (.t 18))]
def byWords_39 : AK := .seq (.reg byWords_39o [0, 1, 16]) byWords_40
def byWords_37 : AK := .cond (.t 13) byWords_38 byWords_39
def byWords_36o : List ROp := [.v 14 (.mov (.t 0)),
   .v 15 (.bin .eql (.t 14) (.c (.str []))),
   .v 13 (.mov (.t 15))]
def byWords_36 : AK := .seq (.reg byWords_36o [0, 1, 13]) byWords_37
def byWords_34 : AK := .cond (.t 9) byWords_35 byWords_36
def byWords_33o : List ROp := [.v 10 (.mov (.t 0)),
   .v 11 (.mov (.t 1)),
   .v 12 (.bin .eql (.t 10) (.t 11)),
   .v 9 (.mov (.t 12))]
def byWords_33 : AK := .seq (.reg byWords_33o [0, 1, 9]) byWords_34
def byWords_32 : AK := .block 0 byWords_33
def byWords_1 : AK := .seq byWords_32 byWords_2
def byWords_0o : List ROp := [.v 4 (.mov (.c (.int .i64 0)))]
def byWords_0 : AK := .seq (.reg byWords_0o [0, 1]) byWords_1
def byWords : AK := byWords_0
theorem byWords_vc (P : Program) (E : Env) (Q : KQ) (st : St) :
  (vcW P E byWords_4 Q st = aopsW P byWords_4o st (KS.reg [4] (KQ.seq P E .ret Q))) ∧
  (vcW P E byWords_7 Q st = aopsW P byWords_7o st (KS.reg [4] (KQ.seq P E .ret Q))) ∧
  (vcW P E byWords_6 Q st = cndW P E (ev st (.t 60)) byWords_7 .skip Q st) ∧
  (vcW P E byWords_5 Q st = aopsW P byWords_5o st (KS.reg [60] (KQ.seq P E byWords_6 Q))) ∧
  (vcW P E byWords_3 Q st = vcW P E byWords_5 (KQ.seq P E byWords_4 Q) st) ∧
  (vcW P E byWords_17 Q st = aopsW P byWords_17o st (KS.reg [4] (KQ.seq P E .ret Q))) ∧
  (vcW P E byWords_21 Q st = aopsW P byWords_21o st (KS.reg [4] (KQ.seq P E .ret Q))) ∧
  (vcW P E byWords_24 Q st = aopsW P byWords_24o st (KS.reg [4] (KQ.seq P E .ret Q))) ∧
  (vcW P E byWords_27 Q st = aopsW P byWords_27o st (KS.reg [4] (KQ.seq P E .ret Q))) ∧
  (vcW P E byWords_26 Q st = cndW P E (ev st (.t 54)) byWords_27 .skip Q st) ∧
  (vcW P E byWords_25 Q st = aopsW P byWords_25o st (KS.reg [5, 6, 54] (KQ.seq P E byWords_26 Q))) ∧
  (vcW P E byWords_23 Q st = cndW P E (ev st (.t 52)) byWords_24 byWords_25 Q st) ∧
  (vcW P E byWords_22 Q st = aopsW P byWords_22o st (KS.reg [5, 6, 8, 52] (KQ.seq P E byWords_23 Q))) ∧
  (vcW P E byWords_20 Q st = cndW P E (ev st (.t 44)) byWords_21 byWords_22 Q st) ∧
  (vcW P E byWords_19 Q st = aopsW P byWords_19o st (KS.reg [5, 6, 7, 8, 44] (KQ.seq P E byWords_20 Q))) ∧
  (vcW P E byWords_18 Q st = vcW P E byWords_19 (KQ.blk 3 Q) st) ∧
  (vcW P E byWords_16 Q st = vcW P E byWords_18 (KQ.seq P E byWords_17 Q) st) ∧
  (vcW P E byWords_15 Q st = aopsW P byWords_15o st (KS.reg [5, 6, 7, 8] (KQ.seq P E byWords_16 Q))) ∧
  (vcW P E byWords_29 Q st = cndW P E (ev st (.t 39)) (.exit 2) .skip Q st) ∧
  (vcW P E byWords_28 Q st = aopsW P byWords_28o st (KS.reg [0, 1, 5, 6, 39] (KQ.seq P E byWords_29 Q))) ∧
  (vcW P E byWords_14 Q st = vcW P E byWords_28 (KQ.seq P E byWords_15 Q) st) ∧
  (vcW P E byWords_13 Q st = aopsW P byWords_13o st (KS.reg [0, 1, 5, 6] (KQ.seq P E byWords_14 Q))) ∧
  (vcW P E byWords_12 Q st = aopsW P byWords_12o st (KS.reg [0, 1, 5] (KQ.seq P E byWords_13 Q))) ∧
  (vcW P E byWords_11 Q st = aopsW P byWords_11o st (KS.reg [0, 1] (KQ.seq P E byWords_12 Q))) ∧
  (vcW P E byWords_10 Q st = vcW P E byWords_11 (KQ.blk 2 Q) st) ∧
  (vcW P E byWords_31 Q st = cndW P E (ev st (.t 24)) .skip (.exit 1) Q st) ∧
  (vcW P E byWords_30 Q st = aopsW P byWords_30o st (KS.reg [0, 1, 24] (KQ.seq P E byWords_31 Q))) ∧
  (vcW P E byWords_9 Q st = vcW P E byWords_30 (KQ.seq P E byWords_10 Q) st) ∧
  (vcW P E byWords_8 Q st = vcW P E byWords_L0 (KQ.blk 1 Q) st) ∧
  (vcW P E byWords_2 Q st = vcW P E byWords_8 (KQ.seq P E byWords_3 Q) st) ∧
  (vcW P E byWords_35 Q st = aopsW P byWords_35o st (KS.reg [4] (KQ.seq P E .ret Q))) ∧
  (vcW P E byWords_38 Q st = aopsW P byWords_38o st (KS.reg [4] (KQ.seq P E .ret Q))) ∧
  (vcW P E byWords_41 Q st = aopsW P byWords_41o st (KS.reg [4] (KQ.seq P E .ret Q))) ∧
  (vcW P E byWords_40 Q st = cndW P E (ev st (.t 16)) byWords_41 .skip Q st) ∧
  (vcW P E byWords_39 Q st = aopsW P byWords_39o st (KS.reg [0, 1, 16] (KQ.seq P E byWords_40 Q))) ∧
  (vcW P E byWords_37 Q st = cndW P E (ev st (.t 13)) byWords_38 byWords_39 Q st) ∧
  (vcW P E byWords_36 Q st = aopsW P byWords_36o st (KS.reg [0, 1, 13] (KQ.seq P E byWords_37 Q))) ∧
  (vcW P E byWords_34 Q st = cndW P E (ev st (.t 9)) byWords_35 byWords_36 Q st) ∧
  (vcW P E byWords_33 Q st = aopsW P byWords_33o st (KS.reg [0, 1, 9] (KQ.seq P E byWords_34 Q))) ∧
  (vcW P E byWords_32 Q st = vcW P E byWords_33 (KQ.blk 0 Q) st) ∧
  (vcW P E byWords_1 Q st = vcW P E byWords_32 (KQ.seq P E byWords_2 Q) st) ∧
  (vcW P E byWords_0 Q st = aopsW P byWords_0o st (KS.reg [0, 1] (KQ.seq P E byWords_1 Q))) ∧
  (vcW P E byWords Q st = vcW P E byWords_0 Q st) :=
  ⟨rfl, rfl, vcW_cond, rfl, rfl, rfl, rfl, rfl, rfl, vcW_cond, rfl, vcW_cond, rfl, vcW_cond, rfl, rfl, rfl, rfl, vcW_cond, rfl, rfl, rfl, rfl, rfl, rfl, vcW_cond, rfl, rfl, rfl, rfl, rfl, rfl, rfl, vcW_cond, rfl, vcW_cond, rfl, vcW_cond, rfl, rfl, rfl, rfl, rfl⟩
theorem byWords_jn (P : Program) (E : Env) (Q : KQ) (st : St) :
  (True) :=
  trivial
attribute [go_sem] byWords_vc byWords_4o byWords_7o byWords_5o byWords_17o byWords_21o byWords_24o byWords_27o byWords_25o byWords_22o byWords_19o byWords_15o byWords_28o byWords_13o byWords_12o byWords_11o byWords_30o byWords_35o byWords_38o byWords_41o byWords_39o byWords_36o byWords_33o byWords_0o
noncomputable def byWordsB : Code := (Tryd.f34.body).getD .skip
theorem byWords_eq : trCode Tryd.prog 61 9000 byWordsB = byWords.erase 9000 := by kernel_rfl
theorem byWords_body : Tryd.f34.body = some byWordsB := by kernel_rfl
theorem byWords_n : Tryd.f34.ntmps = 61 := by kernel_rfl
theorem byWords_r : Tryd.f34.results.toList.map (trRes Tryd.prog) = [.tmp 4] := by kernel_rfl
theorem byWords_spec {h : HP} {a0 a1 : AV} {Post : HP → AV → List AV → Prop} (hp : ∀ (E : Env) (R : HP → AV → List AV → Prop), E.N ≤ 1000000 → PostTo Post R → vcW Tryd.prog E byWords (KQ.post [.tmp 4] 2 R) ⟨[(0, a0), (1, a1)], h⟩) : Eng.Spec Tryd.prog 34 h [a0, a1] Post := spec_wk (
  spec_of (c := byWords.erase 9000) (B := 9000) Tryd.func34 byWords_body (by rw [byWords_n, byWords_eq]) (by rw [byWords_n]; decide) (by rw [byWords_n]; exact (by decide : 2 ≤ 61)) (fun E hE hB hrd => by
    have hN : E.N ≤ 1000000 := by
      rw [hE, byWords_n]; decide
    rw [byWords_r, ← hB]
    exact awp_slots [(0, a0), (1, a1)] ⟨rfl, rfl, trivial⟩ (vcW_sound hN _ (hp E _ hN fin_self))))
/- cartulary/semver.Compare -/
def compare_5o : List ROp := [.v 4 (.mov (.c (.int .i64 0)))]
def compare_5 : AK := .seq (.reg compare_5o [4]) .ret
def compare_11o : List ROp := [.v 60 (.bin .add (.t 53) (.c (.int .i64 1))),
   .v 53 (.mov (.t 60))]
def compare_11 : AK := .reg compare_11o [51, 52, 53]
def compare_16o : List ROp := [.v 59 (.mov (.t 10)),
   .v 4 (.mov (.t 59))]
def compare_16 : AK := .seq (.reg compare_16o [4]) .ret
def compare_15 : AK := .cond (.t 58) compare_16 .skip
def compare_14o : List ROp := [.v 57 (.mov (.t 10)),
   .v 58 (.bin .neq (.t 57) (.c (.int .i64 0)))]
def compare_14 : AK := .seq (.reg compare_14o [10, 51, 52, 53, 58]) compare_15
def compare_13o : List ROp := [.v 55 (.idxA 1 (.t 51) (.t 53)),
   .v 56 (.ld false 1 (.t 55)),
   .v 10 (.mov (.t 56))]
def compare_13 : AK := .seq (.reg compare_13o [10, 51, 52, 53]) compare_14
def compare_12 : AK := .block 2 compare_13
def compare_10 : AK := .seq compare_12 compare_11
def compare_17 : AK := .cond (.t 54) .skip (.exit 1)
def compare_9 : AK := .seq compare_17 compare_10
def compare_8o : List ROp := [.v 54 (.bin .lss (.t 53) (.t 52))]
def compare_8 : AK := .seq (.reg compare_8o [51, 52, 53, 54]) compare_9
def compare_L0 : AK := .loop compare_8
def compare_7 : AK := .block 1 compare_L0
def compare_6o : List ROp := [.val 31 true 10031 (.fldA false 0 1 (.t 5)),
   .val 32 true 10032 (.ld false 1 (.t 31)),
   .val 33 true 10033 (.fldA false 0 1 (.t 7)),
   .val 34 true 10034 (.ld false 1 (.t 33)),
   .val 36 true 10036 (.fldA false 1 1 (.t 5)),
   .val 37 true 10037 (.ld false 1 (.t 36)),
   .val 38 true 10038 (.fldA false 1 1 (.t 7)),
   .val 39 true 10039 (.ld false 1 (.t 38)),
   .val 41 true 10041 (.fldA false 2 1 (.t 5)),
   .val 42 true 10042 (.ld false 1 (.t 41)),
   .val 43 true 10043 (.fldA false 2 1 (.t 7)),
   .val 44 true 10044 (.ld false 1 (.t 43)),
   .val 46 true 10046 (.fldA false 3 1 (.t 5)),
   .val 47 true 10047 (.ld false 1 (.t 46)),
   .val 48 true 10048 (.fldA false 3 1 (.t 7)),
   .val 49 true 10049 (.ld false 1 (.t 48)),
   .val 53 true 10053 (.mov (.c (.int .i64 0))),
   .cal (some 35) true 10035 33 [(.t 32), (.t 34)],
   .cal (some 40) true 10040 33 [(.t 37), (.t 39)],
   .cal (some 45) true 10045 33 [(.t 42), (.t 44)],
   .cal (some 50) false 10050 34 [(.t 47), (.t 49)],
   .eff 51 false 10051 (.bsl 1 [(.t 35), (.t 40), (.t 45), (.t 50)]),
   .v 52 (.len false (.t 51))]
def compare_6 : AK := .seq (.reg compare_6o [51, 52, 53]) compare_7
def compare_4 : AK := .seq compare_6 compare_5
def compare_21o : List ROp := [.v 4 (.mov (.c (.int .i64 0)))]
def compare_21 : AK := .seq (.reg compare_21o [4]) .ret
def compare_25o : List ROp := [.v 4 (.mov (.c (.int .i64 1)))]
def compare_25 : AK := .seq (.reg compare_25o [4]) .ret
def compare_28o : List ROp := [.v 4 (.mov (.c (.int .i64 (-1))))]
def compare_28 : AK := .seq (.reg compare_28o [4]) .ret
def compare_27 : AK := .cond (.t 29) compare_28 .skip
def compare_26o : List ROp := [.v 30 (.mov (.t 8)),
   .v 29 (.mov (.t 30))]
def compare_26 : AK := .seq (.reg compare_26o [29]) compare_27
def compare_24 : AK := .cond (.t 27) compare_25 compare_26
def compare_23o : List ROp := [.v 28 (.mov (.t 6)),
   .v 27 (.mov (.t 28))]
def compare_23 : AK := .seq (.reg compare_23o [8, 27]) compare_24
def compare_22 : AK := .block 0 compare_23
def compare_20 : AK := .seq compare_22 compare_21
def compare_19 : AK := .cond (.t 26) compare_20 .skip
def compare_18o : List ROp := [.v 21 (.mov (.t 6)),
   .v 22 (.un .not (.t 21)),
   .v 23 (.mov (.t 22)),
   .gval 24 23 false false 10024 (.mov (.t 8)),
   .gval 25 23 false false 10025 (.un .not (.t 24)),
   .v 26 (.pick (.t 23) (.c (.bool true)) (.t 25))]
def compare_18 : AK := .seq (.reg compare_18o [5, 6, 7, 8, 26]) compare_19
def compare_3 : AK := .seq compare_18 compare_4
def compare_2o : List ROp := [.v 17 (.mov (.t 1)),
   .cal (some 18) false 10018 15 [(.t 17)],
   .v 16 (.mov (.t 18)),
   .v 19 (.ext (.t 16) 0),
   .v 20 (.ext (.t 16) 1),
   .eff 7 false 10007 (.alloc [.str [], .str [], .str [], .str [], .str [], .int .i64 0]),
   .effN false 10000 (.st 6 (.t 7) (.t 19)),
   .v 8 (.mov (.t 20))]
def compare_2 : AK := .seq (.reg compare_2o [5, 6, 7, 8]) compare_3
def compare_1o : List ROp := [.v 12 (.mov (.t 0)),
   .cal (some 13) false 10013 15 [(.t 12)],
   .v 11 (.mov (.t 13)),
   .v 14 (.ext (.t 11) 0),
   .v 15 (.ext (.t 11) 1),
   .eff 5 false 10005 (.alloc [.str [], .str [], .str [], .str [], .str [], .int .i64 0]),
   .effN false 10000 (.st 6 (.t 5) (.t 14)),
   .v 6 (.mov (.t 15))]
def compare_1 : AK := .seq (.reg compare_1o [1, 5, 6]) compare_2
def compare_0o : List ROp := [.v 4 (.mov (.c (.int .i64 0)))]
def compare_0 : AK := .seq (.reg compare_0o [0, 1]) compare_1
def compare : AK := compare_0
theorem compare_vc (P : Program) (E : Env) (Q : KQ) (st : St) :
  (vcW P E compare_5 Q st = aopsW P compare_5o st (KS.reg [4] (KQ.seq P E .ret Q))) ∧
  (vcW P E compare_11 Q st = aopsW P compare_11o st (KS.reg [51, 52, 53] Q)) ∧
  (vcW P E compare_16 Q st = aopsW P compare_16o st (KS.reg [4] (KQ.seq P E .ret Q))) ∧
  (vcW P E compare_15 Q st = cndW P E (ev st (.t 58)) compare_16 .skip Q st) ∧
  (vcW P E compare_14 Q st = aopsW P compare_14o st (KS.reg [10, 51, 52, 53, 58] (KQ.seq P E compare_15 Q))) ∧
  (vcW P E compare_13 Q st = aopsW P compare_13o st (KS.reg [10, 51, 52, 53] (KQ.seq P E compare_14 Q))) ∧
  (vcW P E compare_12 Q st = vcW P E compare_13 (KQ.blk 2 Q) st) ∧
  (vcW P E compare_10 Q st = vcW P E compare_12 (KQ.seq P E compare_11 Q) st) ∧
  (vcW P E compare_17 Q st = cndW P E (ev st (.t 54)) .skip (.exit 1) Q st) ∧
  (vcW P E compare_9 Q st = vcW P E compare_17 (KQ.seq P E compare_10 Q) st) ∧
  (vcW P E compare_8 Q st = aopsW P compare_8o st (KS.reg [51, 52, 53, 54] (KQ.seq P E compare_9 Q))) ∧
  (vcW P E compare_7 Q st = vcW P E compare_L0 (KQ.blk 1 Q) st) ∧
  (vcW P E compare_6 Q st = aopsW P compare_6o st (KS.reg [51, 52, 53] (KQ.seq P E compare_7 Q))) ∧
  (vcW P E compare_4 Q st = vcW P E compare_6 (KQ.seq P E compare_5 Q) st) ∧
  (vcW P E compare_21 Q st = aopsW P compare_21o st (KS.reg [4] (KQ.seq P E .ret Q))) ∧
  (vcW P E compare_25 Q st = aopsW P compare_25o st (KS.reg [4] (KQ.seq P E .ret Q))) ∧
  (vcW P E compare_28 Q st = aopsW P compare_28o st (KS.reg [4] (KQ.seq P E .ret Q))) ∧
  (vcW P E compare_27 Q st = cndW P E (ev st (.t 29)) compare_28 .skip Q st) ∧
  (vcW P E compare_26 Q st = aopsW P compare_26o st (KS.reg [29] (KQ.seq P E compare_27 Q))) ∧
  (vcW P E compare_24 Q st = cndW P E (ev st (.t 27)) compare_25 compare_26 Q st) ∧
  (vcW P E compare_23 Q st = aopsW P compare_23o st (KS.reg [8, 27] (KQ.seq P E compare_24 Q))) ∧
  (vcW P E compare_22 Q st = vcW P E compare_23 (KQ.blk 0 Q) st) ∧
  (vcW P E compare_20 Q st = vcW P E compare_22 (KQ.seq P E compare_21 Q) st) ∧
  (vcW P E compare_19 Q st = cndW P E (ev st (.t 26)) compare_20 .skip Q st) ∧
  (vcW P E compare_18 Q st = aopsW P compare_18o st (KS.reg [5, 6, 7, 8, 26] (KQ.seq P E compare_19 Q))) ∧
  (vcW P E compare_3 Q st = vcW P E compare_18 (KQ.seq P E compare_4 Q) st) ∧
  (vcW P E compare_2 Q st = aopsW P compare_2o st (KS.reg [5, 6, 7, 8] (KQ.seq P E compare_3 Q))) ∧
  (vcW P E compare_1 Q st = aopsW P compare_1o st (KS.reg [1, 5, 6] (KQ.seq P E compare_2 Q))) ∧
  (vcW P E compare_0 Q st = aopsW P compare_0o st (KS.reg [0, 1] (KQ.seq P E compare_1 Q))) ∧
  (vcW P E compare Q st = vcW P E compare_0 Q st) :=
  ⟨rfl, rfl, rfl, vcW_cond, rfl, rfl, rfl, rfl, vcW_cond, rfl, rfl, rfl, rfl, rfl, rfl, rfl, rfl, vcW_cond, rfl, vcW_cond, rfl, rfl, rfl, vcW_cond, rfl, rfl, rfl, rfl, rfl, rfl⟩
theorem compare_jn (P : Program) (E : Env) (Q : KQ) (st : St) :
  (True) :=
  trivial
attribute [go_sem] compare_vc compare_5o compare_11o compare_16o compare_14o compare_13o compare_8o compare_6o compare_21o compare_25o compare_28o compare_26o compare_23o compare_18o compare_2o compare_1o compare_0o
noncomputable def compareB : Code := (Tryd.f13.body).getD .skip
theorem compare_eq : trCode Tryd.prog 61 10000 compareB = compare.erase 10000 := by kernel_rfl
theorem compare_body : Tryd.f13.body = some compareB := by kernel_rfl
theorem compare_n : Tryd.f13.ntmps = 61 := by kernel_rfl
theorem compare_r : Tryd.f13.results.toList.map (trRes Tryd.prog) = [.tmp 4] := by kernel_rfl
theorem compare_spec {h : HP} {a0 a1 : AV} {Post : HP → AV → List AV → Prop} (hp : ∀ (E : Env) (R : HP → AV → List AV → Prop), E.N ≤ 1000000 → PostTo Post R → vcW Tryd.prog E compare (KQ.post [.tmp 4] 2 R) ⟨[(0, a0), (1, a1)], h⟩) : Eng.Spec Tryd.prog 13 h [a0, a1] Post := spec_wk (
  spec_of (c := compare.erase 10000) (B := 10000) Tryd.func13 compare_body (by rw [compare_n, compare_eq]) (by rw [compare_n]; decide) (by rw [compare_n]; exact (by decide : 2 ≤ 61)) (fun E hE hB hrd => by
    have hN : E.N ≤ 1000000 := by
      rw [hE, compare_n]; decide
    rw [compare_r, ← hB]
    exact awp_slots [(0, a0), (1, a1)] ⟨rfl, rfl, trivial⟩ (vcW_sound hN _ (hp E _ hN fin_self))))
/- cartulary/cartularyref20.Cut -/
def rcut_3o : List ROp := [.v 35 (.mov (.t 5)),
   .v 4 (.mov (.t 35))]
def rcut_3 : AK := .seq (.reg rcut_3o [4]) .ret
def rcut_8o : List ROp := [.v 12 (.mov (.t 6)),
   .v 13 (.bin .add (.t 12) (.c (.int .i64 1))),
   .v 6 (.mov (.t 13))]
def rcut_8 : AK := .reg rcut_8o [0, 1, 5, 6]
def rcut_12o : List ROp := [.v 19 (.mov (.t 5)),
   .eff 20 false 13020 (.bsl 1 [(.c (.str []))]),
   .eff 21 false 13021 (.app 1 16 (.t 19) (.t 20)),
   .v 5 (.mov (.t 21))]
def rcut_12 : AK := .reg rcut_12o [0, 1, 5, 6]
def rcut_13o : List ROp := [.val 22 true 13022 (.mov (.t 5)),
   .val 23 true 13023 (.mov (.t 5)),
   .val 24 true 13024 (.len false (.t 23)),
   .val 25 true 13025 (.bin .sub (.t 24) (.c (.int .i64 1))),
   .val 26 true 13026 (.idxA 1 (.t 22) (.t 25)),
   .val 27 true 13027 (.ld false 1 (.t 26)),
   .val 28 true 13028 (.mov (.t 0)),
   .val 29 true 13029 (.mov (.t 6)),
   .val 30 true 13030 (.mov (.t 6)),
   .val 31 true 13031 (.bin .add (.t 30) (.c (.int .i64 1))),
   .val 32 true 13032 (.slcS (.t 28) (some (.t 29)) (some (.t 31))),
   .v 33 (.bin .add (.t 27) (.t 32)),
   .v 34 (.idxA 1 (.t 22) (.t 25)),
   .effN false 13000 (.st 1 (.t 34) (.t 33))]
def rcut_13 : AK := .reg rcut_13o [0, 1, 5, 6]
def rcut_11 : AK := .cond (.t 18) rcut_12 rcut_13
def rcut_10o : List ROp := [.v 14 (.mov (.t 0)),
   .v 15 (.mov (.t 6)),
   .v 16 (.sidx (.t 14) (.t 15)),
   .v 17 (.mov (.t 1)),
   .v 18 (.bin .eql (.t 16) (.t 17))]
def rcut_10 : AK := .seq (.reg rcut_10o [0, 1, 5, 6, 18]) rcut_11
def rcut_9 : AK := .block 1 rcut_10
def rcut_7 : AK := .seq rcut_9 rcut_8
def rcut_15 : AK := .cond (.t 11) .skip (.exit 0)
def rcut_14o : List ROp := [.v 8 (.mov (.t 6)),
   .v 9 (.mov (.t 0)),
   .v 10 (.len true (.t 9)),
   .v 11 (.bin .lss (.t 8) (.t 10))]
def rcut_14 : AK := .seq (.reg rcut_14o [0, 1, 5, 6, 11]) rcut_15
def rcut_6 : AK := .seq rcut_14 rcut_7
def rcut_L0 : AK := .loop rcut_6
def rcut_5 : AK := .block 0 rcut_L0
def rcut_4o : List ROp := [.v 6 (.mov (.c (.int .i64 0)))]
def rcut_4 : AK := .seq (.reg rcut_4o [0, 1, 5, 6]) rcut_5
def rcut_2 : AK := .seq rcut_4 rcut_3
def rcut_1o : List ROp := [.eff 7 false 13007 (.bsl 1 [(.c (.str []))]),
   .v 5 (.mov (.t 7))]
def rcut_1 : AK := .seq (.reg rcut_1o [0, 1, 5]) rcut_2
def rcut_0o : List ROp := [.v 4 (.mov (.c (.nilsl)))]
def rcut_0 : AK := .seq (.reg rcut_0o [0, 1]) rcut_1
def rcut : AK := rcut_0
theorem rcut_vc (P : Program) (E : Env) (Q : KQ) (st : St) :
  (vcW P E rcut_3 Q st = aopsW P rcut_3o st (KS.reg [4] (KQ.seq P E .ret Q))) ∧
  (vcW P E rcut_8 Q st = aopsW P rcut_8o st (KS.reg [0, 1, 5, 6] Q)) ∧
  (vcW P E rcut_12 Q st = aopsW P rcut_12o st (KS.reg [0, 1, 5, 6] Q)) ∧
  (vcW P E rcut_13 Q st = aopsW P rcut_13o st (KS.reg [0, 1, 5, 6] Q)) ∧
  (vcW P E rcut_11 Q st = cndW P E (ev st (.t 18)) rcut_12 rcut_13 Q st) ∧
  (vcW P E rcut_10 Q st = aopsW P rcut_10o st (KS.reg [0, 1, 5, 6, 18] (KQ.seq P E rcut_11 Q))) ∧
  (vcW P E rcut_9 Q st = vcW P E rcut_10 (KQ.blk 1 Q) st) ∧
  (vcW P E rcut_7 Q st = vcW P E rcut_9 (KQ.seq P E rcut_8 Q) st) ∧
  (vcW P E rcut_15 Q st = cndW P E (ev st (.t 11)) .skip (.exit 0) Q st) ∧
  (vcW P E rcut_14 Q st = aopsW P rcut_14o st (KS.reg [0, 1, 5, 6, 11] (KQ.seq P E rcut_15 Q))) ∧
  (vcW P E rcut_6 Q st = vcW P E rcut_14 (KQ.seq P E rcut_7 Q) st) ∧
  (vcW P E rcut_5 Q st = vcW P E rcut_L0 (KQ.blk 0 Q) st) ∧
  (vcW P E rcut_4 Q st = aopsW P rcut_4o st (KS.reg [0, 1, 5, 6] (KQ.seq P E rcut_5 Q))) ∧
  (vcW P E rcut_2 Q st = vcW P E rcut_4 (KQ.seq P E rcut_3 Q) st) ∧
  (vcW P E rcut_1 Q st = aopsW P rcut_1o st (KS.reg [0, 1, 5] (KQ.seq P E rcut_2 Q))) ∧
  (vcW P E rcut_0 Q st = aopsW P rcut_0o st (KS.reg [0, 1] (KQ.seq P E rcut_1 Q))) ∧
  (vcW P E rcut Q st = vcW P E rcut_0 Q st) :=
  ⟨rfl, rfl, rfl, rfl, vcW_cond, rfl, rfl, rfl, vcW_cond, rfl, rfl, rfl, rfl, rfl, rfl, rfl, rfl⟩
theorem rcut_jn (P : Program) (E : Env) (Q : KQ) (st : St) :
  (True) :=
  trivial
attribute [go_sem] rcut_vc rcut_3o rcut_8o rcut_12o rcut_13o rcut_10o rcut_14o rcut_4o rcut_1o rcut_0o
noncomputable def rcutB : Code := (Tryd.f31.body).getD .skip
theorem rcut_eq : trCode Tryd.prog 36 13000 rcutB = rcut.erase 13000 := by kernel_rfl
theorem rcut_body : Tryd.f31.body = some rcutB := by kernel_rfl
theorem rcut_n : Tryd.f31.ntmps = 36 := by kernel_rfl
theorem rcut_r : Tryd.f31.results.toList.map (trRes Tryd.prog) = [.tmp 4] := by kernel_rfl
theorem rcut_spec {h : HP} {a0 a1 : AV} {Post : HP → AV → List AV → Prop} (hp : ∀ (E : Env) (R : HP → AV → List AV → Prop), E.N ≤ 1000000 → PostTo Post R → vcW Tryd.prog E rcut (KQ.post [.tmp 4] 2 R) ⟨[(0, a0), (1, a1)], h⟩) : Eng.Spec Tryd.prog 31 h [a0, a1] Post := spec_wk (
  spec_of (c := rcut.erase 13000) (B := 13000) Tryd.func31 rcut_body (by rw [rcut_n, rcut_eq]) (by rw [rcut_n]; decide) (by rw [rcut_n]; exact (by decide : 2 ≤ 36)) (fun E hE hB hrd => by
    have hN : E.N ≤ 1000000 := by
      rw [hE, rcut_n]; decide
    rw [rcut_r, ← hB]
    exact awp_slots [(0, a0), (1, a1)] ⟨rfl, rfl, trivial⟩ (vcW_sound hN _ (hp E _ hN fin_self))))
/- cartulary/cartularyref20.Digits -/
def rdigits_2o : List ROp := [.v 20 (.mov (.t 0)),
   .v 21 (.len true (.t 20)),
   .v 22 (.bin .gtr (.t 21) (.c (.int .i64 0))),
   .v 2 (.mov (.t 22))]
def rdigits_2 : AK := .seq (.reg rdigits_2o [2]) .ret
def rdigits_7o : List ROp := [.v 8 (.mov (.t 3)),
   .v 9 (.bin .add (.t 8) (.c (.int .i64 1))),
   .v 3 (.mov (.t 9))]
def rdigits_7 : AK := .reg rdigits_7o [0, 3]
def rdigits_11o : List ROp := [.v 2 (.mov (.c (.bool false)))]
def rdigits_11 : AK := .seq (.reg rdigits_11o [2]) .ret
def rdigits_10 : AK := .cond (.t 19) rdigits_11 .skip
def rdigits_9o : List ROp := [.v 10 (.mov (.t 0)),
   .v 11 (.mov (.t 3)),
   .v 12 (.sidx (.t 10) (.t 11)),
   .v 13 (.bin .lss (.t 12) (.c (.int .u8 48))),
   .v 14 (.mov (.t 13)),
   .gval 15 14 false false 14015 (.mov (.t 0)),
   .gval 16 14 false false 14016 (.mov (.t 3)),
   .gval 17 14 false false 14017 (.sidx (.t 15) (.t 16)),
   .gval 18 14 false false 14018 (.bin .gtr (.t 17) (.c (.int .u8 57))),
   .v 19 (.pick (.t 14) (.c (.bool true)) (.t 18))]
def rdigits_9 : AK := .seq (.reg rdigits_9o [0, 3, 19]) rdigits_10
def rdigits_8 : AK := .block 1 rdigits_9
def rdigits_6 : AK := .seq rdigits_8 rdigits_7
def rdigits_13 : AK := .cond (.t 7) .skip (.exit 0)
def rdigits_12o : List ROp := [.v 4 (.mov (.t 3)),
   .v 5 (.mov (.t 0)),
   .v 6 (.len true (.t 5)),
   .v 7 (.bin .lss (.t 4) (.t 6))]
def rdigits_12 : AK := .seq (.reg rdigits_12o [0, 3, 7]) rdigits_13
def rdigits_5 : AK := .seq rdigits_12 rdigits_6
def rdigits_L0 : AK := .loop rdigits_5
def rdigits_4 : AK := .block 0 rdigits_L0
def rdigits_3o : List ROp := [.v 3 (.mov (.c (.int .i64 0)))]
def rdigits_3 : AK := .seq (.reg rdigits_3o [0, 3]) rdigits_4
def rdigits_1 : AK := .seq rdigits_3 rdigits_2
def rdigits_0o : List ROp := [.v 2 (.mov (.c (.bool false)))]
def rdigits_0 : AK := .seq (.reg rdigits_0o [0]) rdigits_1
def rdigits : AK := rdigits_0
theorem rdigits_vc (P : Program) (E : Env) (Q : KQ) (st : St) :
  (vcW P E rdigits_2 Q st = aopsW P rdigits_2o st (KS.reg [2] (KQ.seq P E .ret Q))) ∧
  (vcW P E rdigits_7 Q st = aopsW P rdigits_7o st (KS.reg [0, 3] Q)) ∧
  (vcW P E rdigits_11 Q st = aopsW P rdigits_11o st (KS.reg [2] (KQ.seq P E .ret Q))) ∧
  (vcW P E rdigits_10 Q st = cndW P E (ev st (.t 19)) rdigits_11 .skip Q st) ∧
  (vcW P E rdigits_9 Q st = aopsW P rdigits_9o st (KS.reg [0, 3, 19] (KQ.seq P E rdigits_10 Q))) ∧
  (vcW P E rdigits_8 Q st = vcW P E rdigits_9 (KQ.blk 1 Q) st) ∧
  (vcW P E rdigits_6 Q st = vcW P E rdigits_8 (KQ.seq P E rdigits_7 Q) st) ∧
  (vcW P E rdigits_13 Q st = cndW P E (ev st (.t 7)) .skip (.exit 0) Q st) ∧
  (vcW P E rdigits_12 Q st = aopsW P rdigits_12o st (KS.reg [0, 3, 7] (KQ.seq P E rdigits_13 Q))) ∧
  (vcW P E rdigits_5 Q st = vcW P E rdigits_12 (KQ.seq P E rdigits_6 Q) st) ∧
  (vcW P E rdigits_4 Q st = vcW P E rdigits_L0 (KQ.blk 0 Q) st) ∧
  (vcW P E rdigits_3 Q st = aopsW P rdigits_3o st (KS.reg [0, 3] (KQ.seq P E rdigits_4 Q))) ∧
  (vcW P E rdigits_1 Q st = vcW P E rdigits_3 (KQ.seq P E rdigits_2 Q) st) ∧
  (vcW P E rdigits_0 Q st = aopsW P rdigits_0o st (KS.reg [0] (KQ.seq P E rdigits_1 Q))) ∧
  (vcW P E rdigits Q st = vcW P E rdigits_0 Q st) :=
  ⟨rfl, rfl, rfl, vcW_cond, rfl, rfl, rfl, vcW_cond, rfl, rfl, rfl, rfl, rfl, rfl, rfl⟩
theorem rdigits_jn (P : Program) (E : Env) (Q : KQ) (st : St) :
  (True) :=
  trivial
attribute [go_sem] rdigits_vc rdigits_2o rdigits_7o rdigits_11o rdigits_9o rdigits_12o rdigits_3o rdigits_0o
noncomputable def rdigitsB : Code := (Tryd.f45.body).getD .skip
theorem rdigits_eq : trCode Tryd.prog 23 14000 rdigitsB = rdigits.erase 14000 := by kernel_rfl
theorem rdigits_body : Tryd.f45.body = some rdigitsB := by kernel_rfl
theorem rdigits_n : Tryd.f45.ntmps = 23 := by kernel_rfl
theorem rdigits_r : Tryd.f45.results.toList.map (trRes Tryd.prog) = [.tmp 2] := by kernel_rfl
theorem rdigits_spec {h : HP} {a0 : AV} {Post : HP → AV → List AV → Prop} (hp : ∀ (E : Env) (R : HP → AV → List AV → Prop), E.N ≤ 1000000 → PostTo Post R → vcW Tryd.prog E rdigits (KQ.post [.tmp 2] 1 R) ⟨[(0, a0)], h⟩) : Eng.Spec Tryd.prog 45 h [a0] Post := spec_wk (
  spec_of (c := rdigits.erase 14000) (B := 14000) Tryd.func45 rdigits_body (by rw [rdigits_n, rdigits_eq]) (by rw [rdigits_n]; decide) (by rw [rdigits_n]; exact (by decide : 1 ≤ 23)) (fun E hE hB hrd => by
    have hN : E.N ≤ 1000000 := by
      rw [hE, rdigits_n]; decide
    rw [rdigits_r, ← hB]
    exact awp_slots [(0, a0)] ⟨rfl, trivial⟩ (vcW_sound hN _ (hp E _ hN fin_self))))
/- cartulary/cartularyref20.Number -/
def rnumber_1o : List ROp := [.v 3 (.mov (.t 0)),
   .cal (some 4) false 15004 45 [(.t 3)],
   .v 5 (.mov (.t 4)),
   .gval 6 5 true false 15006 (.mov (.t 0)),
   .gval 7 5 true false 15007 (.len true (.t 6)),
   .gval 8 5 true false 15008 (.bin .eql (.t 7) (.c (.int .i64 1))),
   .gval 9 5 true false 15009 (.mov (.t 8)),
   .gval 10 9 false false 15010 (.mov (.t 0)),
   .gval 11 9 false false 15011 (.sidx (.t 10) (.c (.int .i64 0))),
   .gval 12 9 false false 15012 (.bin .neq (.t 11) (.c (.int .u8 48))),
   .gval 13 5 true false 15013 (.pick (.t 9) (.c (.bool true)) (.t 12)),
   .v 14 (.pick (.t 5) (.t 13) (.c (.bool false))),
   .v 2 (.mov (.t 14))]
def rnumber_1 : AK := .seq (.reg rnumber_1o [2]) .ret
def rnumber_0o : List ROp := [.v 2 (.mov (.c (.bool false)))]
def rnumber_0 : AK := .seq (.reg rnumber_0o [0]) rnumber_1
def rnumber : AK := rnumber_0
theorem rnumber_vc (P : Program) (E : Env) (Q : KQ) (st : St) :
  (vcW P E rnumber_1 Q st = aopsW P rnumber_1o st (KS.reg [2] (KQ.seq P E .ret Q))) ∧
  (vcW P E rnumber_0 Q st = aopsW P rnumber_0o st (KS.reg [0] (KQ.seq P E rnumber_1 Q))) ∧
  (vcW P E rnumber Q st = vcW P E rnumber_0 Q st) :=
  ⟨rfl, rfl, rfl⟩
theorem rnumber_jn (P : Program) (E : Env) (Q : KQ) (st : St) :
  (True) :=
  trivial
attribute [go_sem] rnumber_vc rnumber_1o rnumber_0o
noncomputable def rnumberB : Code := (Tryd.f32.body).getD .skip
theorem rnumber_eq : trCode Tryd.prog 15 15000 rnumberB = rnumber.erase 15000 := by kernel_rfl
theorem rnumber_body : Tryd.f32.body = some rnumberB := by kernel_rfl
theorem rnumber_n : Tryd.f32.ntmps = 15 := by kernel_rfl
theorem rnumber_r : Tryd.f32.results.toList.map (trRes Tryd.prog) = [.tmp 2] := by kernel_rfl
theorem rnumber_spec {h : HP} {a0 : AV} {Post : HP → AV → List AV → Prop} (hp : ∀ (E : Env) (R : HP → AV → List AV → Prop), E.N ≤ 1000000 → PostTo Post R → vcW Tryd.prog E rnumber (KQ.post [.tmp 2] 1 R) ⟨[(0, a0)], h⟩) : Eng.Spec Tryd.prog 32 h [a0] Post := spec_wk (
  spec_of (c := rnumber.erase 15000) (B := 15000) Tryd.func32 rnumber_body (by rw [rnumber_n, rnumber_eq]) (by rw [rnumber_n]; decide) (by rw [rnumber_n]; exact (by decide : 1 ≤ 15)) (fun E hE hB hrd => by
    have hN : E.N ≤ 1000000 := by
      rw [hE, rnumber_n]; decide
    rw [rnumber_r, ← hB]
    exact awp_slots [(0, a0)] ⟨rfl, trivial⟩ (vcW_sound hN _ (hp E _ hN fin_self))))
/- cartulary/cartularyref20.Words -/
def rwords_2o : List ROp := [.v 4 (.mov (.c (.bool true)))]
def rwords_2 : AK := .seq (.reg rwords_2o [4]) .ret
def rwords_8o : List ROp := [.v 66 (.bin .add (.t 12) (.c (.int .i64 1))),
   .v 12 (.mov (.t 66))]
def rwords_8 : AK := .reg rwords_8o [1, 10, 11, 12]
def rwords_16o : List ROp := [.v 34 (.mov (.t 7)),
   .v 35 (.bin .add (.t 34) (.c (.int .i64 1))),
   .v 7 (.mov (.t 35))]
def rwords_16 : AK := .reg rwords_16o [1, 6, 7, 10, 11, 12]
def rwords_21o : List ROp := [.v 4 (.mov (.c (.bool false)))]
def rwords_21 : AK := .seq (.reg rwords_21o [4]) .ret
def rwords_20 : AK := .cond (.t 65) rwords_21 .skip
def rwords_19o : List ROp := [.v 39 (.mov (.t 8)),
   .v 40 (.bin .geq (.t 39) (.c (.int .u8 48))),
   .v 41 (.mov (.t 40)),
   .gval 42 41 true false 16042 (.mov (.t 8)),
   .gval 43 41 true false 16043 (.bin .leq (.t 42) (.c (.int .u8 57))),
   .v 44 (.pick (.t 41) (.t 43) (.c (.bool false))),
   .v 45 (.mov (.t 44)),
   .gval 46 45 false false 16046 (.mov (.t 8)),
   .gval 47 45 false false 16047 (.bin .geq (.t 46) (.c (.int .u8 97))),
   .gval 48 45 false false 16048 (.mov (.t 47)),
   .gval 49 48 true false 16049 (.mov (.t 8)),
   .gval 50 48 true false 16050 (.bin .leq (.t 49) (.c (.int .u8 122))),
   .gval 51 45 false false 16051 (.pick (.t 48) (.t 50) (.c (.bool false))),
   .v 52 (.pick (.t 45) (.c (.bool true)) (.t 51)),
   .v 53 (.mov (.t 52)),
   .gval 54 53 false false 16054 (.mov (.t 8)),
   .gval 55 53 false false 16055 (.bin .geq (.t 54) (.c (.int .u8 65))),
   .gval 56 53 false false 16056 (.mov (.t 55)),
   .gval 57 56 true false 16057 (.mov (.t 8)),
   .gval 58 56 true false 16058 (.bin .leq (.t 57) (.c (.int .u8 90))),
   .gval 59 53 false false 16059 (.pick (.t 56) (.t 58) (.c (.bool false))),
   .v 60 (.pick (.t 53) (.c (.bool true)) (.t 59)),
   .v 61 (.mov (.t 60)),
   .gval 62 61 false false 16062 (.mov (.t 8)),
   .gval 63 61 false false 16063 (.bin .eql (.t 62) (.c (.int .u8 45))),
   .v 64 (.pick (.t 61) (.c (.bool true)) (.t 63)),
   .v 65 (.un .not (.t 64))]
def rwords_19 : AK := .seq (.reg rwords_19o [1, 6, 7, 10, 11, 12, 65]) rwords_20
def rwords_18o : List ROp := [.v 36 (.mov (.t 6)),
   .v 37 (.mov (.t 7)),
   .v 38 (.sidx (.t 36) (.t 37)),
   .v 8 (.mov (.t 38))]
def rwords_18 : AK := .seq (.reg rwords_18o [1, 6, 7, 8, 10, 11, 12]) rwords_19
def rwords_17 : AK := .block 3 rwords_18
def rwords_15 : AK := .seq rwords_17 rwords_16
def rwords_23 : AK := .cond (.t 33) .skip (.exit 2)
def rwords_22o : List ROp := [.v 30 (.mov (.t 7)),
   .v 31 (.mov (.t 6)),
   .v 32 (.len true (.t 31)),
   .v 33 (.bin .lss (.t 30) (.t 32))]
def rwords_22 : AK := .seq (.reg rwords_22o [1, 6, 7, 10, 11, 12, 33]) rwords_23
def rwords_14 : AK := .seq rwords_22 rwords_15
def rwords_L1 : AK := .loop rwords_14
def rwords_13 : AK := .block 2 rwords_L1
def rwords_12o : List ROp := [.v 7 (.mov (.c (.int .i64 0)))]
def rwords_12 : AK := .seq (.reg rwords_12o [1, 6, 7, 10, 11, 12]) rwords_13
def rwords_26o : List ROp := [.v 4 (.mov (.c (.bool false)))]
def rwords_26 : AK := .seq (.reg rwords_26o [4]) .ret
def rwords_25 : AK := .cond (.t 29) rwords_26 .skip
def rwords_24o : List ROp := [.v 16 (.mov (.t 6)),
   .v 17 (.bin .eql (.t 16) (.c (.str []))),
   .v 18 (.mov (.t 17)),
   .gval 19 18 false false 16019 (.mov (.t 1)),
   .gval 20 18 false false 16020 (.mov (.t 19)),
   .gval 21 20 true false 16021 (.mov (.t 6)),
   .gcal 22 20 true false 16022 45 [(.t 21)],
   .gval 23 18 false false 16023 (.pick (.t 20) (.t 22) (.c (.bool false))),
   .gval 24 18 false false 16024 (.mov (.t 23)),
   .gval 25 24 true false 16025 (.mov (.t 6)),
   .gcal 26 24 true false 16026 32 [(.t 25)],
   .gval 27 24 true false 16027 (.un .not (.t 26)),
   .gval 28 18 false false 16028 (.pick (.t 24) (.t 27) (.c (.bool false))),
   .v 29 (.pick (.t 18) (.c (.bool true)) (.t 28))]
def rwords_24 : AK := .seq (.reg rwords_24o [1, 6, 10, 11, 12, 29]) rwords_25
def rwords_11 : AK := .seq rwords_24 rwords_12
def rwords_10o : List ROp := [.v 14 (.idxA 1 (.t 10) (.t 12)),
   .v 15 (.ld false 1 (.t 14)),
   .v 6 (.mov (.t 15))]
def rwords_10 : AK := .seq (.reg rwords_10o [1, 6, 10, 11, 12]) rwords_11
def rwords_9 : AK := .block 1 rwords_10
def rwords_7 : AK := .seq rwords_9 rwords_8
def rwords_27 : AK := .cond (.t 13) .skip (.exit 0)
def rwords_6 : AK := .seq rwords_27 rwords_7
def rwords_5o : List ROp := [.v 13 (.bin .lss (.t 12) (.t 11))]
def rwords_5 : AK := .seq (.reg rwords_5o [1, 10, 11, 12, 13]) rwords_6
def rwords_L0 : AK := .loop rwords_5
def rwords_4 : AK := .block 0 rwords_L0
def rwords_3o : List ROp := [.v 9 (.mov (.t 0)),
   .cal (some 10) false 16010 31 [(.t 9), (.c (.int .u8 46))],
   .v 11 (.len false (.t 10)),
   .v 12 (.mov (.c (.int .i64 0)))]
def rwords_3 : AK := .seq (.reg rwords_3o [1, 10, 11, 12]) rwords_4
def rwords_1 : AK := .seq rwords_3 rwords_2
def rwords_0o : List ROp := [.v 4 (.mov (.c (.bool false)))]
def rwords_0 : AK := .seq (.reg rwords_0o [0, 1]) rwords_1
def rwords : AK := rwords_0
theorem rwords_vc (P : Program) (E : Env) (Q : KQ) (st : St) :
  (vcW P E rwords_2 Q st = aopsW P rwords_2o st (KS.reg [4] (KQ.seq P E .ret Q))) ∧
  (vcW P E rwords_8 Q st = aopsW P rwords_8o st (KS.reg [1, 10, 11, 12] Q)) ∧
  (vcW P E rwords_16 Q st = aopsW P rwords_16o st (KS.reg [1, 6, 7, 10, 11, 12] Q)) ∧
  (vcW P E rwords_21 Q st = aopsW P rwords_21o st (KS.reg [4] (KQ.seq P E .ret Q))) ∧
  (vcW P E rwords_20 Q st = cndW P E (ev st (.t 65)) rwords_21 .skip Q st) ∧
  (vcW P E rwords_19 Q st = aopsW P rwords_19o st (KS.reg [1, 6, 7, 10, 11, 12, 65] (KQ.seq P E rwords_20 Q))) ∧
  (vcW P E rwords_18 Q st = aopsW P rwords_18o st (KS.reg [1, 6, 7, 8, 10, 11, 12] (KQ.seq P E rwords_19 Q))) ∧
  (vcW P E rwords_17 Q st = vcW P E rwords_18 (KQ.blk 3 Q) st) ∧
  (vcW P E rwords_15 Q st = vcW P E rwords_17 (KQ.seq P E rwords_16 Q) st) ∧
  (vcW P E rwords_23 Q st = cndW P E (ev st (.t 33)) .skip (.exit 2) Q st) ∧
  (vcW P E rwords_22 Q st = aopsW P rwords_22o st (KS.reg [1, 6, 7, 10, 11, 12, 33] (KQ.seq P E rwords_23 Q))) ∧
  (vcW P E rwords_14 Q st = vcW P E rwords_22 (KQ.seq P E rwords_15 Q) st) ∧
  (vcW P E rwords_13 Q st = vcW P E rwords_L1 (KQ.blk 2 Q) st) ∧
  (vcW P E rwords_12 Q st = aopsW P rwords_12o st (KS.reg [1, 6, 7, 10, 11, 12] (KQ.seq P E rwords_13 Q))) ∧
  (vcW P E rwords_26 Q st = aopsW P rwords_26o st (KS.reg [4] (KQ.seq P E .ret Q))) ∧
  (vcW P E rwords_25 Q st = cndW P E (ev st (.t 29)) rwords_26 .skip Q st) ∧
  (vcW P E rwords_24 Q st = aopsW P rwords_24o st (KS.reg [1, 6, 10, 11, 12, 29] (KQ.seq P E rwords_25 Q))) ∧
  (vcW P E rwords_11 Q st = vcW P E rwords_24 (KQ.seq P E rwords_12 Q) st) ∧
  (vcW P E rwords_10 Q st = aopsW P rwords_10o st (KS.reg [1, 6, 10, 11, 12] (KQ.seq P E rwords_11 Q))) ∧
  (vcW P E rwords_9 Q st = vcW P E rwords_10 (KQ.blk 1 Q) st) ∧
  (vcW P E rwords_7 Q st = vcW P E rwords_9 (KQ.seq P E rwords_8 Q) st) ∧
  (vcW P E rwords_27 Q st = cndW P E (ev st (.t 13)) .skip (.exit 0) Q st) ∧
  (vcW P E rwords_6 Q st = vcW P E rwords_27 (KQ.seq P E rwords_7 Q) st) ∧
  (vcW P E rwords_5 Q st = aopsW P rwords_5o st (KS.reg [1, 10, 11, 12, 13] (KQ.seq P E rwords_6 Q))) ∧
  (vcW P E rwords_4 Q st = vcW P E rwords_L0 (KQ.blk 0 Q) st) ∧
  (vcW P E rwords_3 Q st = aopsW P rwords_3o st (KS.reg [1, 10, 11, 12] (KQ.seq P E rwords_4 Q))) ∧
  (vcW P E rwords_1 Q st = vcW P E rwords_3 (KQ.seq P E rwords_2 Q) st) ∧
  (vcW P E rwords_0 Q st = aopsW P rwords_0o st (KS.reg [0, 1] (KQ.seq P E rwords_1 Q))) ∧
  (vcW P E rwords Q st = vcW P E rwords_0 Q st) :=
  ⟨rfl, rfl, rfl, rfl, vcW_cond, rfl, rfl, rfl, rfl, vcW_cond, rfl, rfl, rfl, rfl, rfl, vcW_cond, rfl, rfl, rfl, rfl, rfl, vcW_cond, rfl, rfl, rfl, rfl, rfl, rfl, rfl⟩
theorem rwords_jn (P : Program) (E : Env) (Q : KQ) (st : St) :
  (True) :=
  trivial
attribute [go_sem] rwords_vc rwords_2o rwords_8o rwords_16o rwords_21o rwords_19o rwords_18o rwords_22o rwords_12o rwords_26o rwords_24o rwords_10o rwords_5o rwords_3o rwords_0o
noncomputable def rwordsB : Code := (Tryd.f30.body).getD .skip
theorem rwords_eq : trCode Tryd.prog 67 16000 rwordsB = rwords.erase 16000 := by kernel_rfl
theorem rwords_body : Tryd.f30.body = some rwordsB := by kernel_rfl
theorem rwords_n : Tryd.f30.ntmps = 67 := by kernel_rfl
theorem rwords_r : Tryd.f30.results.toList.map (trRes Tryd.prog) = [.tmp 4] := by kernel_rfl
theorem rwords_spec {h : HP} {a0 a1 : AV} {Post : HP → AV → List AV → Prop} (hp : ∀ (E : Env) (R : HP → AV → List AV → Prop), E.N ≤ 1000000 → PostTo Post R → vcW Tryd.prog E rwords (KQ.post [.tmp 4] 2 R) ⟨[(0, a0), (1, a1)], h⟩) : Eng.Spec Tryd.prog 30 h [a0, a1] Post := spec_wk (
  spec_of (c := rwords.erase 16000) (B := 16000) Tryd.func30 rwords_body (by rw [rwords_n, rwords_eq]) (by rw [rwords_n]; decide) (by rw [rwords_n]; exact (by decide : 2 ≤ 67)) (fun E hE hB hrd => by
    have hN : E.N ≤ 1000000 := by
      rw [hE, rwords_n]; decide
    rw [rwords_r, ← hB]
    exact awp_slots [(0, a0), (1, a1)] ⟨rfl, rfl, trivial⟩ (vcW_sound hN _ (hp E _ hN fin_self))))
/- cartulary/cartularyref20.Parse -/
def rparse_17o : List ROp := [.v 107 (.ld true 6 (.t 4)),
   .effN false 17000 (.st 6 (.t 2) (.t 107)),
   .v 3 (.mov (.c (.bool true)))]
def rparse_17 : AK := .seq (.reg rparse_17o [2, 3]) .ret
def rparse_16o : List ROp := [.v 103 (.mov (.t 8)),
   .v 104 (.idxA 1 (.t 103) (.c (.int .i64 2))),
   .v 105 (.ld false 1 (.t 104)),
   .v 106 (.fldA false 2 1 (.t 4)),
   .effN false 17000 (.st 1 (.t 106) (.t 105))]
def rparse_16 : AK := .seq (.reg rparse_16o [2, 4]) rparse_17
def rparse_15o : List ROp := [.v 99 (.mov (.t 8)),
   .v 100 (.idxA 1 (.t 99) (.c (.int .i64 1))),
   .v 101 (.ld false 1 (.t 100)),
   .v 102 (.fldA false 1 1 (.t 4)),
   .effN false 17000 (.st 1 (.t 102) (.t 101))]
def rparse_15 : AK := .seq (.reg rparse_15o [2, 4, 8]) rparse_16
def rparse_14o : List ROp := [.v 95 (.mov (.t 8)),
   .v 96 (.idxA 1 (.t 95) (.c (.int .i64 0))),
   .v 97 (.ld false 1 (.t 96)),
   .v 98 (.fldA false 0 1 (.t 4)),
   .effN false 17000 (.st 1 (.t 98) (.t 97))]
def rparse_14 : AK := .seq (.reg rparse_14o [2, 4, 8]) rparse_15
def rparse_13o : List ROp := [.v 92 (.mov (.t 8)),
   .eff 93 false 17093 (.bsl 1 [(.c (.str [48])), (.c (.str [48]))]),
   .eff 94 false 17094 (.app 1 16 (.t 92) (.t 93)),
   .v 8 (.mov (.t 94))]
def rparse_13 : AK := .seq (.reg rparse_13o [2, 4, 8]) rparse_14
def rparse_23o : List ROp := [.v 91 (.bin .add (.t 83) (.c (.int .i64 1))),
   .v 83 (.mov (.t 91))]
def rparse_23 : AK := .reg rparse_23o [2, 4, 8, 81, 82, 83]
def rparse_28o : List ROp := [.v 90 (.bld [.str [], .str [], .str [], .str [], .str [], .int .i64 0] []),
   .effN false 17000 (.st 6 (.t 2) (.t 90)),
   .v 3 (.mov (.c (.bool false)))]
def rparse_28 : AK := .seq (.reg rparse_28o [2, 3]) .ret
def rparse_27 : AK := .cond (.t 89) rparse_28 .skip
def rparse_26o : List ROp := [.v 87 (.mov (.t 10)),
   .cal (some 88) false 17088 32 [(.t 87)],
   .v 89 (.un .not (.t 88))]
def rparse_26 : AK := .seq (.reg rparse_26o [2, 4, 8, 81, 82, 83, 89]) rparse_27
def rparse_25o : List ROp := [.v 85 (.idxA 1 (.t 81) (.t 83)),
   .v 86 (.ld false 1 (.t 85)),
   .v 10 (.mov (.t 86))]
def rparse_25 : AK := .seq (.reg rparse_25o [2, 4, 8, 10, 81, 82, 83]) rparse_26
def rparse_24 : AK := .block 1 rparse_25
def rparse_22 : AK := .seq rparse_24 rparse_23
def rparse_29 : AK := .cond (.t 84) .skip (.exit 0)
def rparse_21 : AK := .seq rparse_29 rparse_22
def rparse_20o : List ROp := [.v 84 (.bin .lss (.t 83) (.t 82))]
def rparse_20 : AK := .seq (.reg rparse_20o [2, 4, 8, 81, 82, 83, 84]) rparse_21
def rparse_L0 : AK := .loop rparse_20
def rparse_19 : AK := .block 0 rparse_L0
def rparse_18o : List ROp := [.v 81 (.mov (.t 8)),
   .v 82 (.len false (.t 81)),
   .v 83 (.mov (.c (.int .i64 0)))]
def rparse_18 : AK := .seq (.reg rparse_18o [2, 4, 8, 81, 82, 83]) rparse_19
def rparse_12 : AK := .seq rparse_18 rparse_13
def rparse_32o : List ROp := [.v 80 (.bld [.str [], .str [], .str [], .str [], .str [], .int .i64 0] []),
   .effN false 17000 (.st 6 (.t 2) (.t 80)),
   .v 3 (.mov (.c (.bool false)))]
def rparse_32 : AK := .seq (.reg rparse_32o [2, 3]) .ret
def rparse_31 : AK := .cond (.t 79) rparse_32 .skip
def rparse_30o : List ROp := [.v 69 (.fldA false 5 1 (.t 4)),
   .v 70 (.ld false 1 (.t 69)),
   .v 71 (.bin .lss (.t 70) (.c (.int .i64 0))),
   .v 72 (.mov (.t 71)),
   .gval 73 72 false false 17073 (.mov (.t 6)),
   .gval 74 72 false false 17074 (.mov (.t 73)),
   .gval 75 74 true false 17075 (.fldA false 5 1 (.t 4)),
   .gval 76 74 true false 17076 (.ld false 1 (.t 75)),
   .gval 77 74 true false 17077 (.bin .gtr (.t 76) (.c (.int .i64 0))),
   .gval 78 72 false false 17078 (.pick (.t 74) (.t 77) (.c (.bool false))),
   .v 79 (.pick (.t 72) (.c (.bool true)) (.t 78))]
def rparse_30 : AK := .seq (.reg rparse_30o [2, 4, 8, 79]) rparse_31
def rparse_11 : AK := .seq rparse_30 rparse_12
def rparse_10o : List ROp := [.v 65 (.mov (.t 8)),
   .v 66 (.len false (.t 65)),
   .v 67 (.bin .sub (.c (.int .i64 3)) (.t 66)),
   .v 68 (.fldA false 5 1 (.t 4)),
   .effN false 17000 (.st 1 (.t 68) (.t 67))]
def rparse_10 : AK := .seq (.reg rparse_10o [2, 4, 6, 8]) rparse_11
def rparse_9o : List ROp := [.v 63 (.mov (.t 0)),
   .cal (some 64) false 17064 31 [(.t 63), (.c (.int .u8 46))],
   .v 8 (.mov (.t 64))]
def rparse_9 : AK := .seq (.reg rparse_9o [2, 4, 6, 8]) rparse_10
def rparse_40o : List ROp := [.v 62 (.bld [.str [], .str [], .str [], .str [], .str [], .int .i64 0] []),
   .effN false 17000 (.st 6 (.t 2) (.t 62)),
   .v 3 (.mov (.c (.bool false)))]
def rparse_40 : AK := .seq (.reg rparse_40o [2, 3]) .ret
def rparse_39 : AK := .cond (.t 61) rparse_40 .skip
def rparse_38o : List ROp := [.v 58 (.fldA false 3 1 (.t 4)),
   .v 59 (.ld false 1 (.t 58)),
   .cal (some 60) false 17060 30 [(.t 59), (.c (.bool true))],
   .v 61 (.un .not (.t 60))]
def rparse_38 : AK := .seq (.reg rparse_38o [0, 2, 4, 6, 61]) rparse_39
def rparse_37o : List ROp := [.v 6 (.mov (.c (.bool true)))]
def rparse_37 : AK := .seq (.reg rparse_37o [0, 2, 4, 6]) rparse_38
def rparse_36o : List ROp := [.v 55 (.mov (.t 0)),
   .v 56 (.mov (.t 7)),
   .v 57 (.slcS (.t 55) none (some (.t 56))),
   .v 0 (.mov (.t 57))]
def rparse_36 : AK := .seq (.reg rparse_36o [0, 2, 4]) rparse_37
def rparse_35o : List ROp := [.v 50 (.mov (.t 0)),
   .v 51 (.mov (.t 7)),
   .v 52 (.bin .add (.t 51) (.c (.int .i64 1))),
   .v 53 (.slcS (.t 50) (some (.t 52)) none),
   .v 54 (.fldA false 3 1 (.t 4)),
   .effN false 17000 (.st 1 (.t 54) (.t 53))]
def rparse_35 : AK := .seq (.reg rparse_35o [0, 2, 4, 7]) rparse_36
def rparse_34 : AK := .cond (.t 49) rparse_35 .skip
def rparse_33o : List ROp := [.v 48 (.mov (.t 7)),
   .v 49 (.bin .geq (.t 48) (.c (.int .i64 0)))]
def rparse_33 : AK := .seq (.reg rparse_33o [0, 2, 4, 6, 7, 49]) rparse_34
def rparse_8 : AK := .seq rparse_33 (.mid rparse_9)
def rparse_7o : List ROp := [.v 46 (.mov (.t 0)),
   .cal (some 47) false 17047 29 [(.t 46), (.c (.int .u8 45))],
   .v 7 (.mov (.t 47))]
def rparse_7 : AK := .seq (.reg rparse_7o [0, 2, 4, 6, 7]) rparse_8
def rparse_47o : List ROp := [.v 45 (.bld [.str [], .str [], .str [], .str [], .str [], .int .i64 0] []),
   .effN false 17000 (.st 6 (.t 2) (.t 45)),
   .v 3 (.mov (.c (.bool false)))]
def rparse_47 : AK := .seq (.reg rparse_47o [2, 3]) .ret
def rparse_46 : AK := .cond (.t 44) rparse_47 .skip
def rparse_45o : List ROp := [.v 41 (.fldA false 4 1 (.t 4)),
   .v 42 (.ld false 1 (.t 41)),
   .cal (some 43) false 17043 30 [(.t 42), (.c (.bool false))],
   .v 44 (.un .not (.t 43))]
def rparse_45 : AK := .seq (.reg rparse_45o [0, 2, 4, 6, 44]) rparse_46
def rparse_44o : List ROp := [.v 38 (.mov (.t 0)),
   .v 39 (.mov (.t 5)),
   .v 40 (.slcS (.t 38) none (some (.t 39))),
   .v 0 (.mov (.t 40))]
def rparse_44 : AK := .seq (.reg rparse_44o [0, 2, 4, 6]) rparse_45
def rparse_43o : List ROp := [.v 33 (.mov (.t 0)),
   .v 34 (.mov (.t 5)),
   .v 35 (.bin .add (.t 34) (.c (.int .i64 1))),
   .v 36 (.slcS (.t 33) (some (.t 35)) none),
   .v 37 (.fldA false 4 1 (.t 4)),
   .effN false 17000 (.st 1 (.t 37) (.t 36))]
def rparse_43 : AK := .seq (.reg rparse_43o [0, 2, 4, 5, 6]) rparse_44
def rparse_42 : AK := .cond (.t 32) rparse_43 .skip
def rparse_41o : List ROp := [.v 32 (.mov (.t 6))]
def rparse_41 : AK := .seq (.reg rparse_41o [0, 2, 4, 5, 6, 32]) rparse_42
def rparse_6 : AK := .seq rparse_41 (.mid rparse_7)
def rparse_5o : List ROp := [.v 30 (.mov (.t 5)),
   .v 31 (.bin .geq (.t 30) (.c (.int .i64 0))),
   .v 6 (.mov (.t 31))]
def rparse_5 : AK := .seq (.reg rparse_5o [0, 2, 4, 5, 6]) rparse_6
def rparse_4o : List ROp := [.v 28 (.mov (.t 0)),
   .cal (some 29) false 17029 29 [(.t 28), (.c (.int .u8 43))],
   .v 5 (.mov (.t 29))]
def rparse_4 : AK := .seq (.reg rparse_4o [0, 2, 4, 5]) rparse_5
def rparse_3o : List ROp := [.v 27 (.bld [.str [], .str [], .str [], .str [], .str [], .int .i64 0] []),
   .eff 4 false 17004 (.alloc [.str [], .str [], .str [], .str [], .str [], .int .i64 0]),
   .effN false 17000 (.st 6 (.t 4) (.t 27))]
def rparse_3 : AK := .seq (.reg rparse_3o [0, 2, 4]) rparse_4
def rparse_2o : List ROp := [.v 25 (.mov (.t 0)),
   .v 26 (.slcS (.t 25) (some (.c (.int .i64 1))) none),
   .v 0 (.mov (.t 26))]
def rparse_2 : AK := .seq (.reg rparse_2o [0, 2]) rparse_3
def rparse_50o : List ROp := [.v 24 (.bld [.str [], .str [], .str [], .str [], .str [], .int .i64 0] []),
   .effN false 17000 (.st 6 (.t 2) (.t 24)),
   .v 3 (.mov (.c (.bool false)))]
def rparse_50 : AK := .seq (.reg rparse_50o [2, 3]) .ret
def rparse_49 : AK := .cond (.t 23) rparse_50 .skip
def rparse_48o : List ROp := [.v 11 (.mov (.t 0)),
   .v 12 (.len true (.t 11)),
   .v 13 (.bin .lss (.t 12) (.c (.int .i64 2))),
   .v 14 (.mov (.t 13)),
   .gval 15 14 false false 17015 (.mov (.t 0)),
   .gval 16 14 false false 17016 (.len true (.t 15)),
   .gval 17 14 false false 17017 (.bin .gtr (.t 16) (.c (.int .i64 100))),
   .v 18 (.pick (.t 14) (.c (.bool true)) (.t 17)),
   .v 19 (.mov (.t 18)),
   .gval 20 19 false false 17020 (.mov (.t 0)),
   .gval 21 19 false false 17021 (.sidx (.t 20) (.c (.int .i64 0))),
   .gval 22 19 false false 17022 (.bin .neq (.t 21) (.c (.int .u8 118))),
   .v 23 (.pick (.t 19) (.c (.bool true)) (.t 22))]
def rparse_48 : AK := .seq (.reg rparse_48o [0, 2, 23]) rparse_49
def rparse_1 : AK := .seq rparse_48 rparse_2
def rparse_0o : List ROp := [.eff 2 false 17002 (.alloc [.str [], .str [], .str [], .str [], .str [], .int .i64 0]),
   .v 3 (.mov (.c (.bool false)))]
def rparse_0 : AK := .seq (.reg rparse_0o [0, 2]) rparse_1
def rparse : AK := rparse_0
theorem rparse_vc (P : Program) (E : Env) (Q : KQ) (st : St) :
  (vcW P E rparse_17 Q st = aopsW P rparse_17o st (KS.reg [2, 3] (KQ.seq P E .ret Q))) ∧
  (vcW P E rparse_16 Q st = aopsW P rparse_16o st (KS.reg [2, 4] (KQ.seq P E rparse_17 Q))) ∧
  (vcW P E rparse_15 Q st = aopsW P rparse_15o st (KS.reg [2, 4, 8] (KQ.seq P E rparse_16 Q))) ∧
  (vcW P E rparse_14 Q st = aopsW P rparse_14o st (KS.reg [2, 4, 8] (KQ.seq P E rparse_15 Q))) ∧
  (vcW P E rparse_13 Q st = aopsW P rparse_13o st (KS.reg [2, 4, 8] (KQ.seq P E rparse_14 Q))) ∧
  (vcW P E rparse_23 Q st = aopsW P rparse_23o st (KS.reg [2, 4, 8, 81, 82, 83] Q)) ∧
  (vcW P E rparse_28 Q st = aopsW P rparse_28o st (KS.reg [2, 3] (KQ.seq P E .ret Q))) ∧
  (vcW P E rparse_27 Q st = cndW P E (ev st (.t 89)) rparse_28 .skip Q st) ∧
  (vcW P E rparse_26 Q st = aopsW P rparse_26o st (KS.reg [2, 4, 8, 81, 82, 83, 89] (KQ.seq P E rparse_27 Q))) ∧
  (vcW P E rparse_25 Q st = aopsW P rparse_25o st (KS.reg [2, 4, 8, 10, 81, 82, 83] (KQ.seq P E rparse_26 Q))) ∧
  (vcW P E rparse_24 Q st = vcW P E rparse_25 (KQ.blk 1 Q) st) ∧
  (vcW P E rparse_22 Q st = vcW P E rparse_24 (KQ.seq P E rparse_23 Q) st) ∧
  (vcW P E rparse_29 Q st = cndW P E (ev st (.t 84)) .skip (.exit 0) Q st) ∧
  (vcW P E rparse_21 Q st = vcW P E rparse_29 (KQ.seq P E rparse_22 Q) st) ∧
  (vcW P E rparse_20 Q st = aopsW P rparse_20o st (KS.reg [2, 4, 8, 81, 82, 83, 84] (KQ.seq P E rparse_21 Q))) ∧
  (vcW P E rparse_19 Q st = vcW P E rparse_L0 (KQ.blk 0 Q) st) ∧
  (vcW P E rparse_18 Q st = aopsW P rparse_18o st (KS.reg [2, 4, 8, 81, 82, 83] (KQ.seq P E rparse_19 Q))) ∧
  (vcW P E rparse_12 Q st = vcW P E rparse_18 (KQ.seq P E rparse_13 Q) st) ∧
  (vcW P E rparse_32 Q st = aopsW P rparse_32o st (KS.reg [2, 3] (KQ.seq P E .ret Q))) ∧
  (vcW P E rparse_31 Q st = cndW P E (ev st (.t 79)) rparse_32 .skip Q st) ∧
  (vcW P E rparse_30 Q st = aopsW P rparse_30o st (KS.reg [2, 4, 8, 79] (KQ.seq P E rparse_31 Q))) ∧
  (vcW P E rparse_11 Q st = vcW P E rparse_30 (KQ.seq P E rparse_12 Q) st) ∧
  (vcW P E rparse_10 Q st = aopsW P rparse_10o st (KS.reg [2, 4, 6, 8] (KQ.seq P E rparse_11 Q))) ∧
  (vcW P E rparse_9 Q st = aopsW P rparse_9o st (KS.reg [2, 4, 6, 8] (KQ.seq P E rparse_10 Q))) ∧
  (vcW P E rparse_40 Q st = aopsW P rparse_40o st (KS.reg [2, 3] (KQ.seq P E .ret Q))) ∧
  (vcW P E rparse_39 Q st = cndW P E (ev st (.t 61)) rparse_40 .skip Q st) ∧
  (vcW P E rparse_38 Q st = aopsW P rparse_38o st (KS.reg [0, 2, 4, 6, 61] (KQ.seq P E rparse_39 Q))) ∧
  (vcW P E rparse_37 Q st = aopsW P rparse_37o st (KS.reg [0, 2, 4, 6] (KQ.seq P E rparse_38 Q))) ∧
  (vcW P E rparse_36 Q st = aopsW P rparse_36o st (KS.reg [0, 2, 4] (KQ.seq P E rparse_37 Q))) ∧
  (vcW P E rparse_35 Q st = aopsW P rparse_35o st (KS.reg [0, 2, 4, 7] (KQ.seq P E rparse_36 Q))) ∧
  (vcW P E rparse_34 Q st = cndW P E (ev st (.t 49)) rparse_35 .skip Q st) ∧
  (vcW P E rparse_33 Q st = aopsW P rparse_33o st (KS.reg [0, 2, 4, 6, 7, 49] (KQ.seq P E rparse_34 Q))) ∧
  (vcW P E rparse_7 Q st = aopsW P rparse_7o st (KS.reg [0, 2, 4, 6, 7] (KQ.seq P E rparse_8 Q))) ∧
  (vcW P E rparse_47 Q st = aopsW P rparse_47o st (KS.reg [2, 3] (KQ.seq P E .ret Q))) ∧
  (vcW P E rparse_46 Q st = cndW P E (ev st (.t 44)) rparse_47 .skip Q st) ∧
  (vcW P E rparse_45 Q st = aopsW P rparse_45o st (KS.reg [0, 2, 4, 6, 44] (KQ.seq P E rparse_46 Q))) ∧
  (vcW P E rparse_44 Q st = aopsW P rparse_44o st (KS.reg [0, 2, 4, 6] (KQ.seq P E rparse_45 Q))) ∧
  (vcW P E rparse_43 Q st = aopsW P rparse_43o st (KS.reg [0, 2, 4, 5, 6] (KQ.seq P E rparse_44 Q))) ∧
  (vcW P E rparse_42 Q st = cndW P E (ev st (.t 32)) rparse_43 .skip Q st) ∧
  (vcW P E rparse_41 Q st = aopsW P rparse_41o st (KS.reg [0, 2, 4, 5, 6, 32] (KQ.seq P E rparse_42 Q))) ∧
  (vcW P E rparse_5 Q st = aopsW P rparse_5o st (KS.reg [0, 2, 4, 5, 6] (KQ.seq P E rparse_6 Q))) ∧
  (vcW P E rparse_4 Q st = aopsW P rparse_4o st (KS.reg [0, 2, 4, 5] (KQ.seq P E rparse_5 Q))) ∧
  (vcW P E rparse_3 Q st = aopsW P rparse_3o st (KS.reg [0, 2, 4] (KQ.seq P E rparse_4 Q))) ∧
  (vcW P E rparse_2 Q st = aopsW P rparse_2o st (KS.reg [0, 2] (KQ.seq P E rparse_3 Q))) ∧
  (vcW P E rparse_50 Q st = aopsW P rparse_50o st (KS.reg [2, 3] (KQ.seq P E .ret Q))) ∧
  (vcW P E rparse_49 Q st = cndW P E (ev st (.t 23)) rparse_50 .skip Q st) ∧
  (vcW P E rparse_48 Q st = aopsW P rparse_48o st (KS.reg [0, 2, 23] (KQ.seq P E rparse_49 Q))) ∧
  (vcW P E rparse_1 Q st = vcW P E rparse_48 (KQ.seq P E rparse_2 Q) st) ∧
  (vcW P E rparse_0 Q st = aopsW P rparse_0o st (KS.reg [0, 2] (KQ.seq P E rparse_1 Q))) ∧
  (vcW P E rparse Q st = vcW P E rparse_0 Q st) :=
  ⟨rfl, rfl, rfl, rfl, rfl, rfl, rfl, vcW_cond, rfl, rfl, rfl, rfl, vcW_cond, rfl, rfl, rfl, rfl, rfl, rfl, vcW_cond, rfl, rfl, rfl, rfl, rfl, vcW_cond, rfl, rfl, rfl, rfl, vcW_cond, rfl, rfl, rfl, vcW_cond, rfl, rfl, rfl, vcW_cond, rfl, rfl, rfl, rfl, rfl, rfl, vcW_cond, rfl, rfl, rfl, rfl⟩
theorem rparse_jn (P : Program) (E : Env) (Q : KQ) (st : St) :
  (vcW P E rparse_8 Q st = vcW P E rparse_33 (KQ.seq P E (.mid rparse_9) Q) st) ∧
  (vcW P E rparse_6 Q st = vcW P E rparse_41 (KQ.seq P E (.mid rparse_7) Q) st) :=
  ⟨rfl, rfl⟩
attribute [go_sem] rparse_vc rparse_17o rparse_16o rparse_15o rparse_14o rparse_13o rparse_23o rparse_28o rparse_26o rparse_25o rparse_20o rparse_18o rparse_32o rparse_30o rparse_10o rparse_9o rparse_40o rparse_38o rparse_37o rparse_36o rparse_35o rparse_33o rparse_7o rparse_47o rparse_45o rparse_44o rparse_43o rparse_41o rparse_5o rparse_4o rparse_3o rparse_2o rparse_50o rparse_48o rparse_0o
noncomputable def rparseB : Code := (Tryd.f11.body).getD .skip
theorem rparse_eq : trCode Tryd.prog 108 17000 rparseB = rparse.erase 17000 := by kernel_rfl
theorem rparse_body : Tryd.f11.body = some rparseB := by kernel_rfl
theorem rparse_n : Tryd.f11.ntmps = 108 := by kernel_rfl
theorem rparse_r : Tryd.f11.results.toList.map (trRes Tryd.prog) = [.cell 2 true 6, .tmp 3] := by kernel_rfl
theorem rparse_spec {h : HP} {a0 : AV} {Post : HP → AV → List AV → Prop} (hp : ∀ (E : Env) (R : HP → AV → List AV → Prop), E.N ≤ 1000000 → PostTo Post R → vcW Tryd.prog E rparse (KQ.post [.cell 2 true 6, .tmp 3] 1 R) ⟨[(0, a0)], h⟩) : Eng.Spec Tryd.prog 11 h [a0] Post := spec_wk (
  spec_of (c := rparse.erase 17000) (B := 17000) Tryd.func11 rparse_body (by rw [rparse_n, rparse_eq]) (by rw [rparse_n]; decide) (by rw [rparse_n]; exact (by decide : 1 ≤ 108)) (fun E hE hB hrd => by
    have hN : E.N ≤ 1000000 := by
      rw [hE, rparse_n]; decide
    rw [rparse_r, ← hB]
    exact awp_slots [(0, a0)] ⟨rfl, trivial⟩ (vcW_sound hN _ (hp E _ hN fin_self))))
/- cartulary/cartularyref08.Find -/
def find_2o : List ROp := [.v 4 (.mov (.c (.int .i64 (-1))))]
def find_2 : AK := .seq (.reg find_2o [4]) .ret
def find_7o : List ROp := [.v 10 (.mov (.t 5)),
   .v 11 (.bin .add (.t 10) (.c (.int .i64 1))),
   .v 5 (.mov (.t 11))]
def find_7 : AK := .reg find_7o [0, 1, 5]
def find_11o : List ROp := [.v 17 (.mov (.t 5)),
   .v 4 (.mov (.t 17))]
def find_11 : AK := .seq (.reg find_11o [4]) .ret
def find_10 : AK := .cond (.t 16) find_11 .skip
def find_9o : List ROp := [.v 12 (.mov (.t 0)),
   .v 13 (.mov (.t 5)),
   .v 14 (.sidx (.t 12) (.t 13)),
   .v 15 (.mov (.t 1)),
   .v 16 (.bin .eql (.t 14) (.t 15))]
def find_9 : AK := .seq (.reg find_9o [0, 1, 5, 16]) find_10
def find_8 : AK := .block 1 find_9
def find_6 : AK := .seq find_8 find_7
def find_13 : AK := .cond (.t 9) .skip (.exit 0)
def find_12o : List ROp := [.v 6 (.mov (.t 5)),
   .v 7 (.mov (.t 0)),
   .v 8 (.len true (.t 7)),
   .v 9 (.bin .lss (.t 6) (.t 8))]
def find_12 : AK := .seq (.reg find_12o [0, 1, 5, 9]) find_13
def find_5 : AK := .seq find_12 find_6
def find_L0 : AK := .loop find_5
def find_4 : AK := .block 0 find_L0
def find_3o : List ROp := [.v 5 (.mov (.c (.int .i64 0)))]
def find_3 : AK := .seq (.reg find_3o [0, 1, 5]) find_4
def find_1 : AK := .seq find_3 find_2
def find_0o : List ROp := [.v 4 (.mov (.c (.int .i64 0)))]
def find_0 : AK := .seq (.reg find_0o [0, 1]) find_1
def find : AK := find_0
theorem find_vc (P : Program) (E : Env) (Q : KQ) (st : St) :
  (vcW P E find_2 Q st = aopsW P find_2o st (KS.reg [4] (KQ.seq P E .ret Q))) ∧
  (vcW P E find_7 Q st = aopsW P find_7o st (KS.reg [0, 1, 5] Q)) ∧
  (vcW P E find_11 Q st = aopsW P find_11o st (KS.reg [4] (KQ.seq P E .ret Q))) ∧
  (vcW P E find_10 Q st = cndW P E (ev st (.t 16)) find_11 .skip Q st) ∧
  (vcW P E find_9 Q st = aopsW P find_9o st (KS.reg [0, 1, 5, 16] (KQ.seq P E find_10 Q))) ∧
  (vcW P E find_8 Q st = vcW P E find_9 (KQ.blk 1 Q) st) ∧
  (vcW P E find_6 Q st = vcW P E find_8 (KQ.seq P E find_7 Q) st) ∧
  (vcW P E find_13 Q st = cndW P E (ev st (.t 9)) .skip (.exit 0) Q st) ∧
  (vcW P E find_12 Q st = aopsW P find_12o st (KS.reg [0, 1, 5, 9] (KQ.seq P E find_13 Q))) ∧
  (vcW P E find_5 Q st = vcW P E find_12 (KQ.seq P E find_6 Q) st) ∧
  (vcW P E find_4 Q st = vcW P E find_L0 (KQ.blk 0 Q) st) ∧
  (vcW P E find_3 Q st = aopsW P find_3o st (KS.reg [0, 1, 5] (KQ.seq P E find_4 Q))) ∧
  (vcW P E find_1 Q st = vcW P E find_3 (KQ.seq P E find_2 Q) st) ∧
  (vcW P E find_0 Q st = aopsW P find_0o st (KS.reg [0, 1] (KQ.seq P E find_1 Q))) ∧
  (vcW P E find Q st = vcW P E find_0 Q st) :=
  ⟨rfl, rfl, rfl, vcW_cond, rfl, rfl, rfl, vcW_cond, rfl, rfl, rfl, rfl, rfl, rfl, rfl⟩
theorem find_jn (P : Program) (E : Env) (Q : KQ) (st : St) :
  (True) :=
  trivial
attribute [go_sem] find_vc find_2o find_7o find_11o find_9o find_12o find_3o find_0o
noncomputable def findB : Code := (Tryd.f29.body).getD .skip
theorem find_eq : trCode Tryd.prog 18 23000 findB = find.erase 23000 := by kernel_rfl
theorem find_body : Tryd.f29.body = some findB := by kernel_rfl
theorem find_n : Tryd.f29.ntmps = 18 := by kernel_rfl
theorem find_r : Tryd.f29.results.toList.map (trRes Tryd.prog) = [.tmp 4] := by kernel_rfl
theorem find_spec {h : HP} {a0 a1 : AV} {Post : HP → AV → List AV → Prop} (hp : ∀ (E : Env) (R : HP → AV → List AV → Prop), E.N ≤ 1000000 → PostTo Post R → vcW Tryd.prog E find (KQ.post [.tmp 4] 2 R) ⟨[(0, a0), (1, a1)], h⟩) : Eng.Spec Tryd.prog 29 h [a0, a1] Post := spec_wk (
  spec_of (c := find.erase 23000) (B := 23000) Tryd.func29 find_body (by rw [find_n, find_eq]) (by rw [find_n]; decide) (by rw [find_n]; exact (by decide : 2 ≤ 18)) (fun E hE hB hrd => by
    have hN : E.N ≤ 1000000 := by
      rw [hE, find_n]; decide
    rw [find_r, ← hB]
    exact awp_slots [(0, a0), (1, a1)] ⟨rfl, rfl, trivial⟩ (vcW_sound hN _ (hp E _ hN fin_self))))
/- strings.CutPrefix -/
def cutPrefix_1o : List ROp := [.v 6 (.mov (.t 0)),
   .v 7 (.mov (.t 1)),
   .cal (some 8) false 40008 52 [(.t 6), (.t 7)],
   .v 9 (.ext (.t 8) 0),
   .v 10 (.ext (.t 8) 1),
   .v 4 (.mov (.t 9)),
   .v 5 (.mov (.t 10))]
def cutPrefix_1 : AK := .seq (.reg cutPrefix_1o [4, 5]) .ret
def cutPrefix_0o : List ROp := [.v 4 (.mov (.c (.str []))),
   .v 5 (.mov (.c (.bool false)))]
def cutPrefix_0 : AK := .seq (.reg cutPrefix_0o [0, 1]) cutPrefix_1
def cutPrefix : AK := cutPrefix_0
theorem cutPrefix_vc (P : Program) (E : Env) (Q : KQ) (st : St) :
  (vcW P E cutPrefix_1 Q st = aopsW P cutPrefix_1o st (KS.reg [4, 5] (KQ.seq P E .ret Q))) ∧
  (vcW P E cutPrefix_0 Q st = aopsW P cutPrefix_0o st (KS.reg [0, 1] (KQ.seq P E cutPrefix_1 Q))) ∧
  (vcW P E cutPrefix Q st = vcW P E cutPrefix_0 Q st) :=
  ⟨rfl, rfl, rfl⟩
theorem cutPrefix_jn (P : Program) (E : Env) (Q : KQ) (st : St) :
  (True) :=
  trivial
attribute [go_sem] cutPrefix_vc cutPrefix_1o cutPrefix_0o
noncomputable def cutPrefixB : Code := (Tryd.f35.body).getD .skip
theorem cutPrefix_eq : trCode Tryd.prog 11 40000 cutPrefixB = cutPrefix.erase 40000 := by kernel_rfl
theorem cutPrefix_body : Tryd.f35.body = some cutPrefixB := by kernel_rfl
theorem cutPrefix_n : Tryd.f35.ntmps = 11 := by kernel_rfl
theorem cutPrefix_r : Tryd.f35.results.toList.map (trRes Tryd.prog) = [.tmp 4, .tmp 5] := by kernel_rfl
theorem cutPrefix_spec {h : HP} {a0 a1 : AV} {Post : HP → AV → List AV → Prop} (hp : ∀ (E : Env) (R : HP → AV → List AV → Prop), E.N ≤ 1000000 → PostTo Post R → vcW Tryd.prog E cutPrefix (KQ.post [.tmp 4, .tmp 5] 2 R) ⟨[(0, a0), (1, a1)], h⟩) : Eng.Spec Tryd.prog 35 h [a0, a1] Post := spec_wk (
  spec_of (c := cutPrefix.erase 40000) (B := 40000) Tryd.func35 cutPrefix_body (by rw [cutPrefix_n, cutPrefix_eq]) (by rw [cutPrefix_n]; decide) (by rw [cutPrefix_n]; exact (by decide : 2 ≤ 11)) (fun E hE hB hrd => by
    have hN : E.N ≤ 1000000 := by
      rw [hE, cutPrefix_n]; decide
    rw [cutPrefix_r, ← hB]
    exact awp_slots [(0, a0), (1, a1)] ⟨rfl, rfl, trivial⟩ (vcW_sound hN _ (hp E _ hN fin_self))))
/- internal/stringslite.CutPrefix -/
def lcutPrefix_2o : List ROp := [.v 11 (.mov (.t 0)),
   .v 12 (.mov (.t 1)),
   .v 13 (.len true (.t 12)),
   .v 14 (.slcS (.t 11) (some (.t 13)) none),
   .v 4 (.mov (.t 14)),
   .v 5 (.mov (.c (.bool true)))]
def lcutPrefix_2 : AK := .seq (.reg lcutPrefix_2o [4, 5]) .ret
def lcutPrefix_5o : List ROp := [.v 10 (.mov (.t 0)),
   .v 4 (.mov (.t 10)),
   .v 5 (.mov (.c (.bool false)))]
def lcutPrefix_5 : AK := .seq (.reg lcutPrefix_5o [4, 5]) .ret
def lcutPrefix_4 : AK := .cond (.t 9) lcutPrefix_5 .skip
def lcutPrefix_3o : List ROp := [.v 6 (.mov (.t 0)),
   .v 7 (.mov (.t 1)),
   .cal (some 8) false 41008 63 [(.t 6), (.t 7)],
   .v 9 (.un .not (.t 8))]
def lcutPrefix_3 : AK := .seq (.reg lcutPrefix_3o [0, 1, 9]) lcutPrefix_4
def lcutPrefix_1 : AK := .seq lcutPrefix_3 lcutPrefix_2
def lcutPrefix_0o : List ROp := [.v 4 (.mov (.c (.str []))),
   .v 5 (.mov (.c (.bool false)))]
def lcutPrefix_0 : AK := .seq (.reg lcutPrefix_0o [0, 1]) lcutPrefix_1
def lcutPrefix : AK := lcutPrefix_0
theorem lcutPrefix_vc (P : Program) (E : Env) (Q : KQ) (st : St) :
  (vcW P E lcutPrefix_2 Q st = aopsW P lcutPrefix_2o st (KS.reg [4, 5] (KQ.seq P E .ret Q))) ∧
  (vcW P E lcutPrefix_5 Q st = aopsW P lcutPrefix_5o st (KS.reg [4, 5] (KQ.seq P E .ret Q))) ∧
  (vcW P E lcutPrefix_4 Q st = cndW P E (ev st (.t 9)) lcutPrefix_5 .skip Q st) ∧
  (vcW P E lcutPrefix_3 Q st = aopsW P lcutPrefix_3o st (KS.reg [0, 1, 9] (KQ.seq P E lcutPrefix_4 Q))) ∧
  (vcW P E lcutPrefix_1 Q st = vcW P E lcutPrefix_3 (KQ.seq P E lcutPrefix_2 Q) st) ∧
  (vcW P E lcutPrefix_0 Q st = aopsW P lcutPrefix_0o st (KS.reg [0, 1] (KQ.seq P E lcutPrefix_1 Q))) ∧
  (vcW P E lcutPrefix Q st = vcW P E lcutPrefix_0 Q st) :=
  ⟨rfl, rfl, vcW_cond, rfl, rfl, rfl, rfl⟩
theorem lcutPrefix_jn (P : Program) (E : Env) (Q : KQ) (st : St) :
  (True) :=
  trivial
attribute [go_sem] lcutPrefix_vc lcutPrefix_2o lcutPrefix_5o lcutPrefix_3o lcutPrefix_0o
noncomputable def lcutPrefixB : Code := (Tryd.f52.body).getD .skip
theorem lcutPrefix_eq : trCode Tryd.prog 15 41000 lcutPrefixB = lcutPrefix.erase 41000 := by kernel_rfl
theorem lcutPrefix_body : Tryd.f52.body = some lcutPrefixB := by kernel_rfl
theorem lcutPrefix_n : Tryd.f52.ntmps = 15 := by kernel_rfl
theorem lcutPrefix_r : Tryd.f52.results.toList.map (trRes Tryd.prog) = [.tmp 4, .tmp 5] := by kernel_rfl
theorem lcutPrefix_spec {h : HP} {a0 a1 : AV} {Post : HP → AV → List AV → Prop} (hp : ∀ (E : Env) (R : HP → AV → List AV → Prop), E.N ≤ 1000000 → PostTo Post R → vcW Tryd.prog E lcutPrefix (KQ.post [.tmp 4, .tmp 5] 2 R) ⟨[(0, a0), (1, a1)], h⟩) : Eng.Spec Tryd.prog 52 h [a0, a1] Post := spec_wk (
  spec_of (c := lcutPrefix.erase 41000) (B := 41000) Tryd.func52 lcutPrefix_body (by rw [lcutPrefix_n, lcutPrefix_eq]) (by rw [lcutPrefix_n]; decide) (by rw [lcutPrefix_n]; exact (by decide : 2 ≤ 15)) (fun E hE hB hrd => by
    have hN : E.N ≤ 1000000 := by
      rw [hE, lcutPrefix_n]; decide
    rw [lcutPrefix_r, ← hB]
    exact awp_slots [(0, a0), (1, a1)] ⟨rfl, rfl, trivial⟩ (vcW_sound hN _ (hp E _ hN fin_self))))
/- internal/stringslite.HasPrefix -/
def hasPrefix_1o : List ROp := [.v 5 (.mov (.t 0)),
   .v 6 (.len true (.t 5)),
   .v 7 (.mov (.t 1)),
   .v 8 (.len true (.t 7)),
   .v 9 (.bin .geq (.t 6) (.t 8)),
   .v 10 (.mov (.t 9)),
   .gval 11 10 true false 42011 (.mov (.t 0)),
   .gval 12 10 true false 42012 (.mov (.t 1)),
   .gval 13 10 true false 42013 (.len true (.t 12)),
   .gval 14 10 true false 42014 (.slcS (.t 11) none (some (.t 13))),
   .gval 15 10 true false 42015 (.mov (.t 1)),
   .gval 16 10 true false 42016 (.bin .eql (.t 14) (.t 15)),
   .v 17 (.pick (.t 10) (.t 16) (.c (.bool false))),
   .v 4 (.mov (.t 17))]
def hasPrefix_1 : AK := .seq (.reg hasPrefix_1o [4]) .ret
def hasPrefix_0o : List ROp := [.v 4 (.mov (.c (.bool false)))]
def hasPrefix_0 : AK := .seq (.reg hasPrefix_0o [0, 1]) hasPrefix_1
def hasPrefix : AK := hasPrefix_0
theorem hasPrefix_vc (P : Program) (E : Env) (Q : KQ) (st : St) :
  (vcW P E hasPrefix_1 Q st = aopsW P hasPrefix_1o st (KS.reg [4] (KQ.seq P E .ret Q))) ∧
  (vcW P E hasPrefix_0 Q st = aopsW P hasPrefix_0o st (KS.reg [0, 1] (KQ.seq P E hasPrefix_1 Q))) ∧
  (vcW P E hasPrefix Q st = vcW P E hasPrefix_0 Q st) :=
  ⟨rfl, rfl, rfl⟩
theorem hasPrefix_jn (P : Program) (E : Env) (Q : KQ) (st : St) :
  (True) :=
  trivial
attribute [go_sem] hasPrefix_vc hasPrefix_1o hasPrefix_0o
noncomputable def hasPrefixB : Code := (Tryd.f63.body).getD .skip
theorem hasPrefix_eq : trCode Tryd.prog 18 42000 hasPrefixB = hasPrefix.erase 42000 := by kernel_rfl
theorem hasPrefix_body : Tryd.f63.body = some hasPrefixB := by kernel_rfl
theorem hasPrefix_n : Tryd.f63.ntmps = 18 := by kernel_rfl
theorem hasPrefix_r : Tryd.f63.results.toList.map (trRes Tryd.prog) = [.tmp 4] := by kernel_rfl
theorem hasPrefix_spec {h : HP} {a0 a1 : AV} {Post : HP → AV → List AV → Prop} (hp : ∀ (E : Env) (R : HP → AV → List AV → Prop), E.N ≤ 1000000 → PostTo Post R → vcW Tryd.prog E hasPrefix (KQ.post [.tmp 4] 2 R) ⟨[(0, a0), (1, a1)], h⟩) : Eng.Spec Tryd.prog 63 h [a0, a1] Post := spec_wk (
  spec_of (c := hasPrefix.erase 42000) (B := 42000) Tryd.func63 hasPrefix_body (by rw [hasPrefix_n, hasPrefix_eq]) (by rw [hasPrefix_n]; decide) (by rw [hasPrefix_n]; exact (by decide : 2 ≤ 18)) (fun E hE hB hrd => by
    have hN : E.N ≤ 1000000 := by
      rw [hE, hasPrefix_n]; decide
    rw [hasPrefix_r, ← hB]
    exact awp_slots [(0, a0), (1, a1)] ⟨rfl, rfl, trivial⟩ (vcW_sound hN _ (hp E _ hN fin_self))))
/- strings.Cut -/
def scut_1o : List ROp := [.v 7 (.mov (.t 0)),
   .v 8 (.mov (.t 1)),
   .cal (some 9) false 43009 53 [(.t 7), (.t 8)],
   .v 10 (.ext (.t 9) 0),
   .v 11 (.ext (.t 9) 1),
   .v 12 (.ext (.t 9) 2),
   .v 4 (.mov (.t 10)),
   .v 5 (.mov (.t 11)),
   .v 6 (.mov (.t 12))]
def scut_1 : AK := .seq (.reg scut_1o [4, 5, 6]) .ret
def scut_0o : List ROp := [.v 4 (.mov (.c (.str []))),
   .v 5 (.mov (.c (.str []))),
   .v 6 (.mov (.c (.bool false)))]
def scut_0 : AK := .seq (.reg scut_0o [0, 1]) scut_1
def scut : AK := scut_0
theorem scut_vc (P : Program) (E : Env) (Q : KQ) (st : St) :
  (vcW P E scut_1 Q st = aopsW P scut_1o st (KS.reg [4, 5, 6] (KQ.seq P E .ret Q))) ∧
  (vcW P E scut_0 Q st = aopsW P scut_0o st (KS.reg [0, 1] (KQ.seq P E scut_1 Q))) ∧
  (vcW P E scut Q st = vcW P E scut_0 Q st) :=
  ⟨rfl, rfl, rfl⟩
theorem scut_jn (P : Program) (E : Env) (Q : KQ) (st : St) :
  (True) :=
  trivial
attribute [go_sem] scut_vc scut_1o scut_0o
noncomputable def scutB : Code := (Tryd.f37.body).getD .skip
theorem scut_eq : trCode Tryd.prog 13 43000 scutB = scut.erase 43000 := by kernel_rfl
theorem scut_body : Tryd.f37.body = some scutB := by kernel_rfl
theorem scut_n : Tryd.f37.ntmps = 13 := by kernel_rfl
theorem scut_r : Tryd.f37.results.toList.map (trRes Tryd.prog) = [.tmp 4, .tmp 5, .tmp 6] := by kernel_rfl
theorem scut_spec {h : HP} {a0 a1 : AV} {Post : HP → AV → List AV → Prop} (hp : ∀ (E : Env) (R : HP → AV → List AV → Prop), E.N ≤ 1000000 → PostTo Post R → vcW Tryd.prog E scut (KQ.post [.tmp 4, .tmp 5, .tmp 6] 2 R) ⟨[(0, a0), (1, a1)], h⟩) : Eng.Spec Tryd.prog 37 h [a0, a1] Post := spec_wk (
  spec_of (c := scut.erase 43000) (B := 43000) Tryd.func37 scut_body (by rw [scut_n, scut_eq]) (by rw [scut_n]; decide) (by rw [scut_n]; exact (by decide : 2 ≤ 13)) (fun E hE hB hrd => by
    have hN : E.N ≤ 1000000 := by
      rw [hE, scut_n]; decide
    rw [scut_r, ← hB]
    exact awp_slots [(0, a0), (1, a1)] ⟨rfl, rfl, trivial⟩ (vcW_sound hN _ (hp E _ hN fin_self))))
/- internal/stringslite.Cut -/
def lcut_2o : List ROp := [.v 22 (.mov (.t 0)),
   .v 4 (.mov (.t 22)),
   .v 5 (.mov (.c (.str []))),
   .v 6 (.mov (.c (.bool false)))]
def lcut_2 : AK := .seq (.reg lcut_2o [4, 5, 6]) .ret
def lcut_6o : List ROp := [.val 13 true 44013 (.mov (.t 0)),
   .val 14 true 44014 (.mov (.t 7)),
   .val 15 true 44015 (.slcS (.t 13) none (some (.t 14))),
   .val 16 true 44016 (.mov (.t 0)),
   .val 17 true 44017 (.mov (.t 7)),
   .val 18 true 44018 (.mov (.t 1)),
   .val 19 true 44019 (.len true (.t 18)),
   .val 20 true 44020 (.bin .add (.t 17) (.t 19)),
   .val 21 true 44021 (.slcS (.t 16) (some (.t 20)) none),
   .val 4 true 44004 (.mov (.t 15)),
   .v 5 (.mov (.t 21)),
   .v 6 (.mov (.c (.bool true)))]
def lcut_6 : AK := .seq (.reg lcut_6o [4, 5, 6]) .ret
def lcut_5 : AK := .cond (.t 12) lcut_6 .skip
def lcut_4o : List ROp := [.v 11 (.mov (.t 7)),
   .v 12 (.bin .geq (.t 11) (.c (.int .i64 0)))]
def lcut_4 : AK := .seq (.reg lcut_4o [0, 1, 7, 12]) lcut_5
def lcut_3o : List ROp := [.v 8 (.mov (.t 0)),
   .v 9 (.mov (.t 1)),
   .cal (some 10) false 44010 64 [(.t 8), (.t 9)],
   .v 7 (.mov (.t 10))]
def lcut_3 : AK := .seq (.reg lcut_3o [0, 1, 7]) lcut_4
def lcut_1 : AK := .seq lcut_3 lcut_2
def lcut_0o : List ROp := [.v 4 (.mov (.c (.str []))),
   .v 5 (.mov (.c (.str []))),
   .v 6 (.mov (.c (.bool false)))]
def lcut_0 : AK := .seq (.reg lcut_0o [0, 1]) lcut_1
def lcut : AK := lcut_0
theorem lcut_vc (P : Program) (E : Env) (Q : KQ) (st : St) :
  (vcW P E lcut_2 Q st = aopsW P lcut_2o st (KS.reg [4, 5, 6] (KQ.seq P E .ret Q))) ∧
  (vcW P E lcut_6 Q st = aopsW P lcut_6o st (KS.reg [4, 5, 6] (KQ.seq P E .ret Q))) ∧
  (vcW P E lcut_5 Q st = cndW P E (ev st (.t 12)) lcut_6 .skip Q st) ∧
  (vcW P E lcut_4 Q st = aopsW P lcut_4o st (KS.reg [0, 1, 7, 12] (KQ.seq P E lcut_5 Q))) ∧
  (vcW P E lcut_3 Q st = aopsW P lcut_3o st (KS.reg [0, 1, 7] (KQ.seq P E lcut_4 Q))) ∧
  (vcW P E lcut_1 Q st = vcW P E lcut_3 (KQ.seq P E lcut_2 Q) st) ∧
  (vcW P E lcut_0 Q st = aopsW P lcut_0o st (KS.reg [0, 1] (KQ.seq P E lcut_1 Q))) ∧
  (vcW P E lcut Q st = vcW P E lcut_0 Q st) :=
  ⟨rfl, rfl, vcW_cond, rfl, rfl, rfl, rfl, rfl⟩
theorem lcut_jn (P : Program) (E : Env) (Q : KQ) (st : St) :
  (True) :=
  trivial
attribute [go_sem] lcut_vc lcut_2o lcut_6o lcut_4o lcut_3o lcut_0o
noncomputable def lcutB : Code := (Tryd.f53.body).getD .skip
theorem lcut_eq : trCode Tryd.prog 23 44000 lcutB = lcut.erase 44000 := by kernel_rfl
theorem lcut_body : Tryd.f53.body = some lcutB := by kernel_rfl
theorem lcut_n : Tryd.f53.ntmps = 23 := by kernel_rfl
theorem lcut_r : Tryd.f53.results.toList.map (trRes Tryd.prog) = [.tmp 4, .tmp 5, .tmp 6] := by kernel_rfl
theorem lcut_spec {h : HP} {a0 a1 : AV} {Post : HP → AV → List AV → Prop} (hp : ∀ (E : Env) (R : HP → AV → List AV → Prop), E.N ≤ 1000000 → PostTo Post R → vcW Tryd.prog E lcut (KQ.post [.tmp 4, .tmp 5, .tmp 6] 2 R) ⟨[(0, a0), (1, a1)], h⟩) : Eng.Spec Tryd.prog 53 h [a0, a1] Post := spec_wk (
  spec_of (c := lcut.erase 44000) (B := 44000) Tryd.func53 lcut_body (by rw [lcut_n, lcut_eq]) (by rw [lcut_n]; decide) (by rw [lcut_n]; exact (by decide : 2 ≤ 23)) (fun E hE hB hrd => by
    have hN : E.N ≤ 1000000 := by
      rw [hE, lcut_n]; decide
    rw [lcut_r, ← hB]
    exact awp_slots [(0, a0), (1, a1)] ⟨rfl, rfl, trivial⟩ (vcW_sound hN _ (hp E _ hN fin_self))))
end Go.Proofs.YtgkcbhdpenmogaaDoor.Cod
