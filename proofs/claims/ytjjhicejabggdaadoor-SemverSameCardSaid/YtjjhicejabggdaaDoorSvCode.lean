/- Code of functions as the engine reads it: written by a program (code2.py). -/
import Derived.Test.YtjjhicejabggdaaDoorEngZ
import Derived.Test.YtjjhicejabggdaaDoorProg
import Derived.KernelRfl
set_option linter.all false
namespace Go.Proofs.YtjjhicejabggdaaDoor.Cod
open Eng
set_option maxRecDepth 100000
/- cartulary/semver.number -/
def number_4o : List ROp := [.val 35 true 1035 (.mov (.t 0)),
   .val 36 true 1036 (.mov (.t 5)),
   .val 37 true 1037 (.slcS (.t 35) none (some (.t 36))),
   .val 38 true 1038 (.mov (.t 0)),
   .val 39 true 1039 (.mov (.t 5)),
   .val 40 true 1040 (.slcS (.t 38) (some (.t 39)) none),
   .val 2 true 1002 (.mov (.t 37)),
   .v 3 (.mov (.t 40)),
   .v 4 (.mov (.c (.bool true)))]
def number_4 : AK := .seq (.reg number_4o [2, 3, 4]) .ret
def number_7o : List ROp := [.v 2 (.mov (.c (.str []))),
   .v 3 (.mov (.c (.str []))),
   .v 4 (.mov (.c (.bool false)))]
def number_7 : AK := .seq (.reg number_7o [2, 3, 4]) .ret
def number_6 : AK := .cond (.t 34) number_7 .skip
def number_5o : List ROp := [.v 24 (.mov (.t 5)),
   .v 25 (.bin .eql (.t 24) (.c (.int .i64 0))),
   .v 26 (.mov (.t 25)),
   .gval 27 26 false false 1027 (.mov (.t 5)),
   .gval 28 26 false false 1028 (.bin .gtr (.t 27) (.c (.int .i64 1))),
   .gval 29 26 false false 1029 (.mov (.t 28)),
   .gval 30 29 true false 1030 (.mov (.t 0)),
   .gval 31 29 true false 1031 (.sidx (.t 30) (.c (.int .i64 0))),
   .gval 32 29 true false 1032 (.bin .eql (.t 31) (.c (.int .u8 48))),
   .gval 33 26 false false 1033 (.pick (.t 29) (.t 32) (.c (.bool false))),
   .v 34 (.pick (.t 26) (.c (.bool true)) (.t 33))]
def number_5 : AK := .seq (.reg number_5o [0, 5, 34]) number_6
def number_3 : AK := .seq number_5 number_4
def number_11o : List ROp := [.v 22 (.mov (.t 5)),
   .v 23 (.bin .add (.t 22) (.c (.int .i64 1))),
   .v 5 (.mov (.t 23))]
def number_11 : AK := .reg number_11o [0, 5]
def number_10 : AK := .block 1 number_11
def number_13 : AK := .cond (.t 21) .skip (.exit 0)
def number_12o : List ROp := [.v 6 (.mov (.t 5)),
   .v 7 (.mov (.t 0)),
   .v 8 (.len true (.t 7)),
   .v 9 (.bin .lss (.t 6) (.t 8)),
   .v 10 (.mov (.t 9)),
   .gval 11 10 true false 1011 (.mov (.t 0)),
   .gval 12 10 true false 1012 (.mov (.t 5)),
   .gval 13 10 true false 1013 (.sidx (.t 11) (.t 12)),
   .gval 14 10 true false 1014 (.bin .geq (.t 13) (.c (.int .u8 48))),
   .v 15 (.pick (.t 10) (.t 14) (.c (.bool false))),
   .v 16 (.mov (.t 15)),
   .gval 17 16 true false 1017 (.mov (.t 0)),
   .gval 18 16 true false 1018 (.mov (.t 5)),
   .gval 19 16 true false 1019 (.sidx (.t 17) (.t 18)),
   .gval 20 16 true false 1020 (.bin .leq (.t 19) (.c (.int .u8 57))),
   .v 21 (.pick (.t 16) (.t 20) (.c (.bool false)))]
def number_12 : AK := .seq (.reg number_12o [0, 5, 21]) number_13
def number_9 : AK := .seq number_12 number_10
def number_L0 : AK := .loop number_9
def number_8 : AK := .block 0 number_L0
def number_2 : AK := .seq number_8 number_3
def number_1o : List ROp := [.v 5 (.mov (.c (.int .i64 0)))]
def number_1 : AK := .seq (.reg number_1o [0, 5]) number_2
def number_0o : List ROp := [.v 2 (.mov (.c (.str []))),
   .v 3 (.mov (.c (.str []))),
   .v 4 (.mov (.c (.bool false)))]
def number_0 : AK := .seq (.reg number_0o [0]) number_1
def number : AK := number_0
theorem number_vc (P : Program) (E : Env) (Q : KQ) (st : St) :
  (vcW P E number_4 Q st = aopsW P number_4o st (KS.reg [2, 3, 4] (KQ.seq P E .ret Q))) ∧
  (vcW P E number_7 Q st = aopsW P number_7o st (KS.reg [2, 3, 4] (KQ.seq P E .ret Q))) ∧
  (vcW P E number_6 Q st = cndW P E (ev st (.t 34)) number_7 .skip Q st) ∧
  (vcW P E number_5 Q st = aopsW P number_5o st (KS.reg [0, 5, 34] (KQ.seq P E number_6 Q))) ∧
  (vcW P E number_3 Q st = vcW P E number_5 (KQ.seq P E number_4 Q) st) ∧
  (vcW P E number_11 Q st = aopsW P number_11o st (KS.reg [0, 5] Q)) ∧
  (vcW P E number_10 Q st = vcW P E number_11 (KQ.blk 1 Q) st) ∧
  (vcW P E number_13 Q st = cndW P E (ev st (.t 21)) .skip (.exit 0) Q st) ∧
  (vcW P E number_12 Q st = aopsW P number_12o st (KS.reg [0, 5, 21] (KQ.seq P E number_13 Q))) ∧
  (vcW P E number_9 Q st = vcW P E number_12 (KQ.seq P E number_10 Q) st) ∧
  (vcW P E number_8 Q st = vcW P E number_L0 (KQ.blk 0 Q) st) ∧
  (vcW P E number_2 Q st = vcW P E number_8 (KQ.seq P E number_3 Q) st) ∧
  (vcW P E number_1 Q st = aopsW P number_1o st (KS.reg [0, 5] (KQ.seq P E number_2 Q))) ∧
  (vcW P E number_0 Q st = aopsW P number_0o st (KS.reg [0] (KQ.seq P E number_1 Q))) ∧
  (vcW P E number Q st = vcW P E number_0 Q st) :=
  ⟨rfl, rfl, vcW_cond, rfl, rfl, rfl, rfl, vcW_cond, rfl, rfl, rfl, rfl, rfl, rfl, rfl⟩
theorem number_jn (P : Program) (E : Env) (Q : KQ) (st : St) :
  (True) :=
  trivial
attribute [go_sem] number_vc number_4o number_7o number_5o number_11o number_12o number_1o number_0o
noncomputable def numberB : Code := (Tryd.f26.body).getD .skip
theorem number_eq : trCode Tryd.prog 41 1000 numberB = number.erase 1000 := by kernel_rfl
theorem number_body : Tryd.f26.body = some numberB := by kernel_rfl
theorem number_n : Tryd.f26.ntmps = 41 := by kernel_rfl
theorem number_r : Tryd.f26.results.toList.map (trRes Tryd.prog) = [.tmp 2, .tmp 3, .tmp 4] := by kernel_rfl
theorem number_spec {h : HP} {a0 : AV} {Post : HP → AV → List AV → Prop} (hp : ∀ (E : Env) (R : HP → AV → List AV → Prop), E.N ≤ 1000000 → PostTo Post R → vcW Tryd.prog E number (KQ.post [.tmp 2, .tmp 3, .tmp 4] 1 R) ⟨[(0, a0)], h⟩) : Eng.Spec Tryd.prog 26 h [a0] Post := spec_wk (
  spec_of (c := number.erase 1000) (B := 1000) Tryd.func26 number_body (by rw [number_n, number_eq]) (by rw [number_n]; decide) (by rw [number_n]; exact (by decide : 1 ≤ 41)) (fun E hE hB hrd => by
    have hN : E.N ≤ 1000000 := by
      rw [hE, number_n]; decide
    rw [number_r, ← hB]
    exact awp_slots [(0, a0)] ⟨rfl, trivial⟩ (vcW_sound hN _ (hp E _ hN fin_self))))
/- cartulary/semver.digits -/
def digits_1o : List ROp := [.v 3 (.mov (.t 0)),
   .v 4 (.bin .neq (.t 3) (.c (.str []))),
   .v 5 (.mov (.t 4)),
   .gval 6 5 true false 2006 (.mov (.t 0)),
   .gcal 7 5 true false 2007 45 [(.t 6), (.c (.str [48, 49, 50, 51, 52, 53, 54, 55, 56, 57]))],
   .gval 8 5 true false 2008 (.bin .eql (.t 7) (.c (.str []))),
   .v 9 (.pick (.t 5) (.t 8) (.c (.bool false))),
   .v 2 (.mov (.t 9))]
def digits_1 : AK := .seq (.reg digits_1o [2]) .ret
def digits_0o : List ROp := [.v 2 (.mov (.c (.bool false)))]
def digits_0 : AK := .seq (.reg digits_0o [0]) digits_1
def digits : AK := digits_0
theorem digits_vc (P : Program) (E : Env) (Q : KQ) (st : St) :
  (vcW P E digits_1 Q st = aopsW P digits_1o st (KS.reg [2] (KQ.seq P E .ret Q))) ∧
  (vcW P E digits_0 Q st = aopsW P digits_0o st (KS.reg [0] (KQ.seq P E digits_1 Q))) ∧
  (vcW P E digits Q st = vcW P E digits_0 Q st) :=
  ⟨rfl, rfl, rfl⟩
theorem digits_jn (P : Program) (E : Env) (Q : KQ) (st : St) :
  (True) :=
  trivial
attribute [go_sem] digits_vc digits_1o digits_0o
noncomputable def digitsB : Code := (Tryd.f40.body).getD .skip
theorem digits_eq : trCode Tryd.prog 10 2000 digitsB = digits.erase 2000 := by kernel_rfl
theorem digits_body : Tryd.f40.body = some digitsB := by kernel_rfl
theorem digits_n : Tryd.f40.ntmps = 10 := by kernel_rfl
theorem digits_r : Tryd.f40.results.toList.map (trRes Tryd.prog) = [.tmp 2] := by kernel_rfl
theorem digits_spec {h : HP} {a0 : AV} {Post : HP → AV → List AV → Prop} (hp : ∀ (E : Env) (R : HP → AV → List AV → Prop), E.N ≤ 1000000 → PostTo Post R → vcW Tryd.prog E digits (KQ.post [.tmp 2] 1 R) ⟨[(0, a0)], h⟩) : Eng.Spec Tryd.prog 40 h [a0] Post := spec_wk (
  spec_of (c := digits.erase 2000) (B := 2000) Tryd.func40 digits_body (by rw [digits_n, digits_eq]) (by rw [digits_n]; decide) (by rw [digits_n]; exact (by decide : 1 ≤ 10)) (fun E hE hB hrd => by
    have hN : E.N ≤ 1000000 := by
      rw [hE, digits_n]; decide
    rw [digits_r, ← hB]
    exact awp_slots [(0, a0)] ⟨rfl, trivial⟩ (vcW_sound hN _ (hp E _ hN fin_self))))
/- cartulary/semver.words -/
def words_2o : List ROp := [.effN false 3000 (.st 1 (.t 4) (.c (.bool true)))]
def words_2 : AK := .seq (.reg words_2o [4]) .ret
def words_11o : List ROp := [.v 64 (.bin .add (.t 33) (.c (.int .i64 1))),
   .v 33 (.mov (.t 64))]
def words_11 : AK := .reg words_11o [4, 31, 32, 33, 3000003, 3000004]
def words_16o : List ROp := [.effN false 3000 (.st 1 (.t 4) (.c (.bool false)))]
def words_16 : AK := .seq (.reg words_16o [3000003, 3000004]) .ret
def words_15 : AK := .cond (.t 63) words_16 .skip
def words_14o : List ROp := [.v 37 (.mov (.t 7)),
   .v 38 (.bin .geq (.t 37) (.c (.int .u8 48))),
   .v 39 (.mov (.t 38)),
   .gval 40 39 true false 3040 (.mov (.t 7)),
   .gval 41 39 true false 3041 (.bin .leq (.t 40) (.c (.int .u8 57))),
   .v 42 (.pick (.t 39) (.t 41) (.c (.bool false))),
   .v 43 (.mov (.t 42)),
   .gval 44 43 false false 3044 (.mov (.t 7)),
   .gval 45 43 false false 3045 (.bin .geq (.t 44) (.c (.int .u8 97))),
   .gval 46 43 false false 3046 (.mov (.t 45)),
   .gval 47 46 true false 3047 (.mov (.t 7)),
   .gval 48 46 true false 3048 (.bin .leq (.t 47) (.c (.int .u8 122))),
   .gval 49 43 false false 3049 (.pick (.t 46) (.t 48) (.c (.bool false))),
   .v 50 (.pick (.t 43) (.c (.bool true)) (.t 49)),
   .v 51 (.mov (.t 50)),
   .gval 52 51 false false 3052 (.mov (.t 7)),
   .gval 53 51 false false 3053 (.bin .geq (.t 52) (.c (.int .u8 65))),
   .gval 54 51 false false 3054 (.mov (.t 53)),
   .gval 55 54 true false 3055 (.mov (.t 7)),
   .gval 56 54 true false 3056 (.bin .leq (.t 55) (.c (.int .u8 90))),
   .gval 57 51 false false 3057 (.pick (.t 54) (.t 56) (.c (.bool false))),
   .v 58 (.pick (.t 51) (.c (.bool true)) (.t 57)),
   .v 59 (.mov (.t 58)),
   .gval 60 59 false false 3060 (.mov (.t 7)),
   .gval 61 59 false false 3061 (.bin .eql (.t 60) (.c (.int .u8 45))),
   .v 62 (.pick (.t 59) (.c (.bool true)) (.t 61)),
   .v 63 (.un .not (.t 62))]
def words_14 : AK := .seq (.reg words_14o [4, 31, 32, 33, 63, 3000003, 3000004]) words_15
def words_13o : List ROp := [.v 35 (.idxA 1 (.t 31) (.t 33)),
   .v 36 (.ld false 1 (.t 35)),
   .v 7 (.mov (.t 36))]
def words_13 : AK := .seq (.reg words_13o [4, 7, 31, 32, 33, 3000003, 3000004]) words_14
def words_12 : AK := .block 3 words_13
def words_10 : AK := .seq words_12 words_11
def words_17 : AK := .cond (.t 34) .skip (.exit 2)
def words_9 : AK := .seq words_17 words_10
def words_8o : List ROp := [.v 34 (.bin .lss (.t 33) (.t 32))]
def words_8 : AK := .seq (.reg words_8o [4, 31, 32, 33, 34, 3000003, 3000004]) words_9
def words_L0 : AK := .loop words_8
def words_7 : AK := .block 2 words_L0
def words_6o : List ROp := [.v 30 (.mov (.t 5)),
   .eff 31 false 3031 (.stb (.t 30)),
   .v 32 (.len false (.t 31)),
   .v 33 (.mov (.c (.int .i64 0)))]
def words_6 : AK := .seq (.reg words_6o [4, 31, 32, 33, 3000003, 3000004]) words_7
def words_20o : List ROp := [.effN false 3000 (.st 1 (.t 4) (.c (.bool false)))]
def words_20 : AK := .seq (.reg words_20o [3000003, 3000004]) .ret
def words_19 : AK := .cond (.t 29) words_20 .skip
def words_18o : List ROp := [.v 11 (.mov (.t 5)),
   .v 12 (.bin .eql (.t 11) (.c (.str []))),
   .v 13 (.mov (.t 12)),
   .gval 14 13 false false 3014 (.ld false 1 (.t 3)),
   .gval 15 13 false false 3015 (.mov (.t 14)),
   .gval 16 15 true false 3016 (.mov (.t 5)),
   .gcal 17 15 true false 3017 40 [(.t 16)],
   .gval 18 13 false false 3018 (.pick (.t 15) (.t 17) (.c (.bool false))),
   .gval 19 13 false false 3019 (.mov (.t 18)),
   .gval 20 19 true false 3020 (.mov (.t 5)),
   .gval 21 19 true false 3021 (.len true (.t 20)),
   .gval 22 19 true false 3022 (.bin .gtr (.t 21) (.c (.int .i64 1))),
   .gval 23 13 false false 3023 (.pick (.t 19) (.t 22) (.c (.bool false))),
   .gval 24 13 false false 3024 (.mov (.t 23)),
   .gval 25 24 true false 3025 (.mov (.t 5)),
   .gval 26 24 true false 3026 (.sidx (.t 25) (.c (.int .i64 0))),
   .gval 27 24 true false 3027 (.bin .eql (.t 26) (.c (.int .u8 48))),
   .gval 28 13 false false 3028 (.pick (.t 24) (.t 27) (.c (.bool false))),
   .v 29 (.pick (.t 13) (.c (.bool true)) (.t 28))]
def words_18 : AK := .seq (.reg words_18o [4, 5, 29, 3000003, 3000004]) words_19
def words_5 : AK := .seq words_18 words_6
def words_4 : AK := .block 1 words_5
/- kept through the loop: [3, 4] -/
def words_3o : List ROp := [.v 8 (.mov (.t 0))]
def words_3 : AK := .split words_3o 9 43 (.t 8) 46 0 10 5 words_4
def words_1 : AK := .seq words_3 words_2
def words_0o : List ROp := [.eff 3 false 3003 (.box 1 (.t 1)),
   .eff 4 false 3004 (.alloc [.bool false])]
def words_0 : AK := .seq (.reg words_0o [0, 3, 4]) words_1
def words : AK := words_0
theorem words_vc (P : Program) (E : Env) (Q : KQ) (st : St) :
  (vcW P E words_2 Q st = aopsW P words_2o st (KS.reg [4] (KQ.seq P E .ret Q))) ∧
  (vcW P E words_11 Q st = aopsW P words_11o st (KS.reg [4, 31, 32, 33, 3000003, 3000004] Q)) ∧
  (vcW P E words_16 Q st = aopsW P words_16o st (KS.reg [3000003, 3000004] (KQ.seq P E .ret Q))) ∧
  (vcW P E words_15 Q st = cndW P E (ev st (.t 63)) words_16 .skip Q st) ∧
  (vcW P E words_14 Q st = aopsW P words_14o st (KS.reg [4, 31, 32, 33, 63, 3000003, 3000004] (KQ.seq P E words_15 Q))) ∧
  (vcW P E words_13 Q st = aopsW P words_13o st (KS.reg [4, 7, 31, 32, 33, 3000003, 3000004] (KQ.seq P E words_14 Q))) ∧
  (vcW P E words_12 Q st = vcW P E words_13 (KQ.blk 3 Q) st) ∧
  (vcW P E words_10 Q st = vcW P E words_12 (KQ.seq P E words_11 Q) st) ∧
  (vcW P E words_17 Q st = cndW P E (ev st (.t 34)) .skip (.exit 2) Q st) ∧
  (vcW P E words_9 Q st = vcW P E words_17 (KQ.seq P E words_10 Q) st) ∧
  (vcW P E words_8 Q st = aopsW P words_8o st (KS.reg [4, 31, 32, 33, 34, 3000003, 3000004] (KQ.seq P E words_9 Q))) ∧
  (vcW P E words_7 Q st = vcW P E words_L0 (KQ.blk 2 Q) st) ∧
  (vcW P E words_6 Q st = aopsW P words_6o st (KS.reg [4, 31, 32, 33, 3000003, 3000004] (KQ.seq P E words_7 Q))) ∧
  (vcW P E words_20 Q st = aopsW P words_20o st (KS.reg [3000003, 3000004] (KQ.seq P E .ret Q))) ∧
  (vcW P E words_19 Q st = cndW P E (ev st (.t 29)) words_20 .skip Q st) ∧
  (vcW P E words_18 Q st = aopsW P words_18o st (KS.reg [4, 5, 29, 3000003, 3000004] (KQ.seq P E words_19 Q))) ∧
  (vcW P E words_5 Q st = vcW P E words_18 (KQ.seq P E words_6 Q) st) ∧
  (vcW P E words_4 Q st = vcW P E words_5 (KQ.blk 1 Q) st) ∧
  (vcW P E words_3 Q st = aopsW P words_3o st (KS.spl P E 9 43 (.t 8) 46 0 10 5 words_4 Q)) ∧
  (vcW P E words_1 Q st = vcW P E words_3 (KQ.seq P E words_2 Q) st) ∧
  (vcW P E words_0 Q st = aopsW P words_0o st (KS.reg [0, 3, 4] (KQ.seq P E words_1 Q))) ∧
  (vcW P E words Q st = vcW P E words_0 Q st) :=
  ⟨rfl, rfl, rfl, vcW_cond, rfl, rfl, rfl, rfl, vcW_cond, rfl, rfl, rfl, rfl, rfl, vcW_cond, rfl, rfl, rfl, rfl, rfl, rfl, rfl⟩
theorem words_jn (P : Program) (E : Env) (Q : KQ) (st : St) :
  (True) :=
  trivial
attribute [go_sem] words_vc words_2o words_11o words_16o words_14o words_13o words_8o words_6o words_20o words_18o words_3o words_0o
noncomputable def wordsB : Code := (Tryd.f28.body).getD .skip
theorem words_eq : trCode Tryd.prog 65 3000 wordsB = words.erase 3000 := by kernel_rfl
theorem words_body : Tryd.f28.body = some wordsB := by kernel_rfl
theorem words_n : Tryd.f28.ntmps = 65 := by kernel_rfl
theorem words_r : Tryd.f28.results.toList.map (trRes Tryd.prog) = [.cell 4 false 1] := by kernel_rfl
theorem words_spec {h : HP} {a0 a1 : AV} {Post : HP → AV → List AV → Prop} (hp : ∀ (E : Env) (R : HP → AV → List AV → Prop), E.N ≤ 1000000 → E.rd = none → PostTo Post R → vcW Tryd.prog E words (KQ.post [.cell 4 false 1] 2 R) ⟨[(0, a0), (1, a1)], h⟩) : Eng.Spec Tryd.prog 28 h [a0, a1] Post := spec_wk (
  spec_of (c := words.erase 3000) (B := 3000) Tryd.func28 words_body (by rw [words_n, words_eq]) (by rw [words_n]; decide) (by rw [words_n]; exact (by decide : 2 ≤ 65)) (fun E hE hB hrd => by
    have hN : E.N ≤ 1000000 := by
      rw [hE, words_n]; decide
    rw [words_r, ← hB]
    exact awp_slots [(0, a0), (1, a1)] ⟨rfl, rfl, trivial⟩ (vcW_sound hN _ (hp E _ hN hrd fin_self))))
/- cartulary/semver.Parse -/
def parse_16o : List ROp := [.v 96 (.bld [.str [], .str [], .str [], .str [], .str [], .int .i64 0] []),
   .effN false 4000 (.st 6 (.t 2) (.t 96)),
   .v 3 (.mov (.c (.bool false)))]
def parse_16 : AK := .seq (.reg parse_16o [2, 3]) .ret
def parse_15 : AK := .seq (.label 0) parse_16
def parse_20o : List ROp := [.v 95 (.ld true 6 (.t 4)),
   .effN false 4000 (.st 6 (.t 2) (.t 95)),
   .v 3 (.mov (.c (.bool true)))]
def parse_20 : AK := .seq (.reg parse_20o [2, 3]) .ret
def parse_19 : AK := .cond (.t 94) parse_20 .skip
def parse_18o : List ROp := [.v 89 (.mov (.t 5)),
   .v 90 (.mov (.t 89)),
   .gval 91 90 true false 4091 (.fldA false 3 1 (.t 4)),
   .gval 92 90 true false 4092 (.ld false 1 (.t 91)),
   .gcal 93 90 true false 4093 28 [(.t 92), (.c (.bool true))],
   .v 94 (.pick (.t 90) (.t 93) (.c (.bool false)))]
def parse_18 : AK := .seq (.reg parse_18o [2, 4, 94]) parse_19
def parse_17o : List ROp := [.v 84 (.mov (.t 6)),
   .cal (some 85) false 4085 25 [(.t 84), (.c (.str [45]))],
   .v 83 (.mov (.t 85)),
   .v 86 (.ext (.t 83) 0),
   .v 87 (.ext (.t 83) 1),
   .v 88 (.fldA false 3 1 (.t 4)),
   .effN false 4000 (.st 1 (.t 88) (.t 86)),
   .v 5 (.mov (.t 87))]
def parse_17 : AK := .seq (.reg parse_17o [2, 4, 5]) parse_18
def parse_14 : AK := .seq parse_17 parse_15
def parse_23o : List ROp := [.v 82 (.ld true 6 (.t 4)),
   .effN false 4000 (.st 6 (.t 2) (.t 82)),
   .v 3 (.mov (.c (.bool true)))]
def parse_23 : AK := .seq (.reg parse_23o [2, 3]) .ret
def parse_22 : AK := .cond (.t 81) parse_23 .skip
def parse_21o : List ROp := [.v 80 (.mov (.t 6)),
   .v 81 (.bin .eql (.t 80) (.c (.str [])))]
def parse_21 : AK := .seq (.reg parse_21o [2, 4, 6, 81]) parse_22
def parse_13 : AK := .seq parse_21 parse_14
def parse_26 : AK := .cond (.t 79) (.goto 0) .skip
def parse_25o : List ROp := [.v 73 (.mov (.t 5)),
   .v 74 (.mov (.t 73)),
   .gval 75 74 true false 4075 (.fldA false 4 1 (.t 4)),
   .gval 76 74 true false 4076 (.ld false 1 (.t 75)),
   .gcal 77 74 true false 4077 28 [(.t 76), (.c (.bool false))],
   .gval 78 74 true false 4078 (.un .not (.t 77)),
   .v 79 (.pick (.t 74) (.t 78) (.c (.bool false)))]
def parse_25 : AK := .seq (.reg parse_25o [2, 4, 6, 79]) parse_26
def parse_24o : List ROp := [.v 67 (.mov (.t 6)),
   .cal (some 68) false 4068 27 [(.t 67), (.c (.str [43]))],
   .v 66 (.mov (.t 68)),
   .v 69 (.ext (.t 66) 0),
   .v 70 (.ext (.t 66) 1),
   .v 71 (.ext (.t 66) 2),
   .v 6 (.mov (.t 69)),
   .v 72 (.fldA false 4 1 (.t 4)),
   .effN false 4000 (.st 1 (.t 72) (.t 70)),
   .v 5 (.mov (.t 71))]
def parse_24 : AK := .seq (.reg parse_24o [2, 4, 5, 6]) parse_25
def parse_12 : AK := .seq parse_24 parse_13
def parse_29 : AK := .cond (.t 65) (.goto 0) .skip
def parse_28o : List ROp := [.v 64 (.mov (.t 5)),
   .v 65 (.un .not (.t 64))]
def parse_28 : AK := .seq (.reg parse_28o [2, 4, 6, 65]) parse_29
def parse_27o : List ROp := [.v 57 (.mov (.t 6)),
   .v 58 (.slcS (.t 57) (some (.c (.int .i64 1))) none),
   .cal (some 59) false 4059 26 [(.t 58)],
   .v 56 (.mov (.t 59)),
   .v 60 (.ext (.t 56) 0),
   .v 61 (.ext (.t 56) 1),
   .v 62 (.ext (.t 56) 2),
   .v 63 (.fldA false 2 1 (.t 4)),
   .effN false 4000 (.st 1 (.t 63) (.t 60)),
   .v 6 (.mov (.t 61)),
   .v 5 (.mov (.t 62))]
def parse_27 : AK := .seq (.reg parse_27o [2, 4, 5, 6]) parse_28
def parse_11 : AK := .seq parse_27 parse_12
def parse_31 : AK := .cond (.t 55) (.goto 0) .skip
def parse_30o : List ROp := [.v 53 (.mov (.t 6)),
   .v 54 (.sidx (.t 53) (.c (.int .i64 0))),
   .v 55 (.bin .neq (.t 54) (.c (.int .u8 46)))]
def parse_30 : AK := .seq (.reg parse_30o [2, 4, 6, 55]) parse_31
def parse_10 : AK := .seq parse_30 parse_11
def parse_35o : List ROp := [.v 52 (.ld true 6 (.t 4)),
   .effN false 4000 (.st 6 (.t 2) (.t 52)),
   .v 3 (.mov (.c (.bool true)))]
def parse_35 : AK := .seq (.reg parse_35o [2, 3]) .ret
def parse_34o : List ROp := [.v 50 (.fldA false 2 1 (.t 4)),
   .effN false 4000 (.st 1 (.t 50) (.c (.str [48]))),
   .v 51 (.fldA false 5 1 (.t 4)),
   .effN false 4000 (.st 1 (.t 51) (.c (.int .i64 1)))]
def parse_34 : AK := .seq (.reg parse_34o [2, 4]) parse_35
def parse_33 : AK := .cond (.t 49) parse_34 .skip
def parse_32o : List ROp := [.v 48 (.mov (.t 6)),
   .v 49 (.bin .eql (.t 48) (.c (.str [])))]
def parse_32 : AK := .seq (.reg parse_32o [2, 4, 6, 49]) parse_33
def parse_9 : AK := .seq parse_32 parse_10
def parse_38 : AK := .cond (.t 47) (.goto 0) .skip
def parse_37o : List ROp := [.v 46 (.mov (.t 5)),
   .v 47 (.un .not (.t 46))]
def parse_37 : AK := .seq (.reg parse_37o [2, 4, 6, 47]) parse_38
def parse_36o : List ROp := [.v 39 (.mov (.t 6)),
   .v 40 (.slcS (.t 39) (some (.c (.int .i64 1))) none),
   .cal (some 41) false 4041 26 [(.t 40)],
   .v 38 (.mov (.t 41)),
   .v 42 (.ext (.t 38) 0),
   .v 43 (.ext (.t 38) 1),
   .v 44 (.ext (.t 38) 2),
   .v 45 (.fldA false 1 1 (.t 4)),
   .effN false 4000 (.st 1 (.t 45) (.t 42)),
   .v 6 (.mov (.t 43)),
   .v 5 (.mov (.t 44))]
def parse_36 : AK := .seq (.reg parse_36o [2, 4, 5, 6]) parse_37
def parse_8 : AK := .seq parse_36 parse_9
def parse_40 : AK := .cond (.t 37) (.goto 0) .skip
def parse_39o : List ROp := [.v 35 (.mov (.t 6)),
   .v 36 (.sidx (.t 35) (.c (.int .i64 0))),
   .v 37 (.bin .neq (.t 36) (.c (.int .u8 46)))]
def parse_39 : AK := .seq (.reg parse_39o [2, 4, 6, 37]) parse_40
def parse_7 : AK := .seq parse_39 parse_8
def parse_44o : List ROp := [.v 34 (.ld true 6 (.t 4)),
   .effN false 4000 (.st 6 (.t 2) (.t 34)),
   .v 3 (.mov (.c (.bool true)))]
def parse_44 : AK := .seq (.reg parse_44o [2, 3]) .ret
def parse_43o : List ROp := [.v 31 (.fldA false 1 1 (.t 4)),
   .effN false 4000 (.st 1 (.t 31) (.c (.str [48]))),
   .v 32 (.fldA false 2 1 (.t 4)),
   .effN false 4000 (.st 1 (.t 32) (.c (.str [48]))),
   .v 33 (.fldA false 5 1 (.t 4)),
   .effN false 4000 (.st 1 (.t 33) (.c (.int .i64 2)))]
def parse_43 : AK := .seq (.reg parse_43o [2, 4]) parse_44
def parse_42 : AK := .cond (.t 30) parse_43 .skip
def parse_41o : List ROp := [.v 29 (.mov (.t 6)),
   .v 30 (.bin .eql (.t 29) (.c (.str [])))]
def parse_41 : AK := .seq (.reg parse_41o [2, 4, 6, 30]) parse_42
def parse_6 : AK := .seq parse_41 parse_7
def parse_47 : AK := .cond (.t 28) (.goto 0) .skip
def parse_46o : List ROp := [.v 27 (.mov (.t 5)),
   .v 28 (.un .not (.t 27))]
def parse_46 : AK := .seq (.reg parse_46o [2, 4, 6, 28]) parse_47
def parse_45o : List ROp := [.v 21 (.mov (.t 6)),
   .cal (some 22) false 4022 26 [(.t 21)],
   .v 20 (.mov (.t 22)),
   .v 23 (.ext (.t 20) 0),
   .v 24 (.ext (.t 20) 1),
   .v 25 (.ext (.t 20) 2),
   .v 26 (.fldA false 0 1 (.t 4)),
   .effN false 4000 (.st 1 (.t 26) (.t 23)),
   .v 6 (.mov (.t 24)),
   .v 5 (.mov (.t 25))]
def parse_45 : AK := .seq (.reg parse_45o [2, 4, 5, 6]) parse_46
def parse_5 : AK := .seq parse_45 parse_6
def parse_49 : AK := .cond (.t 19) (.goto 0) .skip
def parse_48o : List ROp := [.v 13 (.mov (.t 7)),
   .v 14 (.un .not (.t 13)),
   .v 15 (.mov (.t 14)),
   .gval 16 15 false false 4016 (.mov (.t 0)),
   .gval 17 15 false false 4017 (.len true (.t 16)),
   .gval 18 15 false false 4018 (.bin .gtr (.t 17) (.c (.int .i64 100))),
   .v 19 (.pick (.t 15) (.c (.bool true)) (.t 18))]
def parse_48 : AK := .seq (.reg parse_48o [2, 4, 6, 19]) parse_49
def parse_4 : AK := .seq parse_48 parse_5
def parse_3o : List ROp := [.v 9 (.mov (.t 0)),
   .cal (some 10) false 4010 25 [(.t 9), (.c (.str [118]))],
   .v 8 (.mov (.t 10)),
   .v 11 (.ext (.t 8) 0),
   .v 12 (.ext (.t 8) 1),
   .v 6 (.mov (.t 11)),
   .v 7 (.mov (.t 12))]
def parse_3 : AK := .seq (.reg parse_3o [0, 2, 4, 6, 7]) parse_4
def parse_2o : List ROp := [.v 5 (.mov (.c (.bool false)))]
def parse_2 : AK := .seq (.reg parse_2o [0, 2, 4]) parse_3
def parse_1o : List ROp := [.eff 4 false 4004 (.alloc [.str [], .str [], .str [], .str [], .str [], .int .i64 0])]
def parse_1 : AK := .seq (.reg parse_1o [0, 2, 4]) parse_2
def parse_S : AK := .scope parse_1
def parse_0o : List ROp := [.eff 2 false 4002 (.alloc [.str [], .str [], .str [], .str [], .str [], .int .i64 0]),
   .v 3 (.mov (.c (.bool false)))]
def parse_0 : AK := .seq (.reg parse_0o [0, 2]) parse_S
def parse : AK := parse_0
theorem parse_vc (P : Program) (E : Env) (Q : KQ) (st : St) :
  (vcW P E parse_16 Q st = aopsW P parse_16o st (KS.reg [2, 3] (KQ.seq P E .ret Q))) ∧
  (vcW P E parse_15 Q st = vcW P E (.label 0) (KQ.seq P E parse_16 Q) st) ∧
  (vcW P E parse_20 Q st = aopsW P parse_20o st (KS.reg [2, 3] (KQ.seq P E .ret Q))) ∧
  (vcW P E parse_19 Q st = cndW P E (ev st (.t 94)) parse_20 .skip Q st) ∧
  (vcW P E parse_18 Q st = aopsW P parse_18o st (KS.reg [2, 4, 94] (KQ.seq P E parse_19 Q))) ∧
  (vcW P E parse_17 Q st = aopsW P parse_17o st (KS.reg [2, 4, 5] (KQ.seq P E parse_18 Q))) ∧
  (vcW P E parse_14 Q st = vcW P E parse_17 (KQ.seq P E parse_15 Q) st) ∧
  (vcW P E parse_23 Q st = aopsW P parse_23o st (KS.reg [2, 3] (KQ.seq P E .ret Q))) ∧
  (vcW P E parse_22 Q st = cndW P E (ev st (.t 81)) parse_23 .skip Q st) ∧
  (vcW P E parse_21 Q st = aopsW P parse_21o st (KS.reg [2, 4, 6, 81] (KQ.seq P E parse_22 Q))) ∧
  (vcW P E parse_13 Q st = vcW P E parse_21 (KQ.seq P E parse_14 Q) st) ∧
  (vcW P E parse_26 Q st = cndW P E (ev st (.t 79)) (.goto 0) .skip Q st) ∧
  (vcW P E parse_25 Q st = aopsW P parse_25o st (KS.reg [2, 4, 6, 79] (KQ.seq P E parse_26 Q))) ∧
  (vcW P E parse_24 Q st = aopsW P parse_24o st (KS.reg [2, 4, 5, 6] (KQ.seq P E parse_25 Q))) ∧
  (vcW P E parse_12 Q st = vcW P E parse_24 (KQ.seq P E parse_13 Q) st) ∧
  (vcW P E parse_29 Q st = cndW P E (ev st (.t 65)) (.goto 0) .skip Q st) ∧
  (vcW P E parse_28 Q st = aopsW P parse_28o st (KS.reg [2, 4, 6, 65] (KQ.seq P E parse_29 Q))) ∧
  (vcW P E parse_27 Q st = aopsW P parse_27o st (KS.reg [2, 4, 5, 6] (KQ.seq P E parse_28 Q))) ∧
  (vcW P E parse_11 Q st = vcW P E parse_27 (KQ.seq P E parse_12 Q) st) ∧
  (vcW P E parse_31 Q st = cndW P E (ev st (.t 55)) (.goto 0) .skip Q st) ∧
  (vcW P E parse_30 Q st = aopsW P parse_30o st (KS.reg [2, 4, 6, 55] (KQ.seq P E parse_31 Q))) ∧
  (vcW P E parse_10 Q st = vcW P E parse_30 (KQ.seq P E parse_11 Q) st) ∧
  (vcW P E parse_35 Q st = aopsW P parse_35o st (KS.reg [2, 3] (KQ.seq P E .ret Q))) ∧
  (vcW P E parse_34 Q st = aopsW P parse_34o st (KS.reg [2, 4] (KQ.seq P E parse_35 Q))) ∧
  (vcW P E parse_33 Q st = cndW P E (ev st (.t 49)) parse_34 .skip Q st) ∧
  (vcW P E parse_32 Q st = aopsW P parse_32o st (KS.reg [2, 4, 6, 49] (KQ.seq P E parse_33 Q))) ∧
  (vcW P E parse_9 Q st = vcW P E parse_32 (KQ.seq P E parse_10 Q) st) ∧
  (vcW P E parse_38 Q st = cndW P E (ev st (.t 47)) (.goto 0) .skip Q st) ∧
  (vcW P E parse_37 Q st = aopsW P parse_37o st (KS.reg [2, 4, 6, 47] (KQ.seq P E parse_38 Q))) ∧
  (vcW P E parse_36 Q st = aopsW P parse_36o st (KS.reg [2, 4, 5, 6] (KQ.seq P E parse_37 Q))) ∧
  (vcW P E parse_8 Q st = vcW P E parse_36 (KQ.seq P E parse_9 Q) st) ∧
  (vcW P E parse_40 Q st = cndW P E (ev st (.t 37)) (.goto 0) .skip Q st) ∧
  (vcW P E parse_39 Q st = aopsW P parse_39o st (KS.reg [2, 4, 6, 37] (KQ.seq P E parse_40 Q))) ∧
  (vcW P E parse_7 Q st = vcW P E parse_39 (KQ.seq P E parse_8 Q) st) ∧
  (vcW P E parse_44 Q st = aopsW P parse_44o st (KS.reg [2, 3] (KQ.seq P E .ret Q))) ∧
  (vcW P E parse_43 Q st = aopsW P parse_43o st (KS.reg [2, 4] (KQ.seq P E parse_44 Q))) ∧
  (vcW P E parse_42 Q st = cndW P E (ev st (.t 30)) parse_43 .skip Q st) ∧
  (vcW P E parse_41 Q st = aopsW P parse_41o st (KS.reg [2, 4, 6, 30] (KQ.seq P E parse_42 Q))) ∧
  (vcW P E parse_6 Q st = vcW P E parse_41 (KQ.seq P E parse_7 Q) st) ∧
  (vcW P E parse_47 Q st = cndW P E (ev st (.t 28)) (.goto 0) .skip Q st) ∧
  (vcW P E parse_46 Q st = aopsW P parse_46o st (KS.reg [2, 4, 6, 28] (KQ.seq P E parse_47 Q))) ∧
  (vcW P E parse_45 Q st = aopsW P parse_45o st (KS.reg [2, 4, 5, 6] (KQ.seq P E parse_46 Q))) ∧
  (vcW P E parse_5 Q st = vcW P E parse_45 (KQ.seq P E parse_6 Q) st) ∧
  (vcW P E parse_49 Q st = cndW P E (ev st (.t 19)) (.goto 0) .skip Q st) ∧
  (vcW P E parse_48 Q st = aopsW P parse_48o st (KS.reg [2, 4, 6, 19] (KQ.seq P E parse_49 Q))) ∧
  (vcW P E parse_4 Q st = vcW P E parse_48 (KQ.seq P E parse_5 Q) st) ∧
  (vcW P E parse_3 Q st = aopsW P parse_3o st (KS.reg [0, 2, 4, 6, 7] (KQ.seq P E parse_4 Q))) ∧
  (vcW P E parse_2 Q st = aopsW P parse_2o st (KS.reg [0, 2, 4] (KQ.seq P E parse_3 Q))) ∧
  (vcW P E parse_1 Q st = aopsW P parse_1o st (KS.reg [0, 2, 4] (KQ.seq P E parse_2 Q))) ∧
  (vcW P E parse_0 Q st = aopsW P parse_0o st (KS.reg [0, 2] (KQ.seq P E parse_S Q))) ∧
  (vcW P E parse Q st = vcW P E parse_0 Q st) :=
  ⟨rfl, rfl, rfl, vcW_cond, rfl, rfl, rfl, rfl, vcW_cond, rfl, rfl, vcW_cond, rfl, rfl, rfl, vcW_cond, rfl, rfl, rfl, vcW_cond, rfl, rfl, rfl, rfl, vcW_cond, rfl, rfl, vcW_cond, rfl, rfl, rfl, vcW_cond, rfl, rfl, rfl, rfl, vcW_cond, rfl, rfl, vcW_cond, rfl, rfl, rfl, vcW_cond, rfl, rfl, rfl, rfl, rfl, rfl, rfl⟩
theorem parse_jn (P : Program) (E : Env) (Q : KQ) (st : St) :
  (True) :=
  trivial
attribute [go_sem] parse_vc parse_16o parse_20o parse_18o parse_17o parse_23o parse_21o parse_25o parse_24o parse_28o parse_27o parse_30o parse_35o parse_34o parse_32o parse_37o parse_36o parse_39o parse_44o parse_43o parse_41o parse_46o parse_45o parse_48o parse_3o parse_2o parse_1o parse_0o
noncomputable def parseB : Code := (Tryd.f13.body).getD .skip
theorem parse_eq : trCode Tryd.prog 97 4000 parseB = parse.erase 4000 := by kernel_rfl
theorem parse_body : Tryd.f13.body = some parseB := by kernel_rfl
theorem parse_n : Tryd.f13.ntmps = 97 := by kernel_rfl
theorem parse_r : Tryd.f13.results.toList.map (trRes Tryd.prog) = [.cell 2 true 6, .tmp 3] := by kernel_rfl
theorem parse_spec {h : HP} {a0 : AV} {Post : HP → AV → List AV → Prop} (hp : ∀ (E : Env) (R : HP → AV → List AV → Prop), E.N ≤ 1000000 → PostTo Post R → vcW Tryd.prog E parse (KQ.post [.cell 2 true 6, .tmp 3] 1 R) ⟨[(0, a0)], h⟩) : Eng.Spec Tryd.prog 13 h [a0] Post := spec_wk (
  spec_of (c := parse.erase 4000) (B := 4000) Tryd.func13 parse_body (by rw [parse_n, parse_eq]) (by rw [parse_n]; decide) (by rw [parse_n]; exact (by decide : 1 ≤ 97)) (fun E hE hB hrd => by
    have hN : E.N ≤ 1000000 := by
      rw [hE, parse_n]; decide
    rw [parse_r, ← hB]
    exact awp_slots [(0, a0)] ⟨rfl, trivial⟩ (vcW_sound hN _ (hp E _ hN fin_self))))
/- cartulary/semver.Canonical -/
def canonical_5o : List ROp := [.v 32 (.mov (.t 5)),
   .v 2 (.mov (.t 32))]
def canonical_5 : AK := .seq (.reg canonical_5o [2]) .ret
def canonical_8o : List ROp := [.v 27 (.mov (.t 5)),
   .v 28 (.fldA false 3 1 (.t 3)),
   .v 29 (.ld false 1 (.t 28)),
   .v 30 (.bin .add (.c (.str [45])) (.t 29)),
   .v 31 (.bin .add (.t 27) (.t 30)),
   .v 5 (.mov (.t 31))]
def canonical_8 : AK := .reg canonical_8o [5]
def canonical_7 : AK := .cond (.t 26) canonical_8 .skip
def canonical_6o : List ROp := [.v 24 (.fldA false 3 1 (.t 3)),
   .v 25 (.ld false 1 (.t 24)),
   .v 26 (.bin .neq (.t 25) (.c (.str [])))]
def canonical_6 : AK := .seq (.reg canonical_6o [3, 5, 26]) canonical_7
def canonical_4 : AK := .seq canonical_6 canonical_5
def canonical_3o : List ROp := [.v 13 (.fldA false 0 1 (.t 3)),
   .v 14 (.ld false 1 (.t 13)),
   .v 15 (.bin .add (.c (.str [118])) (.t 14)),
   .v 16 (.bin .add (.t 15) (.c (.str [46]))),
   .v 17 (.fldA false 1 1 (.t 3)),
   .v 18 (.ld false 1 (.t 17)),
   .v 19 (.bin .add (.t 16) (.t 18)),
   .v 20 (.bin .add (.t 19) (.c (.str [46]))),
   .v 21 (.fldA false 2 1 (.t 3)),
   .v 22 (.ld false 1 (.t 21)),
   .v 23 (.bin .add (.t 20) (.t 22)),
   .v 5 (.mov (.t 23))]
def canonical_3 : AK := .seq (.reg canonical_3o [3, 5]) canonical_4
def canonical_11o : List ROp := [.v 2 (.mov (.c (.str [])))]
def canonical_11 : AK := .seq (.reg canonical_11o [2]) .ret
def canonical_10 : AK := .cond (.t 12) canonical_11 .skip
def canonical_9o : List ROp := [.v 11 (.mov (.t 4)),
   .v 12 (.un .not (.t 11))]
def canonical_9 : AK := .seq (.reg canonical_9o [3, 12]) canonical_10
def canonical_2 : AK := .seq canonical_9 canonical_3
def canonical_1o : List ROp := [.v 7 (.mov (.t 0)),
   .cal (some 8) false 5008 13 [(.t 7)],
   .v 6 (.mov (.t 8)),
   .v 9 (.ext (.t 6) 0),
   .v 10 (.ext (.t 6) 1),
   .eff 3 false 5003 (.alloc [.str [], .str [], .str [], .str [], .str [], .int .i64 0]),
   .effN false 5000 (.st 6 (.t 3) (.t 9)),
   .v 4 (.mov (.t 10))]
def canonical_1 : AK := .seq (.reg canonical_1o [3, 4]) canonical_2
def canonical_0o : List ROp := [.v 2 (.mov (.c (.str [])))]
def canonical_0 : AK := .seq (.reg canonical_0o [0]) canonical_1
def canonical : AK := canonical_0
theorem canonical_vc (P : Program) (E : Env) (Q : KQ) (st : St) :
  (vcW P E canonical_5 Q st = aopsW P canonical_5o st (KS.reg [2] (KQ.seq P E .ret Q))) ∧
  (vcW P E canonical_8 Q st = aopsW P canonical_8o st (KS.reg [5] Q)) ∧
  (vcW P E canonical_7 Q st = cndW P E (ev st (.t 26)) canonical_8 .skip Q st) ∧
  (vcW P E canonical_6 Q st = aopsW P canonical_6o st (KS.reg [3, 5, 26] (KQ.seq P E canonical_7 Q))) ∧
  (vcW P E canonical_4 Q st = vcW P E canonical_6 (KQ.seq P E canonical_5 Q) st) ∧
  (vcW P E canonical_3 Q st = aopsW P canonical_3o st (KS.reg [3, 5] (KQ.seq P E canonical_4 Q))) ∧
  (vcW P E canonical_11 Q st = aopsW P canonical_11o st (KS.reg [2] (KQ.seq P E .ret Q))) ∧
  (vcW P E canonical_10 Q st = cndW P E (ev st (.t 12)) canonical_11 .skip Q st) ∧
  (vcW P E canonical_9 Q st = aopsW P canonical_9o st (KS.reg [3, 12] (KQ.seq P E canonical_10 Q))) ∧
  (vcW P E canonical_2 Q st = vcW P E canonical_9 (KQ.seq P E canonical_3 Q) st) ∧
  (vcW P E canonical_1 Q st = aopsW P canonical_1o st (KS.reg [3, 4] (KQ.seq P E canonical_2 Q))) ∧
  (vcW P E canonical_0 Q st = aopsW P canonical_0o st (KS.reg [0] (KQ.seq P E canonical_1 Q))) ∧
  (vcW P E canonical Q st = vcW P E canonical_0 Q st) :=
  ⟨rfl, rfl, vcW_cond, rfl, rfl, rfl, rfl, vcW_cond, rfl, rfl, rfl, rfl, rfl⟩
theorem canonical_jn (P : Program) (E : Env) (Q : KQ) (st : St) :
  (True) :=
  trivial
attribute [go_sem] canonical_vc canonical_5o canonical_8o canonical_6o canonical_3o canonical_11o canonical_9o canonical_1o canonical_0o
noncomputable def canonicalB : Code := (Tryd.f14.body).getD .skip
theorem canonical_eq : trCode Tryd.prog 33 5000 canonicalB = canonical.erase 5000 := by kernel_rfl
theorem canonical_body : Tryd.f14.body = some canonicalB := by kernel_rfl
theorem canonical_n : Tryd.f14.ntmps = 33 := by kernel_rfl
theorem canonical_r : Tryd.f14.results.toList.map (trRes Tryd.prog) = [.tmp 2] := by kernel_rfl
theorem canonical_spec {h : HP} {a0 : AV} {Post : HP → AV → List AV → Prop} (hp : ∀ (E : Env) (R : HP → AV → List AV → Prop), E.N ≤ 1000000 → PostTo Post R → vcW Tryd.prog E canonical (KQ.post [.tmp 2] 1 R) ⟨[(0, a0)], h⟩) : Eng.Spec Tryd.prog 14 h [a0] Post := spec_wk (
  spec_of (c := canonical.erase 5000) (B := 5000) Tryd.func14 canonical_body (by rw [canonical_n, canonical_eq]) (by rw [canonical_n]; decide) (by rw [canonical_n]; exact (by decide : 1 ≤ 33)) (fun E hE hB hrd => by
    have hN : E.N ≤ 1000000 := by
      rw [hE, canonical_n]; decide
    rw [canonical_r, ← hB]
    exact awp_slots [(0, a0)] ⟨rfl, trivial⟩ (vcW_sound hN _ (hp E _ hN fin_self))))
/- cartulary/semver.Major -/
def major_3o : List ROp := [.v 12 (.fldA false 0 1 (.t 3)),
   .v 13 (.ld false 1 (.t 12)),
   .v 14 (.bin .add (.c (.str [118])) (.t 13)),
   .v 2 (.mov (.t 14))]
def major_3 : AK := .seq (.reg major_3o [2]) .ret
def major_6o : List ROp := [.v 2 (.mov (.c (.str [])))]
def major_6 : AK := .seq (.reg major_6o [2]) .ret
def major_5 : AK := .cond (.t 11) major_6 .skip
def major_4o : List ROp := [.v 10 (.mov (.t 4)),
   .v 11 (.un .not (.t 10))]
def major_4 : AK := .seq (.reg major_4o [3, 11]) major_5
def major_2 : AK := .seq major_4 major_3
def major_1o : List ROp := [.v 6 (.mov (.t 0)),
   .cal (some 7) false 6007 13 [(.t 6)],
   .v 5 (.mov (.t 7)),
   .v 8 (.ext (.t 5) 0),
   .v 9 (.ext (.t 5) 1),
   .eff 3 false 6003 (.alloc [.str [], .str [], .str [], .str [], .str [], .int .i64 0]),
   .effN false 6000 (.st 6 (.t 3) (.t 8)),
   .v 4 (.mov (.t 9))]
def major_1 : AK := .seq (.reg major_1o [3, 4]) major_2
def major_0o : List ROp := [.v 2 (.mov (.c (.str [])))]
def major_0 : AK := .seq (.reg major_0o [0]) major_1
def major : AK := major_0
theorem major_vc (P : Program) (E : Env) (Q : KQ) (st : St) :
  (vcW P E major_3 Q st = aopsW P major_3o st (KS.reg [2] (KQ.seq P E .ret Q))) ∧
  (vcW P E major_6 Q st = aopsW P major_6o st (KS.reg [2] (KQ.seq P E .ret Q))) ∧
  (vcW P E major_5 Q st = cndW P E (ev st (.t 11)) major_6 .skip Q st) ∧
  (vcW P E major_4 Q st = aopsW P major_4o st (KS.reg [3, 11] (KQ.seq P E major_5 Q))) ∧
  (vcW P E major_2 Q st = vcW P E major_4 (KQ.seq P E major_3 Q) st) ∧
  (vcW P E major_1 Q st = aopsW P major_1o st (KS.reg [3, 4] (KQ.seq P E major_2 Q))) ∧
  (vcW P E major_0 Q st = aopsW P major_0o st (KS.reg [0] (KQ.seq P E major_1 Q))) ∧
  (vcW P E major Q st = vcW P E major_0 Q st) :=
  ⟨rfl, rfl, vcW_cond, rfl, rfl, rfl, rfl, rfl⟩
theorem major_jn (P : Program) (E : Env) (Q : KQ) (st : St) :
  (True) :=
  trivial
attribute [go_sem] major_vc major_3o major_6o major_4o major_1o major_0o
noncomputable def majorB : Code := (Tryd.f19.body).getD .skip
theorem major_eq : trCode Tryd.prog 15 6000 majorB = major.erase 6000 := by kernel_rfl
theorem major_body : Tryd.f19.body = some majorB := by kernel_rfl
theorem major_n : Tryd.f19.ntmps = 15 := by kernel_rfl
theorem major_r : Tryd.f19.results.toList.map (trRes Tryd.prog) = [.tmp 2] := by kernel_rfl
theorem major_spec {h : HP} {a0 : AV} {Post : HP → AV → List AV → Prop} (hp : ∀ (E : Env) (R : HP → AV → List AV → Prop), E.N ≤ 1000000 → PostTo Post R → vcW Tryd.prog E major (KQ.post [.tmp 2] 1 R) ⟨[(0, a0)], h⟩) : Eng.Spec Tryd.prog 19 h [a0] Post := spec_wk (
  spec_of (c := major.erase 6000) (B := 6000) Tryd.func19 major_body (by rw [major_n, major_eq]) (by rw [major_n]; decide) (by rw [major_n]; exact (by decide : 1 ≤ 15)) (fun E hE hB hrd => by
    have hN : E.N ≤ 1000000 := by
      rw [hE, major_n]; decide
    rw [major_r, ← hB]
    exact awp_slots [(0, a0)] ⟨rfl, trivial⟩ (vcW_sound hN _ (hp E _ hN fin_self))))
/- cartulary/semver.byNumber -/
def byNumber_2o : List ROp := [.v 16 (.mov (.t 0)),
   .v 17 (.mov (.t 1)),
   .cal (some 18) false 7018 39 [(.t 16), (.t 17)],
   .v 4 (.mov (.t 18))]
def byNumber_2 : AK := .seq (.reg byNumber_2o [4]) .ret
def byNumber_5o : List ROp := [.v 10 (.mov (.t 0)),
   .v 11 (.len true (.t 10)),
   .v 12 (.mov (.t 1)),
   .v 13 (.len true (.t 12)),
   .v 14 (.bin .sub (.t 11) (.t 13)),
   .cal (some 15) false 7015 38 [(.t 14)],
   .v 4 (.mov (.t 15))]
def byNumber_5 : AK := .seq (.reg byNumber_5o [4]) .ret
def byNumber_4 : AK := .cond (.t 9) byNumber_5 .skip
def byNumber_3o : List ROp := [.v 5 (.mov (.t 0)),
   .v 6 (.len true (.t 5)),
   .v 7 (.mov (.t 1)),
   .v 8 (.len true (.t 7)),
   .v 9 (.bin .neq (.t 6) (.t 8))]
def byNumber_3 : AK := .seq (.reg byNumber_3o [0, 1, 9]) byNumber_4
def byNumber_1 : AK := .seq byNumber_3 byNumber_2
def byNumber_0o : List ROp := [.v 4 (.mov (.c (.int .i64 0)))]
def byNumber_0 : AK := .seq (.reg byNumber_0o [0, 1]) byNumber_1
def byNumber : AK := byNumber_0
theorem byNumber_vc (P : Program) (E : Env) (Q : KQ) (st : St) :
  (vcW P E byNumber_2 Q st = aopsW P byNumber_2o st (KS.reg [4] (KQ.seq P E .ret Q))) ∧
  (vcW P E byNumber_5 Q st = aopsW P byNumber_5o st (KS.reg [4] (KQ.seq P E .ret Q))) ∧
  (vcW P E byNumber_4 Q st = cndW P E (ev st (.t 9)) byNumber_5 .skip Q st) ∧
  (vcW P E byNumber_3 Q st = aopsW P byNumber_3o st (KS.reg [0, 1, 9] (KQ.seq P E byNumber_4 Q))) ∧
  (vcW P E byNumber_1 Q st = vcW P E byNumber_3 (KQ.seq P E byNumber_2 Q) st) ∧
  (vcW P E byNumber_0 Q st = aopsW P byNumber_0o st (KS.reg [0, 1] (KQ.seq P E byNumber_1 Q))) ∧
  (vcW P E byNumber Q st = vcW P E byNumber_0 Q st) :=
  ⟨rfl, rfl, vcW_cond, rfl, rfl, rfl, rfl⟩
theorem byNumber_jn (P : Program) (E : Env) (Q : KQ) (st : St) :
  (True) :=
  trivial
attribute [go_sem] byNumber_vc byNumber_2o byNumber_5o byNumber_3o byNumber_0o
noncomputable def byNumberB : Code := (Tryd.f23.body).getD .skip
theorem byNumber_eq : trCode Tryd.prog 19 7000 byNumberB = byNumber.erase 7000 := by kernel_rfl
theorem byNumber_body : Tryd.f23.body = some byNumberB := by kernel_rfl
theorem byNumber_n : Tryd.f23.ntmps = 19 := by kernel_rfl
theorem byNumber_r : Tryd.f23.results.toList.map (trRes Tryd.prog) = [.tmp 4] := by kernel_rfl
theorem byNumber_spec {h : HP} {a0 a1 : AV} {Post : HP → AV → List AV → Prop} (hp : ∀ (E : Env) (R : HP → AV → List AV → Prop), E.N ≤ 1000000 → PostTo Post R → vcW Tryd.prog E byNumber (KQ.post [.tmp 4] 2 R) ⟨[(0, a0), (1, a1)], h⟩) : Eng.Spec Tryd.prog 23 h [a0, a1] Post := spec_wk (
  spec_of (c := byNumber.erase 7000) (B := 7000) Tryd.func23 byNumber_body (by rw [byNumber_n, byNumber_eq]) (by rw [byNumber_n]; decide) (by rw [byNumber_n]; exact (by decide : 2 ≤ 19)) (fun E hE hB hrd => by
    have hN : E.N ≤ 1000000 := by
      rw [hE, byNumber_n]; decide
    rw [byNumber_r, ← hB]
    exact awp_slots [(0, a0), (1, a1)] ⟨rfl, rfl, trivial⟩ (vcW_sound hN _ (hp E _ hN fin_self))))
/- cartulary/semver.sign -/
def sign_1o : List ROp := [.v 3 (.mov (.t 0)),
   .v 4 (.mm false (.t 3) (.c (.int .i64 1))),
   .v 5 (.mm true (.c (.int .i64 (-1))) (.t 4)),
   .v 2 (.mov (.t 5))]
def sign_1 : AK := .seq (.reg sign_1o [2]) .ret
def sign_0o : List ROp := [.v 2 (.mov (.c (.int .i64 0)))]
def sign_0 : AK := .seq (.reg sign_0o [0]) sign_1
def sign : AK := sign_0
theorem sign_vc (P : Program) (E : Env) (Q : KQ) (st : St) :
  (vcW P E sign_1 Q st = aopsW P sign_1o st (KS.reg [2] (KQ.seq P E .ret Q))) ∧
  (vcW P E sign_0 Q st = aopsW P sign_0o st (KS.reg [0] (KQ.seq P E sign_1 Q))) ∧
  (vcW P E sign Q st = vcW P E sign_0 Q st) :=
  ⟨rfl, rfl, rfl⟩
theorem sign_jn (P : Program) (E : Env) (Q : KQ) (st : St) :
  (True) :=
  trivial
attribute [go_sem] sign_vc sign_1o sign_0o
noncomputable def signB : Code := (Tryd.f38.body).getD .skip
theorem sign_eq : trCode Tryd.prog 6 8000 signB = sign.erase 8000 := by kernel_rfl
theorem sign_body : Tryd.f38.body = some signB := by kernel_rfl
theorem sign_n : Tryd.f38.ntmps = 6 := by kernel_rfl
theorem sign_r : Tryd.f38.results.toList.map (trRes Tryd.prog) = [.tmp 2] := by kernel_rfl
theorem sign_spec {h : HP} {a0 : AV} {Post : HP → AV → List AV → Prop} (hp : ∀ (E : Env) (R : HP → AV → List AV → Prop), E.N ≤ 1000000 → PostTo Post R → vcW Tryd.prog E sign (KQ.post [.tmp 2] 1 R) ⟨[(0, a0)], h⟩) : Eng.Spec Tryd.prog 38 h [a0] Post := spec_wk (
  spec_of (c := sign.erase 8000) (B := 8000) Tryd.func38 sign_body (by rw [sign_n, sign_eq]) (by rw [sign_n]; decide) (by rw [sign_n]; exact (by decide : 1 ≤ 6)) (fun E hE hB hrd => by
    have hN : E.N ≤ 1000000 := by
      rw [hE, sign_n]; decide
    rw [sign_r, ← hB]
    exact awp_slots [(0, a0)] ⟨rfl, trivial⟩ (vcW_sound hN _ (hp E _ hN fin_self))))
/- cartulary/semver.byWords -/
def byWords_4o : List ROp := [.v 4 (.mov (.c (.int .i64 1)))]
def byWords_4 : AK := .seq (.reg byWords_4o [4]) .ret
def byWords_7o : List ROp := [.v 4 (.mov (.c (.int .i64 (-1))))]
def byWords_7 : AK := .seq (.reg byWords_7o [4]) .ret
def byWords_6 : AK := .cond (.t 60) byWords_7 .skip
def byWords_5o : List ROp := [.v 59 (.mov (.t 0)),
   .v 60 (.bin .eql (.t 59) (.c (.str [])))]
def byWords_5 : AK := .seq (.reg byWords_5o [60]) byWords_6
def byWords_3 : AK := .seq byWords_5 byWords_4
def byWords_17o : List ROp := [.v 56 (.mov (.t 5)),
   .v 57 (.mov (.t 6)),
   .cal (some 58) false 9058 39 [(.t 56), (.t 57)],
   .v 4 (.mov (.t 58))]
def byWords_17 : AK := .seq (.reg byWords_17o [4]) .ret
def byWords_21o : List ROp := [.v 49 (.mov (.t 5)),
   .v 50 (.mov (.t 6)),
   .cal (some 51) false 9051 23 [(.t 49), (.t 50)],
   .v 4 (.mov (.t 51))]
def byWords_21 : AK := .seq (.reg byWords_21o [4]) .ret
def byWords_24o : List ROp := [.v 4 (.mov (.c (.int .i64 (-1))))]
def byWords_24 : AK := .seq (.reg byWords_24o [4]) .ret
def byWords_27o : List ROp := [.v 4 (.mov (.c (.int .i64 1)))]
def byWords_27 : AK := .seq (.reg byWords_27o [4]) .ret
def byWords_26 : AK := .cond (.t 54) byWords_27 .skip
def byWords_25o : List ROp := [.v 55 (.mov (.t 8)),
   .v 54 (.mov (.t 55))]
def byWords_25 : AK := .seq (.reg byWords_25o [5, 6, 54]) byWords_26
def byWords_23 : AK := .cond (.t 52) byWords_24 byWords_25
def byWords_22o : List ROp := [.v 53 (.mov (.t 7)),
   .v 52 (.mov (.t 53))]
def byWords_22 : AK := .seq (.reg byWords_22o [5, 6, 8, 52]) byWords_23
def byWords_20 : AK := .cond (.t 44) byWords_21 byWords_22
def byWords_19o : List ROp := [.v 45 (.mov (.t 7)),
   .v 46 (.mov (.t 45)),
   .gval 47 46 true false 9047 (.mov (.t 8)),
   .v 48 (.pick (.t 46) (.t 47) (.c (.bool false))),
   .v 44 (.mov (.t 48))]
def byWords_19 : AK := .seq (.reg byWords_19o [5, 6, 7, 8, 44]) byWords_20
def byWords_18 : AK := .block 3 byWords_19
def byWords_16 : AK := .seq byWords_18 byWords_17
def byWords_15o : List ROp := [.v 40 (.mov (.t 5)),
   .cal (some 41) false 9041 40 [(.t 40)],
   .v 42 (.mov (.t 6)),
   .cal (some 43) false 9043 40 [(.t 42)],
   .v 7 (.mov (.t 41)),
   .v 8 (.mov (.t 43))]
def byWords_15 : AK := .seq (.reg byWords_15o [5, 6, 7, 8]) byWords_16
def byWords_29 : AK := .cond (.t 39) (.exit 2) .skip
def byWords_28o : List ROp := [.v 37 (.mov (.t 5)),
   .v 38 (.mov (.t 6)),
   .v 39 (.bin .eql (.t 37) (.t 38))]
def byWords_28 : AK := .seq (.reg byWords_28o [0, 1, 5, 6, 39]) byWords_29
def byWords_14 : AK := .seq byWords_28 byWords_15
def byWords_13o : List ROp := [.v 32 (.mov (.t 1)),
   .cal (some 33) false 9033 27 [(.t 32), (.c (.str [46]))],
   .v 31 (.mov (.t 33)),
   .v 34 (.ext (.t 31) 0),
   .v 35 (.ext (.t 31) 1),
   .v 36 (.ext (.t 31) 2),
   .v 6 (.mov (.t 34)),
   .v 1 (.mov (.t 35))]
def byWords_13 : AK := .seq (.reg byWords_13o [0, 1, 5, 6]) byWords_14
def byWords_12o : List ROp := [.v 26 (.mov (.t 0)),
   .cal (some 27) false 9027 27 [(.t 26), (.c (.str [46]))],
   .v 25 (.mov (.t 27)),
   .v 28 (.ext (.t 25) 0),
   .v 29 (.ext (.t 25) 1),
   .v 30 (.ext (.t 25) 2),
   .v 5 (.mov (.t 28)),
   .v 0 (.mov (.t 29))]
def byWords_12 : AK := .seq (.reg byWords_12o [0, 1, 5]) byWords_13
def byWords_11o : List ROp := [.v 5 (.mov (.c (.str []))),
   .v 6 (.mov (.c (.str [])))]
def byWords_11 : AK := .seq (.reg byWords_11o [0, 1]) byWords_12
def byWords_10 : AK := .block 2 byWords_11
def byWords_31 : AK := .cond (.t 24) .skip (.exit 1)
def byWords_30o : List ROp := [.v 19 (.mov (.t 0)),
   .v 20 (.bin .neq (.t 19) (.c (.str []))),
   .v 21 (.mov (.t 20)),
   .gval 22 21 true false 9022 (.mov (.t 1)),
   .gval 23 21 true false 9023 (.bin .neq (.t 22) (.c (.str []))),
   .v 24 (.pick (.t 21) (.t 23) (.c (.bool false)))]
def byWords_30 : AK := .seq (.reg byWords_30o [0, 1, 24]) byWords_31
def byWords_9 : AK := .seq byWords_30 byWords_10
def byWords_L0 : AK := .loop byWords_9
def byWords_8 : AK := .block 1 byWords_L0
def byWords_2 : AK := .seq byWords_8 byWords_3
def byWords_35o : List ROp := [.v 4 (.mov (.c (.int .i64 0)))]
def byWords_35 : AK := .seq (.reg byWords_35o [4]) .ret
def byWords_38o : List ROp := [.v 4 (.mov (.c (.int .i64 1)))]
def byWords_38 : AK := .seq (.reg byWords_38o [4]) .ret
def byWords_41o : List ROp := [.v 4 (.mov (.c (.int .i64 (-1))))]
def byWords_41 : AK := .seq (.reg byWords_41o [4]) .ret
def byWords_40 : AK := .cond (.t 16) byWords_41 .skip
def byWords_39o : List ROp := [.v 17 (.mov (.t 1)),
   .v 18 (.bin .eql (.t 17) (.c (.str []))),
   .v 16 (.mov (.t 18))]
def byWords_39 : AK := .seq (.reg byWords_39o [0, 1, 16]) byWords_40
def byWords_37 : AK := .cond (.t 13) byWords_38 byWords_39
def byWords_36o : List ROp := [.v 14 (.mov (.t 0)),
   .v 15 (.bin .eql (.t 14) (.c (.str []))),
   .v 13 (.mov (.t 15))]
def byWords_36 : AK := .seq (.reg byWords_36o [0, 1, 13]) byWords_37
def byWords_34 : AK := .cond (.t 9) byWords_35 byWords_36
def byWords_33o : List ROp := [.v 10 (.mov (.t 0)),
   .v 11 (.mov (.t 1)),
   .v 12 (.bin .eql (.t 10) (.t 11)),
   .v 9 (.mov (.t 12))]
def byWords_33 : AK := .seq (.reg byWords_33o [0, 1, 9]) byWords_34
def byWords_32 : AK := .block 0 byWords_33
def byWords_1 : AK := .seq byWords_32 byWords_2
def byWords_0o : List ROp := [.v 4 (.mov (.c (.int .i64 0)))]
def byWords_0 : AK := .seq (.reg byWords_0o [0, 1]) byWords_1
def byWords : AK := byWords_0
theorem byWords_vc (P : Program) (E : Env) (Q : KQ) (st : St) :
  (vcW P E byWords_4 Q st = aopsW P byWords_4o st (KS.reg [4] (KQ.seq P E .ret Q))) ∧
  (vcW P E byWords_7 Q st = aopsW P byWords_7o st (KS.reg [4] (KQ.seq P E .ret Q))) ∧
  (vcW P E byWords_6 Q st = cndW P E (ev st (.t 60)) byWords_7 .skip Q st) ∧
  (vcW P E byWords_5 Q st = aopsW P byWords_5o st (KS.reg [60] (KQ.seq P E byWords_6 Q))) ∧
  (vcW P E byWords_3 Q st = vcW P E byWords_5 (KQ.seq P E byWords_4 Q) st) ∧
  (vcW P E byWords_17 Q st = aopsW P byWords_17o st (KS.reg [4] (KQ.seq P E .ret Q))) ∧
  (vcW P E byWords_21 Q st = aopsW P byWords_21o st (KS.reg [4] (KQ.seq P E .ret Q))) ∧
  (vcW P E byWords_24 Q st = aopsW P byWords_24o st (KS.reg [4] (KQ.seq P E .ret Q))) ∧
  (vcW P E byWords_27 Q st = aopsW P byWords_27o st (KS.reg [4] (KQ.seq P E .ret Q))) ∧
  (vcW P E byWords_26 Q st = cndW P E (ev st (.t 54)) byWords_27 .skip Q st) ∧
  (vcW P E byWords_25 Q st = aopsW P byWords_25o st (KS.reg [5, 6, 54] (KQ.seq P E byWords_26 Q))) ∧
  (vcW P E byWords_23 Q st = cndW P E (ev st (.t 52)) byWords_24 byWords_25 Q st) ∧
  (vcW P E byWords_22 Q st = aopsW P byWords_22o st (KS.reg [5, 6, 8, 52] (KQ.seq P E byWords_23 Q))) ∧
  (vcW P E byWords_20 Q st = cndW P E (ev st (.t 44)) byWords_21 byWords_22 Q st) ∧
  (vcW P E byWords_19 Q st = aopsW P byWords_19o st (KS.reg [5, 6, 7, 8, 44] (KQ.seq P E byWords_20 Q))) ∧
  (vcW P E byWords_18 Q st = vcW P E byWords_19 (KQ.blk 3 Q) st) ∧
  (vcW P E byWords_16 Q st = vcW P E byWords_18 (KQ.seq P E byWords_17 Q) st) ∧
  (vcW P E byWords_15 Q st = aopsW P byWords_15o st (KS.reg [5, 6, 7, 8] (KQ.seq P E byWords_16 Q))) ∧
  (vcW P E byWords_29 Q st = cndW P E (ev st (.t 39)) (.exit 2) .skip Q st) ∧
  (vcW P E byWords_28 Q st = aopsW P byWords_28o st (KS.reg [0, 1, 5, 6, 39] (KQ.seq P E byWords_29 Q))) ∧
  (vcW P E byWords_14 Q st = vcW P E byWords_28 (KQ.seq P E byWords_15 Q) st) ∧
  (vcW P E byWords_13 Q st = aopsW P byWords_13o st (KS.reg [0, 1, 5, 6] (KQ.seq P E byWords_14 Q))) ∧
  (vcW P E byWords_12 Q st = aopsW P byWords_12o st (KS.reg [0, 1, 5] (KQ.seq P E byWords_13 Q))) ∧
  (vcW P E byWords_11 Q st = aopsW P byWords_11o st (KS.reg [0, 1] (KQ.seq P E byWords_12 Q))) ∧
  (vcW P E byWords_10 Q st = vcW P E byWords_11 (KQ.blk 2 Q) st) ∧
  (vcW P E byWords_31 Q st = cndW P E (ev st (.t 24)) .skip (.exit 1) Q st) ∧
  (vcW P E byWords_30 Q st = aopsW P byWords_30o st (KS.reg [0, 1, 24] (KQ.seq P E byWords_31 Q))) ∧
  (vcW P E byWords_9 Q st = vcW P E byWords_30 (KQ.seq P E byWords_10 Q) st) ∧
  (vcW P E byWords_8 Q st = vcW P E byWords_L0 (KQ.blk 1 Q) st) ∧
  (vcW P E byWords_2 Q st = vcW P E byWords_8 (KQ.seq P E byWords_3 Q) st) ∧
  (vcW P E byWords_35 Q st = aopsW P byWords_35o st (KS.reg [4] (KQ.seq P E .ret Q))) ∧
  (vcW P E byWords_38 Q st = aopsW P byWords_38o st (KS.reg [4] (KQ.seq P E .ret Q))) ∧
  (vcW P E byWords_41 Q st = aopsW P byWords_41o st (KS.reg [4] (KQ.seq P E .ret Q))) ∧
  (vcW P E byWords_40 Q st = cndW P E (ev st (.t 16)) byWords_41 .skip Q st) ∧
  (vcW P E byWords_39 Q st = aopsW P byWords_39o st (KS.reg [0, 1, 16] (KQ.seq P E byWords_40 Q))) ∧
  (vcW P E byWords_37 Q st = cndW P E (ev st (.t 13)) byWords_38 byWords_39 Q st) ∧
  (vcW P E byWords_36 Q st = aopsW P byWords_36o st (KS.reg [0, 1, 13] (KQ.seq P E byWords_37 Q))) ∧
  (vcW P E byWords_34 Q st = cndW P E (ev st (.t 9)) byWords_35 byWords_36 Q st) ∧
  (vcW P E byWords_33 Q st = aopsW P byWords_33o st (KS.reg [0, 1, 9] (KQ.seq P E byWords_34 Q))) ∧
  (vcW P E byWords_32 Q st = vcW P E byWords_33 (KQ.blk 0 Q) st) ∧
  (vcW P E byWords_1 Q st = vcW P E byWords_32 (KQ.seq P E byWords_2 Q) st) ∧
  (vcW P E byWords_0 Q st = aopsW P byWords_0o st (KS.reg [0, 1] (KQ.seq P E byWords_1 Q))) ∧
  (vcW P E byWords Q st = vcW P E byWords_0 Q st) :=
  ⟨rfl, rfl, vcW_cond, rfl, rfl, rfl, rfl, rfl, rfl, vcW_cond, rfl, vcW_cond, rfl, vcW_cond, rfl, rfl, rfl, rfl, vcW_cond, rfl, rfl, rfl, rfl, rfl, rfl, vcW_cond, rfl, rfl, rfl, rfl, rfl, rfl, rfl, vcW_cond, rfl, vcW_cond, rfl, vcW_cond, rfl, rfl, rfl, rfl, rfl⟩
theorem byWords_jn (P : Program) (E : Env) (Q : KQ) (st : St) :
  (True) :=
  trivial
attribute [go_sem] byWords_vc byWords_4o byWords_7o byWords_5o byWords_17o byWords_21o byWords_24o byWords_27o byWords_25o byWords_22o byWords_19o byWords_15o byWords_28o byWords_13o byWords_12o byWords_11o byWords_30o byWords_35o byWords_38o byWords_41o byWords_39o byWords_36o byWords_33o byWords_0o
noncomputable def byWordsB : Code := (Tryd.f24.body).getD .skip
theorem byWords_eq : trCode Tryd.prog 61 9000 byWordsB = byWords.erase 9000 := by kernel_rfl
theorem byWords_body : Tryd.f24.body = some byWordsB := by kernel_rfl
theorem byWords_n : Tryd.f24.ntmps = 61 := by kernel_rfl
theorem byWords_r : Tryd.f24.results.toList.map (trRes Tryd.prog) = [.tmp 4] := by kernel_rfl
theorem byWords_spec {h : HP} {a0 a1 : AV} {Post : HP → AV → List AV → Prop} (hp : ∀ (E : Env) (R : HP → AV → List AV → Prop), E.N ≤ 1000000 → PostTo Post R → vcW Tryd.prog E byWords (KQ.post [.tmp 4] 2 R) ⟨[(0, a0), (1, a1)], h⟩) : Eng.Spec Tryd.prog 24 h [a0, a1] Post := spec_wk (
  spec_of (c := byWords.erase 9000) (B := 9000) Tryd.func24 byWords_body (by rw [byWords_n, byWords_eq]) (by rw [byWords_n]; decide) (by rw [byWords_n]; exact (by decide : 2 ≤ 61)) (fun E hE hB hrd => by
    have hN : E.N ≤ 1000000 := by
      rw [hE, byWords_n]; decide
    rw [byWords_r, ← hB]
    exact awp_slots [(0, a0), (1, a1)] ⟨rfl, rfl, trivial⟩ (vcW_sound hN _ (hp E _ hN fin_self))))
/- cartulary/semver.Compare -/
def compare_5o : List ROp := [.v 4 (.mov (.c (.int .i64 0)))]
def compare_5 : AK := .seq (.reg compare_5o [4]) .ret
def compare_11o : List ROp := [.v 60 (.bin .add (.t 53) (.c (.int .i64 1))),
   .v 53 (.mov (.t 60))]
def compare_11 : AK := .reg compare_11o [51, 52, 53]
def compare_16o : List ROp := [.v 59 (.mov (.t 10)),
   .v 4 (.mov (.t 59))]
def compare_16 : AK := .seq (.reg compare_16o [4]) .ret
def compare_15 : AK := .cond (.t 58) compare_16 .skip
def compare_14o : List ROp := [.v 57 (.mov (.t 10)),
   .v 58 (.bin .neq (.t 57) (.c (.int .i64 0)))]
def compare_14 : AK := .seq (.reg compare_14o [10, 51, 52, 53, 58]) compare_15
def compare_13o : List ROp := [.v 55 (.idxA 1 (.t 51) (.t 53)),
   .v 56 (.ld false 1 (.t 55)),
   .v 10 (.mov (.t 56))]
def compare_13 : AK := .seq (.reg compare_13o [10, 51, 52, 53]) compare_14
def compare_12 : AK := .block 2 compare_13
def compare_10 : AK := .seq compare_12 compare_11
def compare_17 : AK := .cond (.t 54) .skip (.exit 1)
def compare_9 : AK := .seq compare_17 compare_10
def compare_8o : List ROp := [.v 54 (.bin .lss (.t 53) (.t 52))]
def compare_8 : AK := .seq (.reg compare_8o [51, 52, 53, 54]) compare_9
def compare_L0 : AK := .loop compare_8
def compare_7 : AK := .block 1 compare_L0
def compare_6o : List ROp := [.val 31 true 10031 (.fldA false 0 1 (.t 5)),
   .val 32 true 10032 (.ld false 1 (.t 31)),
   .val 33 true 10033 (.fldA false 0 1 (.t 7)),
   .val 34 true 10034 (.ld false 1 (.t 33)),
   .val 36 true 10036 (.fldA false 1 1 (.t 5)),
   .val 37 true 10037 (.ld false 1 (.t 36)),
   .val 38 true 10038 (.fldA false 1 1 (.t 7)),
   .val 39 true 10039 (.ld false 1 (.t 38)),
   .val 41 true 10041 (.fldA false 2 1 (.t 5)),
   .val 42 true 10042 (.ld false 1 (.t 41)),
   .val 43 true 10043 (.fldA false 2 1 (.t 7)),
   .val 44 true 10044 (.ld false 1 (.t 43)),
   .val 46 true 10046 (.fldA false 3 1 (.t 5)),
   .val 47 true 10047 (.ld false 1 (.t 46)),
   .val 48 true 10048 (.fldA false 3 1 (.t 7)),
   .val 49 true 10049 (.ld false 1 (.t 48)),
   .val 53 true 10053 (.mov (.c (.int .i64 0))),
   .cal (some 35) true 10035 23 [(.t 32), (.t 34)],
   .cal (some 40) true 10040 23 [(.t 37), (.t 39)],
   .cal (some 45) true 10045 23 [(.t 42), (.t 44)],
   .cal (some 50) true 10050 24 [(.t 47), (.t 49)],
   .eff 51 true 10051 (.bsl 1 [(.t 35), (.t 40), (.t 45), (.t 50)]),
   .val 52 true 10052 (.len false (.t 51))]
def compare_6 : AK := .seq (.reg compare_6o [51, 52, 53]) compare_7
def compare_4 : AK := .seq compare_6 compare_5
def compare_21o : List ROp := [.v 4 (.mov (.c (.int .i64 0)))]
def compare_21 : AK := .seq (.reg compare_21o [4]) .ret
def compare_25o : List ROp := [.v 4 (.mov (.c (.int .i64 1)))]
def compare_25 : AK := .seq (.reg compare_25o [4]) .ret
def compare_28o : List ROp := [.v 4 (.mov (.c (.int .i64 (-1))))]
def compare_28 : AK := .seq (.reg compare_28o [4]) .ret
def compare_27 : AK := .cond (.t 29) compare_28 .skip
def compare_26o : List ROp := [.v 30 (.mov (.t 8)),
   .v 29 (.mov (.t 30))]
def compare_26 : AK := .seq (.reg compare_26o [29]) compare_27
def compare_24 : AK := .cond (.t 27) compare_25 compare_26
def compare_23o : List ROp := [.v 28 (.mov (.t 6)),
   .v 27 (.mov (.t 28))]
def compare_23 : AK := .seq (.reg compare_23o [8, 27]) compare_24
def compare_22 : AK := .block 0 compare_23
def compare_20 : AK := .seq compare_22 compare_21
def compare_19 : AK := .cond (.t 26) compare_20 .skip
def compare_18o : List ROp := [.v 21 (.mov (.t 6)),
   .v 22 (.un .not (.t 21)),
   .v 23 (.mov (.t 22)),
   .gval 24 23 false false 10024 (.mov (.t 8)),
   .gval 25 23 false false 10025 (.un .not (.t 24)),
   .v 26 (.pick (.t 23) (.c (.bool true)) (.t 25))]
def compare_18 : AK := .seq (.reg compare_18o [5, 6, 7, 8, 26]) compare_19
def compare_3 : AK := .seq compare_18 compare_4
def compare_2o : List ROp := [.v 17 (.mov (.t 1)),
   .cal (some 18) false 10018 13 [(.t 17)],
   .v 16 (.mov (.t 18)),
   .v 19 (.ext (.t 16) 0),
   .v 20 (.ext (.t 16) 1),
   .eff 7 false 10007 (.alloc [.str [], .str [], .str [], .str [], .str [], .int .i64 0]),
   .effN false 10000 (.st 6 (.t 7) (.t 19)),
   .v 8 (.mov (.t 20))]
def compare_2 : AK := .seq (.reg compare_2o [5, 6, 7, 8]) compare_3
def compare_1o : List ROp := [.v 12 (.mov (.t 0)),
   .cal (some 13) false 10013 13 [(.t 12)],
   .v 11 (.mov (.t 13)),
   .v 14 (.ext (.t 11) 0),
   .v 15 (.ext (.t 11) 1),
   .eff 5 false 10005 (.alloc [.str [], .str [], .str [], .str [], .str [], .int .i64 0]),
   .effN false 10000 (.st 6 (.t 5) (.t 14)),
   .v 6 (.mov (.t 15))]
def compare_1 : AK := .seq (.reg compare_1o [1, 5, 6]) compare_2
def compare_0o : List ROp := [.v 4 (.mov (.c (.int .i64 0)))]
def compare_0 : AK := .seq (.reg compare_0o [0, 1]) compare_1
def compare : AK := compare_0
theorem compare_vc (P : Program) (E : Env) (Q : KQ) (st : St) :
  (vcW P E compare_5 Q st = aopsW P compare_5o st (KS.reg [4] (KQ.seq P E .ret Q))) ∧
  (vcW P E compare_11 Q st = aopsW P compare_11o st (KS.reg [51, 52, 53] Q)) ∧
  (vcW P E compare_16 Q st = aopsW P compare_16o st (KS.reg [4] (KQ.seq P E .ret Q))) ∧
  (vcW P E compare_15 Q st = cndW P E (ev st (.t 58)) compare_16 .skip Q st) ∧
  (vcW P E compare_14 Q st = aopsW P compare_14o st (KS.reg [10, 51, 52, 53, 58] (KQ.seq P E compare_15 Q))) ∧
  (vcW P E compare_13 Q st = aopsW P compare_13o st (KS.reg [10, 51, 52, 53] (KQ.seq P E compare_14 Q))) ∧
  (vcW P E compare_12 Q st = vcW P E compare_13 (KQ.blk 2 Q) st) ∧
  (vcW P E compare_10 Q st = vcW P E compare_12 (KQ.seq P E compare_11 Q) st) ∧
  (vcW P E compare_17 Q st = cndW P E (ev st (.t 54)) .skip (.exit 1) Q st) ∧
  (vcW P E compare_9 Q st = vcW P E compare_17 (KQ.seq P E compare_10 Q) st) ∧
  (vcW P E compare_8 Q st = aopsW P compare_8o st (KS.reg [51, 52, 53, 54] (KQ.seq P E compare_9 Q))) ∧
  (vcW P E compare_7 Q st = vcW P E compare_L0 (KQ.blk 1 Q) st) ∧
  (vcW P E compare_6 Q st = aopsW P compare_6o st (KS.reg [51, 52, 53] (KQ.seq P E compare_7 Q))) ∧
  (vcW P E compare_4 Q st = vcW P E compare_6 (KQ.seq P E compare_5 Q) st) ∧
  (vcW P E compare_21 Q st = aopsW P compare_21o st (KS.reg [4] (KQ.seq P E .ret Q))) ∧
  (vcW P E compare_25 Q st = aopsW P compare_25o st (KS.reg [4] (KQ.seq P E .ret Q))) ∧
  (vcW P E compare_28 Q st = aopsW P compare_28o st (KS.reg [4] (KQ.seq P E .ret Q))) ∧
  (vcW P E compare_27 Q st = cndW P E (ev st (.t 29)) compare_28 .skip Q st) ∧
  (vcW P E compare_26 Q st = aopsW P compare_26o st (KS.reg [29] (KQ.seq P E compare_27 Q))) ∧
  (vcW P E compare_24 Q st = cndW P E (ev st (.t 27)) compare_25 compare_26 Q st) ∧
  (vcW P E compare_23 Q st = aopsW P compare_23o st (KS.reg [8, 27] (KQ.seq P E compare_24 Q))) ∧
  (vcW P E compare_22 Q st = vcW P E compare_23 (KQ.blk 0 Q) st) ∧
  (vcW P E compare_20 Q st = vcW P E compare_22 (KQ.seq P E compare_21 Q) st) ∧
  (vcW P E compare_19 Q st = cndW P E (ev st (.t 26)) compare_20 .skip Q st) ∧
  (vcW P E compare_18 Q st = aopsW P compare_18o st (KS.reg [5, 6, 7, 8, 26] (KQ.seq P E compare_19 Q))) ∧
  (vcW P E compare_3 Q st = vcW P E compare_18 (KQ.seq P E compare_4 Q) st) ∧
  (vcW P E compare_2 Q st = aopsW P compare_2o st (KS.reg [5, 6, 7, 8] (KQ.seq P E compare_3 Q))) ∧
  (vcW P E compare_1 Q st = aopsW P compare_1o st (KS.reg [1, 5, 6] (KQ.seq P E compare_2 Q))) ∧
  (vcW P E compare_0 Q st = aopsW P compare_0o st (KS.reg [0, 1] (KQ.seq P E compare_1 Q))) ∧
  (vcW P E compare Q st = vcW P E compare_0 Q st) :=
  ⟨rfl, rfl, rfl, vcW_cond, rfl, rfl, rfl, rfl, vcW_cond, rfl, rfl, rfl, rfl, rfl, rfl, rfl, rfl, vcW_cond, rfl, vcW_cond, rfl, rfl, rfl, vcW_cond, rfl, rfl, rfl, rfl, rfl, rfl⟩
theorem compare_jn (P : Program) (E : Env) (Q : KQ) (st : St) :
  (True) :=
  trivial
attribute [go_sem] compare_vc compare_5o compare_11o compare_16o compare_14o compare_13o compare_8o compare_6o compare_21o compare_25o compare_28o compare_26o compare_23o compare_18o compare_2o compare_1o compare_0o
noncomputable def compareB : Code := (Tryd.f11.body).getD .skip
theorem compare_eq : trCode Tryd.prog 61 10000 compareB = compare.erase 10000 := by kernel_rfl
theorem compare_body : Tryd.f11.body = some compareB := by kernel_rfl
theorem compare_n : Tryd.f11.ntmps = 61 := by kernel_rfl
theorem compare_r : Tryd.f11.results.toList.map (trRes Tryd.prog) = [.tmp 4] := by kernel_rfl
theorem compare_spec {h : HP} {a0 a1 : AV} {Post : HP → AV → List AV → Prop} (hp : ∀ (E : Env) (R : HP → AV → List AV → Prop), E.N ≤ 1000000 → PostTo Post R → vcW Tryd.prog E compare (KQ.post [.tmp 4] 2 R) ⟨[(0, a0), (1, a1)], h⟩) : Eng.Spec Tryd.prog 11 h [a0, a1] Post := spec_wk (
  spec_of (c := compare.erase 10000) (B := 10000) Tryd.func11 compare_body (by rw [compare_n, compare_eq]) (by rw [compare_n]; decide) (by rw [compare_n]; exact (by decide : 2 ≤ 61)) (fun E hE hB hrd => by
    have hN : E.N ≤ 1000000 := by
      rw [hE, compare_n]; decide
    rw [compare_r, ← hB]
    exact awp_slots [(0, a0), (1, a1)] ⟨rfl, rfl, trivial⟩ (vcW_sound hN _ (hp E _ hN fin_self))))
/- cartulary/semver.Max -/
def maxv_2o : List ROp := [.v 10 (.mov (.t 0)),
   .v 4 (.mov (.t 10))]
def maxv_2 : AK := .seq (.reg maxv_2o [4]) .ret
def maxv_5o : List ROp := [.v 9 (.mov (.t 1)),
   .v 4 (.mov (.t 9))]
def maxv_5 : AK := .seq (.reg maxv_5o [4]) .ret
def maxv_4 : AK := .cond (.t 8) maxv_5 .skip
def maxv_3o : List ROp := [.v 5 (.mov (.t 0)),
   .v 6 (.mov (.t 1)),
   .cal (some 7) false 11007 11 [(.t 5), (.t 6)],
   .v 8 (.bin .lss (.t 7) (.c (.int .i64 0)))]
def maxv_3 : AK := .seq (.reg maxv_3o [0, 1, 8]) maxv_4
def maxv_1 : AK := .seq maxv_3 maxv_2
def maxv_0o : List ROp := [.v 4 (.mov (.c (.str [])))]
def maxv_0 : AK := .seq (.reg maxv_0o [0, 1]) maxv_1
def maxv : AK := maxv_0
theorem maxv_vc (P : Program) (E : Env) (Q : KQ) (st : St) :
  (vcW P E maxv_2 Q st = aopsW P maxv_2o st (KS.reg [4] (KQ.seq P E .ret Q))) ∧
  (vcW P E maxv_5 Q st = aopsW P maxv_5o st (KS.reg [4] (KQ.seq P E .ret Q))) ∧
  (vcW P E maxv_4 Q st = cndW P E (ev st (.t 8)) maxv_5 .skip Q st) ∧
  (vcW P E maxv_3 Q st = aopsW P maxv_3o st (KS.reg [0, 1, 8] (KQ.seq P E maxv_4 Q))) ∧
  (vcW P E maxv_1 Q st = vcW P E maxv_3 (KQ.seq P E maxv_2 Q) st) ∧
  (vcW P E maxv_0 Q st = aopsW P maxv_0o st (KS.reg [0, 1] (KQ.seq P E maxv_1 Q))) ∧
  (vcW P E maxv Q st = vcW P E maxv_0 Q st) :=
  ⟨rfl, rfl, vcW_cond, rfl, rfl, rfl, rfl⟩
theorem maxv_jn (P : Program) (E : Env) (Q : KQ) (st : St) :
  (True) :=
  trivial
attribute [go_sem] maxv_vc maxv_2o maxv_5o maxv_3o maxv_0o
noncomputable def maxvB : Code := (Tryd.f16.body).getD .skip
theorem maxv_eq : trCode Tryd.prog 11 11000 maxvB = maxv.erase 11000 := by kernel_rfl
theorem maxv_body : Tryd.f16.body = some maxvB := by kernel_rfl
theorem maxv_n : Tryd.f16.ntmps = 11 := by kernel_rfl
theorem maxv_r : Tryd.f16.results.toList.map (trRes Tryd.prog) = [.tmp 4] := by kernel_rfl
theorem maxv_spec {h : HP} {a0 a1 : AV} {Post : HP → AV → List AV → Prop} (hp : ∀ (E : Env) (R : HP → AV → List AV → Prop), E.N ≤ 1000000 → PostTo Post R → vcW Tryd.prog E maxv (KQ.post [.tmp 4] 2 R) ⟨[(0, a0), (1, a1)], h⟩) : Eng.Spec Tryd.prog 16 h [a0, a1] Post := spec_wk (
  spec_of (c := maxv.erase 11000) (B := 11000) Tryd.func16 maxv_body (by rw [maxv_n, maxv_eq]) (by rw [maxv_n]; decide) (by rw [maxv_n]; exact (by decide : 2 ≤ 11)) (fun E hE hB hrd => by
    have hN : E.N ≤ 1000000 := by
      rw [hE, maxv_n]; decide
    rw [maxv_r, ← hB]
    exact awp_slots [(0, a0), (1, a1)] ⟨rfl, rfl, trivial⟩ (vcW_sound hN _ (hp E _ hN fin_self))))
/- cartulary/semver.before -/
def before_2o : List ROp := [.v 9 (.mov (.t 5)),
   .v 10 (.bin .lss (.t 9) (.c (.int .i64 0))),
   .v 11 (.mov (.t 10)),
   .gval 12 11 false false 12012 (.mov (.t 5)),
   .gval 13 11 false false 12013 (.bin .eql (.t 12) (.c (.int .i64 0))),
   .gval 14 11 false false 12014 (.mov (.t 13)),
   .gval 15 14 true false 12015 (.mov (.t 0)),
   .gval 16 14 true false 12016 (.mov (.t 1)),
   .gval 17 14 true false 12017 (.bin .lss (.t 15) (.t 16)),
   .gval 18 11 false false 12018 (.pick (.t 14) (.t 17) (.c (.bool false))),
   .v 19 (.pick (.t 11) (.c (.bool true)) (.t 18)),
   .v 4 (.mov (.t 19))]
def before_2 : AK := .seq (.reg before_2o [4]) .ret
def before_1o : List ROp := [.v 6 (.mov (.t 0)),
   .v 7 (.mov (.t 1)),
   .cal (some 8) false 12008 11 [(.t 6), (.t 7)],
   .v 5 (.mov (.t 8))]
def before_1 : AK := .seq (.reg before_1o [0, 1, 5]) before_2
def before_0o : List ROp := [.v 4 (.mov (.c (.bool false)))]
def before_0 : AK := .seq (.reg before_0o [0, 1]) before_1
def before : AK := before_0
theorem before_vc (P : Program) (E : Env) (Q : KQ) (st : St) :
  (vcW P E before_2 Q st = aopsW P before_2o st (KS.reg [4] (KQ.seq P E .ret Q))) ∧
  (vcW P E before_1 Q st = aopsW P before_1o st (KS.reg [0, 1, 5] (KQ.seq P E before_2 Q))) ∧
  (vcW P E before_0 Q st = aopsW P before_0o st (KS.reg [0, 1] (KQ.seq P E before_1 Q))) ∧
  (vcW P E before Q st = vcW P E before_0 Q st) :=
  ⟨rfl, rfl, rfl, rfl⟩
theorem before_jn (P : Program) (E : Env) (Q : KQ) (st : St) :
  (True) :=
  trivial
attribute [go_sem] before_vc before_2o before_1o before_0o
noncomputable def beforeB : Code := (Tryd.f37.body).getD .skip
theorem before_eq : trCode Tryd.prog 20 12000 beforeB = before.erase 12000 := by kernel_rfl
theorem before_body : Tryd.f37.body = some beforeB := by kernel_rfl
theorem before_n : Tryd.f37.ntmps = 20 := by kernel_rfl
theorem before_r : Tryd.f37.results.toList.map (trRes Tryd.prog) = [.tmp 4] := by kernel_rfl
theorem before_spec {h : HP} {a0 a1 : AV} {Post : HP → AV → List AV → Prop} (hp : ∀ (E : Env) (R : HP → AV → List AV → Prop), E.N ≤ 1000000 → PostTo Post R → vcW Tryd.prog E before (KQ.post [.tmp 4] 2 R) ⟨[(0, a0), (1, a1)], h⟩) : Eng.Spec Tryd.prog 37 h [a0, a1] Post := spec_wk (
  spec_of (c := before.erase 12000) (B := 12000) Tryd.func37 before_body (by rw [before_n, before_eq]) (by rw [before_n]; decide) (by rw [before_n]; exact (by decide : 2 ≤ 20)) (fun E hE hB hrd => by
    have hN : E.N ≤ 1000000 := by
      rw [hE, before_n]; decide
    rw [before_r, ← hB]
    exact awp_slots [(0, a0), (1, a1)] ⟨rfl, rfl, trivial⟩ (vcW_sound hN _ (hp E _ hN fin_self))))
/- cartulary/cartularyref20.Cut -/
def rcut_3o : List ROp := [.v 35 (.mov (.t 5)),
   .v 4 (.mov (.t 35))]
def rcut_3 : AK := .seq (.reg rcut_3o [4]) .ret
def rcut_8o : List ROp := [.v 12 (.mov (.t 6)),
   .v 13 (.bin .add (.t 12) (.c (.int .i64 1))),
   .v 6 (.mov (.t 13))]
def rcut_8 : AK := .reg rcut_8o [0, 1, 5, 6]
def rcut_12o : List ROp := [.v 19 (.mov (.t 5)),
   .eff 20 false 13020 (.bsl 1 [(.c (.str []))]),
   .eff 21 false 13021 (.app 1 16 (.t 19) (.t 20)),
   .v 5 (.mov (.t 21))]
def rcut_12 : AK := .reg rcut_12o [0, 1, 5, 6]
def rcut_13o : List ROp := [.val 22 true 13022 (.mov (.t 5)),
   .val 23 true 13023 (.mov (.t 5)),
   .val 24 true 13024 (.len false (.t 23)),
   .val 25 true 13025 (.bin .sub (.t 24) (.c (.int .i64 1))),
   .val 26 true 13026 (.idxA 1 (.t 22) (.t 25)),
   .val 27 true 13027 (.ld false 1 (.t 26)),
   .val 28 true 13028 (.mov (.t 0)),
   .val 29 true 13029 (.mov (.t 6)),
   .val 30 true 13030 (.mov (.t 6)),
   .val 31 true 13031 (.bin .add (.t 30) (.c (.int .i64 1))),
   .val 32 true 13032 (.slcS (.t 28) (some (.t 29)) (some (.t 31))),
   .val 33 true 13033 (.bin .add (.t 27) (.t 32)),
   .v 34 (.idxA 1 (.t 22) (.t 25)),
   .effN false 13000 (.st 1 (.t 34) (.t 33))]
def rcut_13 : AK := .reg rcut_13o [0, 1, 5, 6]
def rcut_11 : AK := .cond (.t 18) rcut_12 rcut_13
def rcut_10o : List ROp := [.v 14 (.mov (.t 0)),
   .v 15 (.mov (.t 6)),
   .v 16 (.sidx (.t 14) (.t 15)),
   .v 17 (.mov (.t 1)),
   .v 18 (.bin .eql (.t 16) (.t 17))]
def rcut_10 : AK := .seq (.reg rcut_10o [0, 1, 5, 6, 18]) rcut_11
def rcut_9 : AK := .block 1 rcut_10
def rcut_7 : AK := .seq rcut_9 rcut_8
def rcut_15 : AK := .cond (.t 11) .skip (.exit 0)
def rcut_14o : List ROp := [.v 8 (.mov (.t 6)),
   .v 9 (.mov (.t 0)),
   .v 10 (.len true (.t 9)),
   .v 11 (.bin .lss (.t 8) (.t 10))]
def rcut_14 : AK := .seq (.reg rcut_14o [0, 1, 5, 6, 11]) rcut_15
def rcut_6 : AK := .seq rcut_14 rcut_7
def rcut_L0 : AK := .loop rcut_6
def rcut_5 : AK := .block 0 rcut_L0
def rcut_4o : List ROp := [.v 6 (.mov (.c (.int .i64 0)))]
def rcut_4 : AK := .seq (.reg rcut_4o [0, 1, 5, 6]) rcut_5
def rcut_2 : AK := .seq rcut_4 rcut_3
def rcut_1o : List ROp := [.eff 7 false 13007 (.bsl 1 [(.c (.str []))]),
   .v 5 (.mov (.t 7))]
def rcut_1 : AK := .seq (.reg rcut_1o [0, 1, 5]) rcut_2
def rcut_0o : List ROp := [.v 4 (.mov (.c (.nilsl)))]
def rcut_0 : AK := .seq (.reg rcut_0o [0, 1]) rcut_1
def rcut : AK := rcut_0
theorem rcut_vc (P : Program) (E : Env) (Q : KQ) (st : St) :
  (vcW P E rcut_3 Q st = aopsW P rcut_3o st (KS.reg [4] (KQ.seq P E .ret Q))) ∧
  (vcW P E rcut_8 Q st = aopsW P rcut_8o st (KS.reg [0, 1, 5, 6] Q)) ∧
  (vcW P E rcut_12 Q st = aopsW P rcut_12o st (KS.reg [0, 1, 5, 6] Q)) ∧
  (vcW P E rcut_13 Q st = aopsW P rcut_13o st (KS.reg [0, 1, 5, 6] Q)) ∧
  (vcW P E rcut_11 Q st = cndW P E (ev st (.t 18)) rcut_12 rcut_13 Q st) ∧
  (vcW P E rcut_10 Q st = aopsW P rcut_10o st (KS.reg [0, 1, 5, 6, 18] (KQ.seq P E rcut_11 Q))) ∧
  (vcW P E rcut_9 Q st = vcW P E rcut_10 (KQ.blk 1 Q) st) ∧
  (vcW P E rcut_7 Q st = vcW P E rcut_9 (KQ.seq P E rcut_8 Q) st) ∧
  (vcW P E rcut_15 Q st = cndW P E (ev st (.t 11)) .skip (.exit 0) Q st) ∧
  (vcW P E rcut_14 Q st = aopsW P rcut_14o st (KS.reg [0, 1, 5, 6, 11] (KQ.seq P E rcut_15 Q))) ∧
  (vcW P E rcut_6 Q st = vcW P E rcut_14 (KQ.seq P E rcut_7 Q) st) ∧
  (vcW P E rcut_5 Q st = vcW P E rcut_L0 (KQ.blk 0 Q) st) ∧
  (vcW P E rcut_4 Q st = aopsW P rcut_4o st (KS.reg [0, 1, 5, 6] (KQ.seq P E rcut_5 Q))) ∧
  (vcW P E rcut_2 Q st = vcW P E rcut_4 (KQ.seq P E rcut_3 Q) st) ∧
  (vcW P E rcut_1 Q st = aopsW P rcut_1o st (KS.reg [0, 1, 5] (KQ.seq P E rcut_2 Q))) ∧
  (vcW P E rcut_0 Q st = aopsW P rcut_0o st (KS.reg [0, 1] (KQ.seq P E rcut_1 Q))) ∧
  (vcW P E rcut Q st = vcW P E rcut_0 Q st) :=
  ⟨rfl, rfl, rfl, rfl, vcW_cond, rfl, rfl, rfl, vcW_cond, rfl, rfl, rfl, rfl, rfl, rfl, rfl, rfl⟩
theorem rcut_jn (P : Program) (E : Env) (Q : KQ) (st : St) :
  (True) :=
  trivial
attribute [go_sem] rcut_vc rcut_3o rcut_8o rcut_12o rcut_13o rcut_10o rcut_14o rcut_4o rcut_1o rcut_0o
noncomputable def rcutB : Code := (Tryd.f30.body).getD .skip
theorem rcut_eq : trCode Tryd.prog 36 13000 rcutB = rcut.erase 13000 := by kernel_rfl
theorem rcut_body : Tryd.f30.body = some rcutB := by kernel_rfl
theorem rcut_n : Tryd.f30.ntmps = 36 := by kernel_rfl
theorem rcut_r : Tryd.f30.results.toList.map (trRes Tryd.prog) = [.tmp 4] := by kernel_rfl
theorem rcut_spec {h : HP} {a0 a1 : AV} {Post : HP → AV → List AV → Prop} (hp : ∀ (E : Env) (R : HP → AV → List AV → Prop), E.N ≤ 1000000 → PostTo Post R → vcW Tryd.prog E rcut (KQ.post [.tmp 4] 2 R) ⟨[(0, a0), (1, a1)], h⟩) : Eng.Spec Tryd.prog 30 h [a0, a1] Post := spec_wk (
  spec_of (c := rcut.erase 13000) (B := 13000) Tryd.func30 rcut_body (by rw [rcut_n, rcut_eq]) (by rw [rcut_n]; decide) (by rw [rcut_n]; exact (by decide : 2 ≤ 36)) (fun E hE hB hrd => by
    have hN : E.N ≤ 1000000 := by
      rw [hE, rcut_n]; decide
    rw [rcut_r, ← hB]
    exact awp_slots [(0, a0), (1, a1)] ⟨rfl, rfl, trivial⟩ (vcW_sound hN _ (hp E _ hN fin_self))))
/- cartulary/cartularyref20.Digits -/
def rdigits_2o : List ROp := [.v 20 (.mov (.t 0)),
   .v 21 (.len true (.t 20)),
   .v 22 (.bin .gtr (.t 21) (.c (.int .i64 0))),
   .v 2 (.mov (.t 22))]
def rdigits_2 : AK := .seq (.reg rdigits_2o [2]) .ret
def rdigits_7o : List ROp := [.v 8 (.mov (.t 3)),
   .v 9 (.bin .add (.t 8) (.c (.int .i64 1))),
   .v 3 (.mov (.t 9))]
def rdigits_7 : AK := .reg rdigits_7o [0, 3]
def rdigits_11o : List ROp := [.v 2 (.mov (.c (.bool false)))]
def rdigits_11 : AK := .seq (.reg rdigits_11o [2]) .ret
def rdigits_10 : AK := .cond (.t 19) rdigits_11 .skip
def rdigits_9o : List ROp := [.v 10 (.mov (.t 0)),
   .v 11 (.mov (.t 3)),
   .v 12 (.sidx (.t 10) (.t 11)),
   .v 13 (.bin .lss (.t 12) (.c (.int .u8 48))),
   .v 14 (.mov (.t 13)),
   .gval 15 14 false false 14015 (.mov (.t 0)),
   .gval 16 14 false false 14016 (.mov (.t 3)),
   .gval 17 14 false false 14017 (.sidx (.t 15) (.t 16)),
   .gval 18 14 false false 14018 (.bin .gtr (.t 17) (.c (.int .u8 57))),
   .v 19 (.pick (.t 14) (.c (.bool true)) (.t 18))]
def rdigits_9 : AK := .seq (.reg rdigits_9o [0, 3, 19]) rdigits_10
def rdigits_8 : AK := .block 1 rdigits_9
def rdigits_6 : AK := .seq rdigits_8 rdigits_7
def rdigits_13 : AK := .cond (.t 7) .skip (.exit 0)
def rdigits_12o : List ROp := [.v 4 (.mov (.t 3)),
   .v 5 (.mov (.t 0)),
   .v 6 (.len true (.t 5)),
   .v 7 (.bin .lss (.t 4) (.t 6))]
def rdigits_12 : AK := .seq (.reg rdigits_12o [0, 3, 7]) rdigits_13
def rdigits_5 : AK := .seq rdigits_12 rdigits_6
def rdigits_L0 : AK := .loop rdigits_5
def rdigits_4 : AK := .block 0 rdigits_L0
def rdigits_3o : List ROp := [.v 3 (.mov (.c (.int .i64 0)))]
def rdigits_3 : AK := .seq (.reg rdigits_3o [0, 3]) rdigits_4
def rdigits_1 : AK := .seq rdigits_3 rdigits_2
def rdigits_0o : List ROp := [.v 2 (.mov (.c (.bool false)))]
def rdigits_0 : AK := .seq (.reg rdigits_0o [0]) rdigits_1
def rdigits : AK := rdigits_0
theorem rdigits_vc (P : Program) (E : Env) (Q : KQ) (st : St) :
  (vcW P E rdigits_2 Q st = aopsW P rdigits_2o st (KS.reg [2] (KQ.seq P E .ret Q))) ∧
  (vcW P E rdigits_7 Q st = aopsW P rdigits_7o st (KS.reg [0, 3] Q)) ∧
  (vcW P E rdigits_11 Q st = aopsW P rdigits_11o st (KS.reg [2] (KQ.seq P E .ret Q))) ∧
  (vcW P E rdigits_10 Q st = cndW P E (ev st (.t 19)) rdigits_11 .skip Q st) ∧
  (vcW P E rdigits_9 Q st = aopsW P rdigits_9o st (KS.reg [0, 3, 19] (KQ.seq P E rdigits_10 Q))) ∧
  (vcW P E rdigits_8 Q st = vcW P E rdigits_9 (KQ.blk 1 Q) st) ∧
  (vcW P E rdigits_6 Q st = vcW P E rdigits_8 (KQ.seq P E rdigits_7 Q) st) ∧
  (vcW P E rdigits_13 Q st = cndW P E (ev st (.t 7)) .skip (.exit 0) Q st) ∧
  (vcW P E rdigits_12 Q st = aopsW P rdigits_12o st (KS.reg [0, 3, 7] (KQ.seq P E rdigits_13 Q))) ∧
  (vcW P E rdigits_5 Q st = vcW P E rdigits_12 (KQ.seq P E rdigits_6 Q) st) ∧
  (vcW P E rdigits_4 Q st = vcW P E rdigits_L0 (KQ.blk 0 Q) st) ∧
  (vcW P E rdigits_3 Q st = aopsW P rdigits_3o st (KS.reg [0, 3] (KQ.seq P E rdigits_4 Q))) ∧
  (vcW P E rdigits_1 Q st = vcW P E rdigits_3 (KQ.seq P E rdigits_2 Q) st) ∧
  (vcW P E rdigits_0 Q st = aopsW P rdigits_0o st (KS.reg [0] (KQ.seq P E rdigits_1 Q))) ∧
  (vcW P E rdigits Q st = vcW P E rdigits_0 Q st) :=
  ⟨rfl, rfl, rfl, vcW_cond, rfl, rfl, rfl, vcW_cond, rfl, rfl, rfl, rfl, rfl, rfl, rfl⟩
theorem rdigits_jn (P : Program) (E : Env) (Q : KQ) (st : St) :
  (True) :=
  trivial
attribute [go_sem] rdigits_vc rdigits_2o rdigits_7o rdigits_11o rdigits_9o rdigits_12o rdigits_3o rdigits_0o
noncomputable def rdigitsB : Code := (Tryd.f31.body).getD .skip
theorem rdigits_eq : trCode Tryd.prog 23 14000 rdigitsB = rdigits.erase 14000 := by kernel_rfl
theorem rdigits_body : Tryd.f31.body = some rdigitsB := by kernel_rfl
theorem rdigits_n : Tryd.f31.ntmps = 23 := by kernel_rfl
theorem rdigits_r : Tryd.f31.results.toList.map (trRes Tryd.prog) = [.tmp 2] := by kernel_rfl
theorem rdigits_spec {h : HP} {a0 : AV} {Post : HP → AV → List AV → Prop} (hp : ∀ (E : Env) (R : HP → AV → List AV → Prop), E.N ≤ 1000000 → PostTo Post R → vcW Tryd.prog E rdigits (KQ.post [.tmp 2] 1 R) ⟨[(0, a0)], h⟩) : Eng.Spec Tryd.prog 31 h [a0] Post := spec_wk (
  spec_of (c := rdigits.erase 14000) (B := 14000) Tryd.func31 rdigits_body (by rw [rdigits_n, rdigits_eq]) (by rw [rdigits_n]; decide) (by rw [rdigits_n]; exact (by decide : 1 ≤ 23)) (fun E hE hB hrd => by
    have hN : E.N ≤ 1000000 := by
      rw [hE, rdigits_n]; decide
    rw [rdigits_r, ← hB]
    exact awp_slots [(0, a0)] ⟨rfl, trivial⟩ (vcW_sound hN _ (hp E _ hN fin_self))))
/- cartulary/cartularyref20.Number -/
def rnumber_1o : List ROp := [.v 3 (.mov (.t 0)),
   .cal (some 4) false 15004 31 [(.t 3)],
   .v 5 (.mov (.t 4)),
   .gval 6 5 true false 15006 (.mov (.t 0)),
   .gval 7 5 true false 15007 (.len true (.t 6)),
   .gval 8 5 true false 15008 (.bin .eql (.t 7) (.c (.int .i64 1))),
   .gval 9 5 true false 15009 (.mov (.t 8)),
   .gval 10 9 false false 15010 (.mov (.t 0)),
   .gval 11 9 false false 15011 (.sidx (.t 10) (.c (.int .i64 0))),
   .gval 12 9 false false 15012 (.bin .neq (.t 11) (.c (.int .u8 48))),
   .gval 13 5 true false 15013 (.pick (.t 9) (.c (.bool true)) (.t 12)),
   .v 14 (.pick (.t 5) (.t 13) (.c (.bool false))),
   .v 2 (.mov (.t 14))]
def rnumber_1 : AK := .seq (.reg rnumber_1o [2]) .ret
def rnumber_0o : List ROp := [.v 2 (.mov (.c (.bool false)))]
def rnumber_0 : AK := .seq (.reg rnumber_0o [0]) rnumber_1
def rnumber : AK := rnumber_0
theorem rnumber_vc (P : Program) (E : Env) (Q : KQ) (st : St) :
  (vcW P E rnumber_1 Q st = aopsW P rnumber_1o st (KS.reg [2] (KQ.seq P E .ret Q))) ∧
  (vcW P E rnumber_0 Q st = aopsW P rnumber_0o st (KS.reg [0] (KQ.seq P E rnumber_1 Q))) ∧
  (vcW P E rnumber Q st = vcW P E rnumber_0 Q st) :=
  ⟨rfl, rfl, rfl⟩
theorem rnumber_jn (P : Program) (E : Env) (Q : KQ) (st : St) :
  (True) :=
  trivial
attribute [go_sem] rnumber_vc rnumber_1o rnumber_0o
noncomputable def rnumberB : Code := (Tryd.f36.body).getD .skip
theorem rnumber_eq : trCode Tryd.prog 15 15000 rnumberB = rnumber.erase 15000 := by kernel_rfl
theorem rnumber_body : Tryd.f36.body = some rnumberB := by kernel_rfl
theorem rnumber_n : Tryd.f36.ntmps = 15 := by kernel_rfl
theorem rnumber_r : Tryd.f36.results.toList.map (trRes Tryd.prog) = [.tmp 2] := by kernel_rfl
theorem rnumber_spec {h : HP} {a0 : AV} {Post : HP → AV → List AV → Prop} (hp : ∀ (E : Env) (R : HP → AV → List AV → Prop), E.N ≤ 1000000 → PostTo Post R → vcW Tryd.prog E rnumber (KQ.post [.tmp 2] 1 R) ⟨[(0, a0)], h⟩) : Eng.Spec Tryd.prog 36 h [a0] Post := spec_wk (
  spec_of (c := rnumber.erase 15000) (B := 15000) Tryd.func36 rnumber_body (by rw [rnumber_n, rnumber_eq]) (by rw [rnumber_n]; decide) (by rw [rnumber_n]; exact (by decide : 1 ≤ 15)) (fun E hE hB hrd => by
    have hN : E.N ≤ 1000000 := by
      rw [hE, rnumber_n]; decide
    rw [rnumber_r, ← hB]
    exact awp_slots [(0, a0)] ⟨rfl, trivial⟩ (vcW_sound hN _ (hp E _ hN fin_self))))
/- cartulary/cartularyref20.Words -/
def rwords_2o : List ROp := [.v 4 (.mov (.c (.bool true)))]
def rwords_2 : AK := .seq (.reg rwords_2o [4]) .ret
def rwords_8o : List ROp := [.v 66 (.bin .add (.t 12) (.c (.int .i64 1))),
   .v 12 (.mov (.t 66))]
def rwords_8 : AK := .reg rwords_8o [1, 10, 11, 12]
def rwords_16o : List ROp := [.v 34 (.mov (.t 7)),
   .v 35 (.bin .add (.t 34) (.c (.int .i64 1))),
   .v 7 (.mov (.t 35))]
def rwords_16 : AK := .reg rwords_16o [1, 6, 7, 10, 11, 12]
def rwords_21o : List ROp := [.v 4 (.mov (.c (.bool false)))]
def rwords_21 : AK := .seq (.reg rwords_21o [4]) .ret
def rwords_20 : AK := .cond (.t 65) rwords_21 .skip
def rwords_19o : List ROp := [.v 39 (.mov (.t 8)),
   .v 40 (.bin .geq (.t 39) (.c (.int .u8 48))),
   .v 41 (.mov (.t 40)),
   .gval 42 41 true false 16042 (.mov (.t 8)),
   .gval 43 41 true false 16043 (.bin .leq (.t 42) (.c (.int .u8 57))),
   .v 44 (.pick (.t 41) (.t 43) (.c (.bool false))),
   .v 45 (.mov (.t 44)),
   .gval 46 45 false false 16046 (.mov (.t 8)),
   .gval 47 45 false false 16047 (.bin .geq (.t 46) (.c (.int .u8 97))),
   .gval 48 45 false false 16048 (.mov (.t 47)),
   .gval 49 48 true false 16049 (.mov (.t 8)),
   .gval 50 48 true false 16050 (.bin .leq (.t 49) (.c (.int .u8 122))),
   .gval 51 45 false false 16051 (.pick (.t 48) (.t 50) (.c (.bool false))),
   .v 52 (.pick (.t 45) (.c (.bool true)) (.t 51)),
   .v 53 (.mov (.t 52)),
   .gval 54 53 false false 16054 (.mov (.t 8)),
   .gval 55 53 false false 16055 (.bin .geq (.t 54) (.c (.int .u8 65))),
   .gval 56 53 false false 16056 (.mov (.t 55)),
   .gval 57 56 true false 16057 (.mov (.t 8)),
   .gval 58 56 true false 16058 (.bin .leq (.t 57) (.c (.int .u8 90))),
   .gval 59 53 false false 16059 (.pick (.t 56) (.t 58) (.c (.bool false))),
   .v 60 (.pick (.t 53) (.c (.bool true)) (.t 59)),
   .v 61 (.mov (.t 60)),
   .gval 62 61 false false 16062 (.mov (.t 8)),
   .gval 63 61 false false 16063 (.bin .eql (.t 62) (.c (.int .u8 45))),
   .v 64 (.pick (.t 61) (.c (.bool true)) (.t 63)),
   .v 65 (.un .not (.t 64))]
def rwords_19 : AK := .seq (.reg rwords_19o [1, 6, 7, 10, 11, 12, 65]) rwords_20
def rwords_18o : List ROp := [.v 36 (.mov (.t 6)),
   .v 37 (.mov (.t 7)),
   .v 38 (.sidx (.t 36) (.t 37)),
   .v 8 (.mov (.t 38))]
def rwords_18 : AK := .seq (.reg rwords_18o [1, 6, 7, 8, 10, 11, 12]) rwords_19
def rwords_17 : AK := .block 3 rwords_18
def rwords_15 : AK := .seq rwords_17 rwords_16
def rwords_23 : AK := .cond (.t 33) .skip (.exit 2)
def rwords_22o : List ROp := [.v 30 (.mov (.t 7)),
   .v 31 (.mov (.t 6)),
   .v 32 (.len true (.t 31)),
   .v 33 (.bin .lss (.t 30) (.t 32))]
def rwords_22 : AK := .seq (.reg rwords_22o [1, 6, 7, 10, 11, 12, 33]) rwords_23
def rwords_14 : AK := .seq rwords_22 rwords_15
def rwords_L1 : AK := .loop rwords_14
def rwords_13 : AK := .block 2 rwords_L1
def rwords_12o : List ROp := [.v 7 (.mov (.c (.int .i64 0)))]
def rwords_12 : AK := .seq (.reg rwords_12o [1, 6, 7, 10, 11, 12]) rwords_13
def rwords_26o : List ROp := [.v 4 (.mov (.c (.bool false)))]
def rwords_26 : AK := .seq (.reg rwords_26o [4]) .ret
def rwords_25 : AK := .cond (.t 29) rwords_26 .skip
def rwords_24o : List ROp := [.v 16 (.mov (.t 6)),
   .v 17 (.bin .eql (.t 16) (.c (.str []))),
   .v 18 (.mov (.t 17)),
   .gval 19 18 false false 16019 (.mov (.t 1)),
   .gval 20 18 false false 16020 (.mov (.t 19)),
   .gval 21 20 true false 16021 (.mov (.t 6)),
   .gcal 22 20 true false 16022 31 [(.t 21)],
   .gval 23 18 false false 16023 (.pick (.t 20) (.t 22) (.c (.bool false))),
   .gval 24 18 false false 16024 (.mov (.t 23)),
   .gval 25 24 true false 16025 (.mov (.t 6)),
   .gcal 26 24 true false 16026 36 [(.t 25)],
   .gval 27 24 true false 16027 (.un .not (.t 26)),
   .gval 28 18 false false 16028 (.pick (.t 24) (.t 27) (.c (.bool false))),
   .v 29 (.pick (.t 18) (.c (.bool true)) (.t 28))]
def rwords_24 : AK := .seq (.reg rwords_24o [1, 6, 10, 11, 12, 29]) rwords_25
def rwords_11 : AK := .seq rwords_24 rwords_12
def rwords_10o : List ROp := [.v 14 (.idxA 1 (.t 10) (.t 12)),
   .v 15 (.ld false 1 (.t 14)),
   .v 6 (.mov (.t 15))]
def rwords_10 : AK := .seq (.reg rwords_10o [1, 6, 10, 11, 12]) rwords_11
def rwords_9 : AK := .block 1 rwords_10
def rwords_7 : AK := .seq rwords_9 rwords_8
def rwords_27 : AK := .cond (.t 13) .skip (.exit 0)
def rwords_6 : AK := .seq rwords_27 rwords_7
def rwords_5o : List ROp := [.v 13 (.bin .lss (.t 12) (.t 11))]
def rwords_5 : AK := .seq (.reg rwords_5o [1, 10, 11, 12, 13]) rwords_6
def rwords_L0 : AK := .loop rwords_5
def rwords_4 : AK := .block 0 rwords_L0
def rwords_3o : List ROp := [.v 9 (.mov (.t 0)),
   .cal (some 10) false 16010 30 [(.t 9), (.c (.int .u8 46))],
   .v 11 (.len false (.t 10)),
   .v 12 (.mov (.c (.int .i64 0)))]
def rwords_3 : AK := .seq (.reg rwords_3o [1, 10, 11, 12]) rwords_4
def rwords_1 : AK := .seq rwords_3 rwords_2
def rwords_0o : List ROp := [.v 4 (.mov (.c (.bool false)))]
def rwords_0 : AK := .seq (.reg rwords_0o [0, 1]) rwords_1
def rwords : AK := rwords_0
theorem rwords_vc (P : Program) (E : Env) (Q : KQ) (st : St) :
  (vcW P E rwords_2 Q st = aopsW P rwords_2o st (KS.reg [4] (KQ.seq P E .ret Q))) ∧
  (vcW P E rwords_8 Q st = aopsW P rwords_8o st (KS.reg [1, 10, 11, 12] Q)) ∧
  (vcW P E rwords_16 Q st = aopsW P rwords_16o st (KS.reg [1, 6, 7, 10, 11, 12] Q)) ∧
  (vcW P E rwords_21 Q st = aopsW P rwords_21o st (KS.reg [4] (KQ.seq P E .ret Q))) ∧
  (vcW P E rwords_20 Q st = cndW P E (ev st (.t 65)) rwords_21 .skip Q st) ∧
  (vcW P E rwords_19 Q st = aopsW P rwords_19o st (KS.reg [1, 6, 7, 10, 11, 12, 65] (KQ.seq P E rwords_20 Q))) ∧
  (vcW P E rwords_18 Q st = aopsW P rwords_18o st (KS.reg [1, 6, 7, 8, 10, 11, 12] (KQ.seq P E rwords_19 Q))) ∧
  (vcW P E rwords_17 Q st = vcW P E rwords_18 (KQ.blk 3 Q) st) ∧
  (vcW P E rwords_15 Q st = vcW P E rwords_17 (KQ.seq P E rwords_16 Q) st) ∧
  (vcW P E rwords_23 Q st = cndW P E (ev st (.t 33)) .skip (.exit 2) Q st) ∧
  (vcW P E rwords_22 Q st = aopsW P rwords_22o st (KS.reg [1, 6, 7, 10, 11, 12, 33] (KQ.seq P E rwords_23 Q))) ∧
  (vcW P E rwords_14 Q st = vcW P E rwords_22 (KQ.seq P E rwords_15 Q) st) ∧
  (vcW P E rwords_13 Q st = vcW P E rwords_L1 (KQ.blk 2 Q) st) ∧
  (vcW P E rwords_12 Q st = aopsW P rwords_12o st (KS.reg [1, 6, 7, 10, 11, 12] (KQ.seq P E rwords_13 Q))) ∧
  (vcW P E rwords_26 Q st = aopsW P rwords_26o st (KS.reg [4] (KQ.seq P E .ret Q))) ∧
  (vcW P E rwords_25 Q st = cndW P E (ev st (.t 29)) rwords_26 .skip Q st) ∧
  (vcW P E rwords_24 Q st = aopsW P rwords_24o st (KS.reg [1, 6, 10, 11, 12, 29] (KQ.seq P E rwords_25 Q))) ∧
  (vcW P E rwords_11 Q st = vcW P E rwords_24 (KQ.seq P E rwords_12 Q) st) ∧
  (vcW P E rwords_10 Q st = aopsW P rwords_10o st (KS.reg [1, 6, 10, 11, 12] (KQ.seq P E rwords_11 Q))) ∧
  (vcW P E rwords_9 Q st = vcW P E rwords_10 (KQ.blk 1 Q) st) ∧
  (vcW P E rwords_7 Q st = vcW P E rwords_9 (KQ.seq P E rwords_8 Q) st) ∧
  (vcW P E rwords_27 Q st = cndW P E (ev st (.t 13)) .skip (.exit 0) Q st) ∧
  (vcW P E rwords_6 Q st = vcW P E rwords_27 (KQ.seq P E rwords_7 Q) st) ∧
  (vcW P E rwords_5 Q st = aopsW P rwords_5o st (KS.reg [1, 10, 11, 12, 13] (KQ.seq P E rwords_6 Q))) ∧
  (vcW P E rwords_4 Q st = vcW P E rwords_L0 (KQ.blk 0 Q) st) ∧
  (vcW P E rwords_3 Q st = aopsW P rwords_3o st (KS.reg [1, 10, 11, 12] (KQ.seq P E rwords_4 Q))) ∧
  (vcW P E rwords_1 Q st = vcW P E rwords_3 (KQ.seq P E rwords_2 Q) st) ∧
  (vcW P E rwords_0 Q st = aopsW P rwords_0o st (KS.reg [0, 1] (KQ.seq P E rwords_1 Q))) ∧
  (vcW P E rwords Q st = vcW P E rwords_0 Q st) :=
  ⟨rfl, rfl, rfl, rfl, vcW_cond, rfl, rfl, rfl, rfl, vcW_cond, rfl, rfl, rfl, rfl, rfl, vcW_cond, rfl, rfl, rfl, rfl, rfl, vcW_cond, rfl, rfl, rfl, rfl, rfl, rfl, rfl⟩
theorem rwords_jn (P : Program) (E : Env) (Q : KQ) (st : St) :
  (True) :=
  trivial
attribute [go_sem] rwords_vc rwords_2o rwords_8o rwords_16o rwords_21o rwords_19o rwords_18o rwords_22o rwords_12o rwords_26o rwords_24o rwords_10o rwords_5o rwords_3o rwords_0o
noncomputable def rwordsB : Code := (Tryd.f35.body).getD .skip
theorem rwords_eq : trCode Tryd.prog 67 16000 rwordsB = rwords.erase 16000 := by kernel_rfl
theorem rwords_body : Tryd.f35.body = some rwordsB := by kernel_rfl
theorem rwords_n : Tryd.f35.ntmps = 67 := by kernel_rfl
theorem rwords_r : Tryd.f35.results.toList.map (trRes Tryd.prog) = [.tmp 4] := by kernel_rfl
theorem rwords_spec {h : HP} {a0 a1 : AV} {Post : HP → AV → List AV → Prop} (hp : ∀ (E : Env) (R : HP → AV → List AV → Prop), E.N ≤ 1000000 → PostTo Post R → vcW Tryd.prog E rwords (KQ.post [.tmp 4] 2 R) ⟨[(0, a0), (1, a1)], h⟩) : Eng.Spec Tryd.prog 35 h [a0, a1] Post := spec_wk (
  spec_of (c := rwords.erase 16000) (B := 16000) Tryd.func35 rwords_body (by rw [rwords_n, rwords_eq]) (by rw [rwords_n]; decide) (by rw [rwords_n]; exact (by decide : 2 ≤ 67)) (fun E hE hB hrd => by
    have hN : E.N ≤ 1000000 := by
      rw [hE, rwords_n]; decide
    rw [rwords_r, ← hB]
    exact awp_slots [(0, a0), (1, a1)] ⟨rfl, rfl, trivial⟩ (vcW_sound hN _ (hp E _ hN fin_self))))
/- cartulary/cartularyref20.Parse -/
def rparse_17o : List ROp := [.v 107 (.ld true 6 (.t 4)),
   .effN false 17000 (.st 6 (.t 2) (.t 107)),
   .v 3 (.mov (.c (.bool true)))]
def rparse_17 : AK := .seq (.reg rparse_17o [2, 3]) .ret
def rparse_16o : List ROp := [.v 103 (.mov (.t 8)),
   .v 104 (.idxA 1 (.t 103) (.c (.int .i64 2))),
   .v 105 (.ld false 1 (.t 104)),
   .v 106 (.fldA false 2 1 (.t 4)),
   .effN false 17000 (.st 1 (.t 106) (.t 105))]
def rparse_16 : AK := .seq (.reg rparse_16o [2, 4]) rparse_17
def rparse_15o : List ROp := [.v 99 (.mov (.t 8)),
   .v 100 (.idxA 1 (.t 99) (.c (.int .i64 1))),
   .v 101 (.ld false 1 (.t 100)),
   .v 102 (.fldA false 1 1 (.t 4)),
   .effN false 17000 (.st 1 (.t 102) (.t 101))]
def rparse_15 : AK := .seq (.reg rparse_15o [2, 4, 8]) rparse_16
def rparse_14o : List ROp := [.v 95 (.mov (.t 8)),
   .v 96 (.idxA 1 (.t 95) (.c (.int .i64 0))),
   .v 97 (.ld false 1 (.t 96)),
   .v 98 (.fldA false 0 1 (.t 4)),
   .effN false 17000 (.st 1 (.t 98) (.t 97))]
def rparse_14 : AK := .seq (.reg rparse_14o [2, 4, 8]) rparse_15
def rparse_13o : List ROp := [.v 92 (.mov (.t 8)),
   .eff 93 false 17093 (.bsl 1 [(.c (.str [48])), (.c (.str [48]))]),
   .eff 94 false 17094 (.app 1 16 (.t 92) (.t 93)),
   .v 8 (.mov (.t 94))]
def rparse_13 : AK := .seq (.reg rparse_13o [2, 4, 8]) rparse_14
def rparse_23o : List ROp := [.v 91 (.bin .add (.t 83) (.c (.int .i64 1))),
   .v 83 (.mov (.t 91))]
def rparse_23 : AK := .reg rparse_23o [2, 4, 8, 81, 82, 83]
def rparse_28o : List ROp := [.v 90 (.bld [.str [], .str [], .str [], .str [], .str [], .int .i64 0] []),
   .effN false 17000 (.st 6 (.t 2) (.t 90)),
   .v 3 (.mov (.c (.bool false)))]
def rparse_28 : AK := .seq (.reg rparse_28o [2, 3]) .ret
def rparse_27 : AK := .cond (.t 89) rparse_28 .skip
def rparse_26o : List ROp := [.v 87 (.mov (.t 10)),
   .cal (some 88) false 17088 36 [(.t 87)],
   .v 89 (.un .not (.t 88))]
def rparse_26 : AK := .seq (.reg rparse_26o [2, 4, 8, 81, 82, 83, 89]) rparse_27
def rparse_25o : List ROp := [.v 85 (.idxA 1 (.t 81) (.t 83)),
   .v 86 (.ld false 1 (.t 85)),
   .v 10 (.mov (.t 86))]
def rparse_25 : AK := .seq (.reg rparse_25o [2, 4, 8, 10, 81, 82, 83]) rparse_26
def rparse_24 : AK := .block 1 rparse_25
def rparse_22 : AK := .seq rparse_24 rparse_23
def rparse_29 : AK := .cond (.t 84) .skip (.exit 0)
def rparse_21 : AK := .seq rparse_29 rparse_22
def rparse_20o : List ROp := [.v 84 (.bin .lss (.t 83) (.t 82))]
def rparse_20 : AK := .seq (.reg rparse_20o [2, 4, 8, 81, 82, 83, 84]) rparse_21
def rparse_L0 : AK := .loop rparse_20
def rparse_19 : AK := .block 0 rparse_L0
def rparse_18o : List ROp := [.v 81 (.mov (.t 8)),
   .v 82 (.len false (.t 81)),
   .v 83 (.mov (.c (.int .i64 0)))]
def rparse_18 : AK := .seq (.reg rparse_18o [2, 4, 8, 81, 82, 83]) rparse_19
def rparse_12 : AK := .seq rparse_18 rparse_13
def rparse_32o : List ROp := [.v 80 (.bld [.str [], .str [], .str [], .str [], .str [], .int .i64 0] []),
   .effN false 17000 (.st 6 (.t 2) (.t 80)),
   .v 3 (.mov (.c (.bool false)))]
def rparse_32 : AK := .seq (.reg rparse_32o [2, 3]) .ret
def rparse_31 : AK := .cond (.t 79) rparse_32 .skip
def rparse_30o : List ROp := [.v 69 (.fldA false 5 1 (.t 4)),
   .v 70 (.ld false 1 (.t 69)),
   .v 71 (.bin .lss (.t 70) (.c (.int .i64 0))),
   .v 72 (.mov (.t 71)),
   .gval 73 72 false false 17073 (.mov (.t 6)),
   .gval 74 72 false false 17074 (.mov (.t 73)),
   .gval 75 74 true false 17075 (.fldA false 5 1 (.t 4)),
   .gval 76 74 true false 17076 (.ld false 1 (.t 75)),
   .gval 77 74 true false 17077 (.bin .gtr (.t 76) (.c (.int .i64 0))),
   .gval 78 72 false false 17078 (.pick (.t 74) (.t 77) (.c (.bool false))),
   .v 79 (.pick (.t 72) (.c (.bool true)) (.t 78))]
def rparse_30 : AK := .seq (.reg rparse_30o [2, 4, 8, 79]) rparse_31
def rparse_11 : AK := .seq rparse_30 rparse_12
def rparse_10o : List ROp := [.v 65 (.mov (.t 8)),
   .v 66 (.len false (.t 65)),
   .v 67 (.bin .sub (.c (.int .i64 3)) (.t 66)),
   .v 68 (.fldA false 5 1 (.t 4)),
   .effN false 17000 (.st 1 (.t 68) (.t 67))]
def rparse_10 : AK := .seq (.reg rparse_10o [2, 4, 6, 8]) rparse_11
def rparse_9o : List ROp := [.v 63 (.mov (.t 0)),
   .cal (some 64) false 17064 30 [(.t 63), (.c (.int .u8 46))],
   .v 8 (.mov (.t 64))]
def rparse_9 : AK := .seq (.reg rparse_9o [2, 4, 6, 8]) rparse_10
def rparse_40o : List ROp := [.v 62 (.bld [.str [], .str [], .str [], .str [], .str [], .int .i64 0] []),
   .effN false 17000 (.st 6 (.t 2) (.t 62)),
   .v 3 (.mov (.c (.bool false)))]
def rparse_40 : AK := .seq (.reg rparse_40o [2, 3]) .ret
def rparse_39 : AK := .cond (.t 61) rparse_40 .skip
def rparse_38o : List ROp := [.v 58 (.fldA false 3 1 (.t 4)),
   .v 59 (.ld false 1 (.t 58)),
   .cal (some 60) false 17060 35 [(.t 59), (.c (.bool true))],
   .v 61 (.un .not (.t 60))]
def rparse_38 : AK := .seq (.reg rparse_38o [0, 2, 4, 6, 61]) rparse_39
def rparse_37o : List ROp := [.v 6 (.mov (.c (.bool true)))]
def rparse_37 : AK := .seq (.reg rparse_37o [0, 2, 4, 6]) rparse_38
def rparse_36o : List ROp := [.v 55 (.mov (.t 0)),
   .v 56 (.mov (.t 7)),
   .v 57 (.slcS (.t 55) none (some (.t 56))),
   .v 0 (.mov (.t 57))]
def rparse_36 : AK := .seq (.reg rparse_36o [0, 2, 4]) rparse_37
def rparse_35o : List ROp := [.v 50 (.mov (.t 0)),
   .v 51 (.mov (.t 7)),
   .v 52 (.bin .add (.t 51) (.c (.int .i64 1))),
   .v 53 (.slcS (.t 50) (some (.t 52)) none),
   .v 54 (.fldA false 3 1 (.t 4)),
   .effN false 17000 (.st 1 (.t 54) (.t 53))]
def rparse_35 : AK := .seq (.reg rparse_35o [0, 2, 4, 7]) rparse_36
def rparse_34 : AK := .cond (.t 49) rparse_35 .skip
def rparse_33o : List ROp := [.v 48 (.mov (.t 7)),
   .v 49 (.bin .geq (.t 48) (.c (.int .i64 0)))]
def rparse_33 : AK := .seq (.reg rparse_33o [0, 2, 4, 6, 7, 49]) rparse_34
def rparse_8 : AK := .seq rparse_33 (.mid rparse_9)
def rparse_7o : List ROp := [.v 46 (.mov (.t 0)),
   .cal (some 47) false 17047 34 [(.t 46), (.c (.int .u8 45))],
   .v 7 (.mov (.t 47))]
def rparse_7 : AK := .seq (.reg rparse_7o [0, 2, 4, 6, 7]) rparse_8
def rparse_47o : List ROp := [.v 45 (.bld [.str [], .str [], .str [], .str [], .str [], .int .i64 0] []),
   .effN false 17000 (.st 6 (.t 2) (.t 45)),
   .v 3 (.mov (.c (.bool false)))]
def rparse_47 : AK := .seq (.reg rparse_47o [2, 3]) .ret
def rparse_46 : AK := .cond (.t 44) rparse_47 .skip
def rparse_45o : List ROp := [.v 41 (.fldA false 4 1 (.t 4)),
   .v 42 (.ld false 1 (.t 41)),
   .cal (some 43) false 17043 35 [(.t 42), (.c (.bool false))],
   .v 44 (.un .not (.t 43))]
def rparse_45 : AK := .seq (.reg rparse_45o [0, 2, 4, 6, 44]) rparse_46
def rparse_44o : List ROp := [.v 38 (.mov (.t 0)),
   .v 39 (.mov (.t 5)),
   .v 40 (.slcS (.t 38) none (some (.t 39))),
   .v 0 (.mov (.t 40))]
def rparse_44 : AK := .seq (.reg rparse_44o [0, 2, 4, 6]) rparse_45
def rparse_43o : List ROp := [.v 33 (.mov (.t 0)),
   .v 34 (.mov (.t 5)),
   .v 35 (.bin .add (.t 34) (.c (.int .i64 1))),
   .v 36 (.slcS (.t 33) (some (.t 35)) none),
   .v 37 (.fldA false 4 1 (.t 4)),
   .effN false 17000 (.st 1 (.t 37) (.t 36))]
def rparse_43 : AK := .seq (.reg rparse_43o [0, 2, 4, 5, 6]) rparse_44
def rparse_42 : AK := .cond (.t 32) rparse_43 .skip
def rparse_41o : List ROp := [.v 32 (.mov (.t 6))]
def rparse_41 : AK := .seq (.reg rparse_41o [0, 2, 4, 5, 6, 32]) rparse_42
def rparse_6 : AK := .seq rparse_41 (.mid rparse_7)
def rparse_5o : List ROp := [.v 30 (.mov (.t 5)),
   .v 31 (.bin .geq (.t 30) (.c (.int .i64 0))),
   .v 6 (.mov (.t 31))]
def rparse_5 : AK := .seq (.reg rparse_5o [0, 2, 4, 5, 6]) rparse_6
def rparse_4o : List ROp := [.v 28 (.mov (.t 0)),
   .cal (some 29) false 17029 34 [(.t 28), (.c (.int .u8 43))],
   .v 5 (.mov (.t 29))]
def rparse_4 : AK := .seq (.reg rparse_4o [0, 2, 4, 5]) rparse_5
def rparse_3o : List ROp := [.v 27 (.bld [.str [], .str [], .str [], .str [], .str [], .int .i64 0] []),
   .eff 4 false 17004 (.alloc [.str [], .str [], .str [], .str [], .str [], .int .i64 0]),
   .effN false 17000 (.st 6 (.t 4) (.t 27))]
def rparse_3 : AK := .seq (.reg rparse_3o [0, 2, 4]) rparse_4
def rparse_2o : List ROp := [.v 25 (.mov (.t 0)),
   .v 26 (.slcS (.t 25) (some (.c (.int .i64 1))) none),
   .v 0 (.mov (.t 26))]
def rparse_2 : AK := .seq (.reg rparse_2o [0, 2]) rparse_3
def rparse_50o : List ROp := [.v 24 (.bld [.str [], .str [], .str [], .str [], .str [], .int .i64 0] []),
   .effN false 17000 (.st 6 (.t 2) (.t 24)),
   .v 3 (.mov (.c (.bool false)))]
def rparse_50 : AK := .seq (.reg rparse_50o [2, 3]) .ret
def rparse_49 : AK := .cond (.t 23) rparse_50 .skip
def rparse_48o : List ROp := [.v 11 (.mov (.t 0)),
   .v 12 (.len true (.t 11)),
   .v 13 (.bin .lss (.t 12) (.c (.int .i64 2))),
   .v 14 (.mov (.t 13)),
   .gval 15 14 false false 17015 (.mov (.t 0)),
   .gval 16 14 false false 17016 (.len true (.t 15)),
   .gval 17 14 false false 17017 (.bin .gtr (.t 16) (.c (.int .i64 100))),
   .v 18 (.pick (.t 14) (.c (.bool true)) (.t 17)),
   .v 19 (.mov (.t 18)),
   .gval 20 19 false false 17020 (.mov (.t 0)),
   .gval 21 19 false false 17021 (.sidx (.t 20) (.c (.int .i64 0))),
   .gval 22 19 false false 17022 (.bin .neq (.t 21) (.c (.int .u8 118))),
   .v 23 (.pick (.t 19) (.c (.bool true)) (.t 22))]
def rparse_48 : AK := .seq (.reg rparse_48o [0, 2, 23]) rparse_49
def rparse_1 : AK := .seq rparse_48 rparse_2
def rparse_0o : List ROp := [.eff 2 false 17002 (.alloc [.str [], .str [], .str [], .str [], .str [], .int .i64 0]),
   .v 3 (.mov (.c (.bool false)))]
def rparse_0 : AK := .seq (.reg rparse_0o [0, 2]) rparse_1
def rparse : AK := rparse_0
theorem rparse_vc (P : Program) (E : Env) (Q : KQ) (st : St) :
  (vcW P E rparse_17 Q st = aopsW P rparse_17o st (KS.reg [2, 3] (KQ.seq P E .ret Q))) ∧
  (vcW P E rparse_16 Q st = aopsW P rparse_16o st (KS.reg [2, 4] (KQ.seq P E rparse_17 Q))) ∧
  (vcW P E rparse_15 Q st = aopsW P rparse_15o st (KS.reg [2, 4, 8] (KQ.seq P E rparse_16 Q))) ∧
  (vcW P E rparse_14 Q st = aopsW P rparse_14o st (KS.reg [2, 4, 8] (KQ.seq P E rparse_15 Q))) ∧
  (vcW P E rparse_13 Q st = aopsW P rparse_13o st (KS.reg [2, 4, 8] (KQ.seq P E rparse_14 Q))) ∧
  (vcW P E rparse_23 Q st = aopsW P rparse_23o st (KS.reg [2, 4, 8, 81, 82, 83] Q)) ∧
  (vcW P E rparse_28 Q st = aopsW P rparse_28o st (KS.reg [2, 3] (KQ.seq P E .ret Q))) ∧
  (vcW P E rparse_27 Q st = cndW P E (ev st (.t 89)) rparse_28 .skip Q st) ∧
  (vcW P E rparse_26 Q st = aopsW P rparse_26o st (KS.reg [2, 4, 8, 81, 82, 83, 89] (KQ.seq P E rparse_27 Q))) ∧
  (vcW P E rparse_25 Q st = aopsW P rparse_25o st (KS.reg [2, 4, 8, 10, 81, 82, 83] (KQ.seq P E rparse_26 Q))) ∧
  (vcW P E rparse_24 Q st = vcW P E rparse_25 (KQ.blk 1 Q) st) ∧
  (vcW P E rparse_22 Q st = vcW P E rparse_24 (KQ.seq P E rparse_23 Q) st) ∧
  (vcW P E rparse_29 Q st = cndW P E (ev st (.t 84)) .skip (.exit 0) Q st) ∧
  (vcW P E rparse_21 Q st = vcW P E rparse_29 (KQ.seq P E rparse_22 Q) st) ∧
  (vcW P E rparse_20 Q st = aopsW P rparse_20o st (KS.reg [2, 4, 8, 81, 82, 83, 84] (KQ.seq P E rparse_21 Q))) ∧
  (vcW P E rparse_19 Q st = vcW P E rparse_L0 (KQ.blk 0 Q) st) ∧
  (vcW P E rparse_18 Q st = aopsW P rparse_18o st (KS.reg [2, 4, 8, 81, 82, 83] (KQ.seq P E rparse_19 Q))) ∧
  (vcW P E rparse_12 Q st = vcW P E rparse_18 (KQ.seq P E rparse_13 Q) st) ∧
  (vcW P E rparse_32 Q st = aopsW P rparse_32o st (KS.reg [2, 3] (KQ.seq P E .ret Q))) ∧
  (vcW P E rparse_31 Q st = cndW P E (ev st (.t 79)) rparse_32 .skip Q st) ∧
  (vcW P E rparse_30 Q st = aopsW P rparse_30o st (KS.reg [2, 4, 8, 79] (KQ.seq P E rparse_31 Q))) ∧
  (vcW P E rparse_11 Q st = vcW P E rparse_30 (KQ.seq P E rparse_12 Q) st) ∧
  (vcW P E rparse_10 Q st = aopsW P rparse_10o st (KS.reg [2, 4, 6, 8] (KQ.seq P E rparse_11 Q))) ∧
  (vcW P E rparse_9 Q st = aopsW P rparse_9o st (KS.reg [2, 4, 6, 8] (KQ.seq P E rparse_10 Q))) ∧
  (vcW P E rparse_40 Q st = aopsW P rparse_40o st (KS.reg [2, 3] (KQ.seq P E .ret Q))) ∧
  (vcW P E rparse_39 Q st = cndW P E (ev st (.t 61)) rparse_40 .skip Q st) ∧
  (vcW P E rparse_38 Q st = aopsW P rparse_38o st (KS.reg [0, 2, 4, 6, 61] (KQ.seq P E rparse_39 Q))) ∧
  (vcW P E rparse_37 Q st = aopsW P rparse_37o st (KS.reg [0, 2, 4, 6] (KQ.seq P E rparse_38 Q))) ∧
  (vcW P E rparse_36 Q st = aopsW P rparse_36o st (KS.reg [0, 2, 4] (KQ.seq P E rparse_37 Q))) ∧
  (vcW P E rparse_35 Q st = aopsW P rparse_35o st (KS.reg [0, 2, 4, 7] (KQ.seq P E rparse_36 Q))) ∧
  (vcW P E rparse_34 Q st = cndW P E (ev st (.t 49)) rparse_35 .skip Q st) ∧
  (vcW P E rparse_33 Q st = aopsW P rparse_33o st (KS.reg [0, 2, 4, 6, 7, 49] (KQ.seq P E rparse_34 Q))) ∧
  (vcW P E rparse_7 Q st = aopsW P rparse_7o st (KS.reg [0, 2, 4, 6, 7] (KQ.seq P E rparse_8 Q))) ∧
  (vcW P E rparse_47 Q st = aopsW P rparse_47o st (KS.reg [2, 3] (KQ.seq P E .ret Q))) ∧
  (vcW P E rparse_46 Q st = cndW P E (ev st (.t 44)) rparse_47 .skip Q st) ∧
  (vcW P E rparse_45 Q st = aopsW P rparse_45o st (KS.reg [0, 2, 4, 6, 44] (KQ.seq P E rparse_46 Q))) ∧
  (vcW P E rparse_44 Q st = aopsW P rparse_44o st (KS.reg [0, 2, 4, 6] (KQ.seq P E rparse_45 Q))) ∧
  (vcW P E rparse_43 Q st = aopsW P rparse_43o st (KS.reg [0, 2, 4, 5, 6] (KQ.seq P E rparse_44 Q))) ∧
  (vcW P E rparse_42 Q st = cndW P E (ev st (.t 32)) rparse_43 .skip Q st) ∧
  (vcW P E rparse_41 Q st = aopsW P rparse_41o st (KS.reg [0, 2, 4, 5, 6, 32] (KQ.seq P E rparse_42 Q))) ∧
  (vcW P E rparse_5 Q st = aopsW P rparse_5o st (KS.reg [0, 2, 4, 5, 6] (KQ.seq P E rparse_6 Q))) ∧
  (vcW P E rparse_4 Q st = aopsW P rparse_4o st (KS.reg [0, 2, 4, 5] (KQ.seq P E rparse_5 Q))) ∧
  (vcW P E rparse_3 Q st = aopsW P rparse_3o st (KS.reg [0, 2, 4] (KQ.seq P E rparse_4 Q))) ∧
  (vcW P E rparse_2 Q st = aopsW P rparse_2o st (KS.reg [0, 2] (KQ.seq P E rparse_3 Q))) ∧
  (vcW P E rparse_50 Q st = aopsW P rparse_50o st (KS.reg [2, 3] (KQ.seq P E .ret Q))) ∧
  (vcW P E rparse_49 Q st = cndW P E (ev st (.t 23)) rparse_50 .skip Q st) ∧
  (vcW P E rparse_48 Q st = aopsW P rparse_48o st (KS.reg [0, 2, 23] (KQ.seq P E rparse_49 Q))) ∧
  (vcW P E rparse_1 Q st = vcW P E rparse_48 (KQ.seq P E rparse_2 Q) st) ∧
  (vcW P E rparse_0 Q st = aopsW P rparse_0o st (KS.reg [0, 2] (KQ.seq P E rparse_1 Q))) ∧
  (vcW P E rparse Q st = vcW P E rparse_0 Q st) :=
  ⟨rfl, rfl, rfl, rfl, rfl, rfl, rfl, vcW_cond, rfl, rfl, rfl, rfl, vcW_cond, rfl, rfl, rfl, rfl, rfl, rfl, vcW_cond, rfl, rfl, rfl, rfl, rfl, vcW_cond, rfl, rfl, rfl, rfl, vcW_cond, rfl, rfl, rfl, vcW_cond, rfl, rfl, rfl, vcW_cond, rfl, rfl, rfl, rfl, rfl, rfl, vcW_cond, rfl, rfl, rfl, rfl⟩
theorem rparse_jn (P : Program) (E : Env) (Q : KQ) (st : St) :
  (vcW P E rparse_8 Q st = vcW P E rparse_33 (KQ.seq P E (.mid rparse_9) Q) st) ∧
  (vcW P E rparse_6 Q st = vcW P E rparse_41 (KQ.seq P E (.mid rparse_7) Q) st) :=
  ⟨rfl, rfl⟩
attribute [go_sem] rparse_vc rparse_17o rparse_16o rparse_15o rparse_14o rparse_13o rparse_23o rparse_28o rparse_26o rparse_25o rparse_20o rparse_18o rparse_32o rparse_30o rparse_10o rparse_9o rparse_40o rparse_38o rparse_37o rparse_36o rparse_35o rparse_33o rparse_7o rparse_47o rparse_45o rparse_44o rparse_43o rparse_41o rparse_5o rparse_4o rparse_3o rparse_2o rparse_50o rparse_48o rparse_0o
noncomputable def rparseB : Code := (Tryd.f17.body).getD .skip
theorem rparse_eq : trCode Tryd.prog 108 17000 rparseB = rparse.erase 17000 := by kernel_rfl
theorem rparse_body : Tryd.f17.body = some rparseB := by kernel_rfl
theorem rparse_n : Tryd.f17.ntmps = 108 := by kernel_rfl
theorem rparse_r : Tryd.f17.results.toList.map (trRes Tryd.prog) = [.cell 2 true 6, .tmp 3] := by kernel_rfl
theorem rparse_spec {h : HP} {a0 : AV} {Post : HP → AV → List AV → Prop} (hp : ∀ (E : Env) (R : HP → AV → List AV → Prop), E.N ≤ 1000000 → PostTo Post R → vcW Tryd.prog E rparse (KQ.post [.cell 2 true 6, .tmp 3] 1 R) ⟨[(0, a0)], h⟩) : Eng.Spec Tryd.prog 17 h [a0] Post := spec_wk (
  spec_of (c := rparse.erase 17000) (B := 17000) Tryd.func17 rparse_body (by rw [rparse_n, rparse_eq]) (by rw [rparse_n]; decide) (by rw [rparse_n]; exact (by decide : 1 ≤ 108)) (fun E hE hB hrd => by
    have hN : E.N ≤ 1000000 := by
      rw [hE, rparse_n]; decide
    rw [rparse_r, ← hB]
    exact awp_slots [(0, a0)] ⟨rfl, trivial⟩ (vcW_sound hN _ (hp E _ hN fin_self))))
/- cartulary/cartularyref20.level -/
def level_3o : List ROp := [.v 4 (.mov (.c (.int .i64 0)))]
def level_3 : AK := .seq (.reg level_3o [4]) .ret
def level_6o : List ROp := [.v 4 (.mov (.c (.int .i64 1)))]
def level_6 : AK := .seq (.reg level_6o [4]) .ret
def level_5 : AK := .cond (.t 10) level_6 .skip
def level_4o : List ROp := [.v 8 (.mov (.t 0)),
   .v 9 (.mov (.t 1)),
   .v 10 (.bin .gtr (.t 8) (.t 9))]
def level_4 : AK := .seq (.reg level_4o [10]) level_5
def level_2 : AK := .seq level_4 level_3
def level_9o : List ROp := [.v 4 (.mov (.c (.int .i64 (-1))))]
def level_9 : AK := .seq (.reg level_9o [4]) .ret
def level_8 : AK := .cond (.t 7) level_9 .skip
def level_7o : List ROp := [.v 5 (.mov (.t 0)),
   .v 6 (.mov (.t 1)),
   .v 7 (.bin .lss (.t 5) (.t 6))]
def level_7 : AK := .seq (.reg level_7o [0, 1, 7]) level_8
def level_1 : AK := .seq level_7 level_2
def level_0o : List ROp := [.v 4 (.mov (.c (.int .i64 0)))]
def level_0 : AK := .seq (.reg level_0o [0, 1]) level_1
def level : AK := level_0
theorem level_vc (P : Program) (E : Env) (Q : KQ) (st : St) :
  (vcW P E level_3 Q st = aopsW P level_3o st (KS.reg [4] (KQ.seq P E .ret Q))) ∧
  (vcW P E level_6 Q st = aopsW P level_6o st (KS.reg [4] (KQ.seq P E .ret Q))) ∧
  (vcW P E level_5 Q st = cndW P E (ev st (.t 10)) level_6 .skip Q st) ∧
  (vcW P E level_4 Q st = aopsW P level_4o st (KS.reg [10] (KQ.seq P E level_5 Q))) ∧
  (vcW P E level_2 Q st = vcW P E level_4 (KQ.seq P E level_3 Q) st) ∧
  (vcW P E level_9 Q st = aopsW P level_9o st (KS.reg [4] (KQ.seq P E .ret Q))) ∧
  (vcW P E level_8 Q st = cndW P E (ev st (.t 7)) level_9 .skip Q st) ∧
  (vcW P E level_7 Q st = aopsW P level_7o st (KS.reg [0, 1, 7] (KQ.seq P E level_8 Q))) ∧
  (vcW P E level_1 Q st = vcW P E level_7 (KQ.seq P E level_2 Q) st) ∧
  (vcW P E level_0 Q st = aopsW P level_0o st (KS.reg [0, 1] (KQ.seq P E level_1 Q))) ∧
  (vcW P E level Q st = vcW P E level_0 Q st) :=
  ⟨rfl, rfl, vcW_cond, rfl, rfl, rfl, vcW_cond, rfl, rfl, rfl, rfl⟩
theorem level_jn (P : Program) (E : Env) (Q : KQ) (st : St) :
  (True) :=
  trivial
attribute [go_sem] level_vc level_3o level_6o level_4o level_9o level_7o level_0o
noncomputable def levelB : Code := (Tryd.f32.body).getD .skip
theorem level_eq : trCode Tryd.prog 11 18000 levelB = level.erase 18000 := by kernel_rfl
theorem level_body : Tryd.f32.body = some levelB := by kernel_rfl
theorem level_n : Tryd.f32.ntmps = 11 := by kernel_rfl
theorem level_r : Tryd.f32.results.toList.map (trRes Tryd.prog) = [.tmp 4] := by kernel_rfl
theorem level_spec {h : HP} {a0 a1 : AV} {Post : HP → AV → List AV → Prop} (hp : ∀ (E : Env) (R : HP → AV → List AV → Prop), E.N ≤ 1000000 → PostTo Post R → vcW Tryd.prog E level (KQ.post [.tmp 4] 2 R) ⟨[(0, a0), (1, a1)], h⟩) : Eng.Spec Tryd.prog 32 h [a0, a1] Post := spec_wk (
  spec_of (c := level.erase 18000) (B := 18000) Tryd.func32 level_body (by rw [level_n, level_eq]) (by rw [level_n]; decide) (by rw [level_n]; exact (by decide : 2 ≤ 11)) (fun E hE hB hrd => by
    have hN : E.N ≤ 1000000 := by
      rw [hE, level_n]; decide
    rw [level_r, ← hB]
    exact awp_slots [(0, a0), (1, a1)] ⟨rfl, rfl, trivial⟩ (vcW_sound hN _ (hp E _ hN fin_self))))
/- cartulary/cartularyref20.ByNumber -/
def rbyNumber_3o : List ROp := [.v 19 (.mov (.t 0)),
   .v 20 (.mov (.t 1)),
   .cal (some 21) false 19021 32 [(.t 19), (.t 20)],
   .v 4 (.mov (.t 21))]
def rbyNumber_3 : AK := .seq (.reg rbyNumber_3o [4]) .ret
def rbyNumber_7o : List ROp := [.v 17 (.mov (.t 1)),
   .v 18 (.bin .add (.c (.str [48])) (.t 17)),
   .v 1 (.mov (.t 18))]
def rbyNumber_7 : AK := .reg rbyNumber_7o [0, 1]
def rbyNumber_6 : AK := .block 3 rbyNumber_7
def rbyNumber_9 : AK := .cond (.t 16) .skip (.exit 2)
def rbyNumber_8o : List ROp := [.v 12 (.mov (.t 1)),
   .v 13 (.len true (.t 12)),
   .v 14 (.mov (.t 0)),
   .v 15 (.len true (.t 14)),
   .v 16 (.bin .lss (.t 13) (.t 15))]
def rbyNumber_8 : AK := .seq (.reg rbyNumber_8o [0, 1, 16]) rbyNumber_9
def rbyNumber_5 : AK := .seq rbyNumber_8 rbyNumber_6
def rbyNumber_L0 : AK := .loop rbyNumber_5
def rbyNumber_4 : AK := .block 2 rbyNumber_L0
def rbyNumber_2 : AK := .seq rbyNumber_4 rbyNumber_3
def rbyNumber_13o : List ROp := [.v 10 (.mov (.t 0)),
   .v 11 (.bin .add (.c (.str [48])) (.t 10)),
   .v 0 (.mov (.t 11))]
def rbyNumber_13 : AK := .reg rbyNumber_13o [0, 1]
def rbyNumber_12 : AK := .block 1 rbyNumber_13
def rbyNumber_15 : AK := .cond (.t 9) .skip (.exit 0)
def rbyNumber_14o : List ROp := [.v 5 (.mov (.t 0)),
   .v 6 (.len true (.t 5)),
   .v 7 (.mov (.t 1)),
   .v 8 (.len true (.t 7)),
   .v 9 (.bin .lss (.t 6) (.t 8))]
def rbyNumber_14 : AK := .seq (.reg rbyNumber_14o [0, 1, 9]) rbyNumber_15
def rbyNumber_11 : AK := .seq rbyNumber_14 rbyNumber_12
def rbyNumber_L1 : AK := .loop rbyNumber_11
def rbyNumber_10 : AK := .block 0 rbyNumber_L1
def rbyNumber_1 : AK := .seq rbyNumber_10 rbyNumber_2
def rbyNumber_0o : List ROp := [.v 4 (.mov (.c (.int .i64 0)))]
def rbyNumber_0 : AK := .seq (.reg rbyNumber_0o [0, 1]) rbyNumber_1
def rbyNumber : AK := rbyNumber_0
theorem rbyNumber_vc (P : Program) (E : Env) (Q : KQ) (st : St) :
  (vcW P E rbyNumber_3 Q st = aopsW P rbyNumber_3o st (KS.reg [4] (KQ.seq P E .ret Q))) ∧
  (vcW P E rbyNumber_7 Q st = aopsW P rbyNumber_7o st (KS.reg [0, 1] Q)) ∧
  (vcW P E rbyNumber_6 Q st = vcW P E rbyNumber_7 (KQ.blk 3 Q) st) ∧
  (vcW P E rbyNumber_9 Q st = cndW P E (ev st (.t 16)) .skip (.exit 2) Q st) ∧
  (vcW P E rbyNumber_8 Q st = aopsW P rbyNumber_8o st (KS.reg [0, 1, 16] (KQ.seq P E rbyNumber_9 Q))) ∧
  (vcW P E rbyNumber_5 Q st = vcW P E rbyNumber_8 (KQ.seq P E rbyNumber_6 Q) st) ∧
  (vcW P E rbyNumber_4 Q st = vcW P E rbyNumber_L0 (KQ.blk 2 Q) st) ∧
  (vcW P E rbyNumber_2 Q st = vcW P E rbyNumber_4 (KQ.seq P E rbyNumber_3 Q) st) ∧
  (vcW P E rbyNumber_13 Q st = aopsW P rbyNumber_13o st (KS.reg [0, 1] Q)) ∧
  (vcW P E rbyNumber_12 Q st = vcW P E rbyNumber_13 (KQ.blk 1 Q) st) ∧
  (vcW P E rbyNumber_15 Q st = cndW P E (ev st (.t 9)) .skip (.exit 0) Q st) ∧
  (vcW P E rbyNumber_14 Q st = aopsW P rbyNumber_14o st (KS.reg [0, 1, 9] (KQ.seq P E rbyNumber_15 Q))) ∧
  (vcW P E rbyNumber_11 Q st = vcW P E rbyNumber_14 (KQ.seq P E rbyNumber_12 Q) st) ∧
  (vcW P E rbyNumber_10 Q st = vcW P E rbyNumber_L1 (KQ.blk 0 Q) st) ∧
  (vcW P E rbyNumber_1 Q st = vcW P E rbyNumber_10 (KQ.seq P E rbyNumber_2 Q) st) ∧
  (vcW P E rbyNumber_0 Q st = aopsW P rbyNumber_0o st (KS.reg [0, 1] (KQ.seq P E rbyNumber_1 Q))) ∧
  (vcW P E rbyNumber Q st = vcW P E rbyNumber_0 Q st) :=
  ⟨rfl, rfl, rfl, vcW_cond, rfl, rfl, rfl, rfl, rfl, rfl, vcW_cond, rfl, rfl, rfl, rfl, rfl, rfl⟩
theorem rbyNumber_jn (P : Program) (E : Env) (Q : KQ) (st : St) :
  (True) :=
  trivial
attribute [go_sem] rbyNumber_vc rbyNumber_3o rbyNumber_7o rbyNumber_8o rbyNumber_13o rbyNumber_14o rbyNumber_0o
noncomputable def rbyNumberB : Code := (Tryd.f29.body).getD .skip
theorem rbyNumber_eq : trCode Tryd.prog 22 19000 rbyNumberB = rbyNumber.erase 19000 := by kernel_rfl
theorem rbyNumber_body : Tryd.f29.body = some rbyNumberB := by kernel_rfl
theorem rbyNumber_n : Tryd.f29.ntmps = 22 := by kernel_rfl
theorem rbyNumber_r : Tryd.f29.results.toList.map (trRes Tryd.prog) = [.tmp 4] := by kernel_rfl
theorem rbyNumber_spec {h : HP} {a0 a1 : AV} {Post : HP → AV → List AV → Prop} (hp : ∀ (E : Env) (R : HP → AV → List AV → Prop), E.N ≤ 1000000 → PostTo Post R → vcW Tryd.prog E rbyNumber (KQ.post [.tmp 4] 2 R) ⟨[(0, a0), (1, a1)], h⟩) : Eng.Spec Tryd.prog 29 h [a0, a1] Post := spec_wk (
  spec_of (c := rbyNumber.erase 19000) (B := 19000) Tryd.func29 rbyNumber_body (by rw [rbyNumber_n, rbyNumber_eq]) (by rw [rbyNumber_n]; decide) (by rw [rbyNumber_n]; exact (by decide : 2 ≤ 22)) (fun E hE hB hrd => by
    have hN : E.N ≤ 1000000 := by
      rw [hE, rbyNumber_n]; decide
    rw [rbyNumber_r, ← hB]
    exact awp_slots [(0, a0), (1, a1)] ⟨rfl, rfl, trivial⟩ (vcW_sound hN _ (hp E _ hN fin_self))))
/- cartulary/cartularyref20.Compare -/
def rcompare_10o : List ROp := [.v 142 (.mov (.t 11)),
   .v 143 (.len false (.t 142)),
   .cal (some 144) false 20144 33 [(.t 143)],
   .v 145 (.mov (.t 12)),
   .v 146 (.len false (.t 145)),
   .cal (some 147) false 20147 33 [(.t 146)],
   .cal (some 148) false 20148 29 [(.t 144), (.t 147)],
   .v 4 (.mov (.t 148))]
def rcompare_10 : AK := .seq (.reg rcompare_10o [4]) .ret
def rcompare_15o : List ROp := [.v 91 (.mov (.t 13)),
   .v 92 (.bin .add (.t 91) (.c (.int .i64 1))),
   .v 13 (.mov (.t 92))]
def rcompare_15 : AK := .reg rcompare_15o [11, 12, 13]
def rcompare_21o : List ROp := [.val 133 true 20133 (.mov (.t 11)),
   .val 134 true 20134 (.mov (.t 13)),
   .val 135 true 20135 (.idxA 1 (.t 133) (.t 134)),
   .val 136 true 20136 (.ld false 1 (.t 135)),
   .val 137 true 20137 (.mov (.t 12)),
   .val 138 true 20138 (.mov (.t 13)),
   .val 139 true 20139 (.idxA 1 (.t 137) (.t 138)),
   .val 140 true 20140 (.ld false 1 (.t 139)),
   .cal (some 141) true 20141 32 [(.t 136), (.t 140)],
   .v 4 (.mov (.t 141))]
def rcompare_21 : AK := .seq (.reg rcompare_21o [4]) .ret
def rcompare_24o : List ROp := [.v 4 (.mov (.c (.int .i64 1)))]
def rcompare_24 : AK := .seq (.reg rcompare_24o [4]) .ret
def rcompare_23 : AK := .cond (.t 132) rcompare_24 .skip
def rcompare_22o : List ROp := [.v 128 (.mov (.t 12)),
   .v 129 (.mov (.t 13)),
   .v 130 (.idxA 1 (.t 128) (.t 129)),
   .v 131 (.ld false 1 (.t 130)),
   .cal (some 132) false 20132 31 [(.t 131)]]
def rcompare_22 : AK := .seq (.reg rcompare_22o [11, 12, 13, 132]) rcompare_23
def rcompare_20 : AK := .seq rcompare_22 rcompare_21
def rcompare_27o : List ROp := [.v 4 (.mov (.c (.int .i64 (-1))))]
def rcompare_27 : AK := .seq (.reg rcompare_27o [4]) .ret
def rcompare_26 : AK := .cond (.t 127) rcompare_27 .skip
def rcompare_25o : List ROp := [.v 123 (.mov (.t 11)),
   .v 124 (.mov (.t 13)),
   .v 125 (.idxA 1 (.t 123) (.t 124)),
   .v 126 (.ld false 1 (.t 125)),
   .cal (some 127) false 20127 31 [(.t 126)]]
def rcompare_25 : AK := .seq (.reg rcompare_25o [11, 12, 13, 127]) rcompare_26
def rcompare_19 : AK := .seq rcompare_25 rcompare_20
def rcompare_30o : List ROp := [.val 114 true 20114 (.mov (.t 11)),
   .val 115 true 20115 (.mov (.t 13)),
   .val 116 true 20116 (.idxA 1 (.t 114) (.t 115)),
   .val 117 true 20117 (.ld false 1 (.t 116)),
   .val 118 true 20118 (.mov (.t 12)),
   .val 119 true 20119 (.mov (.t 13)),
   .val 120 true 20120 (.idxA 1 (.t 118) (.t 119)),
   .val 121 true 20121 (.ld false 1 (.t 120)),
   .cal (some 122) true 20122 29 [(.t 117), (.t 121)],
   .v 4 (.mov (.t 122))]
def rcompare_30 : AK := .seq (.reg rcompare_30o [4]) .ret
def rcompare_29 : AK := .cond (.t 113) rcompare_30 .skip
def rcompare_28o : List ROp := [.v 102 (.mov (.t 11)),
   .v 103 (.mov (.t 13)),
   .v 104 (.idxA 1 (.t 102) (.t 103)),
   .v 105 (.ld false 1 (.t 104)),
   .cal (some 106) false 20106 31 [(.t 105)],
   .v 107 (.mov (.t 106)),
   .gval 108 107 true false 20108 (.mov (.t 12)),
   .gval 109 107 true false 20109 (.mov (.t 13)),
   .gval 110 107 true false 20110 (.idxA 1 (.t 108) (.t 109)),
   .gval 111 107 true false 20111 (.ld false 1 (.t 110)),
   .gcal 112 107 true false 20112 31 [(.t 111)],
   .v 113 (.pick (.t 107) (.t 112) (.c (.bool false)))]
def rcompare_28 : AK := .seq (.reg rcompare_28o [11, 12, 13, 113]) rcompare_29
def rcompare_18 : AK := .seq rcompare_28 rcompare_19
def rcompare_32 : AK := .cond (.t 101) (.exit 3) .skip
def rcompare_31o : List ROp := [.val 93 true 20093 (.mov (.t 11)),
   .val 94 true 20094 (.mov (.t 13)),
   .val 95 true 20095 (.idxA 1 (.t 93) (.t 94)),
   .val 96 true 20096 (.ld false 1 (.t 95)),
   .val 97 true 20097 (.mov (.t 12)),
   .val 98 true 20098 (.mov (.t 13)),
   .val 99 true 20099 (.idxA 1 (.t 97) (.t 98)),
   .val 100 true 20100 (.ld false 1 (.t 99)),
   .val 101 true 20101 (.bin .eql (.t 96) (.t 100))]
def rcompare_31 : AK := .seq (.reg rcompare_31o [11, 12, 13, 101]) rcompare_32
def rcompare_17 : AK := .seq rcompare_31 rcompare_18
def rcompare_16 : AK := .block 3 rcompare_17
def rcompare_14 : AK := .seq rcompare_16 rcompare_15
def rcompare_34 : AK := .cond (.t 90) .skip (.exit 2)
def rcompare_33o : List ROp := [.v 81 (.mov (.t 13)),
   .v 82 (.mov (.t 11)),
   .v 83 (.len false (.t 82)),
   .v 84 (.bin .lss (.t 81) (.t 83)),
   .v 85 (.mov (.t 84)),
   .gval 86 85 true false 20086 (.mov (.t 13)),
   .gval 87 85 true false 20087 (.mov (.t 12)),
   .gval 88 85 true false 20088 (.len false (.t 87)),
   .gval 89 85 true false 20089 (.bin .lss (.t 86) (.t 88)),
   .v 90 (.pick (.t 85) (.t 89) (.c (.bool false)))]
def rcompare_33 : AK := .seq (.reg rcompare_33o [11, 12, 13, 90]) rcompare_34
def rcompare_13 : AK := .seq rcompare_33 rcompare_14
def rcompare_L0 : AK := .loop rcompare_13
def rcompare_12 : AK := .block 2 rcompare_L0
def rcompare_11o : List ROp := [.v 13 (.mov (.c (.int .i64 0)))]
def rcompare_11 : AK := .seq (.reg rcompare_11o [11, 12, 13]) rcompare_12
def rcompare_9 : AK := .seq rcompare_11 rcompare_10
def rcompare_8o : List ROp := [.val 75 true 20075 (.fldA false 3 1 (.t 5)),
   .val 76 true 20076 (.ld false 1 (.t 75)),
   .val 78 true 20078 (.fldA false 3 1 (.t 7)),
   .val 79 true 20079 (.ld false 1 (.t 78)),
   .cal (some 77) true 20077 30 [(.t 76), (.c (.int .u8 46))],
   .cal (some 80) true 20080 30 [(.t 79), (.c (.int .u8 46))],
   .val 11 true 20011 (.mov (.t 77)),
   .v 12 (.mov (.t 80))]
def rcompare_8 : AK := .seq (.reg rcompare_8o [11, 12]) rcompare_9
def rcompare_39o : List ROp := [.v 4 (.mov (.c (.int .i64 (-1))))]
def rcompare_39 : AK := .seq (.reg rcompare_39o [4]) .ret
def rcompare_42o : List ROp := [.v 4 (.mov (.c (.int .i64 1)))]
def rcompare_42 : AK := .seq (.reg rcompare_42o [4]) .ret
def rcompare_41 : AK := .cond (.t 74) rcompare_42 .skip
def rcompare_40o : List ROp := [.v 72 (.fldA false 3 1 (.t 5)),
   .v 73 (.ld false 1 (.t 72)),
   .v 74 (.bin .eql (.t 73) (.c (.str [])))]
def rcompare_40 : AK := .seq (.reg rcompare_40o [74]) rcompare_41
def rcompare_38 : AK := .seq rcompare_40 rcompare_39
def rcompare_45o : List ROp := [.v 4 (.mov (.c (.int .i64 0)))]
def rcompare_45 : AK := .seq (.reg rcompare_45o [4]) .ret
def rcompare_44 : AK := .cond (.t 71) rcompare_45 .skip
def rcompare_43o : List ROp := [.v 67 (.fldA false 3 1 (.t 5)),
   .v 68 (.ld false 1 (.t 67)),
   .v 69 (.fldA false 3 1 (.t 7)),
   .v 70 (.ld false 1 (.t 69)),
   .v 71 (.bin .eql (.t 68) (.t 70))]
def rcompare_43 : AK := .seq (.reg rcompare_43o [5, 71]) rcompare_44
def rcompare_37 : AK := .seq rcompare_43 rcompare_38
def rcompare_36 : AK := .cond (.t 66) rcompare_37 .skip
def rcompare_35o : List ROp := [.v 59 (.fldA false 3 1 (.t 5)),
   .v 60 (.ld false 1 (.t 59)),
   .v 61 (.bin .eql (.t 60) (.c (.str []))),
   .v 62 (.mov (.t 61)),
   .gval 63 62 false false 20063 (.fldA false 3 1 (.t 7)),
   .gval 64 62 false false 20064 (.ld false 1 (.t 63)),
   .gval 65 62 false false 20065 (.bin .eql (.t 64) (.c (.str []))),
   .v 66 (.pick (.t 62) (.c (.bool true)) (.t 65))]
def rcompare_35 : AK := .seq (.reg rcompare_35o [5, 7, 66]) rcompare_36
def rcompare_7 : AK := .seq rcompare_35 rcompare_8
def rcompare_51o : List ROp := [.v 58 (.bin .add (.t 51) (.c (.int .i64 1))),
   .v 51 (.mov (.t 58))]
def rcompare_51 : AK := .reg rcompare_51o [5, 7, 49, 50, 51]
def rcompare_56o : List ROp := [.v 57 (.mov (.t 10)),
   .v 4 (.mov (.t 57))]
def rcompare_56 : AK := .seq (.reg rcompare_56o [4]) .ret
def rcompare_55 : AK := .cond (.t 56) rcompare_56 .skip
def rcompare_54o : List ROp := [.v 55 (.mov (.t 10)),
   .v 56 (.bin .neq (.t 55) (.c (.int .i64 0)))]
def rcompare_54 : AK := .seq (.reg rcompare_54o [5, 7, 10, 49, 50, 51, 56]) rcompare_55
def rcompare_53o : List ROp := [.v 53 (.idxA 1 (.t 49) (.t 51)),
   .v 54 (.ld false 1 (.t 53)),
   .v 10 (.mov (.t 54))]
def rcompare_53 : AK := .seq (.reg rcompare_53o [5, 7, 10, 49, 50, 51]) rcompare_54
def rcompare_52 : AK := .block 1 rcompare_53
def rcompare_50 : AK := .seq rcompare_52 rcompare_51
def rcompare_57 : AK := .cond (.t 52) .skip (.exit 0)
def rcompare_49 : AK := .seq rcompare_57 rcompare_50
def rcompare_48o : List ROp := [.v 52 (.bin .lss (.t 51) (.t 50))]
def rcompare_48 : AK := .seq (.reg rcompare_48o [5, 7, 49, 50, 51, 52]) rcompare_49
def rcompare_L1 : AK := .loop rcompare_48
def rcompare_47 : AK := .block 0 rcompare_L1
def rcompare_46o : List ROp := [.val 34 true 20034 (.fldA false 0 1 (.t 5)),
   .val 35 true 20035 (.ld false 1 (.t 34)),
   .val 36 true 20036 (.fldA false 0 1 (.t 7)),
   .val 37 true 20037 (.ld false 1 (.t 36)),
   .val 39 true 20039 (.fldA false 1 1 (.t 5)),
   .val 40 true 20040 (.ld false 1 (.t 39)),
   .val 41 true 20041 (.fldA false 1 1 (.t 7)),
   .val 42 true 20042 (.ld false 1 (.t 41)),
   .val 44 true 20044 (.fldA false 2 1 (.t 5)),
   .val 45 true 20045 (.ld false 1 (.t 44)),
   .val 46 true 20046 (.fldA false 2 1 (.t 7)),
   .val 47 true 20047 (.ld false 1 (.t 46)),
   .val 51 true 20051 (.mov (.c (.int .i64 0))),
   .cal (some 38) true 20038 29 [(.t 35), (.t 37)],
   .cal (some 43) true 20043 29 [(.t 40), (.t 42)],
   .cal (some 48) true 20048 29 [(.t 45), (.t 47)],
   .eff 49 true 20049 (.bsl 1 [(.t 38), (.t 43), (.t 48)]),
   .val 50 true 20050 (.len false (.t 49))]
def rcompare_46 : AK := .seq (.reg rcompare_46o [5, 7, 49, 50, 51]) rcompare_47
def rcompare_6 : AK := .seq rcompare_46 rcompare_7
def rcompare_60o : List ROp := [.v 4 (.mov (.c (.int .i64 1)))]
def rcompare_60 : AK := .seq (.reg rcompare_60o [4]) .ret
def rcompare_59 : AK := .cond (.t 33) rcompare_60 .skip
def rcompare_58o : List ROp := [.v 32 (.mov (.t 8)),
   .v 33 (.un .not (.t 32))]
def rcompare_58 : AK := .seq (.reg rcompare_58o [5, 7, 33]) rcompare_59
def rcompare_5 : AK := .seq rcompare_58 rcompare_6
def rcompare_63o : List ROp := [.v 4 (.mov (.c (.int .i64 (-1))))]
def rcompare_63 : AK := .seq (.reg rcompare_63o [4]) .ret
def rcompare_62 : AK := .cond (.t 31) rcompare_63 .skip
def rcompare_61o : List ROp := [.v 30 (.mov (.t 6)),
   .v 31 (.un .not (.t 30))]
def rcompare_61 : AK := .seq (.reg rcompare_61o [5, 7, 8, 31]) rcompare_62
def rcompare_4 : AK := .seq rcompare_61 rcompare_5
def rcompare_66o : List ROp := [.v 4 (.mov (.c (.int .i64 0)))]
def rcompare_66 : AK := .seq (.reg rcompare_66o [4]) .ret
def rcompare_65 : AK := .cond (.t 29) rcompare_66 .skip
def rcompare_64o : List ROp := [.v 24 (.mov (.t 6)),
   .v 25 (.un .not (.t 24)),
   .v 26 (.mov (.t 25)),
   .gval 27 26 true false 20027 (.mov (.t 8)),
   .gval 28 26 true false 20028 (.un .not (.t 27)),
   .v 29 (.pick (.t 26) (.t 28) (.c (.bool false)))]
def rcompare_64 : AK := .seq (.reg rcompare_64o [5, 6, 7, 8, 29]) rcompare_65
def rcompare_3 : AK := .seq rcompare_64 rcompare_4
def rcompare_2o : List ROp := [.v 20 (.mov (.t 1)),
   .cal (some 21) false 20021 17 [(.t 20)],
   .v 19 (.mov (.t 21)),
   .v 22 (.ext (.t 19) 0),
   .v 23 (.ext (.t 19) 1),
   .eff 7 false 20007 (.alloc [.str [], .str [], .str [], .str [], .str [], .int .i64 0]),
   .effN false 20000 (.st 6 (.t 7) (.t 22)),
   .v 8 (.mov (.t 23))]
def rcompare_2 : AK := .seq (.reg rcompare_2o [5, 6, 7, 8]) rcompare_3
def rcompare_1o : List ROp := [.v 15 (.mov (.t 0)),
   .cal (some 16) false 20016 17 [(.t 15)],
   .v 14 (.mov (.t 16)),
   .v 17 (.ext (.t 14) 0),
   .v 18 (.ext (.t 14) 1),
   .eff 5 false 20005 (.alloc [.str [], .str [], .str [], .str [], .str [], .int .i64 0]),
   .effN false 20000 (.st 6 (.t 5) (.t 17)),
   .v 6 (.mov (.t 18))]
def rcompare_1 : AK := .seq (.reg rcompare_1o [1, 5, 6]) rcompare_2
def rcompare_0o : List ROp := [.v 4 (.mov (.c (.int .i64 0)))]
def rcompare_0 : AK := .seq (.reg rcompare_0o [0, 1]) rcompare_1
def rcompare : AK := rcompare_0
theorem rcompare_vc (P : Program) (E : Env) (Q : KQ) (st : St) :
  (vcW P E rcompare_10 Q st = aopsW P rcompare_10o st (KS.reg [4] (KQ.seq P E .ret Q))) ∧
  (vcW P E rcompare_15 Q st = aopsW P rcompare_15o st (KS.reg [11, 12, 13] Q)) ∧
  (vcW P E rcompare_21 Q st = aopsW P rcompare_21o st (KS.reg [4] (KQ.seq P E .ret Q))) ∧
  (vcW P E rcompare_24 Q st = aopsW P rcompare_24o st (KS.reg [4] (KQ.seq P E .ret Q))) ∧
  (vcW P E rcompare_23 Q st = cndW P E (ev st (.t 132)) rcompare_24 .skip Q st) ∧
  (vcW P E rcompare_22 Q st = aopsW P rcompare_22o st (KS.reg [11, 12, 13, 132] (KQ.seq P E rcompare_23 Q))) ∧
  (vcW P E rcompare_20 Q st = vcW P E rcompare_22 (KQ.seq P E rcompare_21 Q) st) ∧
  (vcW P E rcompare_27 Q st = aopsW P rcompare_27o st (KS.reg [4] (KQ.seq P E .ret Q))) ∧
  (vcW P E rcompare_26 Q st = cndW P E (ev st (.t 127)) rcompare_27 .skip Q st) ∧
  (vcW P E rcompare_25 Q st = aopsW P rcompare_25o st (KS.reg [11, 12, 13, 127] (KQ.seq P E rcompare_26 Q))) ∧
  (vcW P E rcompare_19 Q st = vcW P E rcompare_25 (KQ.seq P E rcompare_20 Q) st) ∧
  (vcW P E rcompare_30 Q st = aopsW P rcompare_30o st (KS.reg [4] (KQ.seq P E .ret Q))) ∧
  (vcW P E rcompare_29 Q st = cndW P E (ev st (.t 113)) rcompare_30 .skip Q st) ∧
  (vcW P E rcompare_28 Q st = aopsW P rcompare_28o st (KS.reg [11, 12, 13, 113] (KQ.seq P E rcompare_29 Q))) ∧
  (vcW P E rcompare_18 Q st = vcW P E rcompare_28 (KQ.seq P E rcompare_19 Q) st) ∧
  (vcW P E rcompare_32 Q st = cndW P E (ev st (.t 101)) (.exit 3) .skip Q st) ∧
  (vcW P E rcompare_31 Q st = aopsW P rcompare_31o st (KS.reg [11, 12, 13, 101] (KQ.seq P E rcompare_32 Q))) ∧
  (vcW P E rcompare_17 Q st = vcW P E rcompare_31 (KQ.seq P E rcompare_18 Q) st) ∧
  (vcW P E rcompare_16 Q st = vcW P E rcompare_17 (KQ.blk 3 Q) st) ∧
  (vcW P E rcompare_14 Q st = vcW P E rcompare_16 (KQ.seq P E rcompare_15 Q) st) ∧
  (vcW P E rcompare_34 Q st = cndW P E (ev st (.t 90)) .skip (.exit 2) Q st) ∧
  (vcW P E rcompare_33 Q st = aopsW P rcompare_33o st (KS.reg [11, 12, 13, 90] (KQ.seq P E rcompare_34 Q))) ∧
  (vcW P E rcompare_13 Q st = vcW P E rcompare_33 (KQ.seq P E rcompare_14 Q) st) ∧
  (vcW P E rcompare_12 Q st = vcW P E rcompare_L0 (KQ.blk 2 Q) st) ∧
  (vcW P E rcompare_11 Q st = aopsW P rcompare_11o st (KS.reg [11, 12, 13] (KQ.seq P E rcompare_12 Q))) ∧
  (vcW P E rcompare_9 Q st = vcW P E rcompare_11 (KQ.seq P E rcompare_10 Q) st) ∧
  (vcW P E rcompare_8 Q st = aopsW P rcompare_8o st (KS.reg [11, 12] (KQ.seq P E rcompare_9 Q))) ∧
  (vcW P E rcompare_39 Q st = aopsW P rcompare_39o st (KS.reg [4] (KQ.seq P E .ret Q))) ∧
  (vcW P E rcompare_42 Q st = aopsW P rcompare_42o st (KS.reg [4] (KQ.seq P E .ret Q))) ∧
  (vcW P E rcompare_41 Q st = cndW P E (ev st (.t 74)) rcompare_42 .skip Q st) ∧
  (vcW P E rcompare_40 Q st = aopsW P rcompare_40o st (KS.reg [74] (KQ.seq P E rcompare_41 Q))) ∧
  (vcW P E rcompare_38 Q st = vcW P E rcompare_40 (KQ.seq P E rcompare_39 Q) st) ∧
  (vcW P E rcompare_45 Q st = aopsW P rcompare_45o st (KS.reg [4] (KQ.seq P E .ret Q))) ∧
  (vcW P E rcompare_44 Q st = cndW P E (ev st (.t 71)) rcompare_45 .skip Q st) ∧
  (vcW P E rcompare_43 Q st = aopsW P rcompare_43o st (KS.reg [5, 71] (KQ.seq P E rcompare_44 Q))) ∧
  (vcW P E rcompare_37 Q st = vcW P E rcompare_43 (KQ.seq P E rcompare_38 Q) st) ∧
  (vcW P E rcompare_36 Q st = cndW P E (ev st (.t 66)) rcompare_37 .skip Q st) ∧
  (vcW P E rcompare_35 Q st = aopsW P rcompare_35o st (KS.reg [5, 7, 66] (KQ.seq P E rcompare_36 Q))) ∧
  (vcW P E rcompare_7 Q st = vcW P E rcompare_35 (KQ.seq P E rcompare_8 Q) st) ∧
  (vcW P E rcompare_51 Q st = aopsW P rcompare_51o st (KS.reg [5, 7, 49, 50, 51] Q)) ∧
  (vcW P E rcompare_56 Q st = aopsW P rcompare_56o st (KS.reg [4] (KQ.seq P E .ret Q))) ∧
  (vcW P E rcompare_55 Q st = cndW P E (ev st (.t 56)) rcompare_56 .skip Q st) ∧
  (vcW P E rcompare_54 Q st = aopsW P rcompare_54o st (KS.reg [5, 7, 10, 49, 50, 51, 56] (KQ.seq P E rcompare_55 Q))) ∧
  (vcW P E rcompare_53 Q st = aopsW P rcompare_53o st (KS.reg [5, 7, 10, 49, 50, 51] (KQ.seq P E rcompare_54 Q))) ∧
  (vcW P E rcompare_52 Q st = vcW P E rcompare_53 (KQ.blk 1 Q) st) ∧
  (vcW P E rcompare_50 Q st = vcW P E rcompare_52 (KQ.seq P E rcompare_51 Q) st) ∧
  (vcW P E rcompare_57 Q st = cndW P E (ev st (.t 52)) .skip (.exit 0) Q st) ∧
  (vcW P E rcompare_49 Q st = vcW P E rcompare_57 (KQ.seq P E rcompare_50 Q) st) ∧
  (vcW P E rcompare_48 Q st = aopsW P rcompare_48o st (KS.reg [5, 7, 49, 50, 51, 52] (KQ.seq P E rcompare_49 Q))) ∧
  (vcW P E rcompare_47 Q st = vcW P E rcompare_L1 (KQ.blk 0 Q) st) ∧
  (vcW P E rcompare_46 Q st = aopsW P rcompare_46o st (KS.reg [5, 7, 49, 50, 51] (KQ.seq P E rcompare_47 Q))) ∧
  (vcW P E rcompare_6 Q st = vcW P E rcompare_46 (KQ.seq P E rcompare_7 Q) st) ∧
  (vcW P E rcompare_60 Q st = aopsW P rcompare_60o st (KS.reg [4] (KQ.seq P E .ret Q))) ∧
  (vcW P E rcompare_59 Q st = cndW P E (ev st (.t 33)) rcompare_60 .skip Q st) ∧
  (vcW P E rcompare_58 Q st = aopsW P rcompare_58o st (KS.reg [5, 7, 33] (KQ.seq P E rcompare_59 Q))) ∧
  (vcW P E rcompare_5 Q st = vcW P E rcompare_58 (KQ.seq P E rcompare_6 Q) st) ∧
  (vcW P E rcompare_63 Q st = aopsW P rcompare_63o st (KS.reg [4] (KQ.seq P E .ret Q))) ∧
  (vcW P E rcompare_62 Q st = cndW P E (ev st (.t 31)) rcompare_63 .skip Q st) ∧
  (vcW P E rcompare_61 Q st = aopsW P rcompare_61o st (KS.reg [5, 7, 8, 31] (KQ.seq P E rcompare_62 Q))) ∧
  (vcW P E rcompare_4 Q st = vcW P E rcompare_61 (KQ.seq P E rcompare_5 Q) st) ∧
  (vcW P E rcompare_66 Q st = aopsW P rcompare_66o st (KS.reg [4] (KQ.seq P E .ret Q))) ∧
  (vcW P E rcompare_65 Q st = cndW P E (ev st (.t 29)) rcompare_66 .skip Q st) ∧
  (vcW P E rcompare_64 Q st = aopsW P rcompare_64o st (KS.reg [5, 6, 7, 8, 29] (KQ.seq P E rcompare_65 Q))) ∧
  (vcW P E rcompare_3 Q st = vcW P E rcompare_64 (KQ.seq P E rcompare_4 Q) st) ∧
  (vcW P E rcompare_2 Q st = aopsW P rcompare_2o st (KS.reg [5, 6, 7, 8] (KQ.seq P E rcompare_3 Q))) ∧
  (vcW P E rcompare_1 Q st = aopsW P rcompare_1o st (KS.reg [1, 5, 6] (KQ.seq P E rcompare_2 Q))) ∧
  (vcW P E rcompare_0 Q st = aopsW P rcompare_0o st (KS.reg [0, 1] (KQ.seq P E rcompare_1 Q))) ∧
  (vcW P E rcompare Q st = vcW P E rcompare_0 Q st) :=
  ⟨rfl, rfl, rfl, rfl, vcW_cond, rfl, rfl, rfl, vcW_cond, rfl, rfl, rfl, vcW_cond, rfl, rfl, vcW_cond, rfl, rfl, rfl, rfl, vcW_cond, rfl, rfl, rfl, rfl, rfl, rfl, rfl, rfl, vcW_cond, rfl, rfl, rfl, vcW_cond, rfl, rfl, vcW_cond, rfl, rfl, rfl, rfl, vcW_cond, rfl, rfl, rfl, rfl, vcW_cond, rfl, rfl, rfl, rfl, rfl, rfl, vcW_cond, rfl, rfl, rfl, vcW_cond, rfl, rfl, rfl, vcW_cond, rfl, rfl, rfl, rfl, rfl, rfl⟩
theorem rcompare_jn (P : Program) (E : Env) (Q : KQ) (st : St) :
  (True) :=
  trivial
attribute [go_sem] rcompare_vc rcompare_10o rcompare_15o rcompare_21o rcompare_24o rcompare_22o rcompare_27o rcompare_25o rcompare_30o rcompare_28o rcompare_31o rcompare_33o rcompare_11o rcompare_8o rcompare_39o rcompare_42o rcompare_40o rcompare_45o rcompare_43o rcompare_35o rcompare_51o rcompare_56o rcompare_54o rcompare_53o rcompare_48o rcompare_46o rcompare_60o rcompare_58o rcompare_63o rcompare_61o rcompare_66o rcompare_64o rcompare_2o rcompare_1o rcompare_0o
noncomputable def rcompareB : Code := (Tryd.f15.body).getD .skip
theorem rcompare_eq : trCode Tryd.prog 149 20000 rcompareB = rcompare.erase 20000 := by kernel_rfl
theorem rcompare_body : Tryd.f15.body = some rcompareB := by kernel_rfl
theorem rcompare_n : Tryd.f15.ntmps = 149 := by kernel_rfl
theorem rcompare_r : Tryd.f15.results.toList.map (trRes Tryd.prog) = [.tmp 4] := by kernel_rfl
theorem rcompare_spec {h : HP} {a0 a1 : AV} {Post : HP → AV → List AV → Prop} (hp : ∀ (E : Env) (R : HP → AV → List AV → Prop), E.N ≤ 1000000 → PostTo Post R → vcW Tryd.prog E rcompare (KQ.post [.tmp 4] 2 R) ⟨[(0, a0), (1, a1)], h⟩) : Eng.Spec Tryd.prog 15 h [a0, a1] Post := spec_wk (
  spec_of (c := rcompare.erase 20000) (B := 20000) Tryd.func15 rcompare_body (by rw [rcompare_n, rcompare_eq]) (by rw [rcompare_n]; decide) (by rw [rcompare_n]; exact (by decide : 2 ≤ 149)) (fun E hE hB hrd => by
    have hN : E.N ≤ 1000000 := by
      rw [hE, rcompare_n]; decide
    rw [rcompare_r, ← hB]
    exact awp_slots [(0, a0), (1, a1)] ⟨rfl, rfl, trivial⟩ (vcW_sound hN _ (hp E _ hN fin_self))))
/- cartulary/cartularyref20.Canonical -/
def rcanonical_5o : List ROp := [.v 32 (.mov (.t 5)),
   .v 2 (.mov (.t 32))]
def rcanonical_5 : AK := .seq (.reg rcanonical_5o [2]) .ret
def rcanonical_8o : List ROp := [.v 27 (.mov (.t 5)),
   .v 28 (.fldA false 3 1 (.t 3)),
   .v 29 (.ld false 1 (.t 28)),
   .v 30 (.bin .add (.c (.str [45])) (.t 29)),
   .v 31 (.bin .add (.t 27) (.t 30)),
   .v 5 (.mov (.t 31))]
def rcanonical_8 : AK := .reg rcanonical_8o [5]
def rcanonical_7 : AK := .cond (.t 26) rcanonical_8 .skip
def rcanonical_6o : List ROp := [.v 24 (.fldA false 3 1 (.t 3)),
   .v 25 (.ld false 1 (.t 24)),
   .v 26 (.bin .neq (.t 25) (.c (.str [])))]
def rcanonical_6 : AK := .seq (.reg rcanonical_6o [3, 5, 26]) rcanonical_7
def rcanonical_4 : AK := .seq rcanonical_6 rcanonical_5
def rcanonical_3o : List ROp := [.v 13 (.fldA false 0 1 (.t 3)),
   .v 14 (.ld false 1 (.t 13)),
   .v 15 (.bin .add (.c (.str [118])) (.t 14)),
   .v 16 (.bin .add (.t 15) (.c (.str [46]))),
   .v 17 (.fldA false 1 1 (.t 3)),
   .v 18 (.ld false 1 (.t 17)),
   .v 19 (.bin .add (.t 16) (.t 18)),
   .v 20 (.bin .add (.t 19) (.c (.str [46]))),
   .v 21 (.fldA false 2 1 (.t 3)),
   .v 22 (.ld false 1 (.t 21)),
   .v 23 (.bin .add (.t 20) (.t 22)),
   .v 5 (.mov (.t 23))]
def rcanonical_3 : AK := .seq (.reg rcanonical_3o [3, 5]) rcanonical_4
def rcanonical_11o : List ROp := [.v 2 (.mov (.c (.str [])))]
def rcanonical_11 : AK := .seq (.reg rcanonical_11o [2]) .ret
def rcanonical_10 : AK := .cond (.t 12) rcanonical_11 .skip
def rcanonical_9o : List ROp := [.v 11 (.mov (.t 4)),
   .v 12 (.un .not (.t 11))]
def rcanonical_9 : AK := .seq (.reg rcanonical_9o [3, 12]) rcanonical_10
def rcanonical_2 : AK := .seq rcanonical_9 rcanonical_3
def rcanonical_1o : List ROp := [.v 7 (.mov (.t 0)),
   .cal (some 8) false 21008 17 [(.t 7)],
   .v 6 (.mov (.t 8)),
   .v 9 (.ext (.t 6) 0),
   .v 10 (.ext (.t 6) 1),
   .eff 3 false 21003 (.alloc [.str [], .str [], .str [], .str [], .str [], .int .i64 0]),
   .effN false 21000 (.st 6 (.t 3) (.t 9)),
   .v 4 (.mov (.t 10))]
def rcanonical_1 : AK := .seq (.reg rcanonical_1o [3, 4]) rcanonical_2
def rcanonical_0o : List ROp := [.v 2 (.mov (.c (.str [])))]
def rcanonical_0 : AK := .seq (.reg rcanonical_0o [0]) rcanonical_1
def rcanonical : AK := rcanonical_0
theorem rcanonical_vc (P : Program) (E : Env) (Q : KQ) (st : St) :
  (vcW P E rcanonical_5 Q st = aopsW P rcanonical_5o st (KS.reg [2] (KQ.seq P E .ret Q))) ∧
  (vcW P E rcanonical_8 Q st = aopsW P rcanonical_8o st (KS.reg [5] Q)) ∧
  (vcW P E rcanonical_7 Q st = cndW P E (ev st (.t 26)) rcanonical_8 .skip Q st) ∧
  (vcW P E rcanonical_6 Q st = aopsW P rcanonical_6o st (KS.reg [3, 5, 26] (KQ.seq P E rcanonical_7 Q))) ∧
  (vcW P E rcanonical_4 Q st = vcW P E rcanonical_6 (KQ.seq P E rcanonical_5 Q) st) ∧
  (vcW P E rcanonical_3 Q st = aopsW P rcanonical_3o st (KS.reg [3, 5] (KQ.seq P E rcanonical_4 Q))) ∧
  (vcW P E rcanonical_11 Q st = aopsW P rcanonical_11o st (KS.reg [2] (KQ.seq P E .ret Q))) ∧
  (vcW P E rcanonical_10 Q st = cndW P E (ev st (.t 12)) rcanonical_11 .skip Q st) ∧
  (vcW P E rcanonical_9 Q st = aopsW P rcanonical_9o st (KS.reg [3, 12] (KQ.seq P E rcanonical_10 Q))) ∧
  (vcW P E rcanonical_2 Q st = vcW P E rcanonical_9 (KQ.seq P E rcanonical_3 Q) st) ∧
  (vcW P E rcanonical_1 Q st = aopsW P rcanonical_1o st (KS.reg [3, 4] (KQ.seq P E rcanonical_2 Q))) ∧
  (vcW P E rcanonical_0 Q st = aopsW P rcanonical_0o st (KS.reg [0] (KQ.seq P E rcanonical_1 Q))) ∧
  (vcW P E rcanonical Q st = vcW P E rcanonical_0 Q st) :=
  ⟨rfl, rfl, vcW_cond, rfl, rfl, rfl, rfl, vcW_cond, rfl, rfl, rfl, rfl, rfl⟩
theorem rcanonical_jn (P : Program) (E : Env) (Q : KQ) (st : St) :
  (True) :=
  trivial
attribute [go_sem] rcanonical_vc rcanonical_5o rcanonical_8o rcanonical_6o rcanonical_3o rcanonical_11o rcanonical_9o rcanonical_1o rcanonical_0o
noncomputable def rcanonicalB : Code := (Tryd.f18.body).getD .skip
theorem rcanonical_eq : trCode Tryd.prog 33 21000 rcanonicalB = rcanonical.erase 21000 := by kernel_rfl
theorem rcanonical_body : Tryd.f18.body = some rcanonicalB := by kernel_rfl
theorem rcanonical_n : Tryd.f18.ntmps = 33 := by kernel_rfl
theorem rcanonical_r : Tryd.f18.results.toList.map (trRes Tryd.prog) = [.tmp 2] := by kernel_rfl
theorem rcanonical_spec {h : HP} {a0 : AV} {Post : HP → AV → List AV → Prop} (hp : ∀ (E : Env) (R : HP → AV → List AV → Prop), E.N ≤ 1000000 → PostTo Post R → vcW Tryd.prog E rcanonical (KQ.post [.tmp 2] 1 R) ⟨[(0, a0)], h⟩) : Eng.Spec Tryd.prog 18 h [a0] Post := spec_wk (
  spec_of (c := rcanonical.erase 21000) (B := 21000) Tryd.func18 rcanonical_body (by rw [rcanonical_n, rcanonical_eq]) (by rw [rcanonical_n]; decide) (by rw [rcanonical_n]; exact (by decide : 1 ≤ 33)) (fun E hE hB hrd => by
    have hN : E.N ≤ 1000000 := by
      rw [hE, rcanonical_n]; decide
    rw [rcanonical_r, ← hB]
    exact awp_slots [(0, a0)] ⟨rfl, trivial⟩ (vcW_sound hN _ (hp E _ hN fin_self))))
/- cartulary/cartularyref20.Sort -/
def rsort_3o : List ROp := [.v 60 (.mov (.t 3)),
   .v 2 (.mov (.t 60))]
def rsort_3 : AK := .seq (.reg rsort_3o [2]) .ret
def rsort_9o : List ROp := [.v 59 (.bin .add (.t 14) (.c (.int .i64 1))),
   .v 14 (.mov (.t 59))]
def rsort_9 : AK := .reg rsort_9o [3, 12, 13, 14]
def rsort_16o : List ROp := [.v 58 (.mov (.t 6)),
   .v 3 (.mov (.t 58))]
def rsort_16 : AK := .reg rsort_16o [3, 12, 13, 14]
def rsort_19o : List ROp := [.v 54 (.mov (.t 6)),
   .v 55 (.mov (.t 5)),
   .eff 56 false 22056 (.bsl 1 [(.t 55)]),
   .eff 57 false 22057 (.app 1 16 (.t 54) (.t 56)),
   .v 6 (.mov (.t 57))]
def rsort_19 : AK := .reg rsort_19o [6, 12, 13, 14]
def rsort_18 : AK := .cond (.t 53) rsort_19 .skip
def rsort_17o : List ROp := [.v 52 (.mov (.t 7)),
   .v 53 (.un .not (.t 52))]
def rsort_17 : AK := .seq (.reg rsort_17o [5, 6, 12, 13, 14, 53]) rsort_18
def rsort_15 : AK := .seq rsort_17 rsort_16
def rsort_25o : List ROp := [.v 51 (.bin .add (.t 21) (.c (.int .i64 1))),
   .v 21 (.mov (.t 51))]
def rsort_25 : AK := .reg rsort_25o [5, 6, 7, 12, 13, 14, 19, 20, 21]
def rsort_30o : List ROp := [.v 47 (.mov (.t 6)),
   .v 48 (.mov (.t 9)),
   .eff 49 false 22049 (.bsl 1 [(.t 48)]),
   .eff 50 false 22050 (.app 1 16 (.t 47) (.t 49)),
   .v 6 (.mov (.t 50))]
def rsort_30 : AK := .reg rsort_30o [5, 6, 7, 12, 13, 14, 19, 20, 21]
def rsort_34o : List ROp := [.v 7 (.mov (.c (.bool true)))]
def rsort_34 : AK := .reg rsort_34o [5, 6, 7, 9, 12, 13, 14, 19, 20, 21]
def rsort_33o : List ROp := [.v 43 (.mov (.t 6)),
   .v 44 (.mov (.t 5)),
   .eff 45 false 22045 (.bsl 1 [(.t 44)]),
   .eff 46 false 22046 (.app 1 16 (.t 43) (.t 45)),
   .v 6 (.mov (.t 46))]
def rsort_33 : AK := .seq (.reg rsort_33o [5, 6, 9, 12, 13, 14, 19, 20, 21]) rsort_34
def rsort_32 : AK := .cond (.t 42) rsort_33 .skip
def rsort_31o : List ROp := [.v 28 (.mov (.t 7)),
   .v 29 (.un .not (.t 28)),
   .v 30 (.mov (.t 29)),
   .gval 31 30 true false 22031 (.mov (.t 10)),
   .gval 32 30 true false 22032 (.bin .lss (.t 31) (.c (.int .i64 0))),
   .gval 33 30 true false 22033 (.mov (.t 32)),
   .gval 34 33 false false 22034 (.mov (.t 10)),
   .gval 35 33 false false 22035 (.bin .eql (.t 34) (.c (.int .i64 0))),
   .gval 36 33 false false 22036 (.mov (.t 35)),
   .gval 37 36 true false 22037 (.mov (.t 5)),
   .gval 38 36 true false 22038 (.mov (.t 9)),
   .gval 39 36 true false 22039 (.bin .lss (.t 37) (.t 38)),
   .gval 40 33 false false 22040 (.pick (.t 36) (.t 39) (.c (.bool false))),
   .gval 41 30 true false 22041 (.pick (.t 33) (.c (.bool true)) (.t 40)),
   .v 42 (.pick (.t 30) (.t 41) (.c (.bool false)))]
def rsort_31 : AK := .seq (.reg rsort_31o [5, 6, 7, 9, 12, 13, 14, 19, 20, 21, 42]) rsort_32
def rsort_29 : AK := .seq rsort_31 rsort_30
def rsort_28o : List ROp := [.v 25 (.mov (.t 5)),
   .v 26 (.mov (.t 9)),
   .cal (some 27) false 22027 15 [(.t 25), (.t 26)],
   .v 10 (.mov (.t 27))]
def rsort_28 : AK := .seq (.reg rsort_28o [5, 6, 7, 9, 10, 12, 13, 14, 19, 20, 21]) rsort_29
def rsort_27o : List ROp := [.v 23 (.idxA 1 (.t 19) (.t 21)),
   .v 24 (.ld false 1 (.t 23)),
   .v 9 (.mov (.t 24))]
def rsort_27 : AK := .seq (.reg rsort_27o [5, 6, 7, 9, 12, 13, 14, 19, 20, 21]) rsort_28
def rsort_26 : AK := .block 3 rsort_27
def rsort_24 : AK := .seq rsort_26 rsort_25
def rsort_35 : AK := .cond (.t 22) .skip (.exit 2)
def rsort_23 : AK := .seq rsort_35 rsort_24
def rsort_22o : List ROp := [.v 22 (.bin .lss (.t 21) (.t 20))]
def rsort_22 : AK := .seq (.reg rsort_22o [5, 6, 7, 12, 13, 14, 19, 20, 21, 22]) rsort_23
def rsort_L1 : AK := .loop rsort_22
def rsort_21 : AK := .block 2 rsort_L1
def rsort_20o : List ROp := [.v 19 (.mov (.t 3)),
   .v 20 (.len false (.t 19)),
   .v 21 (.mov (.c (.int .i64 0)))]
def rsort_20 : AK := .seq (.reg rsort_20o [5, 6, 7, 12, 13, 14, 19, 20, 21]) rsort_21
def rsort_14 : AK := .seq rsort_20 rsort_15
def rsort_13o : List ROp := [.v 7 (.mov (.c (.bool false)))]
def rsort_13 : AK := .seq (.reg rsort_13o [3, 5, 6, 7, 12, 13, 14]) rsort_14
def rsort_12o : List ROp := [.eff 18 false 22018 (.bsl 1 []),
   .v 6 (.mov (.t 18))]
def rsort_12 : AK := .seq (.reg rsort_12o [3, 5, 6, 12, 13, 14]) rsort_13
def rsort_11o : List ROp := [.v 16 (.idxA 1 (.t 12) (.t 14)),
   .v 17 (.ld false 1 (.t 16)),
   .v 5 (.mov (.t 17))]
def rsort_11 : AK := .seq (.reg rsort_11o [3, 5, 12, 13, 14]) rsort_12
def rsort_10 : AK := .block 1 rsort_11
def rsort_8 : AK := .seq rsort_10 rsort_9
def rsort_36 : AK := .cond (.t 15) .skip (.exit 0)
def rsort_7 : AK := .seq rsort_36 rsort_8
def rsort_6o : List ROp := [.v 15 (.bin .lss (.t 14) (.t 13))]
def rsort_6 : AK := .seq (.reg rsort_6o [3, 12, 13, 14, 15]) rsort_7
def rsort_L0 : AK := .loop rsort_6
def rsort_5 : AK := .block 0 rsort_L0
def rsort_4o : List ROp := [.v 12 (.mov (.t 0)),
   .v 13 (.len false (.t 12)),
   .v 14 (.mov (.c (.int .i64 0)))]
def rsort_4 : AK := .seq (.reg rsort_4o [3, 12, 13, 14]) rsort_5
def rsort_2 : AK := .seq rsort_4 rsort_3
def rsort_1o : List ROp := [.eff 11 false 22011 (.bsl 1 []),
   .v 3 (.mov (.t 11))]
def rsort_1 : AK := .seq (.reg rsort_1o [0, 3]) rsort_2
def rsort_0o : List ROp := [.v 2 (.mov (.c (.nilsl)))]
def rsort_0 : AK := .seq (.reg rsort_0o [0]) rsort_1
def rsort : AK := rsort_0
theorem rsort_vc (P : Program) (E : Env) (Q : KQ) (st : St) :
  (vcW P E rsort_3 Q st = aopsW P rsort_3o st (KS.reg [2] (KQ.seq P E .ret Q))) ∧
  (vcW P E rsort_9 Q st = aopsW P rsort_9o st (KS.reg [3, 12, 13, 14] Q)) ∧
  (vcW P E rsort_16 Q st = aopsW P rsort_16o st (KS.reg [3, 12, 13, 14] Q)) ∧
  (vcW P E rsort_19 Q st = aopsW P rsort_19o st (KS.reg [6, 12, 13, 14] Q)) ∧
  (vcW P E rsort_18 Q st = cndW P E (ev st (.t 53)) rsort_19 .skip Q st) ∧
  (vcW P E rsort_17 Q st = aopsW P rsort_17o st (KS.reg [5, 6, 12, 13, 14, 53] (KQ.seq P E rsort_18 Q))) ∧
  (vcW P E rsort_15 Q st = vcW P E rsort_17 (KQ.seq P E rsort_16 Q) st) ∧
  (vcW P E rsort_25 Q st = aopsW P rsort_25o st (KS.reg [5, 6, 7, 12, 13, 14, 19, 20, 21] Q)) ∧
  (vcW P E rsort_30 Q st = aopsW P rsort_30o st (KS.reg [5, 6, 7, 12, 13, 14, 19, 20, 21] Q)) ∧
  (vcW P E rsort_34 Q st = aopsW P rsort_34o st (KS.reg [5, 6, 7, 9, 12, 13, 14, 19, 20, 21] Q)) ∧
  (vcW P E rsort_33 Q st = aopsW P rsort_33o st (KS.reg [5, 6, 9, 12, 13, 14, 19, 20, 21] (KQ.seq P E rsort_34 Q))) ∧
  (vcW P E rsort_32 Q st = cndW P E (ev st (.t 42)) rsort_33 .skip Q st) ∧
  (vcW P E rsort_31 Q st = aopsW P rsort_31o st (KS.reg [5, 6, 7, 9, 12, 13, 14, 19, 20, 21, 42] (KQ.seq P E rsort_32 Q))) ∧
  (vcW P E rsort_29 Q st = vcW P E rsort_31 (KQ.seq P E rsort_30 Q) st) ∧
  (vcW P E rsort_28 Q st = aopsW P rsort_28o st (KS.reg [5, 6, 7, 9, 10, 12, 13, 14, 19, 20, 21] (KQ.seq P E rsort_29 Q))) ∧
  (vcW P E rsort_27 Q st = aopsW P rsort_27o st (KS.reg [5, 6, 7, 9, 12, 13, 14, 19, 20, 21] (KQ.seq P E rsort_28 Q))) ∧
  (vcW P E rsort_26 Q st = vcW P E rsort_27 (KQ.blk 3 Q) st) ∧
  (vcW P E rsort_24 Q st = vcW P E rsort_26 (KQ.seq P E rsort_25 Q) st) ∧
  (vcW P E rsort_35 Q st = cndW P E (ev st (.t 22)) .skip (.exit 2) Q st) ∧
  (vcW P E rsort_23 Q st = vcW P E rsort_35 (KQ.seq P E rsort_24 Q) st) ∧
  (vcW P E rsort_22 Q st = aopsW P rsort_22o st (KS.reg [5, 6, 7, 12, 13, 14, 19, 20, 21, 22] (KQ.seq P E rsort_23 Q))) ∧
  (vcW P E rsort_21 Q st = vcW P E rsort_L1 (KQ.blk 2 Q) st) ∧
  (vcW P E rsort_20 Q st = aopsW P rsort_20o st (KS.reg [5, 6, 7, 12, 13, 14, 19, 20, 21] (KQ.seq P E rsort_21 Q))) ∧
  (vcW P E rsort_14 Q st = vcW P E rsort_20 (KQ.seq P E rsort_15 Q) st) ∧
  (vcW P E rsort_13 Q st = aopsW P rsort_13o st (KS.reg [3, 5, 6, 7, 12, 13, 14] (KQ.seq P E rsort_14 Q))) ∧
  (vcW P E rsort_12 Q st = aopsW P rsort_12o st (KS.reg [3, 5, 6, 12, 13, 14] (KQ.seq P E rsort_13 Q))) ∧
  (vcW P E rsort_11 Q st = aopsW P rsort_11o st (KS.reg [3, 5, 12, 13, 14] (KQ.seq P E rsort_12 Q))) ∧
  (vcW P E rsort_10 Q st = vcW P E rsort_11 (KQ.blk 1 Q) st) ∧
  (vcW P E rsort_8 Q st = vcW P E rsort_10 (KQ.seq P E rsort_9 Q) st) ∧
  (vcW P E rsort_36 Q st = cndW P E (ev st (.t 15)) .skip (.exit 0) Q st) ∧
  (vcW P E rsort_7 Q st = vcW P E rsort_36 (KQ.seq P E rsort_8 Q) st) ∧
  (vcW P E rsort_6 Q st = aopsW P rsort_6o st (KS.reg [3, 12, 13, 14, 15] (KQ.seq P E rsort_7 Q))) ∧
  (vcW P E rsort_5 Q st = vcW P E rsort_L0 (KQ.blk 0 Q) st) ∧
  (vcW P E rsort_4 Q st = aopsW P rsort_4o st (KS.reg [3, 12, 13, 14] (KQ.seq P E rsort_5 Q))) ∧
  (vcW P E rsort_2 Q st = vcW P E rsort_4 (KQ.seq P E rsort_3 Q) st) ∧
  (vcW P E rsort_1 Q st = aopsW P rsort_1o st (KS.reg [0, 3] (KQ.seq P E rsort_2 Q))) ∧
  (vcW P E rsort_0 Q st = aopsW P rsort_0o st (KS.reg [0] (KQ.seq P E rsort_1 Q))) ∧
  (vcW P E rsort Q st = vcW P E rsort_0 Q st) :=
  ⟨rfl, rfl, rfl, rfl, vcW_cond, rfl, rfl, rfl, rfl, rfl, rfl, vcW_cond, rfl, rfl, rfl, rfl, rfl, rfl, vcW_cond, rfl, rfl, rfl, rfl, rfl, rfl, rfl, rfl, rfl, rfl, vcW_cond, rfl, rfl, rfl, rfl, rfl, rfl, rfl, rfl⟩
theorem rsort_jn (P : Program) (E : Env) (Q : KQ) (st : St) :
  (True) :=
  trivial
attribute [go_sem] rsort_vc rsort_3o rsort_9o rsort_16o rsort_19o rsort_17o rsort_25o rsort_30o rsort_34o rsort_33o rsort_31o rsort_28o rsort_27o rsort_22o rsort_20o rsort_13o rsort_12o rsort_11o rsort_6o rsort_4o rsort_1o rsort_0o
noncomputable def rsortB : Code := (Tryd.f22.body).getD .skip
theorem rsort_eq : trCode Tryd.prog 61 22000 rsortB = rsort.erase 22000 := by kernel_rfl
theorem rsort_body : Tryd.f22.body = some rsortB := by kernel_rfl
theorem rsort_n : Tryd.f22.ntmps = 61 := by kernel_rfl
theorem rsort_r : Tryd.f22.results.toList.map (trRes Tryd.prog) = [.tmp 2] := by kernel_rfl
theorem rsort_spec {h : HP} {a0 : AV} {Post : HP → AV → List AV → Prop} (hp : ∀ (E : Env) (R : HP → AV → List AV → Prop), E.N ≤ 1000000 → PostTo Post R → vcW Tryd.prog E rsort (KQ.post [.tmp 2] 1 R) ⟨[(0, a0)], h⟩) : Eng.Spec Tryd.prog 22 h [a0] Post := spec_wk (
  spec_of (c := rsort.erase 22000) (B := 22000) Tryd.func22 rsort_body (by rw [rsort_n, rsort_eq]) (by rw [rsort_n]; decide) (by rw [rsort_n]; exact (by decide : 1 ≤ 61)) (fun E hE hB hrd => by
    have hN : E.N ≤ 1000000 := by
      rw [hE, rsort_n]; decide
    rw [rsort_r, ← hB]
    exact awp_slots [(0, a0)] ⟨rfl, trivial⟩ (vcW_sound hN _ (hp E _ hN fin_self))))
/- cartulary/cartularyref08.Find -/
def find_2o : List ROp := [.v 4 (.mov (.c (.int .i64 (-1))))]
def find_2 : AK := .seq (.reg find_2o [4]) .ret
def find_7o : List ROp := [.v 10 (.mov (.t 5)),
   .v 11 (.bin .add (.t 10) (.c (.int .i64 1))),
   .v 5 (.mov (.t 11))]
def find_7 : AK := .reg find_7o [0, 1, 5]
def find_11o : List ROp := [.v 17 (.mov (.t 5)),
   .v 4 (.mov (.t 17))]
def find_11 : AK := .seq (.reg find_11o [4]) .ret
def find_10 : AK := .cond (.t 16) find_11 .skip
def find_9o : List ROp := [.v 12 (.mov (.t 0)),
   .v 13 (.mov (.t 5)),
   .v 14 (.sidx (.t 12) (.t 13)),
   .v 15 (.mov (.t 1)),
   .v 16 (.bin .eql (.t 14) (.t 15))]
def find_9 : AK := .seq (.reg find_9o [0, 1, 5, 16]) find_10
def find_8 : AK := .block 1 find_9
def find_6 : AK := .seq find_8 find_7
def find_13 : AK := .cond (.t 9) .skip (.exit 0)
def find_12o : List ROp := [.v 6 (.mov (.t 5)),
   .v 7 (.mov (.t 0)),
   .v 8 (.len true (.t 7)),
   .v 9 (.bin .lss (.t 6) (.t 8))]
def find_12 : AK := .seq (.reg find_12o [0, 1, 5, 9]) find_13
def find_5 : AK := .seq find_12 find_6
def find_L0 : AK := .loop find_5
def find_4 : AK := .block 0 find_L0
def find_3o : List ROp := [.v 5 (.mov (.c (.int .i64 0)))]
def find_3 : AK := .seq (.reg find_3o [0, 1, 5]) find_4
def find_1 : AK := .seq find_3 find_2
def find_0o : List ROp := [.v 4 (.mov (.c (.int .i64 0)))]
def find_0 : AK := .seq (.reg find_0o [0, 1]) find_1
def find : AK := find_0
theorem find_vc (P : Program) (E : Env) (Q : KQ) (st : St) :
  (vcW P E find_2 Q st = aopsW P find_2o st (KS.reg [4] (KQ.seq P E .ret Q))) ∧
  (vcW P E find_7 Q st = aopsW P find_7o st (KS.reg [0, 1, 5] Q)) ∧
  (vcW P E find_11 Q st = aopsW P find_11o st (KS.reg [4] (KQ.seq P E .ret Q))) ∧
  (vcW P E find_10 Q st = cndW P E (ev st (.t 16)) find_11 .skip Q st) ∧
  (vcW P E find_9 Q st = aopsW P find_9o st (KS.reg [0, 1, 5, 16] (KQ.seq P E find_10 Q))) ∧
  (vcW P E find_8 Q st = vcW P E find_9 (KQ.blk 1 Q) st) ∧
  (vcW P E find_6 Q st = vcW P E find_8 (KQ.seq P E find_7 Q) st) ∧
  (vcW P E find_13 Q st = cndW P E (ev st (.t 9)) .skip (.exit 0) Q st) ∧
  (vcW P E find_12 Q st = aopsW P find_12o st (KS.reg [0, 1, 5, 9] (KQ.seq P E find_13 Q))) ∧
  (vcW P E find_5 Q st = vcW P E find_12 (KQ.seq P E find_6 Q) st) ∧
  (vcW P E find_4 Q st = vcW P E find_L0 (KQ.blk 0 Q) st) ∧
  (vcW P E find_3 Q st = aopsW P find_3o st (KS.reg [0, 1, 5] (KQ.seq P E find_4 Q))) ∧
  (vcW P E find_1 Q st = vcW P E find_3 (KQ.seq P E find_2 Q) st) ∧
  (vcW P E find_0 Q st = aopsW P find_0o st (KS.reg [0, 1] (KQ.seq P E find_1 Q))) ∧
  (vcW P E find Q st = vcW P E find_0 Q st) :=
  ⟨rfl, rfl, rfl, vcW_cond, rfl, rfl, rfl, vcW_cond, rfl, rfl, rfl, rfl, rfl, rfl, rfl⟩
theorem find_jn (P : Program) (E : Env) (Q : KQ) (st : St) :
  (True) :=
  trivial
attribute [go_sem] find_vc find_2o find_7o find_11o find_9o find_12o find_3o find_0o
noncomputable def findB : Code := (Tryd.f34.body).getD .skip
theorem find_eq : trCode Tryd.prog 18 23000 findB = find.erase 23000 := by kernel_rfl
theorem find_body : Tryd.f34.body = some findB := by kernel_rfl
theorem find_n : Tryd.f34.ntmps = 18 := by kernel_rfl
theorem find_r : Tryd.f34.results.toList.map (trRes Tryd.prog) = [.tmp 4] := by kernel_rfl
theorem find_spec {h : HP} {a0 a1 : AV} {Post : HP → AV → List AV → Prop} (hp : ∀ (E : Env) (R : HP → AV → List AV → Prop), E.N ≤ 1000000 → PostTo Post R → vcW Tryd.prog E find (KQ.post [.tmp 4] 2 R) ⟨[(0, a0), (1, a1)], h⟩) : Eng.Spec Tryd.prog 34 h [a0, a1] Post := spec_wk (
  spec_of (c := find.erase 23000) (B := 23000) Tryd.func34 find_body (by rw [find_n, find_eq]) (by rw [find_n]; decide) (by rw [find_n]; exact (by decide : 2 ≤ 18)) (fun E hE hB hrd => by
    have hN : E.N ≤ 1000000 := by
      rw [hE, find_n]; decide
    rw [find_r, ← hB]
    exact awp_slots [(0, a0), (1, a1)] ⟨rfl, rfl, trivial⟩ (vcW_sound hN _ (hp E _ hN fin_self))))
/- cartulary/cartularyref08.Digits -/
def digits8_4o : List ROp := [.val 29 true 24029 (.mov (.t 0)),
   .val 30 true 24030 (.bin .quo (.t 29) (.c (.int .i64 10))),
   .val 32 true 24032 (.mov (.t 0)),
   .val 33 true 24033 (.bin .rem (.t 32) (.c (.int .i64 10))),
   .val 34 true 24034 (.mov (.t 0)),
   .val 35 true 24035 (.bin .rem (.t 34) (.c (.int .i64 10))),
   .val 36 true 24036 (.bin .add (.t 35) (.c (.int .i64 1))),
   .val 37 true 24037 (.slcS (.c (.str [48, 49, 50, 51, 52, 53, 54, 55, 56, 57])) (some (.t 33)) (some (.t 36))),
   .cal (some 31) true 24031 33 [(.t 30)],
   .val 38 true 24038 (.bin .add (.t 31) (.t 37)),
   .v 2 (.mov (.t 38))]
def digits8_4 : AK := .seq (.reg digits8_4o [2]) .ret
def digits8_7o : List ROp := [.v 25 (.mov (.t 0)),
   .v 26 (.mov (.t 0)),
   .v 27 (.bin .add (.t 26) (.c (.int .i64 1))),
   .v 28 (.slcS (.c (.str [48, 49, 50, 51, 52, 53, 54, 55, 56, 57])) (some (.t 25)) (some (.t 27))),
   .v 2 (.mov (.t 28))]
def digits8_7 : AK := .seq (.reg digits8_7o [2]) .ret
def digits8_6 : AK := .cond (.t 24) digits8_7 .skip
def digits8_5o : List ROp := [.v 23 (.mov (.t 0)),
   .v 24 (.bin .lss (.t 23) (.c (.int .i64 10)))]
def digits8_5 : AK := .seq (.reg digits8_5o [0, 24]) digits8_6
def digits8_3 : AK := .seq digits8_5 digits8_4
def digits8_10o : List ROp := [.v 15 (.mov (.t 0)),
   .v 16 (.bin .quo (.t 15) (.c (.int .i64 10))),
   .cal (some 17) false 24017 33 [(.t 16)],
   .v 18 (.mov (.t 0)),
   .v 19 (.bin .rem (.t 18) (.c (.int .i64 10))),
   .v 20 (.un .neg (.t 19)),
   .cal (some 21) false 24021 33 [(.t 20)],
   .v 22 (.bin .add (.t 17) (.t 21)),
   .v 2 (.mov (.t 22))]
def digits8_10 : AK := .seq (.reg digits8_10o [2]) .ret
def digits8_9 : AK := .cond (.t 14) digits8_10 .skip
def digits8_8o : List ROp := [.v 13 (.mov (.t 0)),
   .v 14 (.bin .lss (.t 13) (.c (.int .i64 0)))]
def digits8_8 : AK := .seq (.reg digits8_8o [0, 14]) digits8_9
def digits8_2 : AK := .seq digits8_8 digits8_3
def digits8_13o : List ROp := [.v 9 (.mov (.t 0)),
   .v 10 (.un .neg (.t 9)),
   .cal (some 11) false 24011 33 [(.t 10)],
   .v 12 (.bin .add (.c (.str [45])) (.t 11)),
   .v 2 (.mov (.t 12))]
def digits8_13 : AK := .seq (.reg digits8_13o [2]) .ret
def digits8_12 : AK := .cond (.t 8) digits8_13 .skip
def digits8_11o : List ROp := [.v 3 (.mov (.t 0)),
   .v 4 (.bin .lss (.t 3) (.c (.int .i64 0))),
   .v 5 (.mov (.t 4)),
   .gval 6 5 true false 24006 (.mov (.t 0)),
   .gval 7 5 true false 24007 (.bin .gtr (.t 6) (.c (.int .i64 (-10)))),
   .v 8 (.pick (.t 5) (.t 7) (.c (.bool false)))]
def digits8_11 : AK := .seq (.reg digits8_11o [0, 8]) digits8_12
def digits8_1 : AK := .seq digits8_11 digits8_2
def digits8_0o : List ROp := [.v 2 (.mov (.c (.str [])))]
def digits8_0 : AK := .seq (.reg digits8_0o [0]) digits8_1
def digits8 : AK := digits8_0
theorem digits8_vc (P : Program) (E : Env) (Q : KQ) (st : St) :
  (vcW P E digits8_4 Q st = aopsW P digits8_4o st (KS.reg [2] (KQ.seq P E .ret Q))) ∧
  (vcW P E digits8_7 Q st = aopsW P digits8_7o st (KS.reg [2] (KQ.seq P E .ret Q))) ∧
  (vcW P E digits8_6 Q st = cndW P E (ev st (.t 24)) digits8_7 .skip Q st) ∧
  (vcW P E digits8_5 Q st = aopsW P digits8_5o st (KS.reg [0, 24] (KQ.seq P E digits8_6 Q))) ∧
  (vcW P E digits8_3 Q st = vcW P E digits8_5 (KQ.seq P E digits8_4 Q) st) ∧
  (vcW P E digits8_10 Q st = aopsW P digits8_10o st (KS.reg [2] (KQ.seq P E .ret Q))) ∧
  (vcW P E digits8_9 Q st = cndW P E (ev st (.t 14)) digits8_10 .skip Q st) ∧
  (vcW P E digits8_8 Q st = aopsW P digits8_8o st (KS.reg [0, 14] (KQ.seq P E digits8_9 Q))) ∧
  (vcW P E digits8_2 Q st = vcW P E digits8_8 (KQ.seq P E digits8_3 Q) st) ∧
  (vcW P E digits8_13 Q st = aopsW P digits8_13o st (KS.reg [2] (KQ.seq P E .ret Q))) ∧
  (vcW P E digits8_12 Q st = cndW P E (ev st (.t 8)) digits8_13 .skip Q st) ∧
  (vcW P E digits8_11 Q st = aopsW P digits8_11o st (KS.reg [0, 8] (KQ.seq P E digits8_12 Q))) ∧
  (vcW P E digits8_1 Q st = vcW P E digits8_11 (KQ.seq P E digits8_2 Q) st) ∧
  (vcW P E digits8_0 Q st = aopsW P digits8_0o st (KS.reg [0] (KQ.seq P E digits8_1 Q))) ∧
  (vcW P E digits8 Q st = vcW P E digits8_0 Q st) :=
  ⟨rfl, rfl, vcW_cond, rfl, rfl, rfl, vcW_cond, rfl, rfl, rfl, vcW_cond, rfl, rfl, rfl, rfl⟩
theorem digits8_jn (P : Program) (E : Env) (Q : KQ) (st : St) :
  (True) :=
  trivial
attribute [go_sem] digits8_vc digits8_4o digits8_7o digits8_5o digits8_10o digits8_8o digits8_13o digits8_11o digits8_0o
noncomputable def digits8B : Code := (Tryd.f33.body).getD .skip
theorem digits8_eq : trCode Tryd.prog 39 24000 digits8B = digits8.erase 24000 := by kernel_rfl
theorem digits8_body : Tryd.f33.body = some digits8B := by kernel_rfl
theorem digits8_n : Tryd.f33.ntmps = 39 := by kernel_rfl
theorem digits8_r : Tryd.f33.results.toList.map (trRes Tryd.prog) = [.tmp 2] := by kernel_rfl
theorem digits8_spec {h : HP} {a0 : AV} {Post : HP → AV → List AV → Prop} (hp : ∀ (E : Env) (R : HP → AV → List AV → Prop), E.N ≤ 1000000 → PostTo Post R → vcW Tryd.prog E digits8 (KQ.post [.tmp 2] 1 R) ⟨[(0, a0)], h⟩) : Eng.Spec Tryd.prog 33 h [a0] Post := spec_wk (
  spec_of (c := digits8.erase 24000) (B := 24000) Tryd.func33 digits8_body (by rw [digits8_n, digits8_eq]) (by rw [digits8_n]; decide) (by rw [digits8_n]; exact (by decide : 1 ≤ 39)) (fun E hE hB hrd => by
    have hN : E.N ≤ 1000000 := by
      rw [hE, digits8_n]; decide
    rw [digits8_r, ← hB]
    exact awp_slots [(0, a0)] ⟨rfl, trivial⟩ (vcW_sound hN _ (hp E _ hN fin_self))))
/- cartulary/cartularyref07.Same -/
def same_3o : List ROp := [.v 4 (.mov (.c (.bool true)))]
def same_3 : AK := .seq (.reg same_3o [4]) .ret
def same_9o : List ROp := [.v 25 (.bin .add (.t 13) (.c (.int .i64 1))),
   .v 13 (.mov (.t 25))]
def same_9 : AK := .reg same_9o [0, 1, 12, 13]
def same_14o : List ROp := [.v 4 (.mov (.c (.bool false)))]
def same_14 : AK := .seq (.reg same_14o [4]) .ret
def same_13 : AK := .cond (.t 24) same_14 .skip
def same_12o : List ROp := [.val 16 true 25016 (.mov (.t 0)),
   .val 17 true 25017 (.mov (.t 5)),
   .val 18 true 25018 (.idxA 1 (.t 16) (.t 17)),
   .val 19 true 25019 (.ld false 1 (.t 18)),
   .val 20 true 25020 (.mov (.t 1)),
   .val 21 true 25021 (.mov (.t 5)),
   .val 22 true 25022 (.idxA 1 (.t 20) (.t 21)),
   .val 23 true 25023 (.ld false 1 (.t 22)),
   .val 24 true 25024 (.bin .neq (.t 19) (.t 23))]
def same_12 : AK := .seq (.reg same_12o [0, 1, 12, 13, 24]) same_13
def same_11o : List ROp := [.v 15 (.mov (.t 13)),
   .v 5 (.mov (.t 15))]
def same_11 : AK := .seq (.reg same_11o [0, 1, 5, 12, 13]) same_12
def same_10 : AK := .block 1 same_11
def same_8 : AK := .seq same_10 same_9
def same_15 : AK := .cond (.t 14) .skip (.exit 0)
def same_7 : AK := .seq same_15 same_8
def same_6o : List ROp := [.v 14 (.bin .lss (.t 13) (.t 12))]
def same_6 : AK := .seq (.reg same_6o [0, 1, 12, 13, 14]) same_7
def same_L0 : AK := .loop same_6
def same_5 : AK := .block 0 same_L0
def same_4o : List ROp := [.v 11 (.mov (.t 0)),
   .v 12 (.len false (.t 11)),
   .v 13 (.mov (.c (.int .i64 0)))]
def same_4 : AK := .seq (.reg same_4o [0, 1, 12, 13]) same_5
def same_2 : AK := .seq same_4 same_3
def same_18o : List ROp := [.v 4 (.mov (.c (.bool false)))]
def same_18 : AK := .seq (.reg same_18o [4]) .ret
def same_17 : AK := .cond (.t 10) same_18 .skip
def same_16o : List ROp := [.v 6 (.mov (.t 0)),
   .v 7 (.len false (.t 6)),
   .v 8 (.mov (.t 1)),
   .v 9 (.len false (.t 8)),
   .v 10 (.bin .neq (.t 7) (.t 9))]
def same_16 : AK := .seq (.reg same_16o [0, 1, 10]) same_17
def same_1 : AK := .seq same_16 same_2
def same_0o : List ROp := [.v 4 (.mov (.c (.bool false)))]
def same_0 : AK := .seq (.reg same_0o [0, 1]) same_1
def same : AK := same_0
theorem same_vc (P : Program) (E : Env) (Q : KQ) (st : St) :
  (vcW P E same_3 Q st = aopsW P same_3o st (KS.reg [4] (KQ.seq P E .ret Q))) ∧
  (vcW P E same_9 Q st = aopsW P same_9o st (KS.reg [0, 1, 12, 13] Q)) ∧
  (vcW P E same_14 Q st = aopsW P same_14o st (KS.reg [4] (KQ.seq P E .ret Q))) ∧
  (vcW P E same_13 Q st = cndW P E (ev st (.t 24)) same_14 .skip Q st) ∧
  (vcW P E same_12 Q st = aopsW P same_12o st (KS.reg [0, 1, 12, 13, 24] (KQ.seq P E same_13 Q))) ∧
  (vcW P E same_11 Q st = aopsW P same_11o st (KS.reg [0, 1, 5, 12, 13] (KQ.seq P E same_12 Q))) ∧
  (vcW P E same_10 Q st = vcW P E same_11 (KQ.blk 1 Q) st) ∧
  (vcW P E same_8 Q st = vcW P E same_10 (KQ.seq P E same_9 Q) st) ∧
  (vcW P E same_15 Q st = cndW P E (ev st (.t 14)) .skip (.exit 0) Q st) ∧
  (vcW P E same_7 Q st = vcW P E same_15 (KQ.seq P E same_8 Q) st) ∧
  (vcW P E same_6 Q st = aopsW P same_6o st (KS.reg [0, 1, 12, 13, 14] (KQ.seq P E same_7 Q))) ∧
  (vcW P E same_5 Q st = vcW P E same_L0 (KQ.blk 0 Q) st) ∧
  (vcW P E same_4 Q st = aopsW P same_4o st (KS.reg [0, 1, 12, 13] (KQ.seq P E same_5 Q))) ∧
  (vcW P E same_2 Q st = vcW P E same_4 (KQ.seq P E same_3 Q) st) ∧
  (vcW P E same_18 Q st = aopsW P same_18o st (KS.reg [4] (KQ.seq P E .ret Q))) ∧
  (vcW P E same_17 Q st = cndW P E (ev st (.t 10)) same_18 .skip Q st) ∧
  (vcW P E same_16 Q st = aopsW P same_16o st (KS.reg [0, 1, 10] (KQ.seq P E same_17 Q))) ∧
  (vcW P E same_1 Q st = vcW P E same_16 (KQ.seq P E same_2 Q) st) ∧
  (vcW P E same_0 Q st = aopsW P same_0o st (KS.reg [0, 1] (KQ.seq P E same_1 Q))) ∧
  (vcW P E same Q st = vcW P E same_0 Q st) :=
  ⟨rfl, rfl, rfl, vcW_cond, rfl, rfl, rfl, rfl, vcW_cond, rfl, rfl, rfl, rfl, rfl, rfl, vcW_cond, rfl, rfl, rfl, rfl⟩
theorem same_jn (P : Program) (E : Env) (Q : KQ) (st : St) :
  (True) :=
  trivial
attribute [go_sem] same_vc same_3o same_9o same_14o same_12o same_11o same_6o same_4o same_18o same_16o same_0o
noncomputable def sameB : Code := (Tryd.f20.body).getD .skip
theorem same_eq : trCode Tryd.prog 26 25000 sameB = same.erase 25000 := by kernel_rfl
theorem same_body : Tryd.f20.body = some sameB := by kernel_rfl
theorem same_n : Tryd.f20.ntmps = 26 := by kernel_rfl
theorem same_r : Tryd.f20.results.toList.map (trRes Tryd.prog) = [.tmp 4] := by kernel_rfl
theorem same_spec {h : HP} {a0 a1 : AV} {Post : HP → AV → List AV → Prop} (hp : ∀ (E : Env) (R : HP → AV → List AV → Prop), E.N ≤ 1000000 → PostTo Post R → vcW Tryd.prog E same (KQ.post [.tmp 4] 2 R) ⟨[(0, a0), (1, a1)], h⟩) : Eng.Spec Tryd.prog 20 h [a0, a1] Post := spec_wk (
  spec_of (c := same.erase 25000) (B := 25000) Tryd.func20 same_body (by rw [same_n, same_eq]) (by rw [same_n]; decide) (by rw [same_n]; exact (by decide : 2 ≤ 26)) (fun E hE hB hrd => by
    have hN : E.N ≤ 1000000 := by
      rw [hE, same_n]; decide
    rw [same_r, ← hB]
    exact awp_slots [(0, a0), (1, a1)] ⟨rfl, rfl, trivial⟩ (vcW_sound hN _ (hp E _ hN fin_self))))
/- cartulary/semver.Sort -/
def ssort_3o : List ROp := [.v 47 (.mov (.t 3)),
   .v 2 (.mov (.t 47))]
def ssort_3 : AK := .seq (.reg ssort_3o [2]) .ret
def ssort_8o : List ROp := [.v 12 (.mov (.t 4)),
   .v 13 (.bin .add (.t 12) (.c (.int .i64 1))),
   .v 4 (.mov (.t 13))]
def ssort_8 : AK := .reg ssort_8o [3, 4]
def ssort_14o : List ROp := [.v 29 (.mov (.t 5)),
   .v 30 (.bin .sub (.t 29) (.c (.int .i64 1))),
   .v 5 (.mov (.t 30))]
def ssort_14 : AK := .reg ssort_14o [3, 4, 5]
def ssort_16o : List ROp := [.val 31 true 26031 (.mov (.t 3)),
   .val 32 true 26032 (.mov (.t 5)),
   .val 33 true 26033 (.mov (.t 3)),
   .val 34 true 26034 (.mov (.t 5)),
   .val 35 true 26035 (.bin .sub (.t 34) (.c (.int .i64 1))),
   .val 36 true 26036 (.mov (.t 3)),
   .val 37 true 26037 (.mov (.t 5)),
   .val 38 true 26038 (.bin .sub (.t 37) (.c (.int .i64 1))),
   .val 39 true 26039 (.idxA 1 (.t 36) (.t 38)),
   .val 40 true 26040 (.ld false 1 (.t 39)),
   .val 41 true 26041 (.mov (.t 3)),
   .val 42 true 26042 (.mov (.t 5)),
   .val 43 true 26043 (.idxA 1 (.t 41) (.t 42)),
   .val 44 true 26044 (.ld false 1 (.t 43)),
   .val 45 true 26045 (.idxA 1 (.t 31) (.t 32)),
   .effN true 26000 (.st 1 (.t 45) (.t 40)),
   .v 46 (.idxA 1 (.t 33) (.t 35)),
   .effN false 26000 (.st 1 (.t 46) (.t 44))]
def ssort_16 : AK := .reg ssort_16o [3, 4, 5]
def ssort_15 : AK := .block 3 ssort_16
def ssort_13 : AK := .seq ssort_15 ssort_14
def ssort_18 : AK := .cond (.t 28) .skip (.exit 2)
def ssort_17o : List ROp := [.val 15 true 26015 (.mov (.t 5)),
   .val 16 true 26016 (.bin .gtr (.t 15) (.c (.int .i64 0))),
   .v 17 (.mov (.t 16)),
   .gval 18 17 true true 26018 (.mov (.t 3)),
   .gval 19 17 true true 26019 (.mov (.t 5)),
   .gval 20 17 true true 26020 (.idxA 1 (.t 18) (.t 19)),
   .gval 21 17 true true 26021 (.ld false 1 (.t 20)),
   .gval 22 17 true true 26022 (.mov (.t 3)),
   .gval 23 17 true true 26023 (.mov (.t 5)),
   .gval 24 17 true true 26024 (.bin .sub (.t 23) (.c (.int .i64 1))),
   .gval 25 17 true true 26025 (.idxA 1 (.t 22) (.t 24)),
   .gval 26 17 true true 26026 (.ld false 1 (.t 25)),
   .gcal 27 17 true true 26027 37 [(.t 21), (.t 26)],
   .val 28 true 26028 (.pick (.t 17) (.t 27) (.c (.bool false)))]
def ssort_17 : AK := .seq (.reg ssort_17o [3, 4, 5, 28]) ssort_18
def ssort_12 : AK := .seq ssort_17 ssort_13
def ssort_L1 : AK := .loop ssort_12
def ssort_11 : AK := .block 2 ssort_L1
def ssort_10o : List ROp := [.v 14 (.mov (.t 4)),
   .v 5 (.mov (.t 14))]
def ssort_10 : AK := .seq (.reg ssort_10o [3, 4, 5]) ssort_11
def ssort_9 : AK := .block 1 ssort_10
def ssort_7 : AK := .seq ssort_9 ssort_8
def ssort_20 : AK := .cond (.t 11) .skip (.exit 0)
def ssort_19o : List ROp := [.v 8 (.mov (.t 4)),
   .v 9 (.mov (.t 3)),
   .v 10 (.len false (.t 9)),
   .v 11 (.bin .lss (.t 8) (.t 10))]
def ssort_19 : AK := .seq (.reg ssort_19o [3, 4, 11]) ssort_20
def ssort_6 : AK := .seq ssort_19 ssort_7
def ssort_L0 : AK := .loop ssort_6
def ssort_5 : AK := .block 0 ssort_L0
def ssort_4o : List ROp := [.v 4 (.mov (.c (.int .i64 1)))]
def ssort_4 : AK := .seq (.reg ssort_4o [3, 4]) ssort_5
def ssort_2 : AK := .seq ssort_4 ssort_3
def ssort_1o : List ROp := [.v 6 (.mov (.t 0)),
   .eff 7 false 26007 (.app 1 16 (.c (.nilsl)) (.t 6)),
   .v 3 (.mov (.t 7))]
def ssort_1 : AK := .seq (.reg ssort_1o [3]) ssort_2
def ssort_0o : List ROp := [.v 2 (.mov (.c (.nilsl)))]
def ssort_0 : AK := .seq (.reg ssort_0o [0]) ssort_1
def ssort : AK := ssort_0
theorem ssort_vc (P : Program) (E : Env) (Q : KQ) (st : St) :
  (vcW P E ssort_3 Q st = aopsW P ssort_3o st (KS.reg [2] (KQ.seq P E .ret Q))) ∧
  (vcW P E ssort_8 Q st = aopsW P ssort_8o st (KS.reg [3, 4] Q)) ∧
  (vcW P E ssort_14 Q st = aopsW P ssort_14o st (KS.reg [3, 4, 5] Q)) ∧
  (vcW P E ssort_16 Q st = aopsW P ssort_16o st (KS.reg [3, 4, 5] Q)) ∧
  (vcW P E ssort_15 Q st = vcW P E ssort_16 (KQ.blk 3 Q) st) ∧
  (vcW P E ssort_13 Q st = vcW P E ssort_15 (KQ.seq P E ssort_14 Q) st) ∧
  (vcW P E ssort_18 Q st = cndW P E (ev st (.t 28)) .skip (.exit 2) Q st) ∧
  (vcW P E ssort_17 Q st = aopsW P ssort_17o st (KS.reg [3, 4, 5, 28] (KQ.seq P E ssort_18 Q))) ∧
  (vcW P E ssort_12 Q st = vcW P E ssort_17 (KQ.seq P E ssort_13 Q) st) ∧
  (vcW P E ssort_11 Q st = vcW P E ssort_L1 (KQ.blk 2 Q) st) ∧
  (vcW P E ssort_10 Q st = aopsW P ssort_10o st (KS.reg [3, 4, 5] (KQ.seq P E ssort_11 Q))) ∧
  (vcW P E ssort_9 Q st = vcW P E ssort_10 (KQ.blk 1 Q) st) ∧
  (vcW P E ssort_7 Q st = vcW P E ssort_9 (KQ.seq P E ssort_8 Q) st) ∧
  (vcW P E ssort_20 Q st = cndW P E (ev st (.t 11)) .skip (.exit 0) Q st) ∧
  (vcW P E ssort_19 Q st = aopsW P ssort_19o st (KS.reg [3, 4, 11] (KQ.seq P E ssort_20 Q))) ∧
  (vcW P E ssort_6 Q st = vcW P E ssort_19 (KQ.seq P E ssort_7 Q) st) ∧
  (vcW P E ssort_5 Q st = vcW P E ssort_L0 (KQ.blk 0 Q) st) ∧
  (vcW P E ssort_4 Q st = aopsW P ssort_4o st (KS.reg [3, 4] (KQ.seq P E ssort_5 Q))) ∧
  (vcW P E ssort_2 Q st = vcW P E ssort_4 (KQ.seq P E ssort_3 Q) st) ∧
  (vcW P E ssort_1 Q st = aopsW P ssort_1o st (KS.reg [3] (KQ.seq P E ssort_2 Q))) ∧
  (vcW P E ssort_0 Q st = aopsW P ssort_0o st (KS.reg [0] (KQ.seq P E ssort_1 Q))) ∧
  (vcW P E ssort Q st = vcW P E ssort_0 Q st) :=
  ⟨rfl, rfl, rfl, rfl, rfl, rfl, vcW_cond, rfl, rfl, rfl, rfl, rfl, rfl, vcW_cond, rfl, rfl, rfl, rfl, rfl, rfl, rfl, rfl⟩
theorem ssort_jn (P : Program) (E : Env) (Q : KQ) (st : St) :
  (True) :=
  trivial
attribute [go_sem] ssort_vc ssort_3o ssort_8o ssort_14o ssort_16o ssort_17o ssort_10o ssort_19o ssort_4o ssort_1o ssort_0o
noncomputable def ssortB : Code := (Tryd.f21.body).getD .skip
theorem ssort_eq : trCode Tryd.prog 48 26000 ssortB = ssort.erase 26000 := by kernel_rfl
theorem ssort_body : Tryd.f21.body = some ssortB := by kernel_rfl
theorem ssort_n : Tryd.f21.ntmps = 48 := by kernel_rfl
theorem ssort_r : Tryd.f21.results.toList.map (trRes Tryd.prog) = [.tmp 2] := by kernel_rfl
theorem ssort_spec {h : HP} {a0 : AV} {Post : HP → AV → List AV → Prop} (hp : ∀ (E : Env) (R : HP → AV → List AV → Prop), E.N ≤ 1000000 → PostTo Post R → vcW Tryd.prog E ssort (KQ.post [.tmp 2] 1 R) ⟨[(0, a0)], h⟩) : Eng.Spec Tryd.prog 21 h [a0] Post := spec_wk (
  spec_of (c := ssort.erase 26000) (B := 26000) Tryd.func21 ssort_body (by rw [ssort_n, ssort_eq]) (by rw [ssort_n]; decide) (by rw [ssort_n]; exact (by decide : 1 ≤ 48)) (fun E hE hB hrd => by
    have hN : E.N ≤ 1000000 := by
      rw [hE, ssort_n]; decide
    rw [ssort_r, ← hB]
    exact awp_slots [(0, a0)] ⟨rfl, trivial⟩ (vcW_sound hN _ (hp E _ hN fin_self))))
/- cartulary/cartularylaw20.awake -/
def awake_1o : List ROp := [.cal (some 1) false 30001 11 [(.c (.str [118, 49, 46, 48, 46, 48, 45, 98, 101, 116, 97, 46, 49, 49])), (.c (.str [118, 49, 46, 48, 46, 48, 45, 98, 101, 116, 97, 46, 50]))],
   .v 2 (.bin .eql (.t 1) (.c (.int .i64 1))),
   .v 3 (.mov (.t 2)),
   .gcal 4 3 true false 30004 14 [(.c (.str [118, 49, 46, 50, 46, 51, 45, 97, 43, 98]))],
   .gval 5 3 true false 30005 (.bin .eql (.t 4) (.c (.str [118, 49, 46, 50, 46, 51, 45, 97]))),
   .v 6 (.pick (.t 3) (.t 5) (.c (.bool false))),
   .v 7 (.mov (.t 6)),
   .gcal 8 7 true false 30008 14 [(.c (.str [118, 49, 46, 50, 43, 120]))],
   .gval 9 7 true false 30009 (.bin .eql (.t 8) (.c (.str []))),
   .v 10 (.pick (.t 7) (.t 9) (.c (.bool false))),
   .v 11 (.mov (.t 10)),
   .gcal 12 11 true false 30012 11 [(.c (.str [118, 49])), (.c (.str [118, 49, 46, 48, 46, 48, 43, 120]))],
   .gval 13 11 true false 30013 (.bin .eql (.t 12) (.c (.int .i64 0))),
   .v 14 (.pick (.t 11) (.t 13) (.c (.bool false))),
   .v 0 (.mov (.t 14))]
def awake_1 : AK := .seq (.reg awake_1o [0]) .ret
def awake_0o : List ROp := [.v 0 (.mov (.c (.bool false)))]
def awake_0 : AK := .seq (.reg awake_0o []) awake_1
def awake : AK := awake_0
theorem awake_vc (P : Program) (E : Env) (Q : KQ) (st : St) :
  (vcW P E awake_1 Q st = aopsW P awake_1o st (KS.reg [0] (KQ.seq P E .ret Q))) ∧
  (vcW P E awake_0 Q st = aopsW P awake_0o st (KS.reg [] (KQ.seq P E awake_1 Q))) ∧
  (vcW P E awake Q st = vcW P E awake_0 Q st) :=
  ⟨rfl, rfl, rfl⟩
theorem awake_jn (P : Program) (E : Env) (Q : KQ) (st : St) :
  (True) :=
  trivial
attribute [go_sem] awake_vc awake_1o awake_0o
noncomputable def awakeB : Code := (Tryd.f12.body).getD .skip
theorem awake_eq : trCode Tryd.prog 15 30000 awakeB = awake.erase 30000 := by kernel_rfl
theorem awake_body : Tryd.f12.body = some awakeB := by kernel_rfl
theorem awake_n : Tryd.f12.ntmps = 15 := by kernel_rfl
theorem awake_r : Tryd.f12.results.toList.map (trRes Tryd.prog) = [.tmp 0] := by kernel_rfl
theorem awake_spec {h : HP} {Post : HP → AV → List AV → Prop} (hp : ∀ (E : Env) (R : HP → AV → List AV → Prop), E.N ≤ 1000000 → PostTo Post R → vcW Tryd.prog E awake (KQ.post [.tmp 0] 0 R) ⟨[], h⟩) : Eng.Spec Tryd.prog 12 h [] Post := spec_wk (
  spec_of (c := awake.erase 30000) (B := 30000) Tryd.func12 awake_body (by rw [awake_n, awake_eq]) (by rw [awake_n]; decide) (by rw [awake_n]; exact (by decide : 0 ≤ 15)) (fun E hE hB hrd => by
    have hN : E.N ≤ 1000000 := by
      rw [hE, awake_n]; decide
    rw [awake_r, ← hB]
    exact awp_slots [] trivial (vcW_sound hN _ (hp E _ hN fin_self))))
/- cartulary/cartularylaw20.SemverTotal -/
def ltotal_3o : List ROp := [.cal (some 50) false 31050 12 [],
   .v 51 (.mov (.t 50)),
   .gval 52 51 true false 31052 (.mov (.t 1)),
   .gval 53 51 true false 31053 (.mov (.t 0)),
   .gcal 54 51 true false 31054 11 [(.t 52), (.t 53)],
   .gval 55 51 true false 31055 (.mov (.t 7)),
   .gval 56 51 true false 31056 (.un .neg (.t 55)),
   .gval 57 51 true false 31057 (.bin .eql (.t 54) (.t 56)),
   .v 58 (.pick (.t 51) (.t 57) (.c (.bool false))),
   .v 59 (.mov (.t 58)),
   .gval 60 59 true false 31060 (.mov (.t 0)),
   .gval 61 59 true false 31061 (.mov (.t 0)),
   .gcal 62 59 true false 31062 11 [(.t 60), (.t 61)],
   .gval 63 59 true false 31063 (.bin .eql (.t 62) (.c (.int .i64 0))),
   .v 64 (.pick (.t 59) (.t 63) (.c (.bool false))),
   .v 6 (.mov (.t 64))]
def ltotal_3 : AK := .seq (.reg ltotal_3o [6]) .ret
def ltotal_6o : List ROp := [.v 6 (.mov (.c (.bool false)))]
def ltotal_6 : AK := .seq (.reg ltotal_6o [6]) .ret
def ltotal_5 : AK := .cond (.t 49) ltotal_6 .skip
def ltotal_4o : List ROp := [.v 19 (.mov (.t 7)),
   .v 20 (.bin .leq (.t 19) (.c (.int .i64 0))),
   .v 21 (.mov (.t 20)),
   .gval 22 21 true false 31022 (.mov (.t 8)),
   .gval 23 21 true false 31023 (.bin .leq (.t 22) (.c (.int .i64 0))),
   .v 24 (.pick (.t 21) (.t 23) (.c (.bool false))),
   .v 25 (.mov (.t 24)),
   .gval 26 25 true false 31026 (.mov (.t 9)),
   .gval 27 25 true false 31027 (.bin .gtr (.t 26) (.c (.int .i64 0))),
   .v 28 (.pick (.t 25) (.t 27) (.c (.bool false))),
   .v 29 (.mov (.t 28)),
   .gval 30 29 false false 31030 (.mov (.t 7)),
   .gval 31 29 false false 31031 (.bin .geq (.t 30) (.c (.int .i64 0))),
   .gval 32 29 false false 31032 (.mov (.t 31)),
   .gval 33 32 true false 31033 (.mov (.t 8)),
   .gval 34 32 true false 31034 (.bin .geq (.t 33) (.c (.int .i64 0))),
   .gval 35 29 false false 31035 (.pick (.t 32) (.t 34) (.c (.bool false))),
   .gval 36 29 false false 31036 (.mov (.t 35)),
   .gval 37 36 true false 31037 (.mov (.t 9)),
   .gval 38 36 true false 31038 (.bin .lss (.t 37) (.c (.int .i64 0))),
   .gval 39 29 false false 31039 (.pick (.t 36) (.t 38) (.c (.bool false))),
   .v 40 (.pick (.t 29) (.c (.bool true)) (.t 39)),
   .v 41 (.mov (.t 40)),
   .gval 42 41 false false 31042 (.mov (.t 7)),
   .gval 43 41 false false 31043 (.bin .eql (.t 42) (.c (.int .i64 0))),
   .gval 44 41 false false 31044 (.mov (.t 43)),
   .gval 45 44 true false 31045 (.mov (.t 8)),
   .gval 46 44 true false 31046 (.mov (.t 9)),
   .gval 47 44 true false 31047 (.bin .neq (.t 45) (.t 46)),
   .gval 48 41 false false 31048 (.pick (.t 44) (.t 47) (.c (.bool false))),
   .v 49 (.pick (.t 41) (.c (.bool true)) (.t 48))]
def ltotal_4 : AK := .seq (.reg ltotal_4o [0, 1, 7, 49]) ltotal_5
def ltotal_2 : AK := .seq ltotal_4 ltotal_3
def ltotal_1o : List ROp := [.v 10 (.mov (.t 0)),
   .v 11 (.mov (.t 1)),
   .cal (some 12) false 31012 11 [(.t 10), (.t 11)],
   .v 13 (.mov (.t 1)),
   .v 14 (.mov (.t 2)),
   .cal (some 15) false 31015 11 [(.t 13), (.t 14)],
   .v 16 (.mov (.t 0)),
   .v 17 (.mov (.t 2)),
   .cal (some 18) false 31018 11 [(.t 16), (.t 17)],
   .v 7 (.mov (.t 12)),
   .v 8 (.mov (.t 15)),
   .v 9 (.mov (.t 18))]
def ltotal_1 : AK := .seq (.reg ltotal_1o [0, 1, 7, 8, 9]) ltotal_2
def ltotal_0o : List ROp := [.v 6 (.mov (.c (.bool false)))]
def ltotal_0 : AK := .seq (.reg ltotal_0o [0, 1, 2]) ltotal_1
def ltotal : AK := ltotal_0
theorem ltotal_vc (P : Program) (E : Env) (Q : KQ) (st : St) :
  (vcW P E ltotal_3 Q st = aopsW P ltotal_3o st (KS.reg [6] (KQ.seq P E .ret Q))) ∧
  (vcW P E ltotal_6 Q st = aopsW P ltotal_6o st (KS.reg [6] (KQ.seq P E .ret Q))) ∧
  (vcW P E ltotal_5 Q st = cndW P E (ev st (.t 49)) ltotal_6 .skip Q st) ∧
  (vcW P E ltotal_4 Q st = aopsW P ltotal_4o st (KS.reg [0, 1, 7, 49] (KQ.seq P E ltotal_5 Q))) ∧
  (vcW P E ltotal_2 Q st = vcW P E ltotal_4 (KQ.seq P E ltotal_3 Q) st) ∧
  (vcW P E ltotal_1 Q st = aopsW P ltotal_1o st (KS.reg [0, 1, 7, 8, 9] (KQ.seq P E ltotal_2 Q))) ∧
  (vcW P E ltotal_0 Q st = aopsW P ltotal_0o st (KS.reg [0, 1, 2] (KQ.seq P E ltotal_1 Q))) ∧
  (vcW P E ltotal Q st = vcW P E ltotal_0 Q st) :=
  ⟨rfl, rfl, vcW_cond, rfl, rfl, rfl, rfl, rfl⟩
theorem ltotal_jn (P : Program) (E : Env) (Q : KQ) (st : St) :
  (True) :=
  trivial
attribute [go_sem] ltotal_vc ltotal_3o ltotal_6o ltotal_4o ltotal_1o ltotal_0o
noncomputable def ltotalB : Code := (Tryd.f3.body).getD .skip
theorem ltotal_eq : trCode Tryd.prog 65 31000 ltotalB = ltotal.erase 31000 := by kernel_rfl
theorem ltotal_body : Tryd.f3.body = some ltotalB := by kernel_rfl
theorem ltotal_n : Tryd.f3.ntmps = 65 := by kernel_rfl
theorem ltotal_r : Tryd.f3.results.toList.map (trRes Tryd.prog) = [.tmp 6] := by kernel_rfl
theorem ltotal_spec {h : HP} {a0 a1 a2 : AV} {Post : HP → AV → List AV → Prop} (hp : ∀ (E : Env) (R : HP → AV → List AV → Prop), E.N ≤ 1000000 → PostTo Post R → vcW Tryd.prog E ltotal (KQ.post [.tmp 6] 3 R) ⟨[(0, a0), (1, a1), (2, a2)], h⟩) : Eng.Spec Tryd.prog 3 h [a0, a1, a2] Post := spec_wk (
  spec_of (c := ltotal.erase 31000) (B := 31000) Tryd.func3 ltotal_body (by rw [ltotal_n, ltotal_eq]) (by rw [ltotal_n]; decide) (by rw [ltotal_n]; exact (by decide : 3 ≤ 65)) (fun E hE hB hrd => by
    have hN : E.N ≤ 1000000 := by
      rw [hE, ltotal_n]; decide
    rw [ltotal_r, ← hB]
    exact awp_slots [(0, a0), (1, a1), (2, a2)] ⟨rfl, rfl, rfl, trivial⟩ (vcW_sound hN _ (hp E _ hN fin_self))))
/- cartulary/cartularylaw20.SemverNext -/
def lnext_8o : List ROp := [.cal (some 66) false 32066 12 [],
   .v 67 (.mov (.t 66)),
   .gval 68 67 true false 32068 (.mov (.t 11)),
   .gval 69 67 true false 32069 (.un .not (.t 68)),
   .gval 70 67 true false 32070 (.mov (.t 69)),
   .gval 71 70 false false 32071 (.mov (.t 0)),
   .gval 72 70 false false 32072 (.mov (.t 9)),
   .gcal 73 70 false false 32073 11 [(.t 71), (.t 72)],
   .gval 74 70 false false 32074 (.bin .eql (.t 73) (.c (.int .i64 0))),
   .gval 75 67 true false 32075 (.pick (.t 70) (.c (.bool true)) (.t 74)),
   .v 76 (.pick (.t 67) (.t 75) (.c (.bool false))),
   .v 77 (.mov (.t 76)),
   .gval 78 77 true false 32078 (.mov (.t 0)),
   .gcal 79 77 true false 32079 11 [(.c (.str [])), (.t 78)],
   .gval 80 77 true false 32080 (.bin .eql (.t 79) (.c (.int .i64 (-1)))),
   .v 81 (.pick (.t 77) (.t 80) (.c (.bool false))),
   .v 4 (.mov (.t 81))]
def lnext_8 : AK := .seq (.reg lnext_8o [4]) .ret
def lnext_7o : List ROp := [.v 62 (.mov (.t 9)),
   .cal (some 63) false 32063 13 [(.t 62)],
   .v 61 (.mov (.t 63)),
   .v 64 (.ext (.t 61) 0),
   .v 65 (.ext (.t 61) 1),
   .eff 10 false 32010 (.alloc [.str [], .str [], .str [], .str [], .str [], .int .i64 0]),
   .effN false 32000 (.st 6 (.t 10) (.t 64)),
   .v 11 (.mov (.t 65))]
def lnext_7 : AK := .seq (.reg lnext_7o [0, 9, 11]) lnext_8
def lnext_6o : List ROp := [.v 56 (.mov (.t 0)),
   .cal (some 57) false 32057 14 [(.t 56)],
   .v 58 (.bin .add (.t 57) (.c (.str [43]))),
   .v 59 (.mov (.t 1)),
   .v 60 (.bin .add (.t 58) (.t 59)),
   .v 9 (.mov (.t 60))]
def lnext_6 : AK := .seq (.reg lnext_6o [0, 9]) lnext_7
def lnext_11o : List ROp := [.v 4 (.mov (.c (.bool false)))]
def lnext_11 : AK := .seq (.reg lnext_11o [4]) .ret
def lnext_10 : AK := .cond (.t 55) lnext_11 .skip
def lnext_9o : List ROp := [.v 37 (.fldA false 3 1 (.t 5)),
   .v 38 (.ld false 1 (.t 37)),
   .v 39 (.bin .neq (.t 38) (.c (.str []))),
   .v 40 (.mov (.t 39)),
   .gval 41 40 true false 32041 (.mov (.t 0)),
   .gval 42 40 true false 32042 (.mov (.t 8)),
   .gcal 43 40 true false 32043 11 [(.t 41), (.t 42)],
   .gval 44 40 true false 32044 (.bin .neq (.t 43) (.c (.int .i64 (-1)))),
   .v 45 (.pick (.t 40) (.t 44) (.c (.bool false))),
   .v 46 (.mov (.t 45)),
   .gval 47 46 false false 32047 (.mov (.t 0)),
   .gval 48 46 false false 32048 (.mov (.t 7)),
   .gval 49 46 false false 32049 (.bin .add (.t 48) (.c (.str [57]))),
   .gval 50 46 false false 32050 (.fldA false 2 1 (.t 5)),
   .gval 51 46 false false 32051 (.ld false 1 (.t 50)),
   .gval 52 46 false false 32052 (.bin .add (.t 49) (.t 51)),
   .gcal 53 46 false false 32053 11 [(.t 47), (.t 52)],
   .gval 54 46 false false 32054 (.bin .neq (.t 53) (.c (.int .i64 (-1)))),
   .v 55 (.pick (.t 46) (.c (.bool true)) (.t 54))]
def lnext_9 : AK := .seq (.reg lnext_9o [0, 1, 55]) lnext_10
def lnext_5 : AK := .seq lnext_9 lnext_6
def lnext_4o : List ROp := [.v 33 (.mov (.t 7)),
   .v 34 (.fldA false 2 1 (.t 5)),
   .v 35 (.ld false 1 (.t 34)),
   .v 36 (.bin .add (.t 33) (.t 35)),
   .v 8 (.mov (.t 36))]
def lnext_4 : AK := .seq (.reg lnext_4o [0, 1, 5, 7, 8]) lnext_5
def lnext_3o : List ROp := [.v 25 (.fldA false 0 1 (.t 5)),
   .v 26 (.ld false 1 (.t 25)),
   .v 27 (.bin .add (.c (.str [118])) (.t 26)),
   .v 28 (.bin .add (.t 27) (.c (.str [46]))),
   .v 29 (.fldA false 1 1 (.t 5)),
   .v 30 (.ld false 1 (.t 29)),
   .v 31 (.bin .add (.t 28) (.t 30)),
   .v 32 (.bin .add (.t 31) (.c (.str [46]))),
   .v 7 (.mov (.t 32))]
def lnext_3 : AK := .seq (.reg lnext_3o [0, 1, 5, 7]) lnext_4
def lnext_14o : List ROp := [.cal (some 24) false 32024 12 [],
   .v 4 (.mov (.t 24))]
def lnext_14 : AK := .seq (.reg lnext_14o [4]) .ret
def lnext_13 : AK := .cond (.t 23) lnext_14 .skip
def lnext_12o : List ROp := [.v 17 (.mov (.t 6)),
   .v 18 (.un .not (.t 17)),
   .v 19 (.mov (.t 18)),
   .gval 20 19 false false 32020 (.mov (.t 0)),
   .gval 21 19 false false 32021 (.len true (.t 20)),
   .gval 22 19 false false 32022 (.bin .gtr (.t 21) (.c (.int .i64 60))),
   .v 23 (.pick (.t 19) (.c (.bool true)) (.t 22))]
def lnext_12 : AK := .seq (.reg lnext_12o [0, 1, 5, 23]) lnext_13
def lnext_2 : AK := .seq lnext_12 lnext_3
def lnext_1o : List ROp := [.v 13 (.mov (.t 0)),
   .cal (some 14) false 32014 13 [(.t 13)],
   .v 12 (.mov (.t 14)),
   .v 15 (.ext (.t 12) 0),
   .v 16 (.ext (.t 12) 1),
   .eff 5 false 32005 (.alloc [.str [], .str [], .str [], .str [], .str [], .int .i64 0]),
   .effN false 32000 (.st 6 (.t 5) (.t 15)),
   .v 6 (.mov (.t 16))]
def lnext_1 : AK := .seq (.reg lnext_1o [0, 1, 5, 6]) lnext_2
def lnext_0o : List ROp := [.v 4 (.mov (.c (.bool false)))]
def lnext_0 : AK := .seq (.reg lnext_0o [0, 1]) lnext_1
def lnext : AK := lnext_0
theorem lnext_vc (P : Program) (E : Env) (Q : KQ) (st : St) :
  (vcW P E lnext_8 Q st = aopsW P lnext_8o st (KS.reg [4] (KQ.seq P E .ret Q))) ∧
  (vcW P E lnext_7 Q st = aopsW P lnext_7o st (KS.reg [0, 9, 11] (KQ.seq P E lnext_8 Q))) ∧
  (vcW P E lnext_6 Q st = aopsW P lnext_6o st (KS.reg [0, 9] (KQ.seq P E lnext_7 Q))) ∧
  (vcW P E lnext_11 Q st = aopsW P lnext_11o st (KS.reg [4] (KQ.seq P E .ret Q))) ∧
  (vcW P E lnext_10 Q st = cndW P E (ev st (.t 55)) lnext_11 .skip Q st) ∧
  (vcW P E lnext_9 Q st = aopsW P lnext_9o st (KS.reg [0, 1, 55] (KQ.seq P E lnext_10 Q))) ∧
  (vcW P E lnext_5 Q st = vcW P E lnext_9 (KQ.seq P E lnext_6 Q) st) ∧
  (vcW P E lnext_4 Q st = aopsW P lnext_4o st (KS.reg [0, 1, 5, 7, 8] (KQ.seq P E lnext_5 Q))) ∧
  (vcW P E lnext_3 Q st = aopsW P lnext_3o st (KS.reg [0, 1, 5, 7] (KQ.seq P E lnext_4 Q))) ∧
  (vcW P E lnext_14 Q st = aopsW P lnext_14o st (KS.reg [4] (KQ.seq P E .ret Q))) ∧
  (vcW P E lnext_13 Q st = cndW P E (ev st (.t 23)) lnext_14 .skip Q st) ∧
  (vcW P E lnext_12 Q st = aopsW P lnext_12o st (KS.reg [0, 1, 5, 23] (KQ.seq P E lnext_13 Q))) ∧
  (vcW P E lnext_2 Q st = vcW P E lnext_12 (KQ.seq P E lnext_3 Q) st) ∧
  (vcW P E lnext_1 Q st = aopsW P lnext_1o st (KS.reg [0, 1, 5, 6] (KQ.seq P E lnext_2 Q))) ∧
  (vcW P E lnext_0 Q st = aopsW P lnext_0o st (KS.reg [0, 1] (KQ.seq P E lnext_1 Q))) ∧
  (vcW P E lnext Q st = vcW P E lnext_0 Q st) :=
  ⟨rfl, rfl, rfl, rfl, vcW_cond, rfl, rfl, rfl, rfl, rfl, vcW_cond, rfl, rfl, rfl, rfl, rfl⟩
theorem lnext_jn (P : Program) (E : Env) (Q : KQ) (st : St) :
  (True) :=
  trivial
attribute [go_sem] lnext_vc lnext_8o lnext_7o lnext_6o lnext_11o lnext_9o lnext_4o lnext_3o lnext_14o lnext_12o lnext_1o lnext_0o
noncomputable def lnextB : Code := (Tryd.f4.body).getD .skip
theorem lnext_eq : trCode Tryd.prog 82 32000 lnextB = lnext.erase 32000 := by kernel_rfl
theorem lnext_body : Tryd.f4.body = some lnextB := by kernel_rfl
theorem lnext_n : Tryd.f4.ntmps = 82 := by kernel_rfl
theorem lnext_r : Tryd.f4.results.toList.map (trRes Tryd.prog) = [.tmp 4] := by kernel_rfl
theorem lnext_spec {h : HP} {a0 a1 : AV} {Post : HP → AV → List AV → Prop} (hp : ∀ (E : Env) (R : HP → AV → List AV → Prop), E.N ≤ 1000000 → PostTo Post R → vcW Tryd.prog E lnext (KQ.post [.tmp 4] 2 R) ⟨[(0, a0), (1, a1)], h⟩) : Eng.Spec Tryd.prog 4 h [a0, a1] Post := spec_wk (
  spec_of (c := lnext.erase 32000) (B := 32000) Tryd.func4 lnext_body (by rw [lnext_n, lnext_eq]) (by rw [lnext_n]; decide) (by rw [lnext_n]; exact (by decide : 2 ≤ 82)) (fun E hE hB hrd => by
    have hN : E.N ≤ 1000000 := by
      rw [hE, lnext_n]; decide
    rw [lnext_r, ← hB]
    exact awp_slots [(0, a0), (1, a1)] ⟨rfl, rfl, trivial⟩ (vcW_sound hN _ (hp E _ hN fin_self))))
/- cartulary/cartularylaw20.SemverOrders -/
def lorders_4o : List ROp := [.cal (some 14) false 33014 12 [],
   .v 15 (.mov (.t 14)),
   .gval 16 15 true false 33016 (.mov (.t 0)),
   .gval 17 15 true false 33017 (.mov (.t 1)),
   .gcal 18 15 true false 33018 11 [(.t 16), (.t 17)],
   .gval 19 15 true false 33019 (.mov (.t 5)),
   .gval 20 15 true false 33020 (.bin .eql (.t 18) (.t 19)),
   .v 21 (.pick (.t 15) (.t 20) (.c (.bool false))),
   .v 22 (.mov (.t 21)),
   .gval 23 22 true false 33023 (.mov (.t 0)),
   .gval 24 22 true false 33024 (.mov (.t 1)),
   .gcal 25 22 true false 33025 16 [(.t 23), (.t 24)],
   .gval 26 22 true false 33026 (.mov (.t 6)),
   .gval 27 22 true false 33027 (.bin .eql (.t 25) (.t 26)),
   .v 28 (.pick (.t 22) (.t 27) (.c (.bool false))),
   .v 4 (.mov (.t 28))]
def lorders_4 : AK := .seq (.reg lorders_4o [4]) .ret
def lorders_7o : List ROp := [.v 13 (.mov (.t 1)),
   .v 6 (.mov (.t 13))]
def lorders_7 : AK := .reg lorders_7o [0, 1, 5, 6]
def lorders_6 : AK := .cond (.t 12) lorders_7 .skip
def lorders_5o : List ROp := [.v 11 (.mov (.t 5)),
   .v 12 (.bin .lss (.t 11) (.c (.int .i64 0)))]
def lorders_5 : AK := .seq (.reg lorders_5o [0, 1, 5, 6, 12]) lorders_6
def lorders_3 : AK := .seq lorders_5 (.mid lorders_4)
def lorders_2o : List ROp := [.v 10 (.mov (.t 0)),
   .v 6 (.mov (.t 10))]
def lorders_2 : AK := .seq (.reg lorders_2o [0, 1, 5, 6]) lorders_3
def lorders_1o : List ROp := [.v 7 (.mov (.t 0)),
   .v 8 (.mov (.t 1)),
   .cal (some 9) false 33009 15 [(.t 7), (.t 8)],
   .v 5 (.mov (.t 9))]
def lorders_1 : AK := .seq (.reg lorders_1o [0, 1, 5]) lorders_2
def lorders_0o : List ROp := [.v 4 (.mov (.c (.bool false)))]
def lorders_0 : AK := .seq (.reg lorders_0o [0, 1]) lorders_1
def lorders : AK := lorders_0
theorem lorders_vc (P : Program) (E : Env) (Q : KQ) (st : St) :
  (vcW P E lorders_4 Q st = aopsW P lorders_4o st (KS.reg [4] (KQ.seq P E .ret Q))) ∧
  (vcW P E lorders_7 Q st = aopsW P lorders_7o st (KS.reg [0, 1, 5, 6] Q)) ∧
  (vcW P E lorders_6 Q st = cndW P E (ev st (.t 12)) lorders_7 .skip Q st) ∧
  (vcW P E lorders_5 Q st = aopsW P lorders_5o st (KS.reg [0, 1, 5, 6, 12] (KQ.seq P E lorders_6 Q))) ∧
  (vcW P E lorders_2 Q st = aopsW P lorders_2o st (KS.reg [0, 1, 5, 6] (KQ.seq P E lorders_3 Q))) ∧
  (vcW P E lorders_1 Q st = aopsW P lorders_1o st (KS.reg [0, 1, 5] (KQ.seq P E lorders_2 Q))) ∧
  (vcW P E lorders_0 Q st = aopsW P lorders_0o st (KS.reg [0, 1] (KQ.seq P E lorders_1 Q))) ∧
  (vcW P E lorders Q st = vcW P E lorders_0 Q st) :=
  ⟨rfl, rfl, vcW_cond, rfl, rfl, rfl, rfl, rfl⟩
theorem lorders_jn (P : Program) (E : Env) (Q : KQ) (st : St) :
  (vcW P E lorders_3 Q st = vcW P E lorders_5 (KQ.seq P E (.mid lorders_4) Q) st) :=
  rfl
attribute [go_sem] lorders_vc lorders_4o lorders_7o lorders_5o lorders_2o lorders_1o lorders_0o
noncomputable def lordersB : Code := (Tryd.f5.body).getD .skip
theorem lorders_eq : trCode Tryd.prog 29 33000 lordersB = lorders.erase 33000 := by kernel_rfl
theorem lorders_body : Tryd.f5.body = some lordersB := by kernel_rfl
theorem lorders_n : Tryd.f5.ntmps = 29 := by kernel_rfl
theorem lorders_r : Tryd.f5.results.toList.map (trRes Tryd.prog) = [.tmp 4] := by kernel_rfl
theorem lorders_spec {h : HP} {a0 a1 : AV} {Post : HP → AV → List AV → Prop} (hp : ∀ (E : Env) (R : HP → AV → List AV → Prop), E.N ≤ 1000000 → PostTo Post R → vcW Tryd.prog E lorders (KQ.post [.tmp 4] 2 R) ⟨[(0, a0), (1, a1)], h⟩) : Eng.Spec Tryd.prog 5 h [a0, a1] Post := spec_wk (
  spec_of (c := lorders.erase 33000) (B := 33000) Tryd.func5 lorders_body (by rw [lorders_n, lorders_eq]) (by rw [lorders_n]; decide) (by rw [lorders_n]; exact (by decide : 2 ≤ 29)) (fun E hE hB hrd => by
    have hN : E.N ≤ 1000000 := by
      rw [hE, lorders_n]; decide
    rw [lorders_r, ← hB]
    exact awp_slots [(0, a0), (1, a1)] ⟨rfl, rfl, trivial⟩ (vcW_sound hN _ (hp E _ hN fin_self))))
/- cartulary/cartularylaw20.SemverParses -/
def lparses_5o : List ROp := [.cal (some 22) false 34022 12 [],
   .v 23 (.mov (.t 22)),
   .gval 24 23 true false 34024 (.ld true 6 (.t 3)),
   .gval 25 23 true false 34025 (.ld true 6 (.t 5)),
   .gval 26 23 true false 34026 (.aeq false [2, 2, 2, 2, 2, 1] (.t 24) (.t 25)),
   .v 27 (.pick (.t 23) (.t 26) (.c (.bool false))),
   .v 28 (.mov (.t 27)),
   .gval 29 28 true false 34029 (.mov (.t 4)),
   .gval 30 28 true false 34030 (.mov (.t 6)),
   .gval 31 28 true false 34031 (.beq false (.t 29) (.t 30)),
   .v 32 (.pick (.t 28) (.t 31) (.c (.bool false))),
   .v 33 (.mov (.t 32)),
   .gval 34 33 true false 34034 (.mov (.t 0)),
   .gcal 35 33 true false 34035 14 [(.t 34)],
   .gval 36 33 true false 34036 (.mov (.t 0)),
   .gcal 37 33 true false 34037 18 [(.t 36)],
   .gval 38 33 true false 34038 (.bin .eql (.t 35) (.t 37)),
   .v 39 (.pick (.t 33) (.t 38) (.c (.bool false))),
   .v 40 (.mov (.t 39)),
   .gval 41 40 true false 34041 (.mov (.t 0)),
   .gcal 42 40 true false 34042 19 [(.t 41)],
   .gval 43 40 true false 34043 (.mov (.t 7)),
   .gval 44 40 true false 34044 (.bin .eql (.t 42) (.t 43)),
   .v 45 (.pick (.t 40) (.t 44) (.c (.bool false))),
   .v 2 (.mov (.t 45))]
def lparses_5 : AK := .seq (.reg lparses_5o [2]) .ret
def lparses_8o : List ROp := [.v 19 (.fldA false 0 1 (.t 5)),
   .v 20 (.ld false 1 (.t 19)),
   .v 21 (.bin .add (.c (.str [118])) (.t 20)),
   .v 7 (.mov (.t 21))]
def lparses_8 : AK := .reg lparses_8o [0, 3, 4, 5, 6, 7]
def lparses_7 : AK := .cond (.t 18) lparses_8 .skip
def lparses_6o : List ROp := [.v 18 (.mov (.t 6))]
def lparses_6 : AK := .seq (.reg lparses_6o [0, 3, 4, 5, 6, 7, 18]) lparses_7
def lparses_4 : AK := .seq lparses_6 (.mid lparses_5)
def lparses_3o : List ROp := [.v 7 (.mov (.c (.str [])))]
def lparses_3 : AK := .seq (.reg lparses_3o [0, 3, 4, 5, 6, 7]) lparses_4
def lparses_2o : List ROp := [.v 14 (.mov (.t 0)),
   .cal (some 15) false 34015 17 [(.t 14)],
   .v 13 (.mov (.t 15)),
   .v 16 (.ext (.t 13) 0),
   .v 17 (.ext (.t 13) 1),
   .eff 5 false 34005 (.alloc [.str [], .str [], .str [], .str [], .str [], .int .i64 0]),
   .effN false 34000 (.st 6 (.t 5) (.t 16)),
   .v 6 (.mov (.t 17))]
def lparses_2 : AK := .seq (.reg lparses_2o [0, 3, 4, 5, 6]) lparses_3
def lparses_1o : List ROp := [.v 9 (.mov (.t 0)),
   .cal (some 10) false 34010 13 [(.t 9)],
   .v 8 (.mov (.t 10)),
   .v 11 (.ext (.t 8) 0),
   .v 12 (.ext (.t 8) 1),
   .eff 3 false 34003 (.alloc [.str [], .str [], .str [], .str [], .str [], .int .i64 0]),
   .effN false 34000 (.st 6 (.t 3) (.t 11)),
   .v 4 (.mov (.t 12))]
def lparses_1 : AK := .seq (.reg lparses_1o [0, 3, 4]) lparses_2
def lparses_0o : List ROp := [.v 2 (.mov (.c (.bool false)))]
def lparses_0 : AK := .seq (.reg lparses_0o [0]) lparses_1
def lparses : AK := lparses_0
theorem lparses_vc (P : Program) (E : Env) (Q : KQ) (st : St) :
  (vcW P E lparses_5 Q st = aopsW P lparses_5o st (KS.reg [2] (KQ.seq P E .ret Q))) ∧
  (vcW P E lparses_8 Q st = aopsW P lparses_8o st (KS.reg [0, 3, 4, 5, 6, 7] Q)) ∧
  (vcW P E lparses_7 Q st = cndW P E (ev st (.t 18)) lparses_8 .skip Q st) ∧
  (vcW P E lparses_6 Q st = aopsW P lparses_6o st (KS.reg [0, 3, 4, 5, 6, 7, 18] (KQ.seq P E lparses_7 Q))) ∧
  (vcW P E lparses_3 Q st = aopsW P lparses_3o st (KS.reg [0, 3, 4, 5, 6, 7] (KQ.seq P E lparses_4 Q))) ∧
  (vcW P E lparses_2 Q st = aopsW P lparses_2o st (KS.reg [0, 3, 4, 5, 6] (KQ.seq P E lparses_3 Q))) ∧
  (vcW P E lparses_1 Q st = aopsW P lparses_1o st (KS.reg [0, 3, 4] (KQ.seq P E lparses_2 Q))) ∧
  (vcW P E lparses_0 Q st = aopsW P lparses_0o st (KS.reg [0] (KQ.seq P E lparses_1 Q))) ∧
  (vcW P E lparses Q st = vcW P E lparses_0 Q st) :=
  ⟨rfl, rfl, vcW_cond, rfl, rfl, rfl, rfl, rfl, rfl⟩
theorem lparses_jn (P : Program) (E : Env) (Q : KQ) (st : St) :
  (vcW P E lparses_4 Q st = vcW P E lparses_6 (KQ.seq P E (.mid lparses_5) Q) st) :=
  rfl
attribute [go_sem] lparses_vc lparses_5o lparses_8o lparses_6o lparses_3o lparses_2o lparses_1o lparses_0o
noncomputable def lparsesB : Code := (Tryd.f6.body).getD .skip
theorem lparses_eq : trCode Tryd.prog 46 34000 lparsesB = lparses.erase 34000 := by kernel_rfl
theorem lparses_body : Tryd.f6.body = some lparsesB := by kernel_rfl
theorem lparses_n : Tryd.f6.ntmps = 46 := by kernel_rfl
theorem lparses_r : Tryd.f6.results.toList.map (trRes Tryd.prog) = [.tmp 2] := by kernel_rfl
theorem lparses_spec {h : HP} {a0 : AV} {Post : HP → AV → List AV → Prop} (hp : ∀ (E : Env) (R : HP → AV → List AV → Prop), E.N ≤ 1000000 → PostTo Post R → vcW Tryd.prog E lparses (KQ.post [.tmp 2] 1 R) ⟨[(0, a0)], h⟩) : Eng.Spec Tryd.prog 6 h [a0] Post := spec_wk (
  spec_of (c := lparses.erase 34000) (B := 34000) Tryd.func6 lparses_body (by rw [lparses_n, lparses_eq]) (by rw [lparses_n]; decide) (by rw [lparses_n]; exact (by decide : 1 ≤ 46)) (fun E hE hB hrd => by
    have hN : E.N ≤ 1000000 := by
      rw [hE, lparses_n]; decide
    rw [lparses_r, ← hB]
    exact awp_slots [(0, a0)] ⟨rfl, trivial⟩ (vcW_sound hN _ (hp E _ hN fin_self))))
/- cartulary/cartularylaw20.SemverPlain -/
def lplain_4o : List ROp := [.cal (some 29) false 35029 12 [],
   .v 30 (.mov (.t 29)),
   .gval 31 30 true false 35031 (.mov (.t 3)),
   .gcal 32 30 true false 35032 14 [(.t 31)],
   .gval 33 30 true false 35033 (.mov (.t 3)),
   .gval 34 30 true false 35034 (.bin .eql (.t 32) (.t 33)),
   .v 35 (.pick (.t 30) (.t 34) (.c (.bool false))),
   .v 36 (.mov (.t 35)),
   .gval 37 36 true false 35037 (.mov (.t 0)),
   .gval 38 36 true false 35038 (.mov (.t 3)),
   .gcal 39 36 true false 35039 11 [(.t 37), (.t 38)],
   .gval 40 36 true false 35040 (.bin .eql (.t 39) (.c (.int .i64 0))),
   .v 41 (.pick (.t 36) (.t 40) (.c (.bool false))),
   .v 42 (.mov (.t 41)),
   .gval 43 42 true false 35043 (.mov (.t 0)),
   .gcal 44 42 true false 35044 19 [(.t 43)],
   .gval 45 42 true false 35045 (.mov (.t 3)),
   .gcal 46 42 true false 35046 19 [(.t 45)],
   .gval 47 42 true false 35047 (.bin .eql (.t 44) (.t 46)),
   .v 48 (.pick (.t 42) (.t 47) (.c (.bool false))),
   .v 2 (.mov (.t 48))]
def lplain_4 : AK := .seq (.reg lplain_4o [2]) .ret
def lplain_7o : List ROp := [.cal (some 28) false 35028 12 [],
   .v 2 (.mov (.t 28))]
def lplain_7 : AK := .seq (.reg lplain_7o [2]) .ret
def lplain_6 : AK := .cond (.t 27) lplain_7 .skip
def lplain_5o : List ROp := [.v 25 (.mov (.t 3)),
   .v 26 (.len true (.t 25)),
   .v 27 (.bin .gtr (.t 26) (.c (.int .i64 100)))]
def lplain_5 : AK := .seq (.reg lplain_5o [0, 3, 27]) lplain_6
def lplain_3 : AK := .seq lplain_5 lplain_4
def lplain_11o : List ROp := [.cal (some 15) false 35015 12 [],
   .v 16 (.mov (.t 15)),
   .gval 17 16 true false 35017 (.mov (.t 5)),
   .gval 18 16 true false 35018 (.un .not (.t 17)),
   .v 19 (.pick (.t 16) (.t 18) (.c (.bool false))),
   .v 20 (.mov (.t 19)),
   .gval 21 20 true false 35021 (.mov (.t 0)),
   .gcal 22 20 true false 35022 19 [(.t 21)],
   .gval 23 20 true false 35023 (.bin .eql (.t 22) (.c (.str []))),
   .v 24 (.pick (.t 20) (.t 23) (.c (.bool false))),
   .v 2 (.mov (.t 24))]
def lplain_11 : AK := .seq (.reg lplain_11o [2]) .ret
def lplain_10o : List ROp := [.v 11 (.mov (.t 0)),
   .cal (some 12) false 35012 13 [(.t 11)],
   .v 10 (.mov (.t 12)),
   .v 13 (.ext (.t 10) 0),
   .v 14 (.ext (.t 10) 1),
   .eff 4 false 35004 (.alloc [.str [], .str [], .str [], .str [], .str [], .int .i64 0]),
   .effN false 35000 (.st 6 (.t 4) (.t 13)),
   .v 5 (.mov (.t 14))]
def lplain_10 : AK := .seq (.reg lplain_10o [0, 5]) lplain_11
def lplain_9 : AK := .cond (.t 9) lplain_10 .skip
def lplain_8o : List ROp := [.v 8 (.mov (.t 3)),
   .v 9 (.bin .eql (.t 8) (.c (.str [])))]
def lplain_8 : AK := .seq (.reg lplain_8o [0, 3, 9]) lplain_9
def lplain_2 : AK := .seq lplain_8 lplain_3
def lplain_1o : List ROp := [.v 6 (.mov (.t 0)),
   .cal (some 7) false 35007 14 [(.t 6)],
   .v 3 (.mov (.t 7))]
def lplain_1 : AK := .seq (.reg lplain_1o [0, 3]) lplain_2
def lplain_0o : List ROp := [.v 2 (.mov (.c (.bool false)))]
def lplain_0 : AK := .seq (.reg lplain_0o [0]) lplain_1
def lplain : AK := lplain_0
theorem lplain_vc (P : Program) (E : Env) (Q : KQ) (st : St) :
  (vcW P E lplain_4 Q st = aopsW P lplain_4o st (KS.reg [2] (KQ.seq P E .ret Q))) ∧
  (vcW P E lplain_7 Q st = aopsW P lplain_7o st (KS.reg [2] (KQ.seq P E .ret Q))) ∧
  (vcW P E lplain_6 Q st = cndW P E (ev st (.t 27)) lplain_7 .skip Q st) ∧
  (vcW P E lplain_5 Q st = aopsW P lplain_5o st (KS.reg [0, 3, 27] (KQ.seq P E lplain_6 Q))) ∧
  (vcW P E lplain_3 Q st = vcW P E lplain_5 (KQ.seq P E lplain_4 Q) st) ∧
  (vcW P E lplain_11 Q st = aopsW P lplain_11o st (KS.reg [2] (KQ.seq P E .ret Q))) ∧
  (vcW P E lplain_10 Q st = aopsW P lplain_10o st (KS.reg [0, 5] (KQ.seq P E lplain_11 Q))) ∧
  (vcW P E lplain_9 Q st = cndW P E (ev st (.t 9)) lplain_10 .skip Q st) ∧
  (vcW P E lplain_8 Q st = aopsW P lplain_8o st (KS.reg [0, 3, 9] (KQ.seq P E lplain_9 Q))) ∧
  (vcW P E lplain_2 Q st = vcW P E lplain_8 (KQ.seq P E lplain_3 Q) st) ∧
  (vcW P E lplain_1 Q st = aopsW P lplain_1o st (KS.reg [0, 3] (KQ.seq P E lplain_2 Q))) ∧
  (vcW P E lplain_0 Q st = aopsW P lplain_0o st (KS.reg [0] (KQ.seq P E lplain_1 Q))) ∧
  (vcW P E lplain Q st = vcW P E lplain_0 Q st) :=
  ⟨rfl, rfl, vcW_cond, rfl, rfl, rfl, rfl, vcW_cond, rfl, rfl, rfl, rfl, rfl⟩
theorem lplain_jn (P : Program) (E : Env) (Q : KQ) (st : St) :
  (True) :=
  trivial
attribute [go_sem] lplain_vc lplain_4o lplain_7o lplain_5o lplain_11o lplain_10o lplain_8o lplain_1o lplain_0o
noncomputable def lplainB : Code := (Tryd.f7.body).getD .skip
theorem lplain_eq : trCode Tryd.prog 49 35000 lplainB = lplain.erase 35000 := by kernel_rfl
theorem lplain_body : Tryd.f7.body = some lplainB := by kernel_rfl
theorem lplain_n : Tryd.f7.ntmps = 49 := by kernel_rfl
theorem lplain_r : Tryd.f7.results.toList.map (trRes Tryd.prog) = [.tmp 2] := by kernel_rfl
theorem lplain_spec {h : HP} {a0 : AV} {Post : HP → AV → List AV → Prop} (hp : ∀ (E : Env) (R : HP → AV → List AV → Prop), E.N ≤ 1000000 → PostTo Post R → vcW Tryd.prog E lplain (KQ.post [.tmp 2] 1 R) ⟨[(0, a0)], h⟩) : Eng.Spec Tryd.prog 7 h [a0] Post := spec_wk (
  spec_of (c := lplain.erase 35000) (B := 35000) Tryd.func7 lplain_body (by rw [lplain_n, lplain_eq]) (by rw [lplain_n]; decide) (by rw [lplain_n]; exact (by decide : 1 ≤ 49)) (fun E hE hB hrd => by
    have hN : E.N ≤ 1000000 := by
      rw [hE, lplain_n]; decide
    rw [lplain_r, ← hB]
    exact awp_slots [(0, a0)] ⟨rfl, trivial⟩ (vcW_sound hN _ (hp E _ hN fin_self))))
/- cartulary/cartularylaw20.SemverMajor -/
def lmajor_5o : List ROp := [.cal (some 55) false 36055 12 [],
   .v 56 (.mov (.t 55)),
   .gval 57 56 true false 36057 (.mov (.t 0)),
   .gval 58 56 true false 36058 (.mov (.t 1)),
   .gcal 59 56 true false 36059 11 [(.t 57), (.t 58)],
   .gval 60 56 true false 36060 (.mov (.t 0)),
   .gcal 61 56 true false 36061 19 [(.t 60)],
   .gval 62 56 true false 36062 (.mov (.t 1)),
   .gcal 63 56 true false 36063 19 [(.t 62)],
   .gcal 64 56 true false 36064 11 [(.t 61), (.t 63)],
   .gval 65 56 true false 36065 (.bin .eql (.t 59) (.t 64)),
   .v 66 (.pick (.t 56) (.t 65) (.c (.bool false))),
   .v 67 (.mov (.t 66)),
   .gval 68 67 true false 36068 (.mov (.t 0)),
   .gval 69 67 true false 36069 (.mov (.t 1)),
   .gcal 70 67 true false 36070 11 [(.t 68), (.t 69)],
   .gval 71 67 true false 36071 (.bin .neq (.t 70) (.c (.int .i64 0))),
   .v 72 (.pick (.t 67) (.t 71) (.c (.bool false))),
   .v 4 (.mov (.t 72))]
def lmajor_5 : AK := .seq (.reg lmajor_5o [4]) .ret
def lmajor_8o : List ROp := [.cal (some 47) false 36047 12 [],
   .v 48 (.mov (.t 47)),
   .gval 49 48 true false 36049 (.fldA false 0 1 (.t 5)),
   .gval 50 48 true false 36050 (.ld false 1 (.t 49)),
   .gval 51 48 true false 36051 (.fldA false 0 1 (.t 7)),
   .gval 52 48 true false 36052 (.ld false 1 (.t 51)),
   .gval 53 48 true false 36053 (.bin .eql (.t 50) (.t 52)),
   .v 54 (.pick (.t 48) (.t 53) (.c (.bool false))),
   .v 4 (.mov (.t 54))]
def lmajor_8 : AK := .seq (.reg lmajor_8o [4]) .ret
def lmajor_7 : AK := .cond (.t 46) lmajor_8 .skip
def lmajor_6o : List ROp := [.v 42 (.mov (.t 0)),
   .cal (some 43) false 36043 19 [(.t 42)],
   .v 44 (.mov (.t 1)),
   .cal (some 45) false 36045 19 [(.t 44)],
   .v 46 (.bin .eql (.t 43) (.t 45))]
def lmajor_6 : AK := .seq (.reg lmajor_6o [0, 1, 5, 7, 46]) lmajor_7
def lmajor_4 : AK := .seq lmajor_6 lmajor_5
def lmajor_11o : List ROp := [.cal (some 25) false 36025 12 [],
   .v 26 (.mov (.t 25)),
   .gval 27 26 true false 36027 (.mov (.t 6)),
   .gval 28 26 true false 36028 (.mov (.t 27)),
   .gval 29 28 false false 36029 (.mov (.t 0)),
   .gcal 30 28 false false 36030 19 [(.t 29)],
   .gval 31 28 false false 36031 (.bin .eql (.t 30) (.c (.str []))),
   .gval 32 26 true false 36032 (.pick (.t 28) (.c (.bool true)) (.t 31)),
   .v 33 (.pick (.t 26) (.t 32) (.c (.bool false))),
   .v 34 (.mov (.t 33)),
   .gval 35 34 true false 36035 (.mov (.t 8)),
   .gval 36 34 true false 36036 (.mov (.t 35)),
   .gval 37 36 false false 36037 (.mov (.t 1)),
   .gcal 38 36 false false 36038 19 [(.t 37)],
   .gval 39 36 false false 36039 (.bin .eql (.t 38) (.c (.str []))),
   .gval 40 34 true false 36040 (.pick (.t 36) (.c (.bool true)) (.t 39)),
   .v 41 (.pick (.t 34) (.t 40) (.c (.bool false))),
   .v 4 (.mov (.t 41))]
def lmajor_11 : AK := .seq (.reg lmajor_11o [4]) .ret
def lmajor_10 : AK := .cond (.t 24) lmajor_11 .skip
def lmajor_9o : List ROp := [.v 19 (.mov (.t 6)),
   .v 20 (.un .not (.t 19)),
   .v 21 (.mov (.t 20)),
   .gval 22 21 false false 36022 (.mov (.t 8)),
   .gval 23 21 false false 36023 (.un .not (.t 22)),
   .v 24 (.pick (.t 21) (.c (.bool true)) (.t 23))]
def lmajor_9 : AK := .seq (.reg lmajor_9o [0, 1, 5, 6, 7, 8, 24]) lmajor_10
def lmajor_3 : AK := .seq lmajor_9 lmajor_4
def lmajor_2o : List ROp := [.v 15 (.mov (.t 1)),
   .cal (some 16) false 36016 13 [(.t 15)],
   .v 14 (.mov (.t 16)),
   .v 17 (.ext (.t 14) 0),
   .v 18 (.ext (.t 14) 1),
   .eff 7 false 36007 (.alloc [.str [], .str [], .str [], .str [], .str [], .int .i64 0]),
   .effN false 36000 (.st 6 (.t 7) (.t 17)),
   .v 8 (.mov (.t 18))]
def lmajor_2 : AK := .seq (.reg lmajor_2o [0, 1, 5, 6, 7, 8]) lmajor_3
def lmajor_1o : List ROp := [.v 10 (.mov (.t 0)),
   .cal (some 11) false 36011 13 [(.t 10)],
   .v 9 (.mov (.t 11)),
   .v 12 (.ext (.t 9) 0),
   .v 13 (.ext (.t 9) 1),
   .eff 5 false 36005 (.alloc [.str [], .str [], .str [], .str [], .str [], .int .i64 0]),
   .effN false 36000 (.st 6 (.t 5) (.t 12)),
   .v 6 (.mov (.t 13))]
def lmajor_1 : AK := .seq (.reg lmajor_1o [0, 1, 5, 6]) lmajor_2
def lmajor_0o : List ROp := [.v 4 (.mov (.c (.bool false)))]
def lmajor_0 : AK := .seq (.reg lmajor_0o [0, 1]) lmajor_1
def lmajor : AK := lmajor_0
theorem lmajor_vc (P : Program) (E : Env) (Q : KQ) (st : St) :
  (vcW P E lmajor_5 Q st = aopsW P lmajor_5o st (KS.reg [4] (KQ.seq P E .ret Q))) ∧
  (vcW P E lmajor_8 Q st = aopsW P lmajor_8o st (KS.reg [4] (KQ.seq P E .ret Q))) ∧
  (vcW P E lmajor_7 Q st = cndW P E (ev st (.t 46)) lmajor_8 .skip Q st) ∧
  (vcW P E lmajor_6 Q st = aopsW P lmajor_6o st (KS.reg [0, 1, 5, 7, 46] (KQ.seq P E lmajor_7 Q))) ∧
  (vcW P E lmajor_4 Q st = vcW P E lmajor_6 (KQ.seq P E lmajor_5 Q) st) ∧
  (vcW P E lmajor_11 Q st = aopsW P lmajor_11o st (KS.reg [4] (KQ.seq P E .ret Q))) ∧
  (vcW P E lmajor_10 Q st = cndW P E (ev st (.t 24)) lmajor_11 .skip Q st) ∧
  (vcW P E lmajor_9 Q st = aopsW P lmajor_9o st (KS.reg [0, 1, 5, 6, 7, 8, 24] (KQ.seq P E lmajor_10 Q))) ∧
  (vcW P E lmajor_3 Q st = vcW P E lmajor_9 (KQ.seq P E lmajor_4 Q) st) ∧
  (vcW P E lmajor_2 Q st = aopsW P lmajor_2o st (KS.reg [0, 1, 5, 6, 7, 8] (KQ.seq P E lmajor_3 Q))) ∧
  (vcW P E lmajor_1 Q st = aopsW P lmajor_1o st (KS.reg [0, 1, 5, 6] (KQ.seq P E lmajor_2 Q))) ∧
  (vcW P E lmajor_0 Q st = aopsW P lmajor_0o st (KS.reg [0, 1] (KQ.seq P E lmajor_1 Q))) ∧
  (vcW P E lmajor Q st = vcW P E lmajor_0 Q st) :=
  ⟨rfl, rfl, vcW_cond, rfl, rfl, rfl, vcW_cond, rfl, rfl, rfl, rfl, rfl, rfl⟩
theorem lmajor_jn (P : Program) (E : Env) (Q : KQ) (st : St) :
  (True) :=
  trivial
attribute [go_sem] lmajor_vc lmajor_5o lmajor_8o lmajor_6o lmajor_11o lmajor_9o lmajor_2o lmajor_1o lmajor_0o
noncomputable def lmajorB : Code := (Tryd.f8.body).getD .skip
theorem lmajor_eq : trCode Tryd.prog 73 36000 lmajorB = lmajor.erase 36000 := by kernel_rfl
theorem lmajor_body : Tryd.f8.body = some lmajorB := by kernel_rfl
theorem lmajor_n : Tryd.f8.ntmps = 73 := by kernel_rfl
theorem lmajor_r : Tryd.f8.results.toList.map (trRes Tryd.prog) = [.tmp 4] := by kernel_rfl
theorem lmajor_spec {h : HP} {a0 a1 : AV} {Post : HP → AV → List AV → Prop} (hp : ∀ (E : Env) (R : HP → AV → List AV → Prop), E.N ≤ 1000000 → PostTo Post R → vcW Tryd.prog E lmajor (KQ.post [.tmp 4] 2 R) ⟨[(0, a0), (1, a1)], h⟩) : Eng.Spec Tryd.prog 8 h [a0, a1] Post := spec_wk (
  spec_of (c := lmajor.erase 36000) (B := 36000) Tryd.func8 lmajor_body (by rw [lmajor_n, lmajor_eq]) (by rw [lmajor_n]; decide) (by rw [lmajor_n]; exact (by decide : 2 ≤ 73)) (fun E hE hB hrd => by
    have hN : E.N ≤ 1000000 := by
      rw [hE, lmajor_n]; decide
    rw [lmajor_r, ← hB]
    exact awp_slots [(0, a0), (1, a1)] ⟨rfl, rfl, trivial⟩ (vcW_sound hN _ (hp E _ hN fin_self))))
/- cartulary/cartularylaw20.SemverSorts -/
def lsorts_3o : List ROp := [.cal (some 12) false 37012 12 [],
   .v 13 (.mov (.t 12)),
   .gval 14 13 true false 37014 (.mov (.t 3)),
   .gcal 15 13 true false 37015 21 [(.t 14)],
   .gval 16 13 true false 37016 (.mov (.t 0)),
   .gcal 17 13 true false 37017 22 [(.t 16)],
   .gcal 18 13 true false 37018 20 [(.t 15), (.t 17)],
   .v 19 (.pick (.t 13) (.t 18) (.c (.bool false))),
   .v 20 (.mov (.t 19)),
   .gval 21 20 true false 37021 (.mov (.t 3)),
   .gval 22 20 true false 37022 (.mov (.t 0)),
   .gcal 23 20 true false 37023 20 [(.t 21), (.t 22)],
   .v 24 (.pick (.t 20) (.t 23) (.c (.bool false))),
   .v 2 (.mov (.t 24))]
def lsorts_3 : AK := .seq (.reg lsorts_3o [2]) .ret
def lsorts_2o : List ROp := [.eff 9 false 37009 (.bsl 1 []),
   .v 10 (.mov (.t 0)),
   .eff 11 false 37011 (.app 1 16 (.t 9) (.t 10)),
   .v 3 (.mov (.t 11))]
def lsorts_2 : AK := .seq (.reg lsorts_2o [0, 3]) lsorts_3
def lsorts_6o : List ROp := [.v 7 (.mov (.t 0)),
   .v 8 (.slcA 1 (.t 7) none (some (.c (.int .i64 60)))),
   .v 0 (.mov (.t 8))]
def lsorts_6 : AK := .reg lsorts_6o [0]
def lsorts_5 : AK := .cond (.t 6) lsorts_6 .skip
def lsorts_4o : List ROp := [.v 4 (.mov (.t 0)),
   .v 5 (.len false (.t 4)),
   .v 6 (.bin .gtr (.t 5) (.c (.int .i64 60)))]
def lsorts_4 : AK := .seq (.reg lsorts_4o [0, 6]) lsorts_5
def lsorts_1 : AK := .seq lsorts_4 (.mid lsorts_2)
def lsorts_0o : List ROp := [.v 2 (.mov (.c (.bool false)))]
def lsorts_0 : AK := .seq (.reg lsorts_0o [0]) lsorts_1
def lsorts : AK := lsorts_0
theorem lsorts_vc (P : Program) (E : Env) (Q : KQ) (st : St) :
  (vcW P E lsorts_3 Q st = aopsW P lsorts_3o st (KS.reg [2] (KQ.seq P E .ret Q))) ∧
  (vcW P E lsorts_2 Q st = aopsW P lsorts_2o st (KS.reg [0, 3] (KQ.seq P E lsorts_3 Q))) ∧
  (vcW P E lsorts_6 Q st = aopsW P lsorts_6o st (KS.reg [0] Q)) ∧
  (vcW P E lsorts_5 Q st = cndW P E (ev st (.t 6)) lsorts_6 .skip Q st) ∧
  (vcW P E lsorts_4 Q st = aopsW P lsorts_4o st (KS.reg [0, 6] (KQ.seq P E lsorts_5 Q))) ∧
  (vcW P E lsorts_0 Q st = aopsW P lsorts_0o st (KS.reg [0] (KQ.seq P E lsorts_1 Q))) ∧
  (vcW P E lsorts Q st = vcW P E lsorts_0 Q st) :=
  ⟨rfl, rfl, rfl, vcW_cond, rfl, rfl, rfl⟩
theorem lsorts_jn (P : Program) (E : Env) (Q : KQ) (st : St) :
  (vcW P E lsorts_1 Q st = vcW P E lsorts_4 (KQ.seq P E (.mid lsorts_2) Q) st) :=
  rfl
attribute [go_sem] lsorts_vc lsorts_3o lsorts_2o lsorts_6o lsorts_4o lsorts_0o
noncomputable def lsortsB : Code := (Tryd.f9.body).getD .skip
theorem lsorts_eq : trCode Tryd.prog 25 37000 lsortsB = lsorts.erase 37000 := by kernel_rfl
theorem lsorts_body : Tryd.f9.body = some lsortsB := by kernel_rfl
theorem lsorts_n : Tryd.f9.ntmps = 25 := by kernel_rfl
theorem lsorts_r : Tryd.f9.results.toList.map (trRes Tryd.prog) = [.tmp 2] := by kernel_rfl
theorem lsorts_spec {h : HP} {a0 : AV} {Post : HP → AV → List AV → Prop} (hp : ∀ (E : Env) (R : HP → AV → List AV → Prop), E.N ≤ 1000000 → PostTo Post R → vcW Tryd.prog E lsorts (KQ.post [.tmp 2] 1 R) ⟨[(0, a0)], h⟩) : Eng.Spec Tryd.prog 9 h [a0] Post := spec_wk (
  spec_of (c := lsorts.erase 37000) (B := 37000) Tryd.func9 lsorts_body (by rw [lsorts_n, lsorts_eq]) (by rw [lsorts_n]; decide) (by rw [lsorts_n]; exact (by decide : 1 ≤ 25)) (fun E hE hB hrd => by
    have hN : E.N ≤ 1000000 := by
      rw [hE, lsorts_n]; decide
    rw [lsorts_r, ← hB]
    exact awp_slots [(0, a0)] ⟨rfl, trivial⟩ (vcW_sound hN _ (hp E _ hN fin_self))))
/- cartulary/cartularylaw20.SemverSame -/
def lsame_7o : List ROp := [.cal (some 66) false 38066 12 [],
   .v 67 (.mov (.t 66)),
   .gval 68 67 true false 38068 (.mov (.t 3)),
   .gval 69 67 true false 38069 (.len false (.t 68)),
   .gval 70 67 true false 38070 (.bin .eql (.t 69) (.c (.int .i64 0))),
   .gval 71 67 true false 38071 (.mov (.t 70)),
   .gval 72 71 false false 38072 (.mov (.t 5)),
   .gval 73 71 false false 38073 (.mov (.t 3)),
   .gval 74 71 false false 38074 (.mov (.t 3)),
   .gval 75 71 false false 38075 (.len false (.t 74)),
   .gval 76 71 false false 38076 (.bin .sub (.t 75) (.c (.int .i64 1))),
   .gval 77 71 false false 38077 (.idxA 1 (.t 73) (.t 76)),
   .gval 78 71 false false 38078 (.ld false 1 (.t 77)),
   .gcal 79 71 false false 38079 11 [(.t 72), (.t 78)],
   .gval 80 71 false false 38080 (.bin .eql (.t 79) (.c (.int .i64 0))),
   .gval 81 67 true false 38081 (.pick (.t 71) (.c (.bool true)) (.t 80)),
   .v 82 (.pick (.t 67) (.t 81) (.c (.bool false))),
   .v 2 (.mov (.t 82))]
def lsame_7 : AK := .seq (.reg lsame_7o [2]) .ret
def lsame_13o : List ROp := [.v 65 (.bin .add (.t 30) (.c (.int .i64 1))),
   .v 30 (.mov (.t 65))]
def lsame_13 : AK := .reg lsame_13o [0, 3, 4, 5, 29, 30]
def lsame_19o : List ROp := [.v 2 (.mov (.c (.bool false)))]
def lsame_19 : AK := .seq (.reg lsame_19o [2]) .ret
def lsame_18 : AK := .cond (.t 64) lsame_19 .skip
def lsame_17o : List ROp := [.val 39 true 38039 (.mov (.t 3)),
   .val 40 true 38040 (.mov (.t 6)),
   .val 41 true 38041 (.idxA 1 (.t 39) (.t 40)),
   .val 42 true 38042 (.ld false 1 (.t 41)),
   .val 43 true 38043 (.mov (.t 4)),
   .val 44 true 38044 (.mov (.t 6)),
   .val 45 true 38045 (.idxA 1 (.t 43) (.t 44)),
   .val 46 true 38046 (.ld false 1 (.t 45)),
   .val 47 true 38047 (.bin .neq (.t 42) (.t 46)),
   .val 48 true 38048 (.mov (.t 47)),
   .gval 49 48 false true 38049 (.mov (.t 6)),
   .gval 50 48 false true 38050 (.bin .gtr (.t 49) (.c (.int .i64 0))),
   .gval 51 48 false true 38051 (.mov (.t 50)),
   .gval 52 51 true true 38052 (.mov (.t 3)),
   .gval 53 51 true true 38053 (.mov (.t 6)),
   .gval 54 51 true true 38054 (.bin .sub (.t 53) (.c (.int .i64 1))),
   .gval 55 51 true true 38055 (.idxA 1 (.t 52) (.t 54)),
   .gval 56 51 true true 38056 (.ld false 1 (.t 55)),
   .gval 57 51 true true 38057 (.mov (.t 3)),
   .gval 58 51 true true 38058 (.mov (.t 6)),
   .gval 59 51 true true 38059 (.idxA 1 (.t 57) (.t 58)),
   .gval 60 51 true true 38060 (.ld false 1 (.t 59)),
   .gcal 61 51 true true 38061 11 [(.t 56), (.t 60)],
   .gval 62 51 true true 38062 (.bin .gtr (.t 61) (.c (.int .i64 0))),
   .gval 63 48 false true 38063 (.pick (.t 51) (.t 62) (.c (.bool false))),
   .val 64 true 38064 (.pick (.t 48) (.c (.bool true)) (.t 63))]
def lsame_17 : AK := .seq (.reg lsame_17o [0, 3, 4, 5, 29, 30, 64]) lsame_18
def lsame_16o : List ROp := [.v 33 (.mov (.t 5)),
   .v 34 (.mov (.t 0)),
   .v 35 (.mov (.t 6)),
   .v 36 (.idxA 1 (.t 34) (.t 35)),
   .v 37 (.ld false 1 (.t 36)),
   .cal (some 38) false 38038 16 [(.t 33), (.t 37)],
   .v 5 (.mov (.t 38))]
def lsame_16 : AK := .seq (.reg lsame_16o [0, 3, 4, 5, 6, 29, 30]) lsame_17
def lsame_15o : List ROp := [.v 32 (.mov (.t 30)),
   .v 6 (.mov (.t 32))]
def lsame_15 : AK := .seq (.reg lsame_15o [0, 3, 4, 5, 6, 29, 30]) lsame_16
def lsame_14 : AK := .block 1 lsame_15
def lsame_12 : AK := .seq lsame_14 lsame_13
def lsame_20 : AK := .cond (.t 31) .skip (.exit 0)
def lsame_11 : AK := .seq lsame_20 lsame_12
def lsame_10o : List ROp := [.v 31 (.bin .lss (.t 30) (.t 29))]
def lsame_10 : AK := .seq (.reg lsame_10o [0, 3, 4, 5, 29, 30, 31]) lsame_11
def lsame_L0 : AK := .loop lsame_10
def lsame_9 : AK := .block 0 lsame_L0
def lsame_8o : List ROp := [.v 28 (.mov (.t 3)),
   .v 29 (.len false (.t 28)),
   .v 30 (.mov (.c (.int .i64 0)))]
def lsame_8 : AK := .seq (.reg lsame_8o [0, 3, 4, 5, 29, 30]) lsame_9
def lsame_6 : AK := .seq lsame_8 lsame_7
def lsame_5o : List ROp := [.v 5 (.mov (.c (.str [])))]
def lsame_5 : AK := .seq (.reg lsame_5o [0, 3, 4, 5]) lsame_6
def lsame_23o : List ROp := [.v 2 (.mov (.c (.bool false)))]
def lsame_23 : AK := .seq (.reg lsame_23o [2]) .ret
def lsame_22 : AK := .cond (.t 27) lsame_23 .skip
def lsame_21o : List ROp := [.v 16 (.mov (.t 3)),
   .v 17 (.len false (.t 16)),
   .v 18 (.mov (.t 0)),
   .v 19 (.len false (.t 18)),
   .v 20 (.bin .neq (.t 17) (.t 19)),
   .v 21 (.mov (.t 20)),
   .gval 22 21 false false 38022 (.mov (.t 4)),
   .gval 23 21 false false 38023 (.len false (.t 22)),
   .gval 24 21 false false 38024 (.mov (.t 3)),
   .gval 25 21 false false 38025 (.len false (.t 24)),
   .gval 26 21 false false 38026 (.bin .neq (.t 23) (.t 25)),
   .v 27 (.pick (.t 21) (.c (.bool true)) (.t 26))]
def lsame_21 : AK := .seq (.reg lsame_21o [0, 3, 4, 27]) lsame_22
def lsame_4 : AK := .seq lsame_21 lsame_5
def lsame_3o : List ROp := [.v 14 (.mov (.t 3)),
   .cal (some 15) false 38015 21 [(.t 14)],
   .v 4 (.mov (.t 15))]
def lsame_3 : AK := .seq (.reg lsame_3o [0, 3, 4]) lsame_4
def lsame_2o : List ROp := [.v 12 (.mov (.t 0)),
   .cal (some 13) false 38013 21 [(.t 12)],
   .v 3 (.mov (.t 13))]
def lsame_2 : AK := .seq (.reg lsame_2o [0, 3]) lsame_3
def lsame_26o : List ROp := [.v 10 (.mov (.t 0)),
   .v 11 (.slcA 1 (.t 10) none (some (.c (.int .i64 60)))),
   .v 0 (.mov (.t 11))]
def lsame_26 : AK := .reg lsame_26o [0]
def lsame_25 : AK := .cond (.t 9) lsame_26 .skip
def lsame_24o : List ROp := [.v 7 (.mov (.t 0)),
   .v 8 (.len false (.t 7)),
   .v 9 (.bin .gtr (.t 8) (.c (.int .i64 60)))]
def lsame_24 : AK := .seq (.reg lsame_24o [0, 9]) lsame_25
def lsame_1 : AK := .seq lsame_24 (.mid lsame_2)
def lsame_0o : List ROp := [.v 2 (.mov (.c (.bool false)))]
def lsame_0 : AK := .seq (.reg lsame_0o [0]) lsame_1
def lsame : AK := lsame_0
theorem lsame_vc (P : Program) (E : Env) (Q : KQ) (st : St) :
  (vcW P E lsame_7 Q st = aopsW P lsame_7o st (KS.reg [2] (KQ.seq P E .ret Q))) ∧
  (vcW P E lsame_13 Q st = aopsW P lsame_13o st (KS.reg [0, 3, 4, 5, 29, 30] Q)) ∧
  (vcW P E lsame_19 Q st = aopsW P lsame_19o st (KS.reg [2] (KQ.seq P E .ret Q))) ∧
  (vcW P E lsame_18 Q st = cndW P E (ev st (.t 64)) lsame_19 .skip Q st) ∧
  (vcW P E lsame_17 Q st = aopsW P lsame_17o st (KS.reg [0, 3, 4, 5, 29, 30, 64] (KQ.seq P E lsame_18 Q))) ∧
  (vcW P E lsame_16 Q st = aopsW P lsame_16o st (KS.reg [0, 3, 4, 5, 6, 29, 30] (KQ.seq P E lsame_17 Q))) ∧
  (vcW P E lsame_15 Q st = aopsW P lsame_15o st (KS.reg [0, 3, 4, 5, 6, 29, 30] (KQ.seq P E lsame_16 Q))) ∧
  (vcW P E lsame_14 Q st = vcW P E lsame_15 (KQ.blk 1 Q) st) ∧
  (vcW P E lsame_12 Q st = vcW P E lsame_14 (KQ.seq P E lsame_13 Q) st) ∧
  (vcW P E lsame_20 Q st = cndW P E (ev st (.t 31)) .skip (.exit 0) Q st) ∧
  (vcW P E lsame_11 Q st = vcW P E lsame_20 (KQ.seq P E lsame_12 Q) st) ∧
  (vcW P E lsame_10 Q st = aopsW P lsame_10o st (KS.reg [0, 3, 4, 5, 29, 30, 31] (KQ.seq P E lsame_11 Q))) ∧
  (vcW P E lsame_9 Q st = vcW P E lsame_L0 (KQ.blk 0 Q) st) ∧
  (vcW P E lsame_8 Q st = aopsW P lsame_8o st (KS.reg [0, 3, 4, 5, 29, 30] (KQ.seq P E lsame_9 Q))) ∧
  (vcW P E lsame_6 Q st = vcW P E lsame_8 (KQ.seq P E lsame_7 Q) st) ∧
  (vcW P E lsame_5 Q st = aopsW P lsame_5o st (KS.reg [0, 3, 4, 5] (KQ.seq P E lsame_6 Q))) ∧
  (vcW P E lsame_23 Q st = aopsW P lsame_23o st (KS.reg [2] (KQ.seq P E .ret Q))) ∧
  (vcW P E lsame_22 Q st = cndW P E (ev st (.t 27)) lsame_23 .skip Q st) ∧
  (vcW P E lsame_21 Q st = aopsW P lsame_21o st (KS.reg [0, 3, 4, 27] (KQ.seq P E lsame_22 Q))) ∧
  (vcW P E lsame_4 Q st = vcW P E lsame_21 (KQ.seq P E lsame_5 Q) st) ∧
  (vcW P E lsame_3 Q st = aopsW P lsame_3o st (KS.reg [0, 3, 4] (KQ.seq P E lsame_4 Q))) ∧
  (vcW P E lsame_2 Q st = aopsW P lsame_2o st (KS.reg [0, 3] (KQ.seq P E lsame_3 Q))) ∧
  (vcW P E lsame_26 Q st = aopsW P lsame_26o st (KS.reg [0] Q)) ∧
  (vcW P E lsame_25 Q st = cndW P E (ev st (.t 9)) lsame_26 .skip Q st) ∧
  (vcW P E lsame_24 Q st = aopsW P lsame_24o st (KS.reg [0, 9] (KQ.seq P E lsame_25 Q))) ∧
  (vcW P E lsame_0 Q st = aopsW P lsame_0o st (KS.reg [0] (KQ.seq P E lsame_1 Q))) ∧
  (vcW P E lsame Q st = vcW P E lsame_0 Q st) :=
  ⟨rfl, rfl, rfl, vcW_cond, rfl, rfl, rfl, rfl, rfl, vcW_cond, rfl, rfl, rfl, rfl, rfl, rfl, rfl, vcW_cond, rfl, rfl, rfl, rfl, rfl, vcW_cond, rfl, rfl, rfl⟩
theorem lsame_jn (P : Program) (E : Env) (Q : KQ) (st : St) :
  (vcW P E lsame_1 Q st = vcW P E lsame_24 (KQ.seq P E (.mid lsame_2) Q) st) :=
  rfl
attribute [go_sem] lsame_vc lsame_7o lsame_13o lsame_19o lsame_17o lsame_16o lsame_15o lsame_10o lsame_8o lsame_5o lsame_23o lsame_21o lsame_3o lsame_2o lsame_26o lsame_24o lsame_0o
noncomputable def lsameB : Code := (Tryd.f10.body).getD .skip
theorem lsame_eq : trCode Tryd.prog 83 38000 lsameB = lsame.erase 38000 := by kernel_rfl
theorem lsame_body : Tryd.f10.body = some lsameB := by kernel_rfl
theorem lsame_n : Tryd.f10.ntmps = 83 := by kernel_rfl
theorem lsame_r : Tryd.f10.results.toList.map (trRes Tryd.prog) = [.tmp 2] := by kernel_rfl
theorem lsame_spec {h : HP} {a0 : AV} {Post : HP → AV → List AV → Prop} (hp : ∀ (E : Env) (R : HP → AV → List AV → Prop), E.N ≤ 1000000 → PostTo Post R → vcW Tryd.prog E lsame (KQ.post [.tmp 2] 1 R) ⟨[(0, a0)], h⟩) : Eng.Spec Tryd.prog 10 h [a0] Post := spec_wk (
  spec_of (c := lsame.erase 38000) (B := 38000) Tryd.func10 lsame_body (by rw [lsame_n, lsame_eq]) (by rw [lsame_n]; decide) (by rw [lsame_n]; exact (by decide : 1 ≤ 83)) (fun E hE hB hrd => by
    have hN : E.N ≤ 1000000 := by
      rw [hE, lsame_n]; decide
    rw [lsame_r, ← hB]
    exact awp_slots [(0, a0)] ⟨rfl, trivial⟩ (vcW_sound hN _ (hp E _ hN fin_self))))
/- strings.CutPrefix -/
def cutPrefix_1o : List ROp := [.v 6 (.mov (.t 0)),
   .v 7 (.mov (.t 1)),
   .cal (some 8) false 40008 41 [(.t 6), (.t 7)],
   .v 9 (.ext (.t 8) 0),
   .v 10 (.ext (.t 8) 1),
   .v 4 (.mov (.t 9)),
   .v 5 (.mov (.t 10))]
def cutPrefix_1 : AK := .seq (.reg cutPrefix_1o [4, 5]) .ret
def cutPrefix_0o : List ROp := [.v 4 (.mov (.c (.str []))),
   .v 5 (.mov (.c (.bool false)))]
def cutPrefix_0 : AK := .seq (.reg cutPrefix_0o [0, 1]) cutPrefix_1
def cutPrefix : AK := cutPrefix_0
theorem cutPrefix_vc (P : Program) (E : Env) (Q : KQ) (st : St) :
  (vcW P E cutPrefix_1 Q st = aopsW P cutPrefix_1o st (KS.reg [4, 5] (KQ.seq P E .ret Q))) ∧
  (vcW P E cutPrefix_0 Q st = aopsW P cutPrefix_0o st (KS.reg [0, 1] (KQ.seq P E cutPrefix_1 Q))) ∧
  (vcW P E cutPrefix Q st = vcW P E cutPrefix_0 Q st) :=
  ⟨rfl, rfl, rfl⟩
theorem cutPrefix_jn (P : Program) (E : Env) (Q : KQ) (st : St) :
  (True) :=
  trivial
attribute [go_sem] cutPrefix_vc cutPrefix_1o cutPrefix_0o
noncomputable def cutPrefixB : Code := (Tryd.f25.body).getD .skip
theorem cutPrefix_eq : trCode Tryd.prog 11 40000 cutPrefixB = cutPrefix.erase 40000 := by kernel_rfl
theorem cutPrefix_body : Tryd.f25.body = some cutPrefixB := by kernel_rfl
theorem cutPrefix_n : Tryd.f25.ntmps = 11 := by kernel_rfl
theorem cutPrefix_r : Tryd.f25.results.toList.map (trRes Tryd.prog) = [.tmp 4, .tmp 5] := by kernel_rfl
theorem cutPrefix_spec {h : HP} {a0 a1 : AV} {Post : HP → AV → List AV → Prop} (hp : ∀ (E : Env) (R : HP → AV → List AV → Prop), E.N ≤ 1000000 → PostTo Post R → vcW Tryd.prog E cutPrefix (KQ.post [.tmp 4, .tmp 5] 2 R) ⟨[(0, a0), (1, a1)], h⟩) : Eng.Spec Tryd.prog 25 h [a0, a1] Post := spec_wk (
  spec_of (c := cutPrefix.erase 40000) (B := 40000) Tryd.func25 cutPrefix_body (by rw [cutPrefix_n, cutPrefix_eq]) (by rw [cutPrefix_n]; decide) (by rw [cutPrefix_n]; exact (by decide : 2 ≤ 11)) (fun E hE hB hrd => by
    have hN : E.N ≤ 1000000 := by
      rw [hE, cutPrefix_n]; decide
    rw [cutPrefix_r, ← hB]
    exact awp_slots [(0, a0), (1, a1)] ⟨rfl, rfl, trivial⟩ (vcW_sound hN _ (hp E _ hN fin_self))))
/- internal/stringslite.CutPrefix -/
def lcutPrefix_2o : List ROp := [.v 11 (.mov (.t 0)),
   .v 12 (.mov (.t 1)),
   .v 13 (.len true (.t 12)),
   .v 14 (.slcS (.t 11) (some (.t 13)) none),
   .v 4 (.mov (.t 14)),
   .v 5 (.mov (.c (.bool true)))]
def lcutPrefix_2 : AK := .seq (.reg lcutPrefix_2o [4, 5]) .ret
def lcutPrefix_5o : List ROp := [.v 10 (.mov (.t 0)),
   .v 4 (.mov (.t 10)),
   .v 5 (.mov (.c (.bool false)))]
def lcutPrefix_5 : AK := .seq (.reg lcutPrefix_5o [4, 5]) .ret
def lcutPrefix_4 : AK := .cond (.t 9) lcutPrefix_5 .skip
def lcutPrefix_3o : List ROp := [.v 6 (.mov (.t 0)),
   .v 7 (.mov (.t 1)),
   .cal (some 8) false 41008 46 [(.t 6), (.t 7)],
   .v 9 (.un .not (.t 8))]
def lcutPrefix_3 : AK := .seq (.reg lcutPrefix_3o [0, 1, 9]) lcutPrefix_4
def lcutPrefix_1 : AK := .seq lcutPrefix_3 lcutPrefix_2
def lcutPrefix_0o : List ROp := [.v 4 (.mov (.c (.str []))),
   .v 5 (.mov (.c (.bool false)))]
def lcutPrefix_0 : AK := .seq (.reg lcutPrefix_0o [0, 1]) lcutPrefix_1
def lcutPrefix : AK := lcutPrefix_0
theorem lcutPrefix_vc (P : Program) (E : Env) (Q : KQ) (st : St) :
  (vcW P E lcutPrefix_2 Q st = aopsW P lcutPrefix_2o st (KS.reg [4, 5] (KQ.seq P E .ret Q))) ∧
  (vcW P E lcutPrefix_5 Q st = aopsW P lcutPrefix_5o st (KS.reg [4, 5] (KQ.seq P E .ret Q))) ∧
  (vcW P E lcutPrefix_4 Q st = cndW P E (ev st (.t 9)) lcutPrefix_5 .skip Q st) ∧
  (vcW P E lcutPrefix_3 Q st = aopsW P lcutPrefix_3o st (KS.reg [0, 1, 9] (KQ.seq P E lcutPrefix_4 Q))) ∧
  (vcW P E lcutPrefix_1 Q st = vcW P E lcutPrefix_3 (KQ.seq P E lcutPrefix_2 Q) st) ∧
  (vcW P E lcutPrefix_0 Q st = aopsW P lcutPrefix_0o st (KS.reg [0, 1] (KQ.seq P E lcutPrefix_1 Q))) ∧
  (vcW P E lcutPrefix Q st = vcW P E lcutPrefix_0 Q st) :=
  ⟨rfl, rfl, vcW_cond, rfl, rfl, rfl, rfl⟩
theorem lcutPrefix_jn (P : Program) (E : Env) (Q : KQ) (st : St) :
  (True) :=
  trivial
attribute [go_sem] lcutPrefix_vc lcutPrefix_2o lcutPrefix_5o lcutPrefix_3o lcutPrefix_0o
noncomputable def lcutPrefixB : Code := (Tryd.f41.body).getD .skip
theorem lcutPrefix_eq : trCode Tryd.prog 15 41000 lcutPrefixB = lcutPrefix.erase 41000 := by kernel_rfl
theorem lcutPrefix_body : Tryd.f41.body = some lcutPrefixB := by kernel_rfl
theorem lcutPrefix_n : Tryd.f41.ntmps = 15 := by kernel_rfl
theorem lcutPrefix_r : Tryd.f41.results.toList.map (trRes Tryd.prog) = [.tmp 4, .tmp 5] := by kernel_rfl
theorem lcutPrefix_spec {h : HP} {a0 a1 : AV} {Post : HP → AV → List AV → Prop} (hp : ∀ (E : Env) (R : HP → AV → List AV → Prop), E.N ≤ 1000000 → PostTo Post R → vcW Tryd.prog E lcutPrefix (KQ.post [.tmp 4, .tmp 5] 2 R) ⟨[(0, a0), (1, a1)], h⟩) : Eng.Spec Tryd.prog 41 h [a0, a1] Post := spec_wk (
  spec_of (c := lcutPrefix.erase 41000) (B := 41000) Tryd.func41 lcutPrefix_body (by rw [lcutPrefix_n, lcutPrefix_eq]) (by rw [lcutPrefix_n]; decide) (by rw [lcutPrefix_n]; exact (by decide : 2 ≤ 15)) (fun E hE hB hrd => by
    have hN : E.N ≤ 1000000 := by
      rw [hE, lcutPrefix_n]; decide
    rw [lcutPrefix_r, ← hB]
    exact awp_slots [(0, a0), (1, a1)] ⟨rfl, rfl, trivial⟩ (vcW_sound hN _ (hp E _ hN fin_self))))
/- internal/stringslite.HasPrefix -/
def hasPrefix_1o : List ROp := [.v 5 (.mov (.t 0)),
   .v 6 (.len true (.t 5)),
   .v 7 (.mov (.t 1)),
   .v 8 (.len true (.t 7)),
   .v 9 (.bin .geq (.t 6) (.t 8)),
   .v 10 (.mov (.t 9)),
   .gval 11 10 true false 42011 (.mov (.t 0)),
   .gval 12 10 true false 42012 (.mov (.t 1)),
   .gval 13 10 true false 42013 (.len true (.t 12)),
   .gval 14 10 true false 42014 (.slcS (.t 11) none (some (.t 13))),
   .gval 15 10 true false 42015 (.mov (.t 1)),
   .gval 16 10 true false 42016 (.bin .eql (.t 14) (.t 15)),
   .v 17 (.pick (.t 10) (.t 16) (.c (.bool false))),
   .v 4 (.mov (.t 17))]
def hasPrefix_1 : AK := .seq (.reg hasPrefix_1o [4]) .ret
def hasPrefix_0o : List ROp := [.v 4 (.mov (.c (.bool false)))]
def hasPrefix_0 : AK := .seq (.reg hasPrefix_0o [0, 1]) hasPrefix_1
def hasPrefix : AK := hasPrefix_0
theorem hasPrefix_vc (P : Program) (E : Env) (Q : KQ) (st : St) :
  (vcW P E hasPrefix_1 Q st = aopsW P hasPrefix_1o st (KS.reg [4] (KQ.seq P E .ret Q))) ∧
  (vcW P E hasPrefix_0 Q st = aopsW P hasPrefix_0o st (KS.reg [0, 1] (KQ.seq P E hasPrefix_1 Q))) ∧
  (vcW P E hasPrefix Q st = vcW P E hasPrefix_0 Q st) :=
  ⟨rfl, rfl, rfl⟩
theorem hasPrefix_jn (P : Program) (E : Env) (Q : KQ) (st : St) :
  (True) :=
  trivial
attribute [go_sem] hasPrefix_vc hasPrefix_1o hasPrefix_0o
noncomputable def hasPrefixB : Code := (Tryd.f46.body).getD .skip
theorem hasPrefix_eq : trCode Tryd.prog 18 42000 hasPrefixB = hasPrefix.erase 42000 := by kernel_rfl
theorem hasPrefix_body : Tryd.f46.body = some hasPrefixB := by kernel_rfl
theorem hasPrefix_n : Tryd.f46.ntmps = 18 := by kernel_rfl
theorem hasPrefix_r : Tryd.f46.results.toList.map (trRes Tryd.prog) = [.tmp 4] := by kernel_rfl
theorem hasPrefix_spec {h : HP} {a0 a1 : AV} {Post : HP → AV → List AV → Prop} (hp : ∀ (E : Env) (R : HP → AV → List AV → Prop), E.N ≤ 1000000 → PostTo Post R → vcW Tryd.prog E hasPrefix (KQ.post [.tmp 4] 2 R) ⟨[(0, a0), (1, a1)], h⟩) : Eng.Spec Tryd.prog 46 h [a0, a1] Post := spec_wk (
  spec_of (c := hasPrefix.erase 42000) (B := 42000) Tryd.func46 hasPrefix_body (by rw [hasPrefix_n, hasPrefix_eq]) (by rw [hasPrefix_n]; decide) (by rw [hasPrefix_n]; exact (by decide : 2 ≤ 18)) (fun E hE hB hrd => by
    have hN : E.N ≤ 1000000 := by
      rw [hE, hasPrefix_n]; decide
    rw [hasPrefix_r, ← hB]
    exact awp_slots [(0, a0), (1, a1)] ⟨rfl, rfl, trivial⟩ (vcW_sound hN _ (hp E _ hN fin_self))))
/- strings.Cut -/
def scut_1o : List ROp := [.v 7 (.mov (.t 0)),
   .v 8 (.mov (.t 1)),
   .cal (some 9) false 43009 42 [(.t 7), (.t 8)],
   .v 10 (.ext (.t 9) 0),
   .v 11 (.ext (.t 9) 1),
   .v 12 (.ext (.t 9) 2),
   .v 4 (.mov (.t 10)),
   .v 5 (.mov (.t 11)),
   .v 6 (.mov (.t 12))]
def scut_1 : AK := .seq (.reg scut_1o [4, 5, 6]) .ret
def scut_0o : List ROp := [.v 4 (.mov (.c (.str []))),
   .v 5 (.mov (.c (.str []))),
   .v 6 (.mov (.c (.bool false)))]
def scut_0 : AK := .seq (.reg scut_0o [0, 1]) scut_1
def scut : AK := scut_0
theorem scut_vc (P : Program) (E : Env) (Q : KQ) (st : St) :
  (vcW P E scut_1 Q st = aopsW P scut_1o st (KS.reg [4, 5, 6] (KQ.seq P E .ret Q))) ∧
  (vcW P E scut_0 Q st = aopsW P scut_0o st (KS.reg [0, 1] (KQ.seq P E scut_1 Q))) ∧
  (vcW P E scut Q st = vcW P E scut_0 Q st) :=
  ⟨rfl, rfl, rfl⟩
theorem scut_jn (P : Program) (E : Env) (Q : KQ) (st : St) :
  (True) :=
  trivial
attribute [go_sem] scut_vc scut_1o scut_0o
noncomputable def scutB : Code := (Tryd.f27.body).getD .skip
theorem scut_eq : trCode Tryd.prog 13 43000 scutB = scut.erase 43000 := by kernel_rfl
theorem scut_body : Tryd.f27.body = some scutB := by kernel_rfl
theorem scut_n : Tryd.f27.ntmps = 13 := by kernel_rfl
theorem scut_r : Tryd.f27.results.toList.map (trRes Tryd.prog) = [.tmp 4, .tmp 5, .tmp 6] := by kernel_rfl
theorem scut_spec {h : HP} {a0 a1 : AV} {Post : HP → AV → List AV → Prop} (hp : ∀ (E : Env) (R : HP → AV → List AV → Prop), E.N ≤ 1000000 → PostTo Post R → vcW Tryd.prog E scut (KQ.post [.tmp 4, .tmp 5, .tmp 6] 2 R) ⟨[(0, a0), (1, a1)], h⟩) : Eng.Spec Tryd.prog 27 h [a0, a1] Post := spec_wk (
  spec_of (c := scut.erase 43000) (B := 43000) Tryd.func27 scut_body (by rw [scut_n, scut_eq]) (by rw [scut_n]; decide) (by rw [scut_n]; exact (by decide : 2 ≤ 13)) (fun E hE hB hrd => by
    have hN : E.N ≤ 1000000 := by
      rw [hE, scut_n]; decide
    rw [scut_r, ← hB]
    exact awp_slots [(0, a0), (1, a1)] ⟨rfl, rfl, trivial⟩ (vcW_sound hN _ (hp E _ hN fin_self))))
/- internal/stringslite.Cut -/
def lcut_2o : List ROp := [.v 22 (.mov (.t 0)),
   .v 4 (.mov (.t 22)),
   .v 5 (.mov (.c (.str []))),
   .v 6 (.mov (.c (.bool false)))]
def lcut_2 : AK := .seq (.reg lcut_2o [4, 5, 6]) .ret
def lcut_6o : List ROp := [.val 13 true 44013 (.mov (.t 0)),
   .val 14 true 44014 (.mov (.t 7)),
   .val 15 true 44015 (.slcS (.t 13) none (some (.t 14))),
   .val 16 true 44016 (.mov (.t 0)),
   .val 17 true 44017 (.mov (.t 7)),
   .val 18 true 44018 (.mov (.t 1)),
   .val 19 true 44019 (.len true (.t 18)),
   .val 20 true 44020 (.bin .add (.t 17) (.t 19)),
   .val 21 true 44021 (.slcS (.t 16) (some (.t 20)) none),
   .val 4 true 44004 (.mov (.t 15)),
   .v 5 (.mov (.t 21)),
   .v 6 (.mov (.c (.bool true)))]
def lcut_6 : AK := .seq (.reg lcut_6o [4, 5, 6]) .ret
def lcut_5 : AK := .cond (.t 12) lcut_6 .skip
def lcut_4o : List ROp := [.v 11 (.mov (.t 7)),
   .v 12 (.bin .geq (.t 11) (.c (.int .i64 0)))]
def lcut_4 : AK := .seq (.reg lcut_4o [0, 1, 7, 12]) lcut_5
def lcut_3o : List ROp := [.v 8 (.mov (.t 0)),
   .v 9 (.mov (.t 1)),
   .cal (some 10) false 44010 47 [(.t 8), (.t 9)],
   .v 7 (.mov (.t 10))]
def lcut_3 : AK := .seq (.reg lcut_3o [0, 1, 7]) lcut_4
def lcut_1 : AK := .seq lcut_3 lcut_2
def lcut_0o : List ROp := [.v 4 (.mov (.c (.str []))),
   .v 5 (.mov (.c (.str []))),
   .v 6 (.mov (.c (.bool false)))]
def lcut_0 : AK := .seq (.reg lcut_0o [0, 1]) lcut_1
def lcut : AK := lcut_0
theorem lcut_vc (P : Program) (E : Env) (Q : KQ) (st : St) :
  (vcW P E lcut_2 Q st = aopsW P lcut_2o st (KS.reg [4, 5, 6] (KQ.seq P E .ret Q))) ∧
  (vcW P E lcut_6 Q st = aopsW P lcut_6o st (KS.reg [4, 5, 6] (KQ.seq P E .ret Q))) ∧
  (vcW P E lcut_5 Q st = cndW P E (ev st (.t 12)) lcut_6 .skip Q st) ∧
  (vcW P E lcut_4 Q st = aopsW P lcut_4o st (KS.reg [0, 1, 7, 12] (KQ.seq P E lcut_5 Q))) ∧
  (vcW P E lcut_3 Q st = aopsW P lcut_3o st (KS.reg [0, 1, 7] (KQ.seq P E lcut_4 Q))) ∧
  (vcW P E lcut_1 Q st = vcW P E lcut_3 (KQ.seq P E lcut_2 Q) st) ∧
  (vcW P E lcut_0 Q st = aopsW P lcut_0o st (KS.reg [0, 1] (KQ.seq P E lcut_1 Q))) ∧
  (vcW P E lcut Q st = vcW P E lcut_0 Q st) :=
  ⟨rfl, rfl, vcW_cond, rfl, rfl, rfl, rfl, rfl⟩
theorem lcut_jn (P : Program) (E : Env) (Q : KQ) (st : St) :
  (True) :=
  trivial
attribute [go_sem] lcut_vc lcut_2o lcut_6o lcut_4o lcut_3o lcut_0o
noncomputable def lcutB : Code := (Tryd.f42.body).getD .skip
theorem lcut_eq : trCode Tryd.prog 23 44000 lcutB = lcut.erase 44000 := by kernel_rfl
theorem lcut_body : Tryd.f42.body = some lcutB := by kernel_rfl
theorem lcut_n : Tryd.f42.ntmps = 23 := by kernel_rfl
theorem lcut_r : Tryd.f42.results.toList.map (trRes Tryd.prog) = [.tmp 4, .tmp 5, .tmp 6] := by kernel_rfl
theorem lcut_spec {h : HP} {a0 a1 : AV} {Post : HP → AV → List AV → Prop} (hp : ∀ (E : Env) (R : HP → AV → List AV → Prop), E.N ≤ 1000000 → PostTo Post R → vcW Tryd.prog E lcut (KQ.post [.tmp 4, .tmp 5, .tmp 6] 2 R) ⟨[(0, a0), (1, a1)], h⟩) : Eng.Spec Tryd.prog 42 h [a0, a1] Post := spec_wk (
  spec_of (c := lcut.erase 44000) (B := 44000) Tryd.func42 lcut_body (by rw [lcut_n, lcut_eq]) (by rw [lcut_n]; decide) (by rw [lcut_n]; exact (by decide : 2 ≤ 23)) (fun E hE hB hrd => by
    have hN : E.N ≤ 1000000 := by
      rw [hE, lcut_n]; decide
    rw [lcut_r, ← hB]
    exact awp_slots [(0, a0), (1, a1)] ⟨rfl, rfl, trivial⟩ (vcW_sound hN _ (hp E _ hN fin_self))))
end Go.Proofs.YtjjhicejabggdaaDoor.Cod
