/- Code of functions as the engine reads it: written by a program (code2.py). -/
import Derived.Test.YtlnplfjcnncakaaDoorEngX
import Derived.Test.YtlnplfjcnncakaaDoorProg
import Derived.KernelRfl
set_option linter.all false
namespace Go.Proofs.YtlnplfjcnncakaaDoor.Cod
open Eng
set_option maxRecDepth 100000
/- math/bits.RotateLeft32 -/
def rotl_2o : List ROp := [.v 9 (.mov (.t 0)),
   .v 10 (.mov (.t 5)),
   .v 11 (.bin .shl (.t 9) (.t 10)),
   .v 12 (.mov (.t 0)),
   .v 13 (.mov (.t 5)),
   .v 14 (.bin .sub (.c (.int .u64 32)) (.t 13)),
   .v 15 (.bin .shr (.t 12) (.t 14)),
   .v 16 (.bin .or (.t 11) (.t 15)),
   .v 4 (.mov (.t 16))]
def rotl_2 : AK := .seq (.reg rotl_2o [4]) .ret
def rotl_1o : List ROp := [.v 6 (.mov (.t 1)),
   .v 7 (.cvi .u64 (.t 6)),
   .v 8 (.bin .and (.t 7) (.c (.int .u64 31))),
   .v 5 (.mov (.t 8))]
def rotl_1 : AK := .seq (.reg rotl_1o [0, 5]) rotl_2
def rotl_0o : List ROp := [.v 4 (.mov (.c (.int .u32 0)))]
def rotl_0 : AK := .seq (.reg rotl_0o [0, 1]) rotl_1
def rotl : AK := rotl_0
theorem rotl_vc (P : Program) (E : Env) (Q : KQ) (st : St) :
  (vcW P E rotl_2 Q st = aopsW P rotl_2o st (KS.reg [4] (KQ.seq P E .ret Q))) ∧
  (vcW P E rotl_1 Q st = aopsW P rotl_1o st (KS.reg [0, 5] (KQ.seq P E rotl_2 Q))) ∧
  (vcW P E rotl_0 Q st = aopsW P rotl_0o st (KS.reg [0, 1] (KQ.seq P E rotl_1 Q))) ∧
  (vcW P E rotl Q st = vcW P E rotl_0 Q st) :=
  ⟨rfl, rfl, rfl, rfl⟩
theorem rotl_jn (P : Program) (E : Env) (Q : KQ) (st : St) :
  (True) :=
  trivial
attribute [go_sem] rotl_vc rotl_2o rotl_1o rotl_0o
noncomputable def rotlB : Code := (Tryd.f60.body).getD .skip
theorem rotl_eq : trCode Tryd.prog 17 101000 rotlB = rotl.erase 101000 := by kernel_rfl
theorem rotl_body : Tryd.f60.body = some rotlB := by kernel_rfl
theorem rotl_n : Tryd.f60.ntmps = 17 := by kernel_rfl
theorem rotl_r : Tryd.f60.results.toList.map (trRes Tryd.prog) = [.tmp 4] := by kernel_rfl
theorem rotl_spec {h : HP} {a0 a1 : AV} {Post : HP → AV → List AV → Prop} (hp : ∀ (E : Env) (R : HP → AV → List AV → Prop), E.N ≤ 1000000 → PostTo Post R → vcW Tryd.prog E rotl (KQ.post [.tmp 4] 2 R) ⟨[(0, a0), (1, a1)], h⟩) : Eng.Spec Tryd.prog 60 h [a0, a1] Post := spec_wk (
  spec_of (c := rotl.erase 101000) (B := 101000) Tryd.func60 rotl_body (by rw [rotl_n, rotl_eq]) (by rw [rotl_n]; decide) (by rw [rotl_n]; exact (by decide : 2 ≤ 17)) (fun E hE hB hrd => by
    have hN : E.N ≤ 1000000 := by
      rw [hE, rotl_n]; decide
    rw [rotl_r, ← hB]
    exact awp_slots [(0, a0), (1, a1)] ⟨rfl, rfl, trivial⟩ (vcW_sound hN _ (hp E _ hN fin_self))))
/- cartulary/sha.word -/
def word_1o : List ROp := [.val 3 true 102003 (.mov (.t 0)),
   .val 4 true 102004 (.sidx (.t 3) (.c (.int .i64 0))),
   .val 5 true 102005 (.cvi .u32 (.t 4)),
   .val 6 true 102006 (.bin .shl (.t 5) (.c (.int .u64 24))),
   .val 7 true 102007 (.mov (.t 0)),
   .val 8 true 102008 (.sidx (.t 7) (.c (.int .i64 1))),
   .val 9 true 102009 (.cvi .u32 (.t 8)),
   .val 10 true 102010 (.bin .shl (.t 9) (.c (.int .u64 16))),
   .val 11 true 102011 (.bin .or (.t 6) (.t 10)),
   .val 12 true 102012 (.mov (.t 0)),
   .val 13 true 102013 (.sidx (.t 12) (.c (.int .i64 2))),
   .val 14 true 102014 (.cvi .u32 (.t 13)),
   .val 15 true 102015 (.bin .shl (.t 14) (.c (.int .u64 8))),
   .val 16 true 102016 (.bin .or (.t 11) (.t 15)),
   .val 17 true 102017 (.mov (.t 0)),
   .val 18 true 102018 (.sidx (.t 17) (.c (.int .i64 3))),
   .val 19 true 102019 (.cvi .u32 (.t 18)),
   .v 20 (.bin .or (.t 16) (.t 19)),
   .v 2 (.mov (.t 20))]
def word_1 : AK := .seq (.reg word_1o [2]) .ret
def word_0o : List ROp := [.v 2 (.mov (.c (.int .u32 0)))]
def word_0 : AK := .seq (.reg word_0o [0]) word_1
def word : AK := word_0
theorem word_vc (P : Program) (E : Env) (Q : KQ) (st : St) :
  (vcW P E word_1 Q st = aopsW P word_1o st (KS.reg [2] (KQ.seq P E .ret Q))) ∧
  (vcW P E word_0 Q st = aopsW P word_0o st (KS.reg [0] (KQ.seq P E word_1 Q))) ∧
  (vcW P E word Q st = vcW P E word_0 Q st) :=
  ⟨rfl, rfl, rfl⟩
theorem word_jn (P : Program) (E : Env) (Q : KQ) (st : St) :
  (True) :=
  trivial
attribute [go_sem] word_vc word_1o word_0o
noncomputable def wordB : Code := (Tryd.f59.body).getD .skip
theorem word_eq : trCode Tryd.prog 21 102000 wordB = word.erase 102000 := by kernel_rfl
theorem word_body : Tryd.f59.body = some wordB := by kernel_rfl
theorem word_n : Tryd.f59.ntmps = 21 := by kernel_rfl
theorem word_r : Tryd.f59.results.toList.map (trRes Tryd.prog) = [.tmp 2] := by kernel_rfl
theorem word_spec {h : HP} {a0 : AV} {Post : HP → AV → List AV → Prop} (hp : ∀ (E : Env) (R : HP → AV → List AV → Prop), E.N ≤ 1000000 → PostTo Post R → vcW Tryd.prog E word (KQ.post [.tmp 2] 1 R) ⟨[(0, a0)], h⟩) : Eng.Spec Tryd.prog 59 h [a0] Post := spec_wk (
  spec_of (c := word.erase 102000) (B := 102000) Tryd.func59 word_body (by rw [word_n, word_eq]) (by rw [word_n]; decide) (by rw [word_n]; exact (by decide : 1 ≤ 21)) (fun E hE hB hrd => by
    have hN : E.N ≤ 1000000 := by
      rw [hE, word_n]; decide
    rw [word_r, ← hB]
    exact awp_slots [(0, a0)] ⟨rfl, trivial⟩ (vcW_sound hN _ (hp E _ hN fin_self))))
/- cartulary/sha.start1 -/
def start1_1o : List ROp := [.eff 1 false 103001 (.bsl 1 [(.c (.int .u32 1732584193)), (.c (.int .u32 4023233417)), (.c (.int .u32 2562383102)), (.c (.int .u32 271733878)), (.c (.int .u32 3285377520))]),
   .v 0 (.mov (.t 1))]
def start1_1 : AK := .seq (.reg start1_1o [0]) .ret
def start1_0o : List ROp := [.v 0 (.mov (.c (.nilsl)))]
def start1_0 : AK := .seq (.reg start1_0o []) start1_1
def start1 : AK := start1_0
theorem start1_vc (P : Program) (E : Env) (Q : KQ) (st : St) :
  (vcW P E start1_1 Q st = aopsW P start1_1o st (KS.reg [0] (KQ.seq P E .ret Q))) ∧
  (vcW P E start1_0 Q st = aopsW P start1_0o st (KS.reg [] (KQ.seq P E start1_1 Q))) ∧
  (vcW P E start1 Q st = vcW P E start1_0 Q st) :=
  ⟨rfl, rfl, rfl⟩
theorem start1_jn (P : Program) (E : Env) (Q : KQ) (st : St) :
  (True) :=
  trivial
attribute [go_sem] start1_vc start1_1o start1_0o
noncomputable def start1B : Code := (Tryd.f48.body).getD .skip
theorem start1_eq : trCode Tryd.prog 2 103000 start1B = start1.erase 103000 := by kernel_rfl
theorem start1_body : Tryd.f48.body = some start1B := by kernel_rfl
theorem start1_n : Tryd.f48.ntmps = 2 := by kernel_rfl
theorem start1_r : Tryd.f48.results.toList.map (trRes Tryd.prog) = [.tmp 0] := by kernel_rfl
theorem start1_spec {h : HP} {Post : HP → AV → List AV → Prop} (hp : ∀ (E : Env) (R : HP → AV → List AV → Prop), E.N ≤ 1000000 → PostTo Post R → vcW Tryd.prog E start1 (KQ.post [.tmp 0] 0 R) ⟨[], h⟩) : Eng.Spec Tryd.prog 48 h [] Post := spec_wk (
  spec_of (c := start1.erase 103000) (B := 103000) Tryd.func48 start1_body (by rw [start1_n, start1_eq]) (by rw [start1_n]; decide) (by rw [start1_n]; exact (by decide : 0 ≤ 2)) (fun E hE hB hrd => by
    have hN : E.N ≤ 1000000 := by
      rw [hE, start1_n]; decide
    rw [start1_r, ← hB]
    exact awp_slots [] trivial (vcW_sound hN _ (hp E _ hN fin_self))))
/- cartulary/sha.block1 -/
def block1_8o : List ROp := [.v 142 (.mov (.t 0)),
   .v 143 (.idxA 1 (.t 142) (.c (.int .i64 4))),
   .v 144 (.ld false 1 (.t 143)),
   .v 145 (.mov (.t 10)),
   .v 146 (.bin .add (.t 144) (.t 145)),
   .v 147 (.idxA 1 (.t 142) (.c (.int .i64 4))),
   .effN false 104000 (.st 1 (.t 147) (.t 146))]
def block1_8 : AK := .reg block1_8o [2000000, 2000001, 2000002, 2000003]
def block1_7o : List ROp := [.v 136 (.mov (.t 0)),
   .v 137 (.idxA 1 (.t 136) (.c (.int .i64 3))),
   .v 138 (.ld false 1 (.t 137)),
   .v 139 (.mov (.t 9)),
   .v 140 (.bin .add (.t 138) (.t 139)),
   .v 141 (.idxA 1 (.t 136) (.c (.int .i64 3))),
   .effN false 104000 (.st 1 (.t 141) (.t 140))]
def block1_7 : AK := .seq (.reg block1_7o [0, 10, 2000000, 2000001, 2000002, 2000003]) block1_8
def block1_6o : List ROp := [.v 130 (.mov (.t 0)),
   .v 131 (.idxA 1 (.t 130) (.c (.int .i64 2))),
   .v 132 (.ld false 1 (.t 131)),
   .v 133 (.mov (.t 8)),
   .v 134 (.bin .add (.t 132) (.t 133)),
   .v 135 (.idxA 1 (.t 130) (.c (.int .i64 2))),
   .effN false 104000 (.st 1 (.t 135) (.t 134))]
def block1_6 : AK := .seq (.reg block1_6o [0, 9, 10, 2000000, 2000001, 2000002, 2000003]) block1_7
def block1_5o : List ROp := [.v 124 (.mov (.t 0)),
   .v 125 (.idxA 1 (.t 124) (.c (.int .i64 1))),
   .v 126 (.ld false 1 (.t 125)),
   .v 127 (.mov (.t 7)),
   .v 128 (.bin .add (.t 126) (.t 127)),
   .v 129 (.idxA 1 (.t 124) (.c (.int .i64 1))),
   .effN false 104000 (.st 1 (.t 129) (.t 128))]
def block1_5 : AK := .seq (.reg block1_5o [0, 8, 9, 10, 2000000, 2000001, 2000002, 2000003]) block1_6
def block1_4o : List ROp := [.v 118 (.mov (.t 0)),
   .v 119 (.idxA 1 (.t 118) (.c (.int .i64 0))),
   .v 120 (.ld false 1 (.t 119)),
   .v 121 (.mov (.t 6)),
   .v 122 (.bin .add (.t 120) (.t 121)),
   .v 123 (.idxA 1 (.t 118) (.c (.int .i64 0))),
   .effN false 104000 (.st 1 (.t 123) (.t 122))]
def block1_4 : AK := .seq (.reg block1_4o [0, 7, 8, 9, 10, 2000000, 2000001, 2000002, 2000003]) block1_5
def block1_14o : List ROp := [.v 117 (.bin .add (.t 66) (.c (.int .i64 1))),
   .v 66 (.mov (.t 117))]
def block1_14 : AK := .reg block1_14o [0, 6, 7, 8, 9, 10, 65, 66, 2000000, 2000001, 2000002, 2000003]
def block1_19o : List ROp := [.v 102 (.mov (.t 6)),
   .cal (some 103) false 104103 60 [(.t 102), (.c (.int .i64 5))],
   .v 104 (.mov (.t 13)),
   .v 105 (.bin .add (.t 103) (.t 104)),
   .v 106 (.mov (.t 10)),
   .v 107 (.bin .add (.t 105) (.t 106)),
   .v 108 (.mov (.t 14)),
   .v 109 (.bin .add (.t 107) (.t 108)),
   .v 110 (.mov (.t 12)),
   .v 111 (.bin .add (.t 109) (.t 110)),
   .v 112 (.mov (.t 6)),
   .v 113 (.mov (.t 7)),
   .cal (some 114) false 104114 60 [(.t 113), (.c (.int .i64 30))],
   .v 115 (.mov (.t 8)),
   .v 116 (.mov (.t 9)),
   .v 6 (.mov (.t 111)),
   .v 7 (.mov (.t 112)),
   .v 8 (.mov (.t 114)),
   .v 9 (.mov (.t 115)),
   .v 10 (.mov (.t 116))]
def block1_19 : AK := .reg block1_19o [0, 6, 7, 8, 9, 10, 65, 66, 2000000, 2000001, 2000002, 2000003]
def block1_24o : List ROp := [.v 79 (.mov (.t 7)),
   .v 80 (.mov (.t 8)),
   .v 81 (.bin .and (.t 79) (.t 80)),
   .v 82 (.mov (.t 7)),
   .v 83 (.un .xor (.t 82)),
   .v 84 (.mov (.t 9)),
   .v 85 (.bin .and (.t 83) (.t 84)),
   .v 86 (.bin .or (.t 81) (.t 85)),
   .v 13 (.mov (.t 86)),
   .v 14 (.mov (.c (.int .u32 1518500249)))]
def block1_24 : AK := .reg block1_24o [0, 6, 7, 8, 9, 10, 12, 13, 14, 65, 66, 2000000, 2000001, 2000002, 2000003]
def block1_27o : List ROp := [.v 14 (.mov (.c (.int .u32 1859775393)))]
def block1_27 : AK := .reg block1_27o [0, 6, 7, 8, 9, 10, 12, 13, 14, 65, 66, 2000000, 2000001, 2000002, 2000003]
def block1_30o : List ROp := [.v 91 (.mov (.t 7)),
   .v 92 (.mov (.t 8)),
   .v 93 (.bin .and (.t 91) (.t 92)),
   .v 94 (.mov (.t 7)),
   .v 95 (.mov (.t 9)),
   .v 96 (.bin .and (.t 94) (.t 95)),
   .v 97 (.bin .or (.t 93) (.t 96)),
   .v 98 (.mov (.t 8)),
   .v 99 (.mov (.t 9)),
   .v 100 (.bin .and (.t 98) (.t 99)),
   .v 101 (.bin .or (.t 97) (.t 100)),
   .v 13 (.mov (.t 101)),
   .v 14 (.mov (.c (.int .u32 2400959708)))]
def block1_30 : AK := .reg block1_30o [0, 6, 7, 8, 9, 10, 12, 13, 14, 65, 66, 2000000, 2000001, 2000002, 2000003]
def block1_29 : AK := .cond (.t 89) block1_30 .skip
def block1_28o : List ROp := [.v 90 (.bin .eql (.t 76) (.c (.int .i64 2))),
   .v 89 (.mov (.t 90))]
def block1_28 : AK := .seq (.reg block1_28o [0, 6, 7, 8, 9, 10, 12, 13, 14, 65, 66, 89, 2000000, 2000001, 2000002, 2000003]) block1_29
def block1_26 : AK := .cond (.t 87) block1_27 block1_28
def block1_25o : List ROp := [.v 88 (.bin .eql (.t 76) (.c (.int .i64 1))),
   .v 87 (.mov (.t 88))]
def block1_25 : AK := .seq (.reg block1_25o [0, 6, 7, 8, 9, 10, 12, 13, 14, 65, 66, 76, 87, 2000000, 2000001, 2000002, 2000003]) block1_26
def block1_23 : AK := .cond (.t 77) block1_24 block1_25
def block1_22o : List ROp := [.v 78 (.bin .eql (.t 76) (.c (.int .i64 0))),
   .v 77 (.mov (.t 78))]
def block1_22 : AK := .seq (.reg block1_22o [0, 6, 7, 8, 9, 10, 12, 13, 14, 65, 66, 76, 77, 2000000, 2000001, 2000002, 2000003]) block1_23
def block1_21 : AK := .block 4 block1_22
def block1_20o : List ROp := [.v 75 (.mov (.t 11)),
   .v 76 (.bin .quo (.t 75) (.c (.int .i64 20)))]
def block1_20 : AK := .seq (.reg block1_20o [0, 6, 7, 8, 9, 10, 12, 13, 14, 65, 66, 76, 2000000, 2000001, 2000002, 2000003]) block1_21
def block1_18 : AK := .seq block1_20 (.mid block1_19)
def block1_17o : List ROp := [.v 70 (.mov (.t 7)),
   .v 71 (.mov (.t 8)),
   .v 72 (.bin .xor (.t 70) (.t 71)),
   .v 73 (.mov (.t 9)),
   .v 74 (.bin .xor (.t 72) (.t 73)),
   .v 13 (.mov (.t 74)),
   .v 14 (.mov (.c (.int .u32 3395469782)))]
def block1_17 : AK := .seq (.reg block1_17o [0, 6, 7, 8, 9, 10, 11, 12, 13, 14, 65, 66, 2000000, 2000001, 2000002, 2000003]) block1_18
def block1_16o : List ROp := [.v 68 (.mov (.t 66)),
   .v 69 (.idxV 80 (.t 65) (.t 66)),
   .v 11 (.mov (.t 68)),
   .v 12 (.mov (.t 69))]
def block1_16 : AK := .seq (.reg block1_16o [0, 6, 7, 8, 9, 10, 11, 12, 65, 66, 2000000, 2000001, 2000002, 2000003]) block1_17
def block1_15 : AK := .block 3 block1_16
def block1_13 : AK := .seq block1_15 block1_14
def block1_31 : AK := .cond (.t 67) .skip (.exit 2)
def block1_12 : AK := .seq block1_31 block1_13
def block1_11o : List ROp := [.v 67 (.bin .lss (.t 66) (.c (.int .i64 80)))]
def block1_11 : AK := .seq (.reg block1_11o [0, 6, 7, 8, 9, 10, 65, 66, 67, 2000000, 2000001, 2000002, 2000003]) block1_12
def block1_L0 : AK := .loop block1_11
def block1_10 : AK := .block 2 block1_L0
def block1_9o : List ROp := [.v 65 (.ld true 80 (.t 4)),
   .v 66 (.mov (.c (.int .i64 0)))]
def block1_9 : AK := .seq (.reg block1_9o [0, 6, 7, 8, 9, 10, 65, 66, 2000000, 2000001, 2000002, 2000003]) block1_10
def block1_3 : AK := .seq block1_9 block1_4
def block1_2o : List ROp := [.val 50 true 104050 (.mov (.t 0)),
   .val 51 true 104051 (.idxA 1 (.t 50) (.c (.int .i64 0))),
   .val 52 true 104052 (.ld false 1 (.t 51)),
   .val 53 true 104053 (.mov (.t 0)),
   .val 54 true 104054 (.idxA 1 (.t 53) (.c (.int .i64 1))),
   .val 55 true 104055 (.ld false 1 (.t 54)),
   .val 56 true 104056 (.mov (.t 0)),
   .val 57 true 104057 (.idxA 1 (.t 56) (.c (.int .i64 2))),
   .val 58 true 104058 (.ld false 1 (.t 57)),
   .val 59 true 104059 (.mov (.t 0)),
   .val 60 true 104060 (.idxA 1 (.t 59) (.c (.int .i64 3))),
   .val 61 true 104061 (.ld false 1 (.t 60)),
   .val 62 true 104062 (.mov (.t 0)),
   .val 63 true 104063 (.idxA 1 (.t 62) (.c (.int .i64 4))),
   .val 64 true 104064 (.ld false 1 (.t 63)),
   .val 6 true 104006 (.mov (.t 52)),
   .val 7 true 104007 (.mov (.t 55)),
   .val 8 true 104008 (.mov (.t 58)),
   .val 9 true 104009 (.mov (.t 61)),
   .v 10 (.mov (.t 64))]
def block1_2 : AK := .seq (.reg block1_2o [0, 4, 6, 7, 8, 9, 10, 2000000, 2000001, 2000002, 2000003]) block1_3
def block1_37o : List ROp := [.v 49 (.bin .add (.t 15) (.c (.int .i64 1))),
   .v 15 (.mov (.t 49))]
def block1_37 : AK := .reg block1_37o [0, 1, 4, 15, 2000000, 2000001, 2000002, 2000003]
def block1_42o : List ROp := [.v 20 (.mov (.t 5)),
   .v 21 (.mov (.t 1)),
   .v 22 (.mov (.t 5)),
   .v 23 (.bin .mul (.c (.int .i64 4)) (.t 22)),
   .v 24 (.slcS (.t 21) (some (.t 23)) none),
   .cal (some 25) false 104025 59 [(.t 24)],
   .v 26 (.idxP 80 1 (.t 4) (.t 20)),
   .effN false 104000 (.st 1 (.t 26) (.t 25))]
def block1_42 : AK := .reg block1_42o [0, 1, 4, 15, 2000000, 2000001, 2000002, 2000003]
def block1_43o : List ROp := [.val 27 true 104027 (.mov (.t 5)),
   .val 28 true 104028 (.mov (.t 5)),
   .val 29 true 104029 (.bin .sub (.t 28) (.c (.int .i64 3))),
   .val 30 true 104030 (.idxP 80 1 (.t 4) (.t 29)),
   .val 31 true 104031 (.ld false 1 (.t 30)),
   .val 32 true 104032 (.mov (.t 5)),
   .val 33 true 104033 (.bin .sub (.t 32) (.c (.int .i64 8))),
   .val 34 true 104034 (.idxP 80 1 (.t 4) (.t 33)),
   .val 35 true 104035 (.ld false 1 (.t 34)),
   .val 36 true 104036 (.bin .xor (.t 31) (.t 35)),
   .val 37 true 104037 (.mov (.t 5)),
   .val 38 true 104038 (.bin .sub (.t 37) (.c (.int .i64 14))),
   .val 39 true 104039 (.idxP 80 1 (.t 4) (.t 38)),
   .val 40 true 104040 (.ld false 1 (.t 39)),
   .val 41 true 104041 (.bin .xor (.t 36) (.t 40)),
   .val 42 true 104042 (.mov (.t 5)),
   .val 43 true 104043 (.bin .sub (.t 42) (.c (.int .i64 16))),
   .val 44 true 104044 (.idxP 80 1 (.t 4) (.t 43)),
   .val 45 true 104045 (.ld false 1 (.t 44)),
   .v 46 (.bin .xor (.t 41) (.t 45)),
   .cal (some 47) false 104047 60 [(.t 46), (.c (.int .i64 1))],
   .v 48 (.idxP 80 1 (.t 4) (.t 27)),
   .effN false 104000 (.st 1 (.t 48) (.t 47))]
def block1_43 : AK := .reg block1_43o [0, 1, 4, 15, 2000000, 2000001, 2000002, 2000003]
def block1_41 : AK := .cond (.t 19) block1_42 block1_43
def block1_40o : List ROp := [.v 18 (.mov (.t 5)),
   .v 19 (.bin .lss (.t 18) (.c (.int .i64 16)))]
def block1_40 : AK := .seq (.reg block1_40o [0, 1, 4, 5, 15, 19, 2000000, 2000001, 2000002, 2000003]) block1_41
def block1_39o : List ROp := [.v 17 (.mov (.t 15)),
   .v 5 (.mov (.t 17))]
def block1_39 : AK := .seq (.reg block1_39o [0, 1, 4, 5, 15, 2000000, 2000001, 2000002, 2000003]) block1_40
def block1_38 : AK := .block 1 block1_39
def block1_36 : AK := .seq block1_38 block1_37
def block1_44 : AK := .cond (.t 16) .skip (.exit 0)
def block1_35 : AK := .seq block1_44 block1_36
def block1_34o : List ROp := [.v 16 (.bin .lss (.t 15) (.c (.int .i64 80)))]
def block1_34 : AK := .seq (.reg block1_34o [0, 1, 4, 15, 16, 2000000, 2000001, 2000002, 2000003]) block1_35
def block1_L1 : AK := .loop block1_34
def block1_33 : AK := .block 0 block1_L1
def block1_32o : List ROp := [.v 15 (.mov (.c (.int .i64 0)))]
def block1_32 : AK := .seq (.reg block1_32o [0, 1, 4, 15, 2000000, 2000001, 2000002, 2000003]) block1_33
def block1_1 : AK := .seq block1_32 block1_2
def block1_0o : List ROp := [.eff 4 false 104004 (.alloc [.int .u32 0, .int .u32 0, .int .u32 0, .int .u32 0, .int .u32 0, .int .u32 0, .int .u32 0, .int .u32 0, .int .u32 0, .int .u32 0, .int .u32 0, .int .u32 0, .int .u32 0, .int .u32 0, .int .u32 0, .int .u32 0, .int .u32 0, .int .u32 0, .int .u32 0, .int .u32 0, .int .u32 0, .int .u32 0, .int .u32 0, .int .u32 0, .int .u32 0, .int .u32 0, .int .u32 0, .int .u32 0, .int .u32 0, .int .u32 0, .int .u32 0, .int .u32 0, .int .u32 0, .int .u32 0, .int .u32 0, .int .u32 0, .int .u32 0, .int .u32 0, .int .u32 0, .int .u32 0, .int .u32 0, .int .u32 0, .int .u32 0, .int .u32 0, .int .u32 0, .int .u32 0, .int .u32 0, .int .u32 0, .int .u32 0, .int .u32 0, .int .u32 0, .int .u32 0, .int .u32 0, .int .u32 0, .int .u32 0, .int .u32 0, .int .u32 0, .int .u32 0, .int .u32 0, .int .u32 0, .int .u32 0, .int .u32 0, .int .u32 0, .int .u32 0, .int .u32 0, .int .u32 0, .int .u32 0, .int .u32 0, .int .u32 0, .int .u32 0, .int .u32 0, .int .u32 0, .int .u32 0, .int .u32 0, .int .u32 0, .int .u32 0, .int .u32 0, .int .u32 0, .int .u32 0, .int .u32 0])]
def block1_0 : AK := .seq (.reg block1_0o [0, 1, 4, 2000000, 2000001, 2000002, 2000003]) block1_1
def block1 : AK := block1_0
theorem block1_vc (P : Program) (E : Env) (Q : KQ) (st : St) :
  (vcW P E block1_8 Q st = aopsW P block1_8o st (KS.reg [2000000, 2000001, 2000002, 2000003] Q)) ∧
  (vcW P E block1_7 Q st = aopsW P block1_7o st (KS.reg [0, 10, 2000000, 2000001, 2000002, 2000003] (KQ.seq P E block1_8 Q))) ∧
  (vcW P E block1_6 Q st = aopsW P block1_6o st (KS.reg [0, 9, 10, 2000000, 2000001, 2000002, 2000003] (KQ.seq P E block1_7 Q))) ∧
  (vcW P E block1_5 Q st = aopsW P block1_5o st (KS.reg [0, 8, 9, 10, 2000000, 2000001, 2000002, 2000003] (KQ.seq P E block1_6 Q))) ∧
  (vcW P E block1_4 Q st = aopsW P block1_4o st (KS.reg [0, 7, 8, 9, 10, 2000000, 2000001, 2000002, 2000003] (KQ.seq P E block1_5 Q))) ∧
  (vcW P E block1_14 Q st = aopsW P block1_14o st (KS.reg [0, 6, 7, 8, 9, 10, 65, 66, 2000000, 2000001, 2000002, 2000003] Q)) ∧
  (vcW P E block1_19 Q st = aopsW P block1_19o st (KS.reg [0, 6, 7, 8, 9, 10, 65, 66, 2000000, 2000001, 2000002, 2000003] Q)) ∧
  (vcW P E block1_24 Q st = aopsW P block1_24o st (KS.reg [0, 6, 7, 8, 9, 10, 12, 13, 14, 65, 66, 2000000, 2000001, 2000002, 2000003] Q)) ∧
  (vcW P E block1_27 Q st = aopsW P block1_27o st (KS.reg [0, 6, 7, 8, 9, 10, 12, 13, 14, 65, 66, 2000000, 2000001, 2000002, 2000003] Q)) ∧
  (vcW P E block1_30 Q st = aopsW P block1_30o st (KS.reg [0, 6, 7, 8, 9, 10, 12, 13, 14, 65, 66, 2000000, 2000001, 2000002, 2000003] Q)) ∧
  (vcW P E block1_29 Q st = cndW P E (ev st (.t 89)) block1_30 .skip Q st) ∧
  (vcW P E block1_28 Q st = aopsW P block1_28o st (KS.reg [0, 6, 7, 8, 9, 10, 12, 13, 14, 65, 66, 89, 2000000, 2000001, 2000002, 2000003] (KQ.seq P E block1_29 Q))) ∧
  (vcW P E block1_26 Q st = cndW P E (ev st (.t 87)) block1_27 block1_28 Q st) ∧
  (vcW P E block1_25 Q st = aopsW P block1_25o st (KS.reg [0, 6, 7, 8, 9, 10, 12, 13, 14, 65, 66, 76, 87, 2000000, 2000001, 2000002, 2000003] (KQ.seq P E block1_26 Q))) ∧
  (vcW P E block1_23 Q st = cndW P E (ev st (.t 77)) block1_24 block1_25 Q st) ∧
  (vcW P E block1_22 Q st = aopsW P block1_22o st (KS.reg [0, 6, 7, 8, 9, 10, 12, 13, 14, 65, 66, 76, 77, 2000000, 2000001, 2000002, 2000003] (KQ.seq P E block1_23 Q))) ∧
  (vcW P E block1_21 Q st = vcW P E block1_22 (KQ.blk 4 Q) st) ∧
  (vcW P E block1_20 Q st = aopsW P block1_20o st (KS.reg [0, 6, 7, 8, 9, 10, 12, 13, 14, 65, 66, 76, 2000000, 2000001, 2000002, 2000003] (KQ.seq P E block1_21 Q))) ∧
  (vcW P E block1_17 Q st = aopsW P block1_17o st (KS.reg [0, 6, 7, 8, 9, 10, 11, 12, 13, 14, 65, 66, 2000000, 2000001, 2000002, 2000003] (KQ.seq P E block1_18 Q))) ∧
  (vcW P E block1_16 Q st = aopsW P block1_16o st (KS.reg [0, 6, 7, 8, 9, 10, 11, 12, 65, 66, 2000000, 2000001, 2000002, 2000003] (KQ.seq P E block1_17 Q))) ∧
  (vcW P E block1_15 Q st = vcW P E block1_16 (KQ.blk 3 Q) st) ∧
  (vcW P E block1_13 Q st = vcW P E block1_15 (KQ.seq P E block1_14 Q) st) ∧
  (vcW P E block1_31 Q st = cndW P E (ev st (.t 67)) .skip (.exit 2) Q st) ∧
  (vcW P E block1_12 Q st = vcW P E block1_31 (KQ.seq P E block1_13 Q) st) ∧
  (vcW P E block1_11 Q st = aopsW P block1_11o st (KS.reg [0, 6, 7, 8, 9, 10, 65, 66, 67, 2000000, 2000001, 2000002, 2000003] (KQ.seq P E block1_12 Q))) ∧
  (vcW P E block1_10 Q st = vcW P E block1_L0 (KQ.blk 2 Q) st) ∧
  (vcW P E block1_9 Q st = aopsW P block1_9o st (KS.reg [0, 6, 7, 8, 9, 10, 65, 66, 2000000, 2000001, 2000002, 2000003] (KQ.seq P E block1_10 Q))) ∧
  (vcW P E block1_3 Q st = vcW P E block1_9 (KQ.seq P E block1_4 Q) st) ∧
  (vcW P E block1_2 Q st = aopsW P block1_2o st (KS.reg [0, 4, 6, 7, 8, 9, 10, 2000000, 2000001, 2000002, 2000003] (KQ.seq P E block1_3 Q))) ∧
  (vcW P E block1_37 Q st = aopsW P block1_37o st (KS.reg [0, 1, 4, 15, 2000000, 2000001, 2000002, 2000003] Q)) ∧
  (vcW P E block1_42 Q st = aopsW P block1_42o st (KS.reg [0, 1, 4, 15, 2000000, 2000001, 2000002, 2000003] Q)) ∧
  (vcW P E block1_43 Q st = aopsW P block1_43o st (KS.reg [0, 1, 4, 15, 2000000, 2000001, 2000002, 2000003] Q)) ∧
  (vcW P E block1_41 Q st = cndW P E (ev st (.t 19)) block1_42 block1_43 Q st) ∧
  (vcW P E block1_40 Q st = aopsW P block1_40o st (KS.reg [0, 1, 4, 5, 15, 19, 2000000, 2000001, 2000002, 2000003] (KQ.seq P E block1_41 Q))) ∧
  (vcW P E block1_39 Q st = aopsW P block1_39o st (KS.reg [0, 1, 4, 5, 15, 2000000, 2000001, 2000002, 2000003] (KQ.seq P E block1_40 Q))) ∧
  (vcW P E block1_38 Q st = vcW P E block1_39 (KQ.blk 1 Q) st) ∧
  (vcW P E block1_36 Q st = vcW P E block1_38 (KQ.seq P E block1_37 Q) st) ∧
  (vcW P E block1_44 Q st = cndW P E (ev st (.t 16)) .skip (.exit 0) Q st) ∧
  (vcW P E block1_35 Q st = vcW P E block1_44 (KQ.seq P E block1_36 Q) st) ∧
  (vcW P E block1_34 Q st = aopsW P block1_34o st (KS.reg [0, 1, 4, 15, 16, 2000000, 2000001, 2000002, 2000003] (KQ.seq P E block1_35 Q))) ∧
  (vcW P E block1_33 Q st = vcW P E block1_L1 (KQ.blk 0 Q) st) ∧
  (vcW P E block1_32 Q st = aopsW P block1_32o st (KS.reg [0, 1, 4, 15, 2000000, 2000001, 2000002, 2000003] (KQ.seq P E block1_33 Q))) ∧
  (vcW P E block1_1 Q st = vcW P E block1_32 (KQ.seq P E block1_2 Q) st) ∧
  (vcW P E block1_0 Q st = aopsW P block1_0o st (KS.reg [0, 1, 4, 2000000, 2000001, 2000002, 2000003] (KQ.seq P E block1_1 Q))) ∧
  (vcW P E block1 Q st = vcW P E block1_0 Q st) :=
  ⟨rfl, rfl, rfl, rfl, rfl, rfl, rfl, rfl, rfl, rfl, vcW_cond, rfl, vcW_cond, rfl, vcW_cond, rfl, rfl, rfl, rfl, rfl, rfl, rfl, vcW_cond, rfl, rfl, rfl, rfl, rfl, rfl, rfl, rfl, rfl, vcW_cond, rfl, rfl, rfl, rfl, vcW_cond, rfl, rfl, rfl, rfl, rfl, rfl, rfl⟩
theorem block1_jn (P : Program) (E : Env) (Q : KQ) (st : St) :
  (vcW P E block1_18 Q st = vcW P E block1_20 (KQ.seq P E (.mid block1_19) Q) st) :=
  rfl
attribute [go_sem] block1_vc block1_8o block1_7o block1_6o block1_5o block1_4o block1_14o block1_19o block1_24o block1_27o block1_30o block1_28o block1_25o block1_22o block1_20o block1_17o block1_16o block1_11o block1_9o block1_2o block1_37o block1_42o block1_43o block1_40o block1_39o block1_34o block1_32o block1_0o
noncomputable def block1B : Code := (Tryd.f49.body).getD .skip
theorem block1_eq : trCode Tryd.prog 148 104000 block1B = block1.erase 104000 := by kernel_rfl
theorem block1_body : Tryd.f49.body = some block1B := by kernel_rfl
theorem block1_n : Tryd.f49.ntmps = 148 := by kernel_rfl
theorem block1_r : Tryd.f49.results.toList.map (trRes Tryd.prog) = [] := by kernel_rfl
theorem block1_spec {h : HP} {a0 a1 g0 g1 : AV} {Post : HP → AV → List AV → Prop} (hp : ∀ (E : Env) (R : HP → AV → List AV → Prop), E.N ≤ 1000000 → PostTo Post R → vcW Tryd.prog E block1 (KQ.post [] 4 R) ⟨[(0, a0), (1, a1), (2000000, a0), (2000001, a1), (2000002, g0), (2000003, g1)], h⟩) : Eng.SpecG Tryd.prog 49 2 h [a0, a1, g0, g1] Post := specG_wk (
  specG_of (n := 2) (c := block1.erase 104000) (B := 104000) Tryd.func49 block1_body (by rw [block1_n, block1_eq]) (by rw [block1_n]; decide) (by exact (by decide : 2 ≤ 4)) (by rw [block1_n]; exact (by decide : 2 ≤ 148)) (fun E hE hB hrd => by
    have hN : E.N ≤ 1000000 := by
      rw [hE, block1_n]; decide
    rw [block1_r, ← hB]
    exact awp_slots [(0, a0), (1, a1), (2000000, a0), (2000001, a1), (2000002, g0), (2000003, g1)] ⟨rfl, rfl, rfl, rfl, rfl, rfl, trivial⟩ (vcW_sound hN _ (hp E _ hN fin_self))))
/- (*cartulary/sha.hash).write -/
def hwrite_4o : List ROp := [.v 47 (.mov (.t 0)),
   .v 48 (.mov (.t 1)),
   .v 49 (.nilc (.t 47)),
   .v 50 (.fldA false 1 1 (.t 49)),
   .effN false 105000 (.st 1 (.t 50) (.t 48))]
def hwrite_4 : AK := .reg hwrite_4o [2000000, 2000001, 2000002, 2000003]
def hwrite_9o : List ROp := [.v 45 (.mov (.t 1)),
   .v 46 (.slcS (.t 45) (some (.c (.int .i64 64))) none),
   .v 1 (.mov (.t 46))]
def hwrite_9 : AK := .reg hwrite_9o [0, 1, 3, 2000000, 2000001, 2000002, 2000003]
def hwrite_8o : List ROp := [.val 37 true 105037 (.mov (.t 3)),
   .val 38 true 105038 (.mov (.t 0)),
   .val 39 true 105039 (.nilc (.t 38)),
   .val 40 true 105040 (.fldA false 0 1 (.t 39)),
   .val 41 true 105041 (.ld false 1 (.t 40)),
   .val 42 true 105042 (.mov (.t 1)),
   .val 43 true 105043 (.slcS (.t 42) none (some (.c (.int .i64 64)))),
   .dyn (some 44) false 105044 (.t 37) [(.t 41), (.t 43)]]
def hwrite_8 : AK := .seq (.reg hwrite_8o [0, 1, 3, 2000000, 2000001, 2000002, 2000003]) hwrite_9
def hwrite_7 : AK := .block 1 hwrite_8
def hwrite_11 : AK := .cond (.t 36) .skip (.exit 0)
def hwrite_10o : List ROp := [.v 34 (.mov (.t 1)),
   .v 35 (.len true (.t 34)),
   .v 36 (.bin .geq (.t 35) (.c (.int .i64 64)))]
def hwrite_10 : AK := .seq (.reg hwrite_10o [0, 1, 3, 36, 2000000, 2000001, 2000002, 2000003]) hwrite_11
def hwrite_6 : AK := .seq hwrite_10 hwrite_7
def hwrite_L0 : AK := .loop hwrite_6
def hwrite_5 : AK := .block 0 hwrite_L0
def hwrite_3 : AK := .seq hwrite_5 hwrite_4
def hwrite_2o : List ROp := [.v 28 (.mov (.t 0)),
   .v 29 (.nilc (.t 28)),
   .v 30 (.fldA false 1 1 (.t 29)),
   .v 31 (.ld false 1 (.t 30)),
   .v 32 (.mov (.t 1)),
   .v 33 (.bin .add (.t 31) (.t 32)),
   .v 1 (.mov (.t 33))]
def hwrite_2 : AK := .seq (.reg hwrite_2o [0, 1, 3, 2000000, 2000001, 2000002, 2000003]) hwrite_3
def hwrite_1o : List ROp := [.v 18 (.mov (.t 0)),
   .v 19 (.nilc (.t 18)),
   .v 20 (.fldA false 2 1 (.t 19)),
   .v 21 (.ld false 1 (.t 20)),
   .v 22 (.mov (.t 1)),
   .v 23 (.len true (.t 22)),
   .v 24 (.cvi .u64 (.t 23)),
   .v 25 (.bin .add (.t 21) (.t 24)),
   .v 26 (.nilc (.t 18)),
   .v 27 (.fldA false 2 1 (.t 26)),
   .effN false 105000 (.st 1 (.t 27) (.t 25))]
def hwrite_1 : AK := .seq (.reg hwrite_1o [0, 1, 3, 2000000, 2000001, 2000002, 2000003]) hwrite_2
def hwrite_14o : List ROp := [.v 13 (.mov (.t 0)),
   .v 14 (.mov (.t 2)),
   .eff 15 false 105015 (.app 1 4 (.c (.nilsl)) (.t 14)),
   .v 16 (.nilc (.t 13)),
   .v 17 (.fldA false 0 1 (.t 16)),
   .effN false 105000 (.st 1 (.t 17) (.t 15))]
def hwrite_14 : AK := .reg hwrite_14o [0, 1, 3, 2000000, 2000001, 2000002, 2000003]
def hwrite_13 : AK := .cond (.t 12) hwrite_14 .skip
def hwrite_12o : List ROp := [.v 8 (.mov (.t 0)),
   .v 9 (.nilc (.t 8)),
   .v 10 (.fldA false 0 1 (.t 9)),
   .v 11 (.ld false 1 (.t 10)),
   .v 12 (.snil false (.t 11))]
def hwrite_12 : AK := .seq (.reg hwrite_12o [0, 1, 2, 3, 12, 2000000, 2000001, 2000002, 2000003]) hwrite_13
def hwrite_0 : AK := .seq hwrite_12 (.mid hwrite_1)
def hwrite : AK := hwrite_0
theorem hwrite_vc (P : Program) (E : Env) (Q : KQ) (st : St) :
  (vcW P E hwrite_4 Q st = aopsW P hwrite_4o st (KS.reg [2000000, 2000001, 2000002, 2000003] Q)) ∧
  (vcW P E hwrite_9 Q st = aopsW P hwrite_9o st (KS.reg [0, 1, 3, 2000000, 2000001, 2000002, 2000003] Q)) ∧
  (vcW P E hwrite_8 Q st = aopsW P hwrite_8o st (KS.reg [0, 1, 3, 2000000, 2000001, 2000002, 2000003] (KQ.seq P E hwrite_9 Q))) ∧
  (vcW P E hwrite_7 Q st = vcW P E hwrite_8 (KQ.blk 1 Q) st) ∧
  (vcW P E hwrite_11 Q st = cndW P E (ev st (.t 36)) .skip (.exit 0) Q st) ∧
  (vcW P E hwrite_10 Q st = aopsW P hwrite_10o st (KS.reg [0, 1, 3, 36, 2000000, 2000001, 2000002, 2000003] (KQ.seq P E hwrite_11 Q))) ∧
  (vcW P E hwrite_6 Q st = vcW P E hwrite_10 (KQ.seq P E hwrite_7 Q) st) ∧
  (vcW P E hwrite_5 Q st = vcW P E hwrite_L0 (KQ.blk 0 Q) st) ∧
  (vcW P E hwrite_3 Q st = vcW P E hwrite_5 (KQ.seq P E hwrite_4 Q) st) ∧
  (vcW P E hwrite_2 Q st = aopsW P hwrite_2o st (KS.reg [0, 1, 3, 2000000, 2000001, 2000002, 2000003] (KQ.seq P E hwrite_3 Q))) ∧
  (vcW P E hwrite_1 Q st = aopsW P hwrite_1o st (KS.reg [0, 1, 3, 2000000, 2000001, 2000002, 2000003] (KQ.seq P E hwrite_2 Q))) ∧
  (vcW P E hwrite_14 Q st = aopsW P hwrite_14o st (KS.reg [0, 1, 3, 2000000, 2000001, 2000002, 2000003] Q)) ∧
  (vcW P E hwrite_13 Q st = cndW P E (ev st (.t 12)) hwrite_14 .skip Q st) ∧
  (vcW P E hwrite_12 Q st = aopsW P hwrite_12o st (KS.reg [0, 1, 2, 3, 12, 2000000, 2000001, 2000002, 2000003] (KQ.seq P E hwrite_13 Q))) ∧
  (vcW P E hwrite Q st = vcW P E hwrite_0 Q st) :=
  ⟨rfl, rfl, rfl, rfl, vcW_cond, rfl, rfl, rfl, rfl, rfl, rfl, rfl, vcW_cond, rfl, rfl⟩
theorem hwrite_jn (P : Program) (E : Env) (Q : KQ) (st : St) :
  (vcW P E hwrite_0 Q st = vcW P E hwrite_12 (KQ.seq P E (.mid hwrite_1) Q) st) :=
  rfl
attribute [go_sem] hwrite_vc hwrite_4o hwrite_9o hwrite_8o hwrite_10o hwrite_2o hwrite_1o hwrite_14o hwrite_12o
noncomputable def hwriteB : Code := (Tryd.f47.body).getD .skip
theorem hwrite_eq : trCode Tryd.prog 51 105000 hwriteB = hwrite.erase 105000 := by kernel_rfl
theorem hwrite_body : Tryd.f47.body = some hwriteB := by kernel_rfl
theorem hwrite_n : Tryd.f47.ntmps = 51 := by kernel_rfl
theorem hwrite_r : Tryd.f47.results.toList.map (trRes Tryd.prog) = [] := by kernel_rfl
theorem hwrite_spec {h : HP} {a0 a1 a2 a3 : AV} {Post : HP → AV → List AV → Prop} (hp : ∀ (E : Env) (R : HP → AV → List AV → Prop), E.N ≤ 1000000 → PostTo Post R → vcW Tryd.prog E hwrite (KQ.post [] 4 R) ⟨[(0, a0), (1, a1), (2, a2), (3, a3), (2000000, a0), (2000001, a1), (2000002, a2), (2000003, a3)], h⟩) : Eng.Spec Tryd.prog 47 h [a0, a1, a2, a3] Post := spec_wk (
  spec_of (c := hwrite.erase 105000) (B := 105000) Tryd.func47 hwrite_body (by rw [hwrite_n, hwrite_eq]) (by rw [hwrite_n]; decide) (by rw [hwrite_n]; exact (by decide : 4 ≤ 51)) (fun E hE hB hrd => by
    have hN : E.N ≤ 1000000 := by
      rw [hE, hwrite_n]; decide
    rw [hwrite_r, ← hB]
    exact awp_slots [(0, a0), (1, a1), (2, a2), (3, a3), (2000000, a0), (2000001, a1), (2000002, a2), (2000003, a3)] ⟨rfl, rfl, rfl, rfl, rfl, rfl, rfl, rfl, trivial⟩ (vcW_sound hN _ (hp E _ hN fin_self))))
/- (*cartulary/sha.hash).sum -/
def hsum_10o : List ROp := [.v 90 (.mov (.t 11)),
   .v 91 (.bts (.t 90)),
   .v 6 (.mov (.t 91))]
def hsum_10 : AK := .seq (.reg hsum_10o [6, 2000000, 2000001, 2000002]) .ret
def hsum_16o : List ROp := [.v 89 (.bin .add (.t 71) (.c (.int .i64 1))),
   .v 71 (.mov (.t 89))]
def hsum_16 : AK := .reg hsum_16o [11, 69, 70, 71, 2000000, 2000001, 2000002]
def hsum_19o : List ROp := [.v 75 (.mov (.t 11)),
   .v 76 (.mov (.t 13)),
   .v 77 (.bin .shr (.t 76) (.c (.int .u64 24))),
   .v 78 (.cvi .u8 (.t 77)),
   .v 79 (.mov (.t 13)),
   .v 80 (.bin .shr (.t 79) (.c (.int .u64 16))),
   .v 81 (.cvi .u8 (.t 80)),
   .v 82 (.mov (.t 13)),
   .v 83 (.bin .shr (.t 82) (.c (.int .u64 8))),
   .v 84 (.cvi .u8 (.t 83)),
   .v 85 (.mov (.t 13)),
   .v 86 (.cvi .u8 (.t 85)),
   .eff 87 false 106087 (.bsl 1 [(.t 78), (.t 81), (.t 84), (.t 86)]),
   .eff 88 false 106088 (.app 1 1 (.t 75) (.t 87)),
   .v 11 (.mov (.t 88))]
def hsum_19 : AK := .reg hsum_19o [11, 69, 70, 71, 2000000, 2000001, 2000002]
def hsum_18o : List ROp := [.v 73 (.idxA 1 (.t 69) (.t 71)),
   .v 74 (.ld false 1 (.t 73)),
   .v 13 (.mov (.t 74))]
def hsum_18 : AK := .seq (.reg hsum_18o [11, 13, 69, 70, 71, 2000000, 2000001, 2000002]) hsum_19
def hsum_17 : AK := .block 5 hsum_18
def hsum_15 : AK := .seq hsum_17 hsum_16
def hsum_20 : AK := .cond (.t 72) .skip (.exit 4)
def hsum_14 : AK := .seq hsum_20 hsum_15
def hsum_13o : List ROp := [.v 72 (.bin .lss (.t 71) (.t 70))]
def hsum_13 : AK := .seq (.reg hsum_13o [11, 69, 70, 71, 72, 2000000, 2000001, 2000002]) hsum_14
def hsum_L0 : AK := .loop hsum_13
def hsum_12 : AK := .block 4 hsum_L0
def hsum_11o : List ROp := [.v 68 (.fldA false 0 1 (.t 7)),
   .v 69 (.ld false 1 (.t 68)),
   .v 70 (.len false (.t 69)),
   .v 71 (.mov (.c (.int .i64 0)))]
def hsum_11 : AK := .seq (.reg hsum_11o [11, 69, 70, 71, 2000000, 2000001, 2000002]) hsum_12
def hsum_9 : AK := .seq hsum_11 hsum_10
def hsum_8o : List ROp := [.v 11 (.mov (.c (.nilsl)))]
def hsum_8 : AK := .seq (.reg hsum_8o [7, 11, 2000000, 2000001, 2000002]) hsum_9
def hsum_7o : List ROp := [.v 61 (.mov (.t 8)),
   .v 62 (.mov (.t 9)),
   .v 63 (.bts (.t 62)),
   .v 64 (.bin .add (.t 61) (.t 63)),
   .v 65 (.mov (.t 1)),
   .v 66 (.mov (.t 2)),
   .cal (some 67) false 106067 47 [(.t 7), (.t 64), (.t 65), (.t 66)]]
def hsum_7 : AK := .seq (.reg hsum_7o [7, 2000000, 2000001, 2000002]) hsum_8
def hsum_25o : List ROp := [.v 48 (.mov (.t 10)),
   .v 49 (.bin .sub (.t 48) (.c (.int .i64 8))),
   .v 10 (.mov (.t 49))]
def hsum_25 : AK := .reg hsum_25o [0, 1, 2, 7, 8, 9, 10, 2000000, 2000001, 2000002]
def hsum_27o : List ROp := [.v 50 (.mov (.t 9)),
   .v 51 (.mov (.t 0)),
   .v 52 (.nilc (.t 51)),
   .v 53 (.fldA false 2 1 (.t 52)),
   .v 54 (.ld false 1 (.t 53)),
   .v 55 (.bin .mul (.t 54) (.c (.int .u64 8))),
   .v 56 (.mov (.t 10)),
   .v 57 (.bin .shr (.t 55) (.t 56)),
   .v 58 (.cvi .u8 (.t 57)),
   .eff 59 false 106059 (.bsl 1 [(.t 58)]),
   .eff 60 false 106060 (.app 1 1 (.t 50) (.t 59)),
   .v 9 (.mov (.t 60))]
def hsum_27 : AK := .reg hsum_27o [0, 1, 2, 7, 8, 9, 10, 2000000, 2000001, 2000002]
def hsum_26 : AK := .block 3 hsum_27
def hsum_24 : AK := .seq hsum_26 hsum_25
def hsum_29 : AK := .cond (.t 47) .skip (.exit 2)
def hsum_28o : List ROp := [.v 46 (.mov (.t 10)),
   .v 47 (.bin .geq (.t 46) (.c (.int .i64 0)))]
def hsum_28 : AK := .seq (.reg hsum_28o [0, 1, 2, 7, 8, 9, 10, 47, 2000000, 2000001, 2000002]) hsum_29
def hsum_23 : AK := .seq hsum_28 hsum_24
def hsum_L1 : AK := .loop hsum_23
def hsum_22 : AK := .block 2 hsum_L1
def hsum_21o : List ROp := [.v 10 (.mov (.c (.int .i64 56)))]
def hsum_21 : AK := .seq (.reg hsum_21o [0, 1, 2, 7, 8, 9, 10, 2000000, 2000001, 2000002]) hsum_22
def hsum_6 : AK := .seq hsum_21 hsum_7
def hsum_5o : List ROp := [.v 9 (.mov (.c (.nilsl)))]
def hsum_5 : AK := .seq (.reg hsum_5o [0, 1, 2, 7, 8, 9, 2000000, 2000001, 2000002]) hsum_6
def hsum_33o : List ROp := [.v 44 (.mov (.t 8)),
   .v 45 (.bin .add (.t 44) (.c (.str [0]))),
   .v 8 (.mov (.t 45))]
def hsum_33 : AK := .reg hsum_33o [0, 1, 2, 7, 8, 2000000, 2000001, 2000002]
def hsum_32 : AK := .block 1 hsum_33
def hsum_35 : AK := .cond (.t 43) .skip (.exit 0)
def hsum_34o : List ROp := [.v 34 (.mov (.t 0)),
   .v 35 (.nilc (.t 34)),
   .v 36 (.fldA false 1 1 (.t 35)),
   .v 37 (.ld false 1 (.t 36)),
   .v 38 (.len true (.t 37)),
   .v 39 (.mov (.t 8)),
   .v 40 (.len true (.t 39)),
   .v 41 (.bin .add (.t 38) (.t 40)),
   .v 42 (.bin .rem (.t 41) (.c (.int .i64 64))),
   .v 43 (.bin .neq (.t 42) (.c (.int .i64 56)))]
def hsum_34 : AK := .seq (.reg hsum_34o [0, 1, 2, 7, 8, 43, 2000000, 2000001, 2000002]) hsum_35
def hsum_31 : AK := .seq hsum_34 hsum_32
def hsum_L2 : AK := .loop hsum_31
def hsum_30 : AK := .block 0 hsum_L2
def hsum_4 : AK := .seq hsum_30 hsum_5
def hsum_3o : List ROp := [.v 8 (.mov (.c (.str [128])))]
def hsum_3 : AK := .seq (.reg hsum_3o [0, 1, 2, 7, 8, 2000000, 2000001, 2000002]) hsum_4
def hsum_38o : List ROp := [.v 33 (.fldA false 0 1 (.t 7)),
   .effN false 106000 (.st 1 (.t 33) (.c (.nilsl)))]
def hsum_38 : AK := .reg hsum_38o [0, 1, 2, 7, 2000000, 2000001, 2000002]
def hsum_37 : AK := .cond (.t 32) hsum_38 .skip
def hsum_36o : List ROp := [.v 28 (.mov (.t 0)),
   .v 29 (.nilc (.t 28)),
   .v 30 (.fldA false 0 1 (.t 29)),
   .v 31 (.ld false 1 (.t 30)),
   .v 32 (.snil false (.t 31))]
def hsum_36 : AK := .seq (.reg hsum_36o [0, 1, 2, 7, 32, 2000000, 2000001, 2000002]) hsum_37
def hsum_2 : AK := .seq hsum_36 (.mid hsum_3)
def hsum_39po : List ROp := [.val 14 true 106014 (.mov (.t 0)),
   .val 15 true 106015 (.nilc (.t 14)),
   .val 16 true 106016 (.fldA false 0 1 (.t 15)),
   .val 17 true 106017 (.ld false 1 (.t 16)),
   .val 19 true 106019 (.mov (.t 0)),
   .val 20 true 106020 (.nilc (.t 19)),
   .val 21 true 106021 (.fldA false 1 1 (.t 20)),
   .val 22 true 106022 (.ld false 1 (.t 21)),
   .val 23 true 106023 (.mov (.t 0)),
   .val 24 true 106024 (.nilc (.t 23)),
   .val 25 true 106025 (.fldA false 2 1 (.t 24)),
   .val 26 true 106026 (.ld false 1 (.t 25))]
def hsum_39xo : List ROp := [.eff 18 true 106018 (.app 1 4 (.c (.nilsl)) (.t 17)),
   .v 27 (.bld [.nilsl, .str [], .int .u64 0] [(0, 1, (.t 18)), (1, 1, (.t 22)), (2, 1, (.t 26))]),
   .eff 7 true 106007 (.alloc [.nilsl, .str [], .int .u64 0]),
   .effN false 106000 (.st 3 (.t 7) (.t 27))]
def hsum_39yo : List ROp := [.eff 7 true 106007 (.alloc [.nilsl, .str [], .int .u64 0]),
   .eff 18 true 106018 (.app 1 4 (.c (.nilsl)) (.t 17)),
   .v 27 (.bld [.nilsl, .str [], .int .u64 0] [(0, 1, (.t 18)), (1, 1, (.t 22)), (2, 1, (.t 26))]),
   .effN false 106000 (.st 3 (.t 7) (.t 27))]
def hsum_39 : AK := .alt hsum_39po hsum_39xo hsum_39yo [0, 1, 2, 7, 2000000, 2000001, 2000002]
def hsum_1 : AK := .seq hsum_39 (.mid hsum_2)
def hsum_0o : List ROp := [.v 6 (.mov (.c (.str [])))]
def hsum_0 : AK := .seq (.reg hsum_0o [0, 1, 2, 2000000, 2000001, 2000002]) hsum_1
def hsum : AK := hsum_0
theorem hsum_vc (P : Program) (E : Env) (Q : KQ) (st : St) :
  (vcW P E hsum_10 Q st = aopsW P hsum_10o st (KS.reg [6, 2000000, 2000001, 2000002] (KQ.seq P E .ret Q))) ∧
  (vcW P E hsum_16 Q st = aopsW P hsum_16o st (KS.reg [11, 69, 70, 71, 2000000, 2000001, 2000002] Q)) ∧
  (vcW P E hsum_19 Q st = aopsW P hsum_19o st (KS.reg [11, 69, 70, 71, 2000000, 2000001, 2000002] Q)) ∧
  (vcW P E hsum_18 Q st = aopsW P hsum_18o st (KS.reg [11, 13, 69, 70, 71, 2000000, 2000001, 2000002] (KQ.seq P E hsum_19 Q))) ∧
  (vcW P E hsum_17 Q st = vcW P E hsum_18 (KQ.blk 5 Q) st) ∧
  (vcW P E hsum_15 Q st = vcW P E hsum_17 (KQ.seq P E hsum_16 Q) st) ∧
  (vcW P E hsum_20 Q st = cndW P E (ev st (.t 72)) .skip (.exit 4) Q st) ∧
  (vcW P E hsum_14 Q st = vcW P E hsum_20 (KQ.seq P E hsum_15 Q) st) ∧
  (vcW P E hsum_13 Q st = aopsW P hsum_13o st (KS.reg [11, 69, 70, 71, 72, 2000000, 2000001, 2000002] (KQ.seq P E hsum_14 Q))) ∧
  (vcW P E hsum_12 Q st = vcW P E hsum_L0 (KQ.blk 4 Q) st) ∧
  (vcW P E hsum_11 Q st = aopsW P hsum_11o st (KS.reg [11, 69, 70, 71, 2000000, 2000001, 2000002] (KQ.seq P E hsum_12 Q))) ∧
  (vcW P E hsum_9 Q st = vcW P E hsum_11 (KQ.seq P E hsum_10 Q) st) ∧
  (vcW P E hsum_8 Q st = aopsW P hsum_8o st (KS.reg [7, 11, 2000000, 2000001, 2000002] (KQ.seq P E hsum_9 Q))) ∧
  (vcW P E hsum_7 Q st = aopsW P hsum_7o st (KS.reg [7, 2000000, 2000001, 2000002] (KQ.seq P E hsum_8 Q))) ∧
  (vcW P E hsum_25 Q st = aopsW P hsum_25o st (KS.reg [0, 1, 2, 7, 8, 9, 10, 2000000, 2000001, 2000002] Q)) ∧
  (vcW P E hsum_27 Q st = aopsW P hsum_27o st (KS.reg [0, 1, 2, 7, 8, 9, 10, 2000000, 2000001, 2000002] Q)) ∧
  (vcW P E hsum_26 Q st = vcW P E hsum_27 (KQ.blk 3 Q) st) ∧
  (vcW P E hsum_24 Q st = vcW P E hsum_26 (KQ.seq P E hsum_25 Q) st) ∧
  (vcW P E hsum_29 Q st = cndW P E (ev st (.t 47)) .skip (.exit 2) Q st) ∧
  (vcW P E hsum_28 Q st = aopsW P hsum_28o st (KS.reg [0, 1, 2, 7, 8, 9, 10, 47, 2000000, 2000001, 2000002] (KQ.seq P E hsum_29 Q))) ∧
  (vcW P E hsum_23 Q st = vcW P E hsum_28 (KQ.seq P E hsum_24 Q) st) ∧
  (vcW P E hsum_22 Q st = vcW P E hsum_L1 (KQ.blk 2 Q) st) ∧
  (vcW P E hsum_21 Q st = aopsW P hsum_21o st (KS.reg [0, 1, 2, 7, 8, 9, 10, 2000000, 2000001, 2000002] (KQ.seq P E hsum_22 Q))) ∧
  (vcW P E hsum_6 Q st = vcW P E hsum_21 (KQ.seq P E hsum_7 Q) st) ∧
  (vcW P E hsum_5 Q st = aopsW P hsum_5o st (KS.reg [0, 1, 2, 7, 8, 9, 2000000, 2000001, 2000002] (KQ.seq P E hsum_6 Q))) ∧
  (vcW P E hsum_33 Q st = aopsW P hsum_33o st (KS.reg [0, 1, 2, 7, 8, 2000000, 2000001, 2000002] Q)) ∧
  (vcW P E hsum_32 Q st = vcW P E hsum_33 (KQ.blk 1 Q) st) ∧
  (vcW P E hsum_35 Q st = cndW P E (ev st (.t 43)) .skip (.exit 0) Q st) ∧
  (vcW P E hsum_34 Q st = aopsW P hsum_34o st (KS.reg [0, 1, 2, 7, 8, 43, 2000000, 2000001, 2000002] (KQ.seq P E hsum_35 Q))) ∧
  (vcW P E hsum_31 Q st = vcW P E hsum_34 (KQ.seq P E hsum_32 Q) st) ∧
  (vcW P E hsum_30 Q st = vcW P E hsum_L2 (KQ.blk 0 Q) st) ∧
  (vcW P E hsum_4 Q st = vcW P E hsum_30 (KQ.seq P E hsum_5 Q) st) ∧
  (vcW P E hsum_3 Q st = aopsW P hsum_3o st (KS.reg [0, 1, 2, 7, 8, 2000000, 2000001, 2000002] (KQ.seq P E hsum_4 Q))) ∧
  (vcW P E hsum_38 Q st = aopsW P hsum_38o st (KS.reg [0, 1, 2, 7, 2000000, 2000001, 2000002] Q)) ∧
  (vcW P E hsum_37 Q st = cndW P E (ev st (.t 32)) hsum_38 .skip Q st) ∧
  (vcW P E hsum_36 Q st = aopsW P hsum_36o st (KS.reg [0, 1, 2, 7, 32, 2000000, 2000001, 2000002] (KQ.seq P E hsum_37 Q))) ∧
  (vcW P E hsum_39 Q st = aopsW P hsum_39po st (KS.alt P hsum_39xo hsum_39yo [0, 1, 2, 7, 2000000, 2000001, 2000002] Q)) ∧
  (vcW P E hsum_0 Q st = aopsW P hsum_0o st (KS.reg [0, 1, 2, 2000000, 2000001, 2000002] (KQ.seq P E hsum_1 Q))) ∧
  (vcW P E hsum Q st = vcW P E hsum_0 Q st) :=
  ⟨rfl, rfl, rfl, rfl, rfl, rfl, vcW_cond, rfl, rfl, rfl, rfl, rfl, rfl, rfl, rfl, rfl, rfl, rfl, vcW_cond, rfl, rfl, rfl, rfl, rfl, rfl, rfl, rfl, vcW_cond, rfl, rfl, rfl, rfl, rfl, rfl, vcW_cond, rfl, rfl, rfl, rfl⟩
theorem hsum_jn (P : Program) (E : Env) (Q : KQ) (st : St) :
  (vcW P E hsum_2 Q st = vcW P E hsum_36 (KQ.seq P E (.mid hsum_3) Q) st) ∧
  (vcW P E hsum_1 Q st = vcW P E hsum_39 (KQ.seq P E (.mid hsum_2) Q) st) :=
  ⟨rfl, rfl⟩
attribute [go_sem] hsum_vc hsum_10o hsum_16o hsum_19o hsum_18o hsum_13o hsum_11o hsum_8o hsum_7o hsum_25o hsum_27o hsum_28o hsum_21o hsum_5o hsum_33o hsum_34o hsum_3o hsum_38o hsum_36o hsum_39po hsum_39xo hsum_39yo hsum_0o
noncomputable def hsumB : Code := (Tryd.f50.body).getD .skip
theorem hsum_eq : trCode Tryd.prog 92 106000 hsumB = hsum.erase 106000 := by kernel_rfl
theorem hsum_body : Tryd.f50.body = some hsumB := by kernel_rfl
theorem hsum_n : Tryd.f50.ntmps = 92 := by kernel_rfl
theorem hsum_r : Tryd.f50.results.toList.map (trRes Tryd.prog) = [.tmp 6] := by kernel_rfl
theorem hsum_spec {h : HP} {a0 a1 a2 : AV} {Post : HP → AV → List AV → Prop} (hp : ∀ (E : Env) (R : HP → AV → List AV → Prop), E.N ≤ 1000000 → PostTo Post R → vcW Tryd.prog E hsum (KQ.post [.tmp 6] 3 R) ⟨[(0, a0), (1, a1), (2, a2), (2000000, a0), (2000001, a1), (2000002, a2)], h⟩) : Eng.Spec Tryd.prog 50 h [a0, a1, a2] Post := spec_wk (
  spec_of (c := hsum.erase 106000) (B := 106000) Tryd.func50 hsum_body (by rw [hsum_n, hsum_eq]) (by rw [hsum_n]; decide) (by rw [hsum_n]; exact (by decide : 3 ≤ 92)) (fun E hE hB hrd => by
    have hN : E.N ≤ 1000000 := by
      rw [hE, hsum_n]; decide
    rw [hsum_r, ← hB]
    exact awp_slots [(0, a0), (1, a1), (2, a2), (2000000, a0), (2000001, a1), (2000002, a2)] ⟨rfl, rfl, rfl, rfl, rfl, rfl, trivial⟩ (vcW_sound hN _ (hp E _ hN fin_self))))
/- (*cartulary/sha.Hash1).Write -/
def h1write_0o : List ROp := [.v 4 (.mov (.t 0)),
   .v 5 (.nilc (.t 4)),
   .v 6 (.fldA true 0 3 (.t 5)),
   .val 7 true 107007 (.mov (.t 1)),
   .cal (some 8) true 107008 48 [],
   .cal (some 9) false 107009 47 [(.t 6), (.t 7), (.t 8), (.c (.lit (.func (.func 49) #[] #[])))]]
def h1write_0 : AK := .reg h1write_0o [2000000, 2000001]
def h1write : AK := h1write_0
theorem h1write_vc (P : Program) (E : Env) (Q : KQ) (st : St) :
  (vcW P E h1write_0 Q st = aopsW P h1write_0o st (KS.reg [2000000, 2000001] Q)) ∧
  (vcW P E h1write Q st = vcW P E h1write_0 Q st) :=
  ⟨rfl, rfl⟩
theorem h1write_jn (P : Program) (E : Env) (Q : KQ) (st : St) :
  (True) :=
  trivial
attribute [go_sem] h1write_vc h1write_0o
noncomputable def h1writeB : Code := (Tryd.f34.body).getD .skip
theorem h1write_eq : trCode Tryd.prog 10 107000 h1writeB = h1write.erase 107000 := by kernel_rfl
theorem h1write_body : Tryd.f34.body = some h1writeB := by kernel_rfl
theorem h1write_n : Tryd.f34.ntmps = 10 := by kernel_rfl
theorem h1write_r : Tryd.f34.results.toList.map (trRes Tryd.prog) = [] := by kernel_rfl
theorem h1write_spec {h : HP} {a0 a1 : AV} {Post : HP → AV → List AV → Prop} (hp : ∀ (E : Env) (R : HP → AV → List AV → Prop), E.N ≤ 1000000 → PostTo Post R → vcW Tryd.prog E h1write (KQ.post [] 2 R) ⟨[(0, a0), (1, a1), (2000000, a0), (2000001, a1)], h⟩) : Eng.Spec Tryd.prog 34 h [a0, a1] Post := spec_wk (
  spec_of (c := h1write.erase 107000) (B := 107000) Tryd.func34 h1write_body (by rw [h1write_n, h1write_eq]) (by rw [h1write_n]; decide) (by rw [h1write_n]; exact (by decide : 2 ≤ 10)) (fun E hE hB hrd => by
    have hN : E.N ≤ 1000000 := by
      rw [hE, h1write_n]; decide
    rw [h1write_r, ← hB]
    exact awp_slots [(0, a0), (1, a1), (2000000, a0), (2000001, a1)] ⟨rfl, rfl, rfl, rfl, trivial⟩ (vcW_sound hN _ (hp E _ hN fin_self))))
/- (*cartulary/sha.Hash1).Sum -/
def h1sum_1o : List ROp := [.v 3 (.mov (.t 0)),
   .v 4 (.nilc (.t 3)),
   .v 5 (.fldA true 0 3 (.t 4)),
   .cal (some 6) true 108006 48 [],
   .cal (some 7) false 108007 50 [(.t 5), (.t 6), (.c (.lit (.func (.func 49) #[] #[])))],
   .v 2 (.mov (.t 7))]
def h1sum_1 : AK := .seq (.reg h1sum_1o [2, 2000000]) .ret
def h1sum_0o : List ROp := [.v 2 (.mov (.c (.str [])))]
def h1sum_0 : AK := .seq (.reg h1sum_0o [0, 2000000]) h1sum_1
def h1sum : AK := h1sum_0
theorem h1sum_vc (P : Program) (E : Env) (Q : KQ) (st : St) :
  (vcW P E h1sum_1 Q st = aopsW P h1sum_1o st (KS.reg [2, 2000000] (KQ.seq P E .ret Q))) ∧
  (vcW P E h1sum_0 Q st = aopsW P h1sum_0o st (KS.reg [0, 2000000] (KQ.seq P E h1sum_1 Q))) ∧
  (vcW P E h1sum Q st = vcW P E h1sum_0 Q st) :=
  ⟨rfl, rfl, rfl⟩
theorem h1sum_jn (P : Program) (E : Env) (Q : KQ) (st : St) :
  (True) :=
  trivial
attribute [go_sem] h1sum_vc h1sum_1o h1sum_0o
noncomputable def h1sumB : Code := (Tryd.f35.body).getD .skip
theorem h1sum_eq : trCode Tryd.prog 8 108000 h1sumB = h1sum.erase 108000 := by kernel_rfl
theorem h1sum_body : Tryd.f35.body = some h1sumB := by kernel_rfl
theorem h1sum_n : Tryd.f35.ntmps = 8 := by kernel_rfl
theorem h1sum_r : Tryd.f35.results.toList.map (trRes Tryd.prog) = [.tmp 2] := by kernel_rfl
theorem h1sum_spec {h : HP} {a0 : AV} {Post : HP → AV → List AV → Prop} (hp : ∀ (E : Env) (R : HP → AV → List AV → Prop), E.N ≤ 1000000 → PostTo Post R → vcW Tryd.prog E h1sum (KQ.post [.tmp 2] 1 R) ⟨[(0, a0), (2000000, a0)], h⟩) : Eng.Spec Tryd.prog 35 h [a0] Post := spec_wk (
  spec_of (c := h1sum.erase 108000) (B := 108000) Tryd.func35 h1sum_body (by rw [h1sum_n, h1sum_eq]) (by rw [h1sum_n]; decide) (by rw [h1sum_n]; exact (by decide : 1 ≤ 8)) (fun E hE hB hrd => by
    have hN : E.N ≤ 1000000 := by
      rw [hE, h1sum_n]; decide
    rw [h1sum_r, ← hB]
    exact awp_slots [(0, a0), (2000000, a0)] ⟨rfl, rfl, trivial⟩ (vcW_sound hN _ (hp E _ hN fin_self))))
/- cartulary/sha.Sum1 -/
def sum1_3o : List ROp := [.cal (some 6) false 109006 35 [(.t 3)],
   .v 2 (.mov (.t 6))]
def sum1_3 : AK := .seq (.reg sum1_3o [2]) .ret
def sum1_2o : List ROp := [.v 4 (.mov (.t 0)),
   .cal (some 5) false 109005 34 [(.t 3), (.t 4)]]
def sum1_2 : AK := .seq (.reg sum1_2o [3]) sum1_3
def sum1_1o : List ROp := [.eff 3 false 109003 (.alloc [.nilsl, .str [], .int .u64 0])]
def sum1_1 : AK := .seq (.reg sum1_1o [0, 3]) sum1_2
def sum1_0o : List ROp := [.v 2 (.mov (.c (.str [])))]
def sum1_0 : AK := .seq (.reg sum1_0o [0]) sum1_1
def sum1 : AK := sum1_0
theorem sum1_vc (P : Program) (E : Env) (Q : KQ) (st : St) :
  (vcW P E sum1_3 Q st = aopsW P sum1_3o st (KS.reg [2] (KQ.seq P E .ret Q))) ∧
  (vcW P E sum1_2 Q st = aopsW P sum1_2o st (KS.reg [3] (KQ.seq P E sum1_3 Q))) ∧
  (vcW P E sum1_1 Q st = aopsW P sum1_1o st (KS.reg [0, 3] (KQ.seq P E sum1_2 Q))) ∧
  (vcW P E sum1_0 Q st = aopsW P sum1_0o st (KS.reg [0] (KQ.seq P E sum1_1 Q))) ∧
  (vcW P E sum1 Q st = vcW P E sum1_0 Q st) :=
  ⟨rfl, rfl, rfl, rfl, rfl⟩
theorem sum1_jn (P : Program) (E : Env) (Q : KQ) (st : St) :
  (True) :=
  trivial
attribute [go_sem] sum1_vc sum1_3o sum1_2o sum1_1o sum1_0o
noncomputable def sum1B : Code := (Tryd.f26.body).getD .skip
theorem sum1_eq : trCode Tryd.prog 7 109000 sum1B = sum1.erase 109000 := by kernel_rfl
theorem sum1_body : Tryd.f26.body = some sum1B := by kernel_rfl
theorem sum1_n : Tryd.f26.ntmps = 7 := by kernel_rfl
theorem sum1_r : Tryd.f26.results.toList.map (trRes Tryd.prog) = [.tmp 2] := by kernel_rfl
theorem sum1_spec {h : HP} {a0 : AV} {Post : HP → AV → List AV → Prop} (hp : ∀ (E : Env) (R : HP → AV → List AV → Prop), E.N ≤ 1000000 → PostTo Post R → vcW Tryd.prog E sum1 (KQ.post [.tmp 2] 1 R) ⟨[(0, a0)], h⟩) : Eng.Spec Tryd.prog 26 h [a0] Post := spec_wk (
  spec_of (c := sum1.erase 109000) (B := 109000) Tryd.func26 sum1_body (by rw [sum1_n, sum1_eq]) (by rw [sum1_n]; decide) (by rw [sum1_n]; exact (by decide : 1 ≤ 7)) (fun E hE hB hrd => by
    have hN : E.N ≤ 1000000 := by
      rw [hE, sum1_n]; decide
    rw [sum1_r, ← hB]
    exact awp_slots [(0, a0)] ⟨rfl, trivial⟩ (vcW_sound hN _ (hp E _ hN fin_self))))
/- cartulary/sums.Hex -/
def hex_3o : List ROp := [.v 24 (.mov (.t 3)),
   .v 25 (.bts (.t 24)),
   .v 2 (.mov (.t 25))]
def hex_3 : AK := .seq (.reg hex_3o [2]) .ret
def hex_9o : List ROp := [.v 23 (.bin .add (.t 7) (.c (.int .i64 1))),
   .v 7 (.mov (.t 23))]
def hex_9 : AK := .reg hex_9o [0, 3, 6, 7]
def hex_12o : List ROp := [.val 10 true 110010 (.mov (.t 3)),
   .val 11 true 110011 (.mov (.t 0)),
   .val 12 true 110012 (.mov (.t 4)),
   .val 13 true 110013 (.sidx (.t 11) (.t 12)),
   .val 14 true 110014 (.bin .shr (.t 13) (.c (.int .u64 4))),
   .val 15 true 110015 (.sidx (.c (.str [48, 49, 50, 51, 52, 53, 54, 55, 56, 57, 97, 98, 99, 100, 101, 102])) (.t 14)),
   .val 16 true 110016 (.mov (.t 0)),
   .val 17 true 110017 (.mov (.t 4)),
   .val 18 true 110018 (.sidx (.t 16) (.t 17)),
   .val 19 true 110019 (.bin .and (.t 18) (.c (.int .u8 15))),
   .val 20 true 110020 (.sidx (.c (.str [48, 49, 50, 51, 52, 53, 54, 55, 56, 57, 97, 98, 99, 100, 101, 102])) (.t 19)),
   .eff 21 false 110021 (.bsl 1 [(.t 15), (.t 20)]),
   .eff 22 false 110022 (.app 1 1 (.t 10) (.t 21)),
   .v 3 (.mov (.t 22))]
def hex_12 : AK := .reg hex_12o [0, 3, 6, 7]
def hex_11o : List ROp := [.v 9 (.mov (.t 7)),
   .v 4 (.mov (.t 9))]
def hex_11 : AK := .seq (.reg hex_11o [0, 3, 4, 6, 7]) hex_12
def hex_10 : AK := .block 1 hex_11
def hex_8 : AK := .seq hex_10 hex_9
def hex_13 : AK := .cond (.t 8) .skip (.exit 0)
def hex_7 : AK := .seq hex_13 hex_8
def hex_6o : List ROp := [.v 8 (.bin .lss (.t 7) (.t 6))]
def hex_6 : AK := .seq (.reg hex_6o [0, 3, 6, 7, 8]) hex_7
def hex_L0 : AK := .loop hex_6
def hex_5 : AK := .block 0 hex_L0
def hex_4o : List ROp := [.v 5 (.mov (.t 0)),
   .v 6 (.len true (.t 5)),
   .v 7 (.mov (.c (.int .i64 0)))]
def hex_4 : AK := .seq (.reg hex_4o [0, 3, 6, 7]) hex_5
def hex_2 : AK := .seq hex_4 hex_3
def hex_1o : List ROp := [.v 3 (.mov (.c (.nilsl)))]
def hex_1 : AK := .seq (.reg hex_1o [0, 3]) hex_2
def hex_0o : List ROp := [.v 2 (.mov (.c (.str [])))]
def hex_0 : AK := .seq (.reg hex_0o [0]) hex_1
def hex : AK := hex_0
theorem hex_vc (P : Program) (E : Env) (Q : KQ) (st : St) :
  (vcW P E hex_3 Q st = aopsW P hex_3o st (KS.reg [2] (KQ.seq P E .ret Q))) ∧
  (vcW P E hex_9 Q st = aopsW P hex_9o st (KS.reg [0, 3, 6, 7] Q)) ∧
  (vcW P E hex_12 Q st = aopsW P hex_12o st (KS.reg [0, 3, 6, 7] Q)) ∧
  (vcW P E hex_11 Q st = aopsW P hex_11o st (KS.reg [0, 3, 4, 6, 7] (KQ.seq P E hex_12 Q))) ∧
  (vcW P E hex_10 Q st = vcW P E hex_11 (KQ.blk 1 Q) st) ∧
  (vcW P E hex_8 Q st = vcW P E hex_10 (KQ.seq P E hex_9 Q) st) ∧
  (vcW P E hex_13 Q st = cndW P E (ev st (.t 8)) .skip (.exit 0) Q st) ∧
  (vcW P E hex_7 Q st = vcW P E hex_13 (KQ.seq P E hex_8 Q) st) ∧
  (vcW P E hex_6 Q st = aopsW P hex_6o st (KS.reg [0, 3, 6, 7, 8] (KQ.seq P E hex_7 Q))) ∧
  (vcW P E hex_5 Q st = vcW P E hex_L0 (KQ.blk 0 Q) st) ∧
  (vcW P E hex_4 Q st = aopsW P hex_4o st (KS.reg [0, 3, 6, 7] (KQ.seq P E hex_5 Q))) ∧
  (vcW P E hex_2 Q st = vcW P E hex_4 (KQ.seq P E hex_3 Q) st) ∧
  (vcW P E hex_1 Q st = aopsW P hex_1o st (KS.reg [0, 3] (KQ.seq P E hex_2 Q))) ∧
  (vcW P E hex_0 Q st = aopsW P hex_0o st (KS.reg [0] (KQ.seq P E hex_1 Q))) ∧
  (vcW P E hex Q st = vcW P E hex_0 Q st) :=
  ⟨rfl, rfl, rfl, rfl, rfl, rfl, vcW_cond, rfl, rfl, rfl, rfl, rfl, rfl, rfl, rfl⟩
theorem hex_jn (P : Program) (E : Env) (Q : KQ) (st : St) :
  (True) :=
  trivial
attribute [go_sem] hex_vc hex_3o hex_9o hex_12o hex_11o hex_6o hex_4o hex_1o hex_0o
noncomputable def hexB : Code := (Tryd.f25.body).getD .skip
theorem hex_eq : trCode Tryd.prog 26 110000 hexB = hex.erase 110000 := by kernel_rfl
theorem hex_body : Tryd.f25.body = some hexB := by kernel_rfl
theorem hex_n : Tryd.f25.ntmps = 26 := by kernel_rfl
theorem hex_r : Tryd.f25.results.toList.map (trRes Tryd.prog) = [.tmp 2] := by kernel_rfl
theorem hex_spec {h : HP} {a0 : AV} {Post : HP → AV → List AV → Prop} (hp : ∀ (E : Env) (R : HP → AV → List AV → Prop), E.N ≤ 1000000 → PostTo Post R → vcW Tryd.prog E hex (KQ.post [.tmp 2] 1 R) ⟨[(0, a0)], h⟩) : Eng.Spec Tryd.prog 25 h [a0] Post := spec_wk (
  spec_of (c := hex.erase 110000) (B := 110000) Tryd.func25 hex_body (by rw [hex_n, hex_eq]) (by rw [hex_n]; decide) (by rw [hex_n]; exact (by decide : 1 ≤ 26)) (fun E hE hB hrd => by
    have hN : E.N ≤ 1000000 := by
      rw [hE, hex_n]; decide
    rw [hex_r, ← hB]
    exact awp_slots [(0, a0)] ⟨rfl, trivial⟩ (vcW_sound hN _ (hp E _ hN fin_self))))
/- cartulary/cartularyref02.turn -/
def rturn_1o : List ROp := [.val 5 true 111005 (.mov (.t 0)),
   .val 6 true 111006 (.mov (.t 1)),
   .val 7 true 111007 (.bin .shl (.t 5) (.t 6)),
   .val 8 true 111008 (.mov (.t 0)),
   .val 9 true 111009 (.mov (.t 1)),
   .val 10 true 111010 (.bin .sub (.c (.int .i64 32)) (.t 9)),
   .val 11 true 111011 (.bin .shr (.t 8) (.t 10)),
   .v 12 (.bin .or (.t 7) (.t 11)),
   .v 4 (.mov (.t 12))]
def rturn_1 : AK := .seq (.reg rturn_1o [4]) .ret
def rturn_0o : List ROp := [.v 4 (.mov (.c (.int .u32 0)))]
def rturn_0 : AK := .seq (.reg rturn_0o [0, 1]) rturn_1
def rturn : AK := rturn_0
theorem rturn_vc (P : Program) (E : Env) (Q : KQ) (st : St) :
  (vcW P E rturn_1 Q st = aopsW P rturn_1o st (KS.reg [4] (KQ.seq P E .ret Q))) ∧
  (vcW P E rturn_0 Q st = aopsW P rturn_0o st (KS.reg [0, 1] (KQ.seq P E rturn_1 Q))) ∧
  (vcW P E rturn Q st = vcW P E rturn_0 Q st) :=
  ⟨rfl, rfl, rfl⟩
theorem rturn_jn (P : Program) (E : Env) (Q : KQ) (st : St) :
  (True) :=
  trivial
attribute [go_sem] rturn_vc rturn_1o rturn_0o
noncomputable def rturnB : Code := (Tryd.f39.body).getD .skip
theorem rturn_eq : trCode Tryd.prog 13 111000 rturnB = rturn.erase 111000 := by kernel_rfl
theorem rturn_body : Tryd.f39.body = some rturnB := by kernel_rfl
theorem rturn_n : Tryd.f39.ntmps = 13 := by kernel_rfl
theorem rturn_r : Tryd.f39.results.toList.map (trRes Tryd.prog) = [.tmp 4] := by kernel_rfl
theorem rturn_spec {h : HP} {a0 a1 : AV} {Post : HP → AV → List AV → Prop} (hp : ∀ (E : Env) (R : HP → AV → List AV → Prop), E.N ≤ 1000000 → PostTo Post R → vcW Tryd.prog E rturn (KQ.post [.tmp 4] 2 R) ⟨[(0, a0), (1, a1)], h⟩) : Eng.Spec Tryd.prog 39 h [a0, a1] Post := spec_wk (
  spec_of (c := rturn.erase 111000) (B := 111000) Tryd.func39 rturn_body (by rw [rturn_n, rturn_eq]) (by rw [rturn_n]; decide) (by rw [rturn_n]; exact (by decide : 2 ≤ 13)) (fun E hE hB hrd => by
    have hN : E.N ≤ 1000000 := by
      rw [hE, rturn_n]; decide
    rw [rturn_r, ← hB]
    exact awp_slots [(0, a0), (1, a1)] ⟨rfl, rfl, trivial⟩ (vcW_sound hN _ (hp E _ hN fin_self))))
/- cartulary/cartularyref02.Pad -/
def rpad_5o : List ROp := [.v 33 (.mov (.t 3)),
   .v 2 (.mov (.t 33))]
def rpad_5 : AK := .seq (.reg rpad_5o [2]) .ret
def rpad_10o : List ROp := [.v 23 (.mov (.t 5)),
   .v 24 (.bin .sub (.t 23) (.c (.int .i64 1))),
   .v 5 (.mov (.t 24))]
def rpad_10 : AK := .reg rpad_10o [3, 4, 5]
def rpad_12o : List ROp := [.v 25 (.mov (.t 3)),
   .v 26 (.mov (.t 4)),
   .v 27 (.mov (.t 5)),
   .v 28 (.bin .mul (.c (.int .i64 8)) (.t 27)),
   .v 29 (.bin .shr (.t 26) (.t 28)),
   .v 30 (.cvi .u8 (.t 29)),
   .eff 31 false 112031 (.bsl 1 [(.t 30)]),
   .eff 32 false 112032 (.app 1 1 (.t 25) (.t 31)),
   .v 3 (.mov (.t 32))]
def rpad_12 : AK := .reg rpad_12o [3, 4, 5]
def rpad_11 : AK := .block 3 rpad_12
def rpad_9 : AK := .seq rpad_11 rpad_10
def rpad_14 : AK := .cond (.t 22) .skip (.exit 2)
def rpad_13o : List ROp := [.v 21 (.mov (.t 5)),
   .v 22 (.bin .geq (.t 21) (.c (.int .i64 0)))]
def rpad_13 : AK := .seq (.reg rpad_13o [3, 4, 5, 22]) rpad_14
def rpad_8 : AK := .seq rpad_13 rpad_9
def rpad_L0 : AK := .loop rpad_8
def rpad_7 : AK := .block 2 rpad_L0
def rpad_6o : List ROp := [.v 5 (.mov (.c (.int .i64 7)))]
def rpad_6 : AK := .seq (.reg rpad_6o [3, 4, 5]) rpad_7
def rpad_4 : AK := .seq rpad_6 rpad_5
def rpad_3o : List ROp := [.v 17 (.mov (.t 0)),
   .v 18 (.len true (.t 17)),
   .v 19 (.cvi .u64 (.t 18)),
   .v 20 (.bin .mul (.t 19) (.c (.int .u64 8))),
   .v 4 (.mov (.t 20))]
def rpad_3 : AK := .seq (.reg rpad_3o [3, 4]) rpad_4
def rpad_18o : List ROp := [.v 14 (.mov (.t 3)),
   .eff 15 false 112015 (.bsl 1 [(.c (.int .u8 0))]),
   .eff 16 false 112016 (.app 1 1 (.t 14) (.t 15)),
   .v 3 (.mov (.t 16))]
def rpad_18 : AK := .reg rpad_18o [0, 3]
def rpad_17 : AK := .block 1 rpad_18
def rpad_20 : AK := .cond (.t 13) .skip (.exit 0)
def rpad_19o : List ROp := [.v 10 (.mov (.t 3)),
   .v 11 (.len false (.t 10)),
   .v 12 (.bin .rem (.t 11) (.c (.int .i64 64))),
   .v 13 (.bin .neq (.t 12) (.c (.int .i64 56)))]
def rpad_19 : AK := .seq (.reg rpad_19o [0, 3, 13]) rpad_20
def rpad_16 : AK := .seq rpad_19 rpad_17
def rpad_L1 : AK := .loop rpad_16
def rpad_15 : AK := .block 0 rpad_L1
def rpad_2 : AK := .seq rpad_15 rpad_3
def rpad_1o : List ROp := [.v 6 (.mov (.t 0)),
   .eff 7 false 112007 (.stb (.t 6)),
   .eff 8 false 112008 (.bsl 1 [(.c (.int .u8 128))]),
   .eff 9 false 112009 (.app 1 1 (.t 7) (.t 8)),
   .v 3 (.mov (.t 9))]
def rpad_1 : AK := .seq (.reg rpad_1o [0, 3]) rpad_2
def rpad_0o : List ROp := [.v 2 (.mov (.c (.nilsl)))]
def rpad_0 : AK := .seq (.reg rpad_0o [0]) rpad_1
def rpad : AK := rpad_0
theorem rpad_vc (P : Program) (E : Env) (Q : KQ) (st : St) :
  (vcW P E rpad_5 Q st = aopsW P rpad_5o st (KS.reg [2] (KQ.seq P E .ret Q))) ∧
  (vcW P E rpad_10 Q st = aopsW P rpad_10o st (KS.reg [3, 4, 5] Q)) ∧
  (vcW P E rpad_12 Q st = aopsW P rpad_12o st (KS.reg [3, 4, 5] Q)) ∧
  (vcW P E rpad_11 Q st = vcW P E rpad_12 (KQ.blk 3 Q) st) ∧
  (vcW P E rpad_9 Q st = vcW P E rpad_11 (KQ.seq P E rpad_10 Q) st) ∧
  (vcW P E rpad_14 Q st = cndW P E (ev st (.t 22)) .skip (.exit 2) Q st) ∧
  (vcW P E rpad_13 Q st = aopsW P rpad_13o st (KS.reg [3, 4, 5, 22] (KQ.seq P E rpad_14 Q))) ∧
  (vcW P E rpad_8 Q st = vcW P E rpad_13 (KQ.seq P E rpad_9 Q) st) ∧
  (vcW P E rpad_7 Q st = vcW P E rpad_L0 (KQ.blk 2 Q) st) ∧
  (vcW P E rpad_6 Q st = aopsW P rpad_6o st (KS.reg [3, 4, 5] (KQ.seq P E rpad_7 Q))) ∧
  (vcW P E rpad_4 Q st = vcW P E rpad_6 (KQ.seq P E rpad_5 Q) st) ∧
  (vcW P E rpad_3 Q st = aopsW P rpad_3o st (KS.reg [3, 4] (KQ.seq P E rpad_4 Q))) ∧
  (vcW P E rpad_18 Q st = aopsW P rpad_18o st (KS.reg [0, 3] Q)) ∧
  (vcW P E rpad_17 Q st = vcW P E rpad_18 (KQ.blk 1 Q) st) ∧
  (vcW P E rpad_20 Q st = cndW P E (ev st (.t 13)) .skip (.exit 0) Q st) ∧
  (vcW P E rpad_19 Q st = aopsW P rpad_19o st (KS.reg [0, 3, 13] (KQ.seq P E rpad_20 Q))) ∧
  (vcW P E rpad_16 Q st = vcW P E rpad_19 (KQ.seq P E rpad_17 Q) st) ∧
  (vcW P E rpad_15 Q st = vcW P E rpad_L1 (KQ.blk 0 Q) st) ∧
  (vcW P E rpad_2 Q st = vcW P E rpad_15 (KQ.seq P E rpad_3 Q) st) ∧
  (vcW P E rpad_1 Q st = aopsW P rpad_1o st (KS.reg [0, 3] (KQ.seq P E rpad_2 Q))) ∧
  (vcW P E rpad_0 Q st = aopsW P rpad_0o st (KS.reg [0] (KQ.seq P E rpad_1 Q))) ∧
  (vcW P E rpad Q st = vcW P E rpad_0 Q st) :=
  ⟨rfl, rfl, rfl, rfl, rfl, vcW_cond, rfl, rfl, rfl, rfl, rfl, rfl, rfl, rfl, vcW_cond, rfl, rfl, rfl, rfl, rfl, rfl, rfl⟩
theorem rpad_jn (P : Program) (E : Env) (Q : KQ) (st : St) :
  (True) :=
  trivial
attribute [go_sem] rpad_vc rpad_5o rpad_10o rpad_12o rpad_13o rpad_6o rpad_3o rpad_18o rpad_19o rpad_1o rpad_0o
noncomputable def rpadB : Code := (Tryd.f37.body).getD .skip
theorem rpad_eq : trCode Tryd.prog 34 112000 rpadB = rpad.erase 112000 := by kernel_rfl
theorem rpad_body : Tryd.f37.body = some rpadB := by kernel_rfl
theorem rpad_n : Tryd.f37.ntmps = 34 := by kernel_rfl
theorem rpad_r : Tryd.f37.results.toList.map (trRes Tryd.prog) = [.tmp 2] := by kernel_rfl
theorem rpad_spec {h : HP} {a0 : AV} {Post : HP → AV → List AV → Prop} (hp : ∀ (E : Env) (R : HP → AV → List AV → Prop), E.N ≤ 1000000 → PostTo Post R → vcW Tryd.prog E rpad (KQ.post [.tmp 2] 1 R) ⟨[(0, a0)], h⟩) : Eng.Spec Tryd.prog 37 h [a0] Post := spec_wk (
  spec_of (c := rpad.erase 112000) (B := 112000) Tryd.func37 rpad_body (by rw [rpad_n, rpad_eq]) (by rw [rpad_n]; decide) (by rw [rpad_n]; exact (by decide : 1 ≤ 34)) (fun E hE hB hrd => by
    have hN : E.N ≤ 1000000 := by
      rw [hE, rpad_n]; decide
    rw [rpad_r, ← hB]
    exact awp_slots [(0, a0)] ⟨rfl, trivial⟩ (vcW_sound hN _ (hp E _ hN fin_self))))
/- cartulary/cartularyref02.words -/
def rwords2_3o : List ROp := [.v 42 (.mov (.t 3)),
   .v 2 (.mov (.t 42))]
def rwords2_3 : AK := .seq (.reg rwords2_3o [2]) .ret
def rwords2_8o : List ROp := [.v 8 (.mov (.t 4)),
   .v 9 (.bin .add (.t 8) (.c (.int .i64 4))),
   .v 4 (.mov (.t 9))]
def rwords2_8 : AK := .reg rwords2_8o [0, 3, 4]
def rwords2_10o : List ROp := [.val 10 true 113010 (.mov (.t 3)),
   .val 11 true 113011 (.mov (.t 0)),
   .val 12 true 113012 (.mov (.t 4)),
   .val 13 true 113013 (.idxA 1 (.t 11) (.t 12)),
   .val 14 true 113014 (.ld false 1 (.t 13)),
   .val 15 true 113015 (.cvi .u32 (.t 14)),
   .val 16 true 113016 (.bin .mul (.t 15) (.c (.int .u32 16777216))),
   .val 17 true 113017 (.mov (.t 0)),
   .val 18 true 113018 (.mov (.t 4)),
   .val 19 true 113019 (.bin .add (.t 18) (.c (.int .i64 1))),
   .val 20 true 113020 (.idxA 1 (.t 17) (.t 19)),
   .val 21 true 113021 (.ld false 1 (.t 20)),
   .val 22 true 113022 (.cvi .u32 (.t 21)),
   .val 23 true 113023 (.bin .mul (.t 22) (.c (.int .u32 65536))),
   .val 24 true 113024 (.bin .add (.t 16) (.t 23)),
   .val 25 true 113025 (.mov (.t 0)),
   .val 26 true 113026 (.mov (.t 4)),
   .val 27 true 113027 (.bin .add (.t 26) (.c (.int .i64 2))),
   .val 28 true 113028 (.idxA 1 (.t 25) (.t 27)),
   .val 29 true 113029 (.ld false 1 (.t 28)),
   .val 30 true 113030 (.cvi .u32 (.t 29)),
   .val 31 true 113031 (.bin .mul (.t 30) (.c (.int .u32 256))),
   .val 32 true 113032 (.bin .add (.t 24) (.t 31)),
   .val 33 true 113033 (.mov (.t 0)),
   .val 34 true 113034 (.mov (.t 4)),
   .val 35 true 113035 (.bin .add (.t 34) (.c (.int .i64 3))),
   .val 36 true 113036 (.idxA 1 (.t 33) (.t 35)),
   .val 37 true 113037 (.ld false 1 (.t 36)),
   .val 38 true 113038 (.cvi .u32 (.t 37)),
   .v 39 (.bin .add (.t 32) (.t 38)),
   .eff 40 false 113040 (.bsl 1 [(.t 39)]),
   .eff 41 false 113041 (.app 1 4 (.t 10) (.t 40)),
   .v 3 (.mov (.t 41))]
def rwords2_10 : AK := .reg rwords2_10o [0, 3, 4]
def rwords2_9 : AK := .block 1 rwords2_10
def rwords2_7 : AK := .seq rwords2_9 rwords2_8
def rwords2_12 : AK := .cond (.t 7) .skip (.exit 0)
def rwords2_11o : List ROp := [.v 6 (.mov (.t 4)),
   .v 7 (.bin .lss (.t 6) (.c (.int .i64 64)))]
def rwords2_11 : AK := .seq (.reg rwords2_11o [0, 3, 4, 7]) rwords2_12
def rwords2_6 : AK := .seq rwords2_11 rwords2_7
def rwords2_L0 : AK := .loop rwords2_6
def rwords2_5 : AK := .block 0 rwords2_L0
def rwords2_4o : List ROp := [.v 4 (.mov (.c (.int .i64 0)))]
def rwords2_4 : AK := .seq (.reg rwords2_4o [0, 3, 4]) rwords2_5
def rwords2_2 : AK := .seq rwords2_4 rwords2_3
def rwords2_1o : List ROp := [.eff 5 false 113005 (.bsl 1 []),
   .v 3 (.mov (.t 5))]
def rwords2_1 : AK := .seq (.reg rwords2_1o [0, 3]) rwords2_2
def rwords2_0o : List ROp := [.v 2 (.mov (.c (.nilsl)))]
def rwords2_0 : AK := .seq (.reg rwords2_0o [0]) rwords2_1
def rwords2 : AK := rwords2_0
theorem rwords2_vc (P : Program) (E : Env) (Q : KQ) (st : St) :
  (vcW P E rwords2_3 Q st = aopsW P rwords2_3o st (KS.reg [2] (KQ.seq P E .ret Q))) ∧
  (vcW P E rwords2_8 Q st = aopsW P rwords2_8o st (KS.reg [0, 3, 4] Q)) ∧
  (vcW P E rwords2_10 Q st = aopsW P rwords2_10o st (KS.reg [0, 3, 4] Q)) ∧
  (vcW P E rwords2_9 Q st = vcW P E rwords2_10 (KQ.blk 1 Q) st) ∧
  (vcW P E rwords2_7 Q st = vcW P E rwords2_9 (KQ.seq P E rwords2_8 Q) st) ∧
  (vcW P E rwords2_12 Q st = cndW P E (ev st (.t 7)) .skip (.exit 0) Q st) ∧
  (vcW P E rwords2_11 Q st = aopsW P rwords2_11o st (KS.reg [0, 3, 4, 7] (KQ.seq P E rwords2_12 Q))) ∧
  (vcW P E rwords2_6 Q st = vcW P E rwords2_11 (KQ.seq P E rwords2_7 Q) st) ∧
  (vcW P E rwords2_5 Q st = vcW P E rwords2_L0 (KQ.blk 0 Q) st) ∧
  (vcW P E rwords2_4 Q st = aopsW P rwords2_4o st (KS.reg [0, 3, 4] (KQ.seq P E rwords2_5 Q))) ∧
  (vcW P E rwords2_2 Q st = vcW P E rwords2_4 (KQ.seq P E rwords2_3 Q) st) ∧
  (vcW P E rwords2_1 Q st = aopsW P rwords2_1o st (KS.reg [0, 3] (KQ.seq P E rwords2_2 Q))) ∧
  (vcW P E rwords2_0 Q st = aopsW P rwords2_0o st (KS.reg [0] (KQ.seq P E rwords2_1 Q))) ∧
  (vcW P E rwords2 Q st = vcW P E rwords2_0 Q st) :=
  ⟨rfl, rfl, rfl, rfl, rfl, vcW_cond, rfl, rfl, rfl, rfl, rfl, rfl, rfl, rfl⟩
theorem rwords2_jn (P : Program) (E : Env) (Q : KQ) (st : St) :
  (True) :=
  trivial
attribute [go_sem] rwords2_vc rwords2_3o rwords2_8o rwords2_10o rwords2_11o rwords2_4o rwords2_1o rwords2_0o
noncomputable def rwords2B : Code := (Tryd.f38.body).getD .skip
theorem rwords2_eq : trCode Tryd.prog 43 113000 rwords2B = rwords2.erase 113000 := by kernel_rfl
theorem rwords2_body : Tryd.f38.body = some rwords2B := by kernel_rfl
theorem rwords2_n : Tryd.f38.ntmps = 43 := by kernel_rfl
theorem rwords2_r : Tryd.f38.results.toList.map (trRes Tryd.prog) = [.tmp 2] := by kernel_rfl
theorem rwords2_spec {h : HP} {a0 : AV} {Post : HP → AV → List AV → Prop} (hp : ∀ (E : Env) (R : HP → AV → List AV → Prop), E.N ≤ 1000000 → PostTo Post R → vcW Tryd.prog E rwords2 (KQ.post [.tmp 2] 1 R) ⟨[(0, a0)], h⟩) : Eng.Spec Tryd.prog 38 h [a0] Post := spec_wk (
  spec_of (c := rwords2.erase 113000) (B := 113000) Tryd.func38 rwords2_body (by rw [rwords2_n, rwords2_eq]) (by rw [rwords2_n]; decide) (by rw [rwords2_n]; exact (by decide : 1 ≤ 43)) (fun E hE hB hrd => by
    have hN : E.N ≤ 1000000 := by
      rw [hE, rwords2_n]; decide
    rw [rwords2_r, ← hB]
    exact awp_slots [(0, a0)] ⟨rfl, trivial⟩ (vcW_sound hN _ (hp E _ hN fin_self))))
/- cartulary/cartularyref02.out -/
def rout_3o : List ROp := [.v 28 (.mov (.t 3)),
   .v 29 (.bts (.t 28)),
   .v 2 (.mov (.t 29))]
def rout_3 : AK := .seq (.reg rout_3o [2]) .ret
def rout_9o : List ROp := [.v 27 (.bin .add (.t 9) (.c (.int .i64 1))),
   .v 9 (.mov (.t 27))]
def rout_9 : AK := .reg rout_9o [3, 7, 8, 9]
def rout_12o : List ROp := [.v 13 (.mov (.t 3)),
   .v 14 (.mov (.t 5)),
   .v 15 (.bin .shr (.t 14) (.c (.int .u64 24))),
   .v 16 (.cvi .u8 (.t 15)),
   .v 17 (.mov (.t 5)),
   .v 18 (.bin .shr (.t 17) (.c (.int .u64 16))),
   .v 19 (.cvi .u8 (.t 18)),
   .v 20 (.mov (.t 5)),
   .v 21 (.bin .shr (.t 20) (.c (.int .u64 8))),
   .v 22 (.cvi .u8 (.t 21)),
   .v 23 (.mov (.t 5)),
   .v 24 (.cvi .u8 (.t 23)),
   .eff 25 false 114025 (.bsl 1 [(.t 16), (.t 19), (.t 22), (.t 24)]),
   .eff 26 false 114026 (.app 1 1 (.t 13) (.t 25)),
   .v 3 (.mov (.t 26))]
def rout_12 : AK := .reg rout_12o [3, 7, 8, 9]
def rout_11o : List ROp := [.v 11 (.idxA 1 (.t 7) (.t 9)),
   .v 12 (.ld false 1 (.t 11)),
   .v 5 (.mov (.t 12))]
def rout_11 : AK := .seq (.reg rout_11o [3, 5, 7, 8, 9]) rout_12
def rout_10 : AK := .block 1 rout_11
def rout_8 : AK := .seq rout_10 rout_9
def rout_13 : AK := .cond (.t 10) .skip (.exit 0)
def rout_7 : AK := .seq rout_13 rout_8
def rout_6o : List ROp := [.v 10 (.bin .lss (.t 9) (.t 8))]
def rout_6 : AK := .seq (.reg rout_6o [3, 7, 8, 9, 10]) rout_7
def rout_L0 : AK := .loop rout_6
def rout_5 : AK := .block 0 rout_L0
def rout_4o : List ROp := [.v 7 (.mov (.t 0)),
   .v 8 (.len false (.t 7)),
   .v 9 (.mov (.c (.int .i64 0)))]
def rout_4 : AK := .seq (.reg rout_4o [3, 7, 8, 9]) rout_5
def rout_2 : AK := .seq rout_4 rout_3
def rout_1o : List ROp := [.eff 6 false 114006 (.bsl 1 []),
   .v 3 (.mov (.t 6))]
def rout_1 : AK := .seq (.reg rout_1o [0, 3]) rout_2
def rout_0o : List ROp := [.v 2 (.mov (.c (.str [])))]
def rout_0 : AK := .seq (.reg rout_0o [0]) rout_1
def rout : AK := rout_0
theorem rout_vc (P : Program) (E : Env) (Q : KQ) (st : St) :
  (vcW P E rout_3 Q st = aopsW P rout_3o st (KS.reg [2] (KQ.seq P E .ret Q))) ∧
  (vcW P E rout_9 Q st = aopsW P rout_9o st (KS.reg [3, 7, 8, 9] Q)) ∧
  (vcW P E rout_12 Q st = aopsW P rout_12o st (KS.reg [3, 7, 8, 9] Q)) ∧
  (vcW P E rout_11 Q st = aopsW P rout_11o st (KS.reg [3, 5, 7, 8, 9] (KQ.seq P E rout_12 Q))) ∧
  (vcW P E rout_10 Q st = vcW P E rout_11 (KQ.blk 1 Q) st) ∧
  (vcW P E rout_8 Q st = vcW P E rout_10 (KQ.seq P E rout_9 Q) st) ∧
  (vcW P E rout_13 Q st = cndW P E (ev st (.t 10)) .skip (.exit 0) Q st) ∧
  (vcW P E rout_7 Q st = vcW P E rout_13 (KQ.seq P E rout_8 Q) st) ∧
  (vcW P E rout_6 Q st = aopsW P rout_6o st (KS.reg [3, 7, 8, 9, 10] (KQ.seq P E rout_7 Q))) ∧
  (vcW P E rout_5 Q st = vcW P E rout_L0 (KQ.blk 0 Q) st) ∧
  (vcW P E rout_4 Q st = aopsW P rout_4o st (KS.reg [3, 7, 8, 9] (KQ.seq P E rout_5 Q))) ∧
  (vcW P E rout_2 Q st = vcW P E rout_4 (KQ.seq P E rout_3 Q) st) ∧
  (vcW P E rout_1 Q st = aopsW P rout_1o st (KS.reg [0, 3] (KQ.seq P E rout_2 Q))) ∧
  (vcW P E rout_0 Q st = aopsW P rout_0o st (KS.reg [0] (KQ.seq P E rout_1 Q))) ∧
  (vcW P E rout Q st = vcW P E rout_0 Q st) :=
  ⟨rfl, rfl, rfl, rfl, rfl, rfl, vcW_cond, rfl, rfl, rfl, rfl, rfl, rfl, rfl, rfl⟩
theorem rout_jn (P : Program) (E : Env) (Q : KQ) (st : St) :
  (True) :=
  trivial
attribute [go_sem] rout_vc rout_3o rout_9o rout_12o rout_11o rout_6o rout_4o rout_1o rout_0o
noncomputable def routB : Code := (Tryd.f40.body).getD .skip
theorem rout_eq : trCode Tryd.prog 30 114000 routB = rout.erase 114000 := by kernel_rfl
theorem rout_body : Tryd.f40.body = some routB := by kernel_rfl
theorem rout_n : Tryd.f40.ntmps = 30 := by kernel_rfl
theorem rout_r : Tryd.f40.results.toList.map (trRes Tryd.prog) = [.tmp 2] := by kernel_rfl
theorem rout_spec {h : HP} {a0 : AV} {Post : HP → AV → List AV → Prop} (hp : ∀ (E : Env) (R : HP → AV → List AV → Prop), E.N ≤ 1000000 → PostTo Post R → vcW Tryd.prog E rout (KQ.post [.tmp 2] 1 R) ⟨[(0, a0)], h⟩) : Eng.Spec Tryd.prog 40 h [a0] Post := spec_wk (
  spec_of (c := rout.erase 114000) (B := 114000) Tryd.func40 rout_body (by rw [rout_n, rout_eq]) (by rw [rout_n]; decide) (by rw [rout_n]; exact (by decide : 1 ≤ 30)) (fun E hE hB hrd => by
    have hN : E.N ≤ 1000000 := by
      rw [hE, rout_n]; decide
    rw [rout_r, ← hB]
    exact awp_slots [(0, a0)] ⟨rfl, trivial⟩ (vcW_sound hN _ (hp E _ hN fin_self))))
/- cartulary/cartularyref02.Sum1 -/
def rsum1_4o : List ROp := [.v 162 (.mov (.t 4)),
   .cal (some 163) false 115163 40 [(.t 162)],
   .v 2 (.mov (.t 163))]
def rsum1_4 : AK := .seq (.reg rsum1_4o [2]) .ret
def rsum1_9o : List ROp := [.v 24 (.mov (.t 5)),
   .v 25 (.bin .add (.t 24) (.c (.int .i64 64))),
   .v 5 (.mov (.t 25))]
def rsum1_9 : AK := .reg rsum1_9o [3, 4, 5]
def rsum1_15o : List ROp := [.val 136 true 115136 (.mov (.t 4)),
   .val 137 true 115137 (.idxA 1 (.t 136) (.c (.int .i64 0))),
   .val 138 true 115138 (.ld false 1 (.t 137)),
   .val 139 true 115139 (.mov (.t 8)),
   .val 140 true 115140 (.bin .add (.t 138) (.t 139)),
   .val 141 true 115141 (.mov (.t 4)),
   .val 142 true 115142 (.idxA 1 (.t 141) (.c (.int .i64 1))),
   .val 143 true 115143 (.ld false 1 (.t 142)),
   .val 144 true 115144 (.mov (.t 9)),
   .val 145 true 115145 (.bin .add (.t 143) (.t 144)),
   .val 146 true 115146 (.mov (.t 4)),
   .val 147 true 115147 (.idxA 1 (.t 146) (.c (.int .i64 2))),
   .val 148 true 115148 (.ld false 1 (.t 147)),
   .val 149 true 115149 (.mov (.t 10)),
   .val 150 true 115150 (.bin .add (.t 148) (.t 149)),
   .val 151 true 115151 (.mov (.t 4)),
   .val 152 true 115152 (.idxA 1 (.t 151) (.c (.int .i64 3))),
   .val 153 true 115153 (.ld false 1 (.t 152)),
   .val 154 true 115154 (.mov (.t 11)),
   .val 155 true 115155 (.bin .add (.t 153) (.t 154)),
   .val 156 true 115156 (.mov (.t 4)),
   .val 157 true 115157 (.idxA 1 (.t 156) (.c (.int .i64 4))),
   .val 158 true 115158 (.ld false 1 (.t 157)),
   .val 159 true 115159 (.mov (.t 12)),
   .val 160 true 115160 (.bin .add (.t 158) (.t 159)),
   .eff 161 false 115161 (.bsl 1 [(.t 140), (.t 145), (.t 150), (.t 155), (.t 160)]),
   .v 4 (.mov (.t 161))]
def rsum1_15 : AK := .reg rsum1_15o [3, 4, 5]
def rsum1_20o : List ROp := [.v 80 (.mov (.t 13)),
   .v 81 (.bin .add (.t 80) (.c (.int .i64 1))),
   .v 13 (.mov (.t 81))]
def rsum1_20 : AK := .reg rsum1_20o [3, 4, 5, 6, 8, 9, 10, 11, 12, 13]
def rsum1_31o : List ROp := [.v 135 (.mov (.t 16)),
   .v 8 (.mov (.t 135))]
def rsum1_31 : AK := .reg rsum1_31o [3, 4, 5, 6, 8, 9, 10, 11, 12, 13]
def rsum1_30o : List ROp := [.v 134 (.mov (.t 8)),
   .v 9 (.mov (.t 134))]
def rsum1_30 : AK := .seq (.reg rsum1_30o [3, 4, 5, 6, 9, 10, 11, 12, 13, 16]) rsum1_31
def rsum1_29o : List ROp := [.v 132 (.mov (.t 9)),
   .cal (some 133) false 115133 39 [(.t 132), (.c (.int .i64 30))],
   .v 10 (.mov (.t 133))]
def rsum1_29 : AK := .seq (.reg rsum1_29o [3, 4, 5, 6, 8, 10, 11, 12, 13, 16]) rsum1_30
def rsum1_28o : List ROp := [.v 131 (.mov (.t 10)),
   .v 11 (.mov (.t 131))]
def rsum1_28 : AK := .seq (.reg rsum1_28o [3, 4, 5, 6, 8, 9, 11, 12, 13, 16]) rsum1_29
def rsum1_27o : List ROp := [.v 130 (.mov (.t 11)),
   .v 12 (.mov (.t 130))]
def rsum1_27 : AK := .seq (.reg rsum1_27o [3, 4, 5, 6, 8, 9, 10, 12, 13, 16]) rsum1_28
def rsum1_26o : List ROp := [.val 117 true 115117 (.mov (.t 8)),
   .val 119 true 115119 (.mov (.t 14)),
   .val 121 true 115121 (.mov (.t 12)),
   .val 123 true 115123 (.mov (.t 15)),
   .v 125 (.mov (.t 6)),
   .v 126 (.mov (.t 13)),
   .v 127 (.idxA 1 (.t 125) (.t 126)),
   .v 128 (.ld false 1 (.t 127)),
   .cal (some 118) true 115118 39 [(.t 117), (.c (.int .i64 5))],
   .val 120 true 115120 (.bin .add (.t 118) (.t 119)),
   .val 122 true 115122 (.bin .add (.t 120) (.t 121)),
   .val 124 true 115124 (.bin .add (.t 122) (.t 123)),
   .v 129 (.bin .add (.t 124) (.t 128)),
   .v 16 (.mov (.t 129))]
def rsum1_26 : AK := .seq (.reg rsum1_26o [3, 4, 5, 6, 8, 9, 10, 11, 13, 16]) rsum1_27
def rsum1_35o : List ROp := [.v 15 (.mov (.c (.int .u32 1518500249)))]
def rsum1_35 : AK := .reg rsum1_35o [3, 4, 5, 6, 8, 9, 10, 11, 12, 13, 14, 15]
def rsum1_34o : List ROp := [.v 109 (.mov (.t 9)),
   .v 110 (.mov (.t 10)),
   .v 111 (.bin .and (.t 109) (.t 110)),
   .v 112 (.mov (.t 9)),
   .v 113 (.bin .xor (.t 112) (.c (.int .u32 4294967295))),
   .v 114 (.mov (.t 11)),
   .v 115 (.bin .and (.t 113) (.t 114)),
   .v 116 (.bin .or (.t 111) (.t 115)),
   .v 14 (.mov (.t 116))]
def rsum1_34 : AK := .seq (.reg rsum1_34o [3, 4, 5, 6, 8, 9, 10, 11, 12, 13, 14]) rsum1_35
def rsum1_33 : AK := .cond (.t 108) rsum1_34 .skip
def rsum1_32o : List ROp := [.v 107 (.mov (.t 13)),
   .v 108 (.bin .lss (.t 107) (.c (.int .i64 20)))]
def rsum1_32 : AK := .seq (.reg rsum1_32o [3, 4, 5, 6, 8, 9, 10, 11, 12, 13, 14, 15, 108]) rsum1_33
def rsum1_25 : AK := .seq rsum1_32 (.mid rsum1_26)
def rsum1_39o : List ROp := [.v 15 (.mov (.c (.int .u32 1859775393)))]
def rsum1_39 : AK := .reg rsum1_39o [3, 4, 5, 6, 8, 9, 10, 11, 12, 13, 14, 15]
def rsum1_38o : List ROp := [.v 102 (.mov (.t 9)),
   .v 103 (.mov (.t 10)),
   .v 104 (.bin .xor (.t 102) (.t 103)),
   .v 105 (.mov (.t 11)),
   .v 106 (.bin .xor (.t 104) (.t 105)),
   .v 14 (.mov (.t 106))]
def rsum1_38 : AK := .seq (.reg rsum1_38o [3, 4, 5, 6, 8, 9, 10, 11, 12, 13, 14]) rsum1_39
def rsum1_37 : AK := .cond (.t 101) rsum1_38 .skip
def rsum1_36o : List ROp := [.v 100 (.mov (.t 13)),
   .v 101 (.bin .lss (.t 100) (.c (.int .i64 40)))]
def rsum1_36 : AK := .seq (.reg rsum1_36o [3, 4, 5, 6, 8, 9, 10, 11, 12, 13, 14, 15, 101]) rsum1_37
def rsum1_24 : AK := .seq rsum1_36 (.mid rsum1_25)
def rsum1_43o : List ROp := [.v 15 (.mov (.c (.int .u32 2400959708)))]
def rsum1_43 : AK := .reg rsum1_43o [3, 4, 5, 6, 8, 9, 10, 11, 12, 13, 14, 15]
def rsum1_42o : List ROp := [.v 89 (.mov (.t 9)),
   .v 90 (.mov (.t 10)),
   .v 91 (.bin .and (.t 89) (.t 90)),
   .v 92 (.mov (.t 9)),
   .v 93 (.mov (.t 11)),
   .v 94 (.bin .and (.t 92) (.t 93)),
   .v 95 (.bin .or (.t 91) (.t 94)),
   .v 96 (.mov (.t 10)),
   .v 97 (.mov (.t 11)),
   .v 98 (.bin .and (.t 96) (.t 97)),
   .v 99 (.bin .or (.t 95) (.t 98)),
   .v 14 (.mov (.t 99))]
def rsum1_42 : AK := .seq (.reg rsum1_42o [3, 4, 5, 6, 8, 9, 10, 11, 12, 13, 14]) rsum1_43
def rsum1_41 : AK := .cond (.t 88) rsum1_42 .skip
def rsum1_40o : List ROp := [.v 87 (.mov (.t 13)),
   .v 88 (.bin .lss (.t 87) (.c (.int .i64 60)))]
def rsum1_40 : AK := .seq (.reg rsum1_40o [3, 4, 5, 6, 8, 9, 10, 11, 12, 13, 14, 15, 88]) rsum1_41
def rsum1_23 : AK := .seq rsum1_40 (.mid rsum1_24)
def rsum1_22o : List ROp := [.v 82 (.mov (.t 9)),
   .v 83 (.mov (.t 10)),
   .v 84 (.bin .xor (.t 82) (.t 83)),
   .v 85 (.mov (.t 11)),
   .v 86 (.bin .xor (.t 84) (.t 85)),
   .v 14 (.mov (.t 86)),
   .v 15 (.mov (.c (.int .u32 3395469782)))]
def rsum1_22 : AK := .seq (.reg rsum1_22o [3, 4, 5, 6, 8, 9, 10, 11, 12, 13, 14, 15]) rsum1_23
def rsum1_21 : AK := .block 5 rsum1_22
def rsum1_19 : AK := .seq rsum1_21 rsum1_20
def rsum1_45 : AK := .cond (.t 79) .skip (.exit 4)
def rsum1_44o : List ROp := [.v 78 (.mov (.t 13)),
   .v 79 (.bin .lss (.t 78) (.c (.int .i64 80)))]
def rsum1_44 : AK := .seq (.reg rsum1_44o [3, 4, 5, 6, 8, 9, 10, 11, 12, 13, 79]) rsum1_45
def rsum1_18 : AK := .seq rsum1_44 rsum1_19
def rsum1_L1 : AK := .loop rsum1_18
def rsum1_17 : AK := .block 4 rsum1_L1
def rsum1_16o : List ROp := [.v 13 (.mov (.c (.int .i64 0)))]
def rsum1_16 : AK := .seq (.reg rsum1_16o [3, 4, 5, 6, 8, 9, 10, 11, 12, 13]) rsum1_17
def rsum1_14 : AK := .seq rsum1_16 rsum1_15
def rsum1_13o : List ROp := [.val 63 true 115063 (.mov (.t 4)),
   .val 64 true 115064 (.idxA 1 (.t 63) (.c (.int .i64 0))),
   .val 65 true 115065 (.ld false 1 (.t 64)),
   .val 66 true 115066 (.mov (.t 4)),
   .val 67 true 115067 (.idxA 1 (.t 66) (.c (.int .i64 1))),
   .val 68 true 115068 (.ld false 1 (.t 67)),
   .val 69 true 115069 (.mov (.t 4)),
   .val 70 true 115070 (.idxA 1 (.t 69) (.c (.int .i64 2))),
   .val 71 true 115071 (.ld false 1 (.t 70)),
   .val 72 true 115072 (.mov (.t 4)),
   .val 73 true 115073 (.idxA 1 (.t 72) (.c (.int .i64 3))),
   .val 74 true 115074 (.ld false 1 (.t 73)),
   .val 75 true 115075 (.mov (.t 4)),
   .val 76 true 115076 (.idxA 1 (.t 75) (.c (.int .i64 4))),
   .val 77 true 115077 (.ld false 1 (.t 76)),
   .val 8 true 115008 (.mov (.t 65)),
   .val 9 true 115009 (.mov (.t 68)),
   .val 10 true 115010 (.mov (.t 71)),
   .val 11 true 115011 (.mov (.t 74)),
   .v 12 (.mov (.t 77))]
def rsum1_13 : AK := .seq (.reg rsum1_13o [3, 4, 5, 6, 8, 9, 10, 11, 12]) rsum1_14
def rsum1_50o : List ROp := [.v 34 (.mov (.t 7)),
   .v 35 (.bin .add (.t 34) (.c (.int .i64 1))),
   .v 7 (.mov (.t 35))]
def rsum1_50 : AK := .reg rsum1_50o [3, 4, 5, 6, 7]
def rsum1_52o : List ROp := [.val 36 true 115036 (.mov (.t 6)),
   .val 37 true 115037 (.mov (.t 6)),
   .val 38 true 115038 (.mov (.t 7)),
   .val 39 true 115039 (.bin .sub (.t 38) (.c (.int .i64 3))),
   .val 40 true 115040 (.idxA 1 (.t 37) (.t 39)),
   .val 41 true 115041 (.ld false 1 (.t 40)),
   .val 42 true 115042 (.mov (.t 6)),
   .val 43 true 115043 (.mov (.t 7)),
   .val 44 true 115044 (.bin .sub (.t 43) (.c (.int .i64 8))),
   .val 45 true 115045 (.idxA 1 (.t 42) (.t 44)),
   .val 46 true 115046 (.ld false 1 (.t 45)),
   .val 47 true 115047 (.bin .xor (.t 41) (.t 46)),
   .val 48 true 115048 (.mov (.t 6)),
   .val 49 true 115049 (.mov (.t 7)),
   .val 50 true 115050 (.bin .sub (.t 49) (.c (.int .i64 14))),
   .val 51 true 115051 (.idxA 1 (.t 48) (.t 50)),
   .val 52 true 115052 (.ld false 1 (.t 51)),
   .val 53 true 115053 (.bin .xor (.t 47) (.t 52)),
   .val 54 true 115054 (.mov (.t 6)),
   .val 55 true 115055 (.mov (.t 7)),
   .val 56 true 115056 (.bin .sub (.t 55) (.c (.int .i64 16))),
   .val 57 true 115057 (.idxA 1 (.t 54) (.t 56)),
   .val 58 true 115058 (.ld false 1 (.t 57)),
   .v 59 (.bin .xor (.t 53) (.t 58)),
   .cal (some 60) false 115060 39 [(.t 59), (.c (.int .i64 1))],
   .eff 61 false 115061 (.bsl 1 [(.t 60)]),
   .eff 62 false 115062 (.app 1 4 (.t 36) (.t 61)),
   .v 6 (.mov (.t 62))]
def rsum1_52 : AK := .reg rsum1_52o [3, 4, 5, 6, 7]
def rsum1_51 : AK := .block 3 rsum1_52
def rsum1_49 : AK := .seq rsum1_51 rsum1_50
def rsum1_54 : AK := .cond (.t 33) .skip (.exit 2)
def rsum1_53o : List ROp := [.v 32 (.mov (.t 7)),
   .v 33 (.bin .lss (.t 32) (.c (.int .i64 80)))]
def rsum1_53 : AK := .seq (.reg rsum1_53o [3, 4, 5, 6, 7, 33]) rsum1_54
def rsum1_48 : AK := .seq rsum1_53 rsum1_49
def rsum1_L2 : AK := .loop rsum1_48
def rsum1_47 : AK := .block 2 rsum1_L2
def rsum1_46o : List ROp := [.v 7 (.mov (.c (.int .i64 16)))]
def rsum1_46 : AK := .seq (.reg rsum1_46o [3, 4, 5, 6, 7]) rsum1_47
def rsum1_12 : AK := .seq rsum1_46 rsum1_13
def rsum1_11o : List ROp := [.v 26 (.mov (.t 3)),
   .v 27 (.mov (.t 5)),
   .v 28 (.mov (.t 5)),
   .v 29 (.bin .add (.t 28) (.c (.int .i64 64))),
   .v 30 (.slcA 1 (.t 26) (some (.t 27)) (some (.t 29))),
   .cal (some 31) false 115031 38 [(.t 30)],
   .v 6 (.mov (.t 31))]
def rsum1_11 : AK := .seq (.reg rsum1_11o [3, 4, 5, 6]) rsum1_12
def rsum1_10 : AK := .block 1 rsum1_11
def rsum1_8 : AK := .seq rsum1_10 rsum1_9
def rsum1_56 : AK := .cond (.t 23) .skip (.exit 0)
def rsum1_55o : List ROp := [.v 20 (.mov (.t 5)),
   .v 21 (.mov (.t 3)),
   .v 22 (.len false (.t 21)),
   .v 23 (.bin .lss (.t 20) (.t 22))]
def rsum1_55 : AK := .seq (.reg rsum1_55o [3, 4, 5, 23]) rsum1_56
def rsum1_7 : AK := .seq rsum1_55 rsum1_8
def rsum1_L0 : AK := .loop rsum1_7
def rsum1_6 : AK := .block 0 rsum1_L0
def rsum1_5o : List ROp := [.v 5 (.mov (.c (.int .i64 0)))]
def rsum1_5 : AK := .seq (.reg rsum1_5o [3, 4, 5]) rsum1_6
def rsum1_3 : AK := .seq rsum1_5 rsum1_4
def rsum1_2o : List ROp := [.eff 19 false 115019 (.bsl 1 [(.c (.int .u32 1732584193)), (.c (.int .u32 4023233417)), (.c (.int .u32 2562383102)), (.c (.int .u32 271733878)), (.c (.int .u32 3285377520))]),
   .v 4 (.mov (.t 19))]
def rsum1_2 : AK := .seq (.reg rsum1_2o [3, 4]) rsum1_3
def rsum1_1o : List ROp := [.v 17 (.mov (.t 0)),
   .cal (some 18) false 115018 37 [(.t 17)],
   .v 3 (.mov (.t 18))]
def rsum1_1 : AK := .seq (.reg rsum1_1o [3]) rsum1_2
def rsum1_0o : List ROp := [.v 2 (.mov (.c (.str [])))]
def rsum1_0 : AK := .seq (.reg rsum1_0o [0]) rsum1_1
def rsum1 : AK := rsum1_0
theorem rsum1_vc (P : Program) (E : Env) (Q : KQ) (st : St) :
  (vcW P E rsum1_4 Q st = aopsW P rsum1_4o st (KS.reg [2] (KQ.seq P E .ret Q))) ∧
  (vcW P E rsum1_9 Q st = aopsW P rsum1_9o st (KS.reg [3, 4, 5] Q)) ∧
  (vcW P E rsum1_15 Q st = aopsW P rsum1_15o st (KS.reg [3, 4, 5] Q)) ∧
  (vcW P E rsum1_20 Q st = aopsW P rsum1_20o st (KS.reg [3, 4, 5, 6, 8, 9, 10, 11, 12, 13] Q)) ∧
  (vcW P E rsum1_31 Q st = aopsW P rsum1_31o st (KS.reg [3, 4, 5, 6, 8, 9, 10, 11, 12, 13] Q)) ∧
  (vcW P E rsum1_30 Q st = aopsW P rsum1_30o st (KS.reg [3, 4, 5, 6, 9, 10, 11, 12, 13, 16] (KQ.seq P E rsum1_31 Q))) ∧
  (vcW P E rsum1_29 Q st = aopsW P rsum1_29o st (KS.reg [3, 4, 5, 6, 8, 10, 11, 12, 13, 16] (KQ.seq P E rsum1_30 Q))) ∧
  (vcW P E rsum1_28 Q st = aopsW P rsum1_28o st (KS.reg [3, 4, 5, 6, 8, 9, 11, 12, 13, 16] (KQ.seq P E rsum1_29 Q))) ∧
  (vcW P E rsum1_27 Q st = aopsW P rsum1_27o st (KS.reg [3, 4, 5, 6, 8, 9, 10, 12, 13, 16] (KQ.seq P E rsum1_28 Q))) ∧
  (vcW P E rsum1_26 Q st = aopsW P rsum1_26o st (KS.reg [3, 4, 5, 6, 8, 9, 10, 11, 13, 16] (KQ.seq P E rsum1_27 Q))) ∧
  (vcW P E rsum1_35 Q st = aopsW P rsum1_35o st (KS.reg [3, 4, 5, 6, 8, 9, 10, 11, 12, 13, 14, 15] Q)) ∧
  (vcW P E rsum1_34 Q st = aopsW P rsum1_34o st (KS.reg [3, 4, 5, 6, 8, 9, 10, 11, 12, 13, 14] (KQ.seq P E rsum1_35 Q))) ∧
  (vcW P E rsum1_33 Q st = cndW P E (ev st (.t 108)) rsum1_34 .skip Q st) ∧
  (vcW P E rsum1_32 Q st = aopsW P rsum1_32o st (KS.reg [3, 4, 5, 6, 8, 9, 10, 11, 12, 13, 14, 15, 108] (KQ.seq P E rsum1_33 Q))) ∧
  (vcW P E rsum1_39 Q st = aopsW P rsum1_39o st (KS.reg [3, 4, 5, 6, 8, 9, 10, 11, 12, 13, 14, 15] Q)) ∧
  (vcW P E rsum1_38 Q st = aopsW P rsum1_38o st (KS.reg [3, 4, 5, 6, 8, 9, 10, 11, 12, 13, 14] (KQ.seq P E rsum1_39 Q))) ∧
  (vcW P E rsum1_37 Q st = cndW P E (ev st (.t 101)) rsum1_38 .skip Q st) ∧
  (vcW P E rsum1_36 Q st = aopsW P rsum1_36o st (KS.reg [3, 4, 5, 6, 8, 9, 10, 11, 12, 13, 14, 15, 101] (KQ.seq P E rsum1_37 Q))) ∧
  (vcW P E rsum1_43 Q st = aopsW P rsum1_43o st (KS.reg [3, 4, 5, 6, 8, 9, 10, 11, 12, 13, 14, 15] Q)) ∧
  (vcW P E rsum1_42 Q st = aopsW P rsum1_42o st (KS.reg [3, 4, 5, 6, 8, 9, 10, 11, 12, 13, 14] (KQ.seq P E rsum1_43 Q))) ∧
  (vcW P E rsum1_41 Q st = cndW P E (ev st (.t 88)) rsum1_42 .skip Q st) ∧
  (vcW P E rsum1_40 Q st = aopsW P rsum1_40o st (KS.reg [3, 4, 5, 6, 8, 9, 10, 11, 12, 13, 14, 15, 88] (KQ.seq P E rsum1_41 Q))) ∧
  (vcW P E rsum1_22 Q st = aopsW P rsum1_22o st (KS.reg [3, 4, 5, 6, 8, 9, 10, 11, 12, 13, 14, 15] (KQ.seq P E rsum1_23 Q))) ∧
  (vcW P E rsum1_21 Q st = vcW P E rsum1_22 (KQ.blk 5 Q) st) ∧
  (vcW P E rsum1_19 Q st = vcW P E rsum1_21 (KQ.seq P E rsum1_20 Q) st) ∧
  (vcW P E rsum1_45 Q st = cndW P E (ev st (.t 79)) .skip (.exit 4) Q st) ∧
  (vcW P E rsum1_44 Q st = aopsW P rsum1_44o st (KS.reg [3, 4, 5, 6, 8, 9, 10, 11, 12, 13, 79] (KQ.seq P E rsum1_45 Q))) ∧
  (vcW P E rsum1_18 Q st = vcW P E rsum1_44 (KQ.seq P E rsum1_19 Q) st) ∧
  (vcW P E rsum1_17 Q st = vcW P E rsum1_L1 (KQ.blk 4 Q) st) ∧
  (vcW P E rsum1_16 Q st = aopsW P rsum1_16o st (KS.reg [3, 4, 5, 6, 8, 9, 10, 11, 12, 13] (KQ.seq P E rsum1_17 Q))) ∧
  (vcW P E rsum1_14 Q st = vcW P E rsum1_16 (KQ.seq P E rsum1_15 Q) st) ∧
  (vcW P E rsum1_13 Q st = aopsW P rsum1_13o st (KS.reg [3, 4, 5, 6, 8, 9, 10, 11, 12] (KQ.seq P E rsum1_14 Q))) ∧
  (vcW P E rsum1_50 Q st = aopsW P rsum1_50o st (KS.reg [3, 4, 5, 6, 7] Q)) ∧
  (vcW P E rsum1_52 Q st = aopsW P rsum1_52o st (KS.reg [3, 4, 5, 6, 7] Q)) ∧
  (vcW P E rsum1_51 Q st = vcW P E rsum1_52 (KQ.blk 3 Q) st) ∧
  (vcW P E rsum1_49 Q st = vcW P E rsum1_51 (KQ.seq P E rsum1_50 Q) st) ∧
  (vcW P E rsum1_54 Q st = cndW P E (ev st (.t 33)) .skip (.exit 2) Q st) ∧
  (vcW P E rsum1_53 Q st = aopsW P rsum1_53o st (KS.reg [3, 4, 5, 6, 7, 33] (KQ.seq P E rsum1_54 Q))) ∧
  (vcW P E rsum1_48 Q st = vcW P E rsum1_53 (KQ.seq P E rsum1_49 Q) st) ∧
  (vcW P E rsum1_47 Q st = vcW P E rsum1_L2 (KQ.blk 2 Q) st) ∧
  (vcW P E rsum1_46 Q st = aopsW P rsum1_46o st (KS.reg [3, 4, 5, 6, 7] (KQ.seq P E rsum1_47 Q))) ∧
  (vcW P E rsum1_12 Q st = vcW P E rsum1_46 (KQ.seq P E rsum1_13 Q) st) ∧
  (vcW P E rsum1_11 Q st = aopsW P rsum1_11o st (KS.reg [3, 4, 5, 6] (KQ.seq P E rsum1_12 Q))) ∧
  (vcW P E rsum1_10 Q st = vcW P E rsum1_11 (KQ.blk 1 Q) st) ∧
  (vcW P E rsum1_8 Q st = vcW P E rsum1_10 (KQ.seq P E rsum1_9 Q) st) ∧
  (vcW P E rsum1_56 Q st = cndW P E (ev st (.t 23)) .skip (.exit 0) Q st) ∧
  (vcW P E rsum1_55 Q st = aopsW P rsum1_55o st (KS.reg [3, 4, 5, 23] (KQ.seq P E rsum1_56 Q))) ∧
  (vcW P E rsum1_7 Q st = vcW P E rsum1_55 (KQ.seq P E rsum1_8 Q) st) ∧
  (vcW P E rsum1_6 Q st = vcW P E rsum1_L0 (KQ.blk 0 Q) st) ∧
  (vcW P E rsum1_5 Q st = aopsW P rsum1_5o st (KS.reg [3, 4, 5] (KQ.seq P E rsum1_6 Q))) ∧
  (vcW P E rsum1_3 Q st = vcW P E rsum1_5 (KQ.seq P E rsum1_4 Q) st) ∧
  (vcW P E rsum1_2 Q st = aopsW P rsum1_2o st (KS.reg [3, 4] (KQ.seq P E rsum1_3 Q))) ∧
  (vcW P E rsum1_1 Q st = aopsW P rsum1_1o st (KS.reg [3] (KQ.seq P E rsum1_2 Q))) ∧
  (vcW P E rsum1_0 Q st = aopsW P rsum1_0o st (KS.reg [0] (KQ.seq P E rsum1_1 Q))) ∧
  (vcW P E rsum1 Q st = vcW P E rsum1_0 Q st) :=
  ⟨rfl, rfl, rfl, rfl, rfl, rfl, rfl, rfl, rfl, rfl, rfl, rfl, vcW_cond, rfl, rfl, rfl, vcW_cond, rfl, rfl, rfl, vcW_cond, rfl, rfl, rfl, rfl, vcW_cond, rfl, rfl, rfl, rfl, rfl, rfl, rfl, rfl, rfl, rfl, vcW_cond, rfl, rfl, rfl, rfl, rfl, rfl, rfl, rfl, vcW_cond, rfl, rfl, rfl, rfl, rfl, rfl, rfl, rfl, rfl⟩
theorem rsum1_jn (P : Program) (E : Env) (Q : KQ) (st : St) :
  (vcW P E rsum1_25 Q st = vcW P E rsum1_32 (KQ.seq P E (.mid rsum1_26) Q) st) ∧
  (vcW P E rsum1_24 Q st = vcW P E rsum1_36 (KQ.seq P E (.mid rsum1_25) Q) st) ∧
  (vcW P E rsum1_23 Q st = vcW P E rsum1_40 (KQ.seq P E (.mid rsum1_24) Q) st) :=
  ⟨rfl, rfl, rfl⟩
attribute [go_sem] rsum1_vc rsum1_4o rsum1_9o rsum1_15o rsum1_20o rsum1_31o rsum1_30o rsum1_29o rsum1_28o rsum1_27o rsum1_26o rsum1_35o rsum1_34o rsum1_32o rsum1_39o rsum1_38o rsum1_36o rsum1_43o rsum1_42o rsum1_40o rsum1_22o rsum1_44o rsum1_16o rsum1_13o rsum1_50o rsum1_52o rsum1_53o rsum1_46o rsum1_11o rsum1_55o rsum1_5o rsum1_2o rsum1_1o rsum1_0o
noncomputable def rsum1B : Code := (Tryd.f29.body).getD .skip
theorem rsum1_eq : trCode Tryd.prog 164 115000 rsum1B = rsum1.erase 115000 := by kernel_rfl
theorem rsum1_body : Tryd.f29.body = some rsum1B := by kernel_rfl
theorem rsum1_n : Tryd.f29.ntmps = 164 := by kernel_rfl
theorem rsum1_r : Tryd.f29.results.toList.map (trRes Tryd.prog) = [.tmp 2] := by kernel_rfl
theorem rsum1_spec {h : HP} {a0 : AV} {Post : HP → AV → List AV → Prop} (hp : ∀ (E : Env) (R : HP → AV → List AV → Prop), E.N ≤ 1000000 → PostTo Post R → vcW Tryd.prog E rsum1 (KQ.post [.tmp 2] 1 R) ⟨[(0, a0)], h⟩) : Eng.Spec Tryd.prog 29 h [a0] Post := spec_wk (
  spec_of (c := rsum1.erase 115000) (B := 115000) Tryd.func29 rsum1_body (by rw [rsum1_n, rsum1_eq]) (by rw [rsum1_n]; decide) (by rw [rsum1_n]; exact (by decide : 1 ≤ 164)) (fun E hE hB hrd => by
    have hN : E.N ≤ 1000000 := by
      rw [hE, rsum1_n]; decide
    rw [rsum1_r, ← hB]
    exact awp_slots [(0, a0)] ⟨rfl, trivial⟩ (vcW_sound hN _ (hp E _ hN fin_self))))
/- cartulary/cartularyref01.Hex -/
def rhex_3o : List ROp := [.v 30 (.mov (.t 3)),
   .v 2 (.mov (.t 30))]
def rhex_3 : AK := .seq (.reg rhex_3o [2]) .ret
def rhex_8o : List ROp := [.v 10 (.mov (.t 4)),
   .v 11 (.bin .add (.t 10) (.c (.int .i64 1))),
   .v 4 (.mov (.t 11))]
def rhex_8 : AK := .reg rhex_8o [0, 3, 4]
def rhex_11o : List ROp := [.val 15 true 116015 (.mov (.t 3)),
   .val 16 true 116016 (.mov (.t 5)),
   .val 17 true 116017 (.bin .quo (.t 16) (.c (.int .u8 16))),
   .val 18 true 116018 (.mov (.t 5)),
   .val 19 true 116019 (.bin .quo (.t 18) (.c (.int .u8 16))),
   .val 20 true 116020 (.bin .add (.t 19) (.c (.int .u8 1))),
   .val 21 true 116021 (.slcS (.c (.str [48, 49, 50, 51, 52, 53, 54, 55, 56, 57, 97, 98, 99, 100, 101, 102])) (some (.t 17)) (some (.t 20))),
   .val 22 true 116022 (.mov (.t 5)),
   .val 23 true 116023 (.bin .rem (.t 22) (.c (.int .u8 16))),
   .val 24 true 116024 (.mov (.t 5)),
   .val 25 true 116025 (.bin .rem (.t 24) (.c (.int .u8 16))),
   .val 26 true 116026 (.bin .add (.t 25) (.c (.int .u8 1))),
   .val 27 true 116027 (.slcS (.c (.str [48, 49, 50, 51, 52, 53, 54, 55, 56, 57, 97, 98, 99, 100, 101, 102])) (some (.t 23)) (some (.t 26))),
   .v 28 (.bin .add (.t 21) (.t 27)),
   .v 29 (.bin .add (.t 15) (.t 28)),
   .v 3 (.mov (.t 29))]
def rhex_11 : AK := .reg rhex_11o [0, 3, 4]
def rhex_10o : List ROp := [.v 12 (.mov (.t 0)),
   .v 13 (.mov (.t 4)),
   .v 14 (.sidx (.t 12) (.t 13)),
   .v 5 (.mov (.t 14))]
def rhex_10 : AK := .seq (.reg rhex_10o [0, 3, 4, 5]) rhex_11
def rhex_9 : AK := .block 1 rhex_10
def rhex_7 : AK := .seq rhex_9 rhex_8
def rhex_13 : AK := .cond (.t 9) .skip (.exit 0)
def rhex_12o : List ROp := [.v 6 (.mov (.t 4)),
   .v 7 (.mov (.t 0)),
   .v 8 (.len true (.t 7)),
   .v 9 (.bin .lss (.t 6) (.t 8))]
def rhex_12 : AK := .seq (.reg rhex_12o [0, 3, 4, 9]) rhex_13
def rhex_6 : AK := .seq rhex_12 rhex_7
def rhex_L0 : AK := .loop rhex_6
def rhex_5 : AK := .block 0 rhex_L0
def rhex_4o : List ROp := [.v 4 (.mov (.c (.int .i64 0)))]
def rhex_4 : AK := .seq (.reg rhex_4o [0, 3, 4]) rhex_5
def rhex_2 : AK := .seq rhex_4 rhex_3
def rhex_1o : List ROp := [.v 3 (.mov (.c (.str [])))]
def rhex_1 : AK := .seq (.reg rhex_1o [0, 3]) rhex_2
def rhex_0o : List ROp := [.v 2 (.mov (.c (.str [])))]
def rhex_0 : AK := .seq (.reg rhex_0o [0]) rhex_1
def rhex : AK := rhex_0
theorem rhex_vc (P : Program) (E : Env) (Q : KQ) (st : St) :
  (vcW P E rhex_3 Q st = aopsW P rhex_3o st (KS.reg [2] (KQ.seq P E .ret Q))) ∧
  (vcW P E rhex_8 Q st = aopsW P rhex_8o st (KS.reg [0, 3, 4] Q)) ∧
  (vcW P E rhex_11 Q st = aopsW P rhex_11o st (KS.reg [0, 3, 4] Q)) ∧
  (vcW P E rhex_10 Q st = aopsW P rhex_10o st (KS.reg [0, 3, 4, 5] (KQ.seq P E rhex_11 Q))) ∧
  (vcW P E rhex_9 Q st = vcW P E rhex_10 (KQ.blk 1 Q) st) ∧
  (vcW P E rhex_7 Q st = vcW P E rhex_9 (KQ.seq P E rhex_8 Q) st) ∧
  (vcW P E rhex_13 Q st = cndW P E (ev st (.t 9)) .skip (.exit 0) Q st) ∧
  (vcW P E rhex_12 Q st = aopsW P rhex_12o st (KS.reg [0, 3, 4, 9] (KQ.seq P E rhex_13 Q))) ∧
  (vcW P E rhex_6 Q st = vcW P E rhex_12 (KQ.seq P E rhex_7 Q) st) ∧
  (vcW P E rhex_5 Q st = vcW P E rhex_L0 (KQ.blk 0 Q) st) ∧
  (vcW P E rhex_4 Q st = aopsW P rhex_4o st (KS.reg [0, 3, 4] (KQ.seq P E rhex_5 Q))) ∧
  (vcW P E rhex_2 Q st = vcW P E rhex_4 (KQ.seq P E rhex_3 Q) st) ∧
  (vcW P E rhex_1 Q st = aopsW P rhex_1o st (KS.reg [0, 3] (KQ.seq P E rhex_2 Q))) ∧
  (vcW P E rhex_0 Q st = aopsW P rhex_0o st (KS.reg [0] (KQ.seq P E rhex_1 Q))) ∧
  (vcW P E rhex Q st = vcW P E rhex_0 Q st) :=
  ⟨rfl, rfl, rfl, rfl, rfl, rfl, vcW_cond, rfl, rfl, rfl, rfl, rfl, rfl, rfl, rfl⟩
theorem rhex_jn (P : Program) (E : Env) (Q : KQ) (st : St) :
  (True) :=
  trivial
attribute [go_sem] rhex_vc rhex_3o rhex_8o rhex_11o rhex_10o rhex_12o rhex_4o rhex_1o rhex_0o
noncomputable def rhexB : Code := (Tryd.f28.body).getD .skip
theorem rhex_eq : trCode Tryd.prog 31 116000 rhexB = rhex.erase 116000 := by kernel_rfl
theorem rhex_body : Tryd.f28.body = some rhexB := by kernel_rfl
theorem rhex_n : Tryd.f28.ntmps = 31 := by kernel_rfl
theorem rhex_r : Tryd.f28.results.toList.map (trRes Tryd.prog) = [.tmp 2] := by kernel_rfl
theorem rhex_spec {h : HP} {a0 : AV} {Post : HP → AV → List AV → Prop} (hp : ∀ (E : Env) (R : HP → AV → List AV → Prop), E.N ≤ 1000000 → PostTo Post R → vcW Tryd.prog E rhex (KQ.post [.tmp 2] 1 R) ⟨[(0, a0)], h⟩) : Eng.Spec Tryd.prog 28 h [a0] Post := spec_wk (
  spec_of (c := rhex.erase 116000) (B := 116000) Tryd.func28 rhex_body (by rw [rhex_n, rhex_eq]) (by rw [rhex_n]; decide) (by rw [rhex_n]; exact (by decide : 1 ≤ 31)) (fun E hE hB hrd => by
    have hN : E.N ≤ 1000000 := by
      rw [hE, rhex_n]; decide
    rw [rhex_r, ← hB]
    exact awp_slots [(0, a0)] ⟨rfl, trivial⟩ (vcW_sound hN _ (hp E _ hN fin_self))))
end Go.Proofs.YtlnplfjcnncakaaDoor.Cod
