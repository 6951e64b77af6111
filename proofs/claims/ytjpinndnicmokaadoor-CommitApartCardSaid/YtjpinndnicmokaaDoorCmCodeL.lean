/- Code of functions as the engine reads it: written by a program (code2.py). -/
import Derived.Test.YtjpinndnicmokaaDoorCmCode
import Derived.Test.YtjpinndnicmokaaDoorProg
import Derived.KernelRfl
set_option linter.all false
namespace Go.Proofs.YtjpinndnicmokaaDoor.Cod
open Eng
set_option maxRecDepth 100000
/- cartulary/cartularylaw15.awake -/
def awake_4o : List ROp := [.v 20 (.mov (.t 3)),
   .v 21 (.bin .eql (.t 20) (.c (.int .i64 3))),
   .v 22 (.mov (.t 21)),
   .gval 23 22 true false 50023 (.fldA false 0 1 (.t 2)),
   .gval 24 22 true false 50024 (.ld false 1 (.t 23)),
   .gval 25 22 true false 50025 (.bin .eql (.t 24) (.c (.str []))),
   .v 26 (.pick (.t 22) (.t 25) (.c (.bool false))),
   .v 27 (.mov (.t 26)),
   .gval 28 27 true false 50028 (.mov (.t 5)),
   .gval 29 27 true false 50029 (.bin .eql (.t 28) (.c (.int .i64 0))),
   .v 30 (.pick (.t 27) (.t 29) (.c (.bool false))),
   .v 31 (.mov (.t 30)),
   .gval 32 31 true false 50032 (.fldA true 2 3 (.t 4)),
   .gval 33 31 true false 50033 (.fldA false 2 1 (.t 32)),
   .gval 34 31 true false 50034 (.ld false 1 (.t 33)),
   .gval 35 31 true false 50035 (.bin .eql (.t 34) (.c (.int .i64 90))),
   .v 36 (.pick (.t 31) (.t 35) (.c (.bool false))),
   .v 37 (.mov (.t 36)),
   .gval 38 37 true false 50038 (.fldA true 2 3 (.t 4)),
   .gval 39 37 true false 50039 (.fldA false 0 1 (.t 38)),
   .gval 40 37 true false 50040 (.ld false 1 (.t 39)),
   .gval 41 37 true false 50041 (.bin .eql (.t 40) (.c (.str [97, 110, 110, 32, 60, 97, 62]))),
   .v 42 (.pick (.t 37) (.t 41) (.c (.bool false))),
   .v 43 (.mov (.t 42)),
   .gval 44 43 true false 50044 (.fldA true 5 3 (.t 4)),
   .gval 45 43 true false 50045 (.fldA false 1 1 (.t 44)),
   .gval 46 43 true false 50046 (.ld false 1 (.t 45)),
   .gval 47 43 true false 50047 (.bin .eql (.t 46) (.c (.int .i64 7))),
   .v 48 (.pick (.t 43) (.t 47) (.c (.bool false))),
   .v 49 (.mov (.t 48)),
   .gval 50 49 true false 50050 (.fldA false 8 1 (.t 4)),
   .gval 51 49 true false 50051 (.ld false 1 (.t 50)),
   .gval 52 49 true false 50052 (.bin .eql (.t 51) (.c (.str [104, 105]))),
   .v 53 (.pick (.t 49) (.t 52) (.c (.bool false))),
   .v 0 (.mov (.t 53))]
def awake_4 : AK := .seq (.reg awake_4o [0]) .ret
def awake_3o : List ROp := [.v 14 (.mov (.t 1)),
   .v 15 (.bin .add (.c (.str [116, 114, 101, 101, 32])) (.t 14)),
   .v 16 (.bin .add (.t 15) (.c (.str [10, 97, 117, 116, 104, 111, 114, 32, 97, 110, 110, 32, 60, 97, 62, 32, 48, 32, 43, 48, 49, 51, 48, 10, 99, 111, 109, 109, 105, 116, 116, 101, 114, 32, 97, 110, 110, 32, 55, 32, 43, 48, 48, 48, 48, 10, 10, 104, 105]))),
   .cal (some 17) false 50017 17 [(.t 16)],
   .v 13 (.mov (.t 17)),
   .v 18 (.ext (.t 13) 0),
   .v 19 (.ext (.t 13) 1),
   .eff 4 false 50004 (.alloc [.str [], .nilsl, .str [], .int .i64 0, .int .i64 0, .str [], .int .i64 0, .int .i64 0, .str []]),
   .effN false 50000 (.st 9 (.t 4) (.t 18)),
   .v 5 (.mov (.t 19))]
def awake_3 : AK := .seq (.reg awake_3o [2, 3, 4, 5]) awake_4
def awake_2o : List ROp := [.v 7 (.mov (.t 1)),
   .v 8 (.bin .add (.c (.str [116, 114, 101, 101, 32])) (.t 7)),
   .v 9 (.bin .add (.t 8) (.c (.str [10, 97, 117, 116, 104, 111, 114, 32, 97, 110, 110, 32, 60, 97, 62, 32, 48, 32, 43, 48, 49, 51, 48, 10, 99, 111, 109, 109, 105, 116, 116, 101, 114, 32, 97, 110, 110, 32, 55, 32, 45, 48, 48, 48, 48, 10, 10, 104, 105]))),
   .cal (some 10) false 50010 17 [(.t 9)],
   .v 6 (.mov (.t 10)),
   .v 11 (.ext (.t 6) 0),
   .v 12 (.ext (.t 6) 1),
   .eff 2 false 50002 (.alloc [.str [], .nilsl, .str [], .int .i64 0, .int .i64 0, .str [], .int .i64 0, .int .i64 0, .str []]),
   .effN false 50000 (.st 9 (.t 2) (.t 11)),
   .v 3 (.mov (.t 12))]
def awake_2 : AK := .seq (.reg awake_2o [1, 2, 3]) awake_3
def awake_1o : List ROp := [.v 1 (.mov (.c (.str [52, 98, 56, 50, 53, 100, 99, 54, 52, 50, 99, 98, 54, 101, 98, 57, 97, 48, 54, 48, 101, 53, 52, 98, 102, 56, 100, 54, 57, 50, 56, 56, 102, 98, 101, 101, 52, 57, 48, 52])))]
def awake_1 : AK := .seq (.reg awake_1o [1]) awake_2
def awake_0o : List ROp := [.v 0 (.mov (.c (.bool false)))]
def awake_0 : AK := .seq (.reg awake_0o []) awake_1
def awake : AK := awake_0
theorem awake_vc (P : Program) (E : Env) (Q : KQ) (st : St) :
  (vcW P E awake_4 Q st = aopsW P awake_4o st (KS.reg [0] (KQ.seq P E .ret Q))) ∧
  (vcW P E awake_3 Q st = aopsW P awake_3o st (KS.reg [2, 3, 4, 5] (KQ.seq P E awake_4 Q))) ∧
  (vcW P E awake_2 Q st = aopsW P awake_2o st (KS.reg [1, 2, 3] (KQ.seq P E awake_3 Q))) ∧
  (vcW P E awake_1 Q st = aopsW P awake_1o st (KS.reg [1] (KQ.seq P E awake_2 Q))) ∧
  (vcW P E awake_0 Q st = aopsW P awake_0o st (KS.reg [] (KQ.seq P E awake_1 Q))) ∧
  (vcW P E awake Q st = vcW P E awake_0 Q st) :=
  ⟨rfl, rfl, rfl, rfl, rfl, rfl⟩
theorem awake_jn (P : Program) (E : Env) (Q : KQ) (st : St) :
  (True) :=
  trivial
attribute [go_sem] awake_vc awake_4o awake_3o awake_2o awake_1o awake_0o
noncomputable def awakeB : Code := (Tryd.f12.body).getD .skip
theorem awake_eq : trCode Tryd.prog 54 50000 awakeB = awake.erase 50000 := by kernel_rfl
theorem awake_body : Tryd.f12.body = some awakeB := by kernel_rfl
theorem awake_n : Tryd.f12.ntmps = 54 := by kernel_rfl
theorem awake_r : Tryd.f12.results.toList.map (trRes Tryd.prog) = [.tmp 0] := by kernel_rfl
theorem awake_spec {h : HP} {Post : HP → AV → List AV → Prop} (hp : ∀ (E : Env) (R : HP → AV → List AV → Prop), E.N ≤ 1000000 → PostTo Post R → vcW Tryd.prog E awake (KQ.post [.tmp 0] 0 R) ⟨[], h⟩) : Eng.Spec Tryd.prog 12 h [] Post := spec_wk (
  spec_of (c := awake.erase 50000) (B := 50000) Tryd.func12 awake_body (by rw [awake_n, awake_eq]) (by rw [awake_n]; decide) (by rw [awake_n]; exact (by decide : 0 ≤ 54)) (fun E hE hB hrd => by
    have hN : E.N ≤ 1000000 := by
      rw [hE, awake_n]; decide
    rw [awake_r, ← hB]
    exact awp_slots [] trivial (vcW_sound hN _ (hp E _ hN fin_self))))
/- cartulary/cartularylaw15.few -/
def few_3o : List ROp := [.v 16 (.ld true 9 (.t 1)),
   .effN false 51000 (.st 9 (.t 2) (.t 16))]
def few_3 : AK := .seq (.reg few_3o [2]) .ret
def few_2o : List ROp := [.eff 11 false 51011 (.bsl 1 []),
   .v 12 (.fldA false 1 1 (.t 1)),
   .v 13 (.ld false 1 (.t 12)),
   .eff 14 false 51014 (.app 1 16 (.t 11) (.t 13)),
   .v 15 (.fldA false 1 1 (.t 1)),
   .effN false 51000 (.st 1 (.t 15) (.t 14))]
def few_2 : AK := .seq (.reg few_2o [1, 2]) few_3
def few_6o : List ROp := [.v 7 (.fldA false 1 1 (.t 1)),
   .v 8 (.ld false 1 (.t 7)),
   .v 9 (.slcA 1 (.t 8) none (some (.c (.int .i64 40)))),
   .v 10 (.fldA false 1 1 (.t 1)),
   .effN false 51000 (.st 1 (.t 10) (.t 9))]
def few_6 : AK := .reg few_6o [1, 2]
def few_5 : AK := .cond (.t 6) few_6 .skip
def few_4o : List ROp := [.v 3 (.fldA false 1 1 (.t 1)),
   .v 4 (.ld false 1 (.t 3)),
   .v 5 (.len false (.t 4)),
   .v 6 (.bin .gtr (.t 5) (.c (.int .i64 40)))]
def few_4 : AK := .seq (.reg few_4o [1, 2, 6]) few_5
def few_1 : AK := .seq few_4 (.mid few_2)
def few_0o : List ROp := [.eff 1 false 51001 (.box 9 (.t 0)),
   .eff 2 false 51002 (.alloc [.str [], .nilsl, .str [], .int .i64 0, .int .i64 0, .str [], .int .i64 0, .int .i64 0, .str []])]
def few_0 : AK := .seq (.reg few_0o [1, 2]) few_1
def few : AK := few_0
theorem few_vc (P : Program) (E : Env) (Q : KQ) (st : St) :
  (vcW P E few_3 Q st = aopsW P few_3o st (KS.reg [2] (KQ.seq P E .ret Q))) ∧
  (vcW P E few_2 Q st = aopsW P few_2o st (KS.reg [1, 2] (KQ.seq P E few_3 Q))) ∧
  (vcW P E few_6 Q st = aopsW P few_6o st (KS.reg [1, 2] Q)) ∧
  (vcW P E few_5 Q st = cndW P E (ev st (.t 6)) few_6 .skip Q st) ∧
  (vcW P E few_4 Q st = aopsW P few_4o st (KS.reg [1, 2, 6] (KQ.seq P E few_5 Q))) ∧
  (vcW P E few_0 Q st = aopsW P few_0o st (KS.reg [1, 2] (KQ.seq P E few_1 Q))) ∧
  (vcW P E few Q st = vcW P E few_0 Q st) :=
  ⟨rfl, rfl, rfl, vcW_cond, rfl, rfl, rfl⟩
theorem few_jn (P : Program) (E : Env) (Q : KQ) (st : St) :
  (vcW P E few_1 Q st = vcW P E few_4 (KQ.seq P E (.mid few_2) Q) st) :=
  rfl
attribute [go_sem] few_vc few_3o few_2o few_6o few_4o few_0o
noncomputable def fewB : Code := (Tryd.f9.body).getD .skip
theorem few_eq : trCode Tryd.prog 17 51000 fewB = few.erase 51000 := by kernel_rfl
theorem few_body : Tryd.f9.body = some fewB := by kernel_rfl
theorem few_n : Tryd.f9.ntmps = 17 := by kernel_rfl
theorem few_r : Tryd.f9.results.toList.map (trRes Tryd.prog) = [.cell 2 true 9] := by kernel_rfl
theorem few_spec {h : HP} {a0 : AV} {Post : HP → AV → List AV → Prop} (hp : ∀ (E : Env) (R : HP → AV → List AV → Prop), E.N ≤ 1000000 → PostTo Post R → vcW Tryd.prog E few (KQ.post [.cell 2 true 9] 1 R) ⟨[(0, a0)], h⟩) : Eng.Spec Tryd.prog 9 h [a0] Post := spec_wk (
  spec_of (c := few.erase 51000) (B := 51000) Tryd.func9 few_body (by rw [few_n, few_eq]) (by rw [few_n]; decide) (by rw [few_n]; exact (by decide : 1 ≤ 17)) (fun E hE hB hrd => by
    have hN : E.N ≤ 1000000 := by
      rw [hE, few_n]; decide
    rw [few_r, ← hB]
    exact awp_slots [(0, a0)] ⟨rfl, trivial⟩ (vcW_sound hN _ (hp E _ hN fin_self))))
/- cartulary/cartularylaw15.CommitFormats -/
def lformats_7o : List ROp := [.v 57 (.mov (.t 6)),
   .v 58 (.ld true 9 (.t 5)),
   .cal (some 59) false 52059 18 [(.t 58)],
   .v 60 (.bin .eql (.t 57) (.t 59)),
   .v 61 (.mov (.t 60)),
   .gval 62 61 true false 52062 (.mov (.t 10)),
   .gval 63 61 true false 52063 (.bin .eql (.t 62) (.c (.int .i64 0))),
   .v 64 (.pick (.t 61) (.t 63) (.c (.bool false))),
   .v 65 (.mov (.t 64)),
   .gval 66 65 true false 52066 (.ld true 9 (.t 9)),
   .gval 67 65 true false 52067 (.ld true 9 (.t 5)),
   .gcal 68 65 true false 52068 16 [(.t 66), (.t 67)],
   .v 69 (.pick (.t 65) (.t 68) (.c (.bool false))),
   .v 4 (.mov (.t 69))]
def lformats_7 : AK := .seq (.reg lformats_7o [4]) .ret
def lformats_6o : List ROp := [.v 53 (.mov (.t 6)),
   .cal (some 54) false 52054 17 [(.t 53)],
   .v 52 (.mov (.t 54)),
   .v 55 (.ext (.t 52) 0),
   .v 56 (.ext (.t 52) 1),
   .eff 9 false 52009 (.alloc [.str [], .nilsl, .str [], .int .i64 0, .int .i64 0, .str [], .int .i64 0, .int .i64 0, .str []]),
   .effN false 52000 (.st 9 (.t 9) (.t 55)),
   .v 10 (.mov (.t 56))]
def lformats_6 : AK := .seq (.reg lformats_6o [5, 6, 9, 10]) lformats_7
def lformats_10o : List ROp := [.v 50 (.mov (.t 6)),
   .v 51 (.bin .eql (.t 50) (.c (.str []))),
   .v 4 (.mov (.t 51))]
def lformats_10 : AK := .seq (.reg lformats_10o [4]) .ret
def lformats_9 : AK := .cond (.t 49) lformats_10 .skip
def lformats_8o : List ROp := [.v 48 (.mov (.t 8)),
   .v 49 (.bin .neq (.t 48) (.c (.int .i64 0)))]
def lformats_8 : AK := .seq (.reg lformats_8o [5, 6, 49]) lformats_9
def lformats_5 : AK := .seq lformats_8 lformats_6
def lformats_13o : List ROp := [.v 4 (.mov (.c (.bool false)))]
def lformats_13 : AK := .seq (.reg lformats_13o [4]) .ret
def lformats_12 : AK := .cond (.t 47) lformats_13 .skip
def lformats_11o : List ROp := [.cal (some 21) false 52021 12 [],
   .v 22 (.un .not (.t 21)),
   .v 23 (.mov (.t 22)),
   .gval 24 23 false false 52024 (.mov (.t 7)),
   .gval 25 23 false false 52025 (.mov (.t 8)),
   .gval 26 23 false false 52026 (.bin .neq (.t 24) (.t 25)),
   .v 27 (.pick (.t 23) (.c (.bool true)) (.t 26)),
   .v 28 (.mov (.t 27)),
   .gval 29 28 false false 52029 (.ld true 9 (.t 5)),
   .gval 31 28 false true 52031 (.mov (.t 8)),
   .gcal 30 28 false false 52030 13 [(.t 29)],
   .gval 32 28 false false 52032 (.bin .neq (.t 30) (.t 31)),
   .v 33 (.pick (.t 28) (.c (.bool true)) (.t 32)),
   .v 34 (.mov (.t 33)),
   .gval 35 34 false false 52035 (.mov (.t 1)),
   .gval 37 34 false false 52037 (.mov (.t 1)),
   .gcal 36 34 false false 52036 14 [(.t 35)],
   .gcal 38 34 false false 52038 15 [(.t 37)],
   .gval 39 34 false false 52039 (.beq true (.t 36) (.t 38)),
   .v 40 (.pick (.t 34) (.c (.bool true)) (.t 39)),
   .v 41 (.mov (.t 40)),
   .gval 42 41 false true 52042 (.ld true 9 (.t 5)),
   .gval 43 41 false true 52043 (.ld true 9 (.t 2)),
   .gcal 44 41 false true 52044 9 [(.t 43)],
   .gcal 45 41 false false 52045 16 [(.t 42), (.t 44)],
   .gval 46 41 false false 52046 (.un .not (.t 45)),
   .v 47 (.pick (.t 41) (.c (.bool true)) (.t 46))]
def lformats_11 : AK := .seq (.reg lformats_11o [5, 6, 8, 47]) lformats_12
def lformats_4 : AK := .seq lformats_11 lformats_5
def lformats_3o : List ROp := [.v 18 (.ld true 9 (.t 2)),
   .cal (some 19) false 52019 9 [(.t 18)],
   .cal (some 20) false 52020 11 [(.t 19)],
   .v 8 (.mov (.t 20))]
def lformats_3 : AK := .seq (.reg lformats_3o [1, 2, 5, 6, 7, 8]) lformats_4
def lformats_2o : List ROp := [.v 14 (.ld true 9 (.t 5)),
   .cal (some 15) false 52015 10 [(.t 14)],
   .v 13 (.mov (.t 15)),
   .v 16 (.ext (.t 13) 0),
   .v 17 (.ext (.t 13) 1),
   .v 6 (.mov (.t 16)),
   .v 7 (.mov (.t 17))]
def lformats_2 : AK := .seq (.reg lformats_2o [1, 2, 5, 6, 7]) lformats_3
def lformats_1o : List ROp := [.v 11 (.ld true 9 (.t 2)),
   .cal (some 12) false 52012 9 [(.t 11)],
   .eff 5 false 52005 (.alloc [.str [], .nilsl, .str [], .int .i64 0, .int .i64 0, .str [], .int .i64 0, .int .i64 0, .str []]),
   .effN false 52000 (.st 9 (.t 5) (.t 12))]
def lformats_1 : AK := .seq (.reg lformats_1o [1, 2, 5]) lformats_2
def lformats_0o : List ROp := [.eff 2 false 52002 (.box 9 (.t 0)),
   .v 4 (.mov (.c (.bool false)))]
def lformats_0 : AK := .seq (.reg lformats_0o [1, 2]) lformats_1
def lformats : AK := lformats_0
theorem lformats_vc (P : Program) (E : Env) (Q : KQ) (st : St) :
  (vcW P E lformats_7 Q st = aopsW P lformats_7o st (KS.reg [4] (KQ.seq P E .ret Q))) ∧
  (vcW P E lformats_6 Q st = aopsW P lformats_6o st (KS.reg [5, 6, 9, 10] (KQ.seq P E lformats_7 Q))) ∧
  (vcW P E lformats_10 Q st = aopsW P lformats_10o st (KS.reg [4] (KQ.seq P E .ret Q))) ∧
  (vcW P E lformats_9 Q st = cndW P E (ev st (.t 49)) lformats_10 .skip Q st) ∧
  (vcW P E lformats_8 Q st = aopsW P lformats_8o st (KS.reg [5, 6, 49] (KQ.seq P E lformats_9 Q))) ∧
  (vcW P E lformats_5 Q st = vcW P E lformats_8 (KQ.seq P E lformats_6 Q) st) ∧
  (vcW P E lformats_13 Q st = aopsW P lformats_13o st (KS.reg [4] (KQ.seq P E .ret Q))) ∧
  (vcW P E lformats_12 Q st = cndW P E (ev st (.t 47)) lformats_13 .skip Q st) ∧
  (vcW P E lformats_11 Q st = aopsW P lformats_11o st (KS.reg [5, 6, 8, 47] (KQ.seq P E lformats_12 Q))) ∧
  (vcW P E lformats_4 Q st = vcW P E lformats_11 (KQ.seq P E lformats_5 Q) st) ∧
  (vcW P E lformats_3 Q st = aopsW P lformats_3o st (KS.reg [1, 2, 5, 6, 7, 8] (KQ.seq P E lformats_4 Q))) ∧
  (vcW P E lformats_2 Q st = aopsW P lformats_2o st (KS.reg [1, 2, 5, 6, 7] (KQ.seq P E lformats_3 Q))) ∧
  (vcW P E lformats_1 Q st = aopsW P lformats_1o st (KS.reg [1, 2, 5] (KQ.seq P E lformats_2 Q))) ∧
  (vcW P E lformats_0 Q st = aopsW P lformats_0o st (KS.reg [1, 2] (KQ.seq P E lformats_1 Q))) ∧
  (vcW P E lformats Q st = vcW P E lformats_0 Q st) :=
  ⟨rfl, rfl, rfl, vcW_cond, rfl, rfl, rfl, vcW_cond, rfl, rfl, rfl, rfl, rfl, rfl, rfl⟩
theorem lformats_jn (P : Program) (E : Env) (Q : KQ) (st : St) :
  (True) :=
  trivial
attribute [go_sem] lformats_vc lformats_7o lformats_6o lformats_10o lformats_8o lformats_13o lformats_11o lformats_3o lformats_2o lformats_1o lformats_0o
noncomputable def lformatsB : Code := (Tryd.f3.body).getD .skip
theorem lformats_eq : trCode Tryd.prog 70 52000 lformatsB = lformats.erase 52000 := by kernel_rfl
theorem lformats_body : Tryd.f3.body = some lformatsB := by kernel_rfl
theorem lformats_n : Tryd.f3.ntmps = 70 := by kernel_rfl
theorem lformats_r : Tryd.f3.results.toList.map (trRes Tryd.prog) = [.tmp 4] := by kernel_rfl
theorem lformats_spec {h : HP} {a0 a1 : AV} {Post : HP → AV → List AV → Prop} (hp : ∀ (E : Env) (R : HP → AV → List AV → Prop), E.N ≤ 1000000 → PostTo Post R → vcW Tryd.prog E lformats (KQ.post [.tmp 4] 2 R) ⟨[(0, a0), (1, a1)], h⟩) : Eng.Spec Tryd.prog 3 h [a0, a1] Post := spec_wk (
  spec_of (c := lformats.erase 52000) (B := 52000) Tryd.func3 lformats_body (by rw [lformats_n, lformats_eq]) (by rw [lformats_n]; decide) (by rw [lformats_n]; exact (by decide : 2 ≤ 70)) (fun E hE hB hrd => by
    have hN : E.N ≤ 1000000 := by
      rw [hE, lformats_n]; decide
    rw [lformats_r, ← hB]
    exact awp_slots [(0, a0), (1, a1)] ⟨rfl, rfl, trivial⟩ (vcW_sound hN _ (hp E _ hN fin_self))))
/- cartulary/cartularylaw15.CommitReads -/
def lreads_6o : List ROp := [.v 39 (.mov (.t 8)),
   .v 40 (.bin .eql (.t 39) (.c (.int .i64 0))),
   .v 41 (.mov (.t 40)),
   .gval 42 41 true false 53042 (.mov (.t 7)),
   .gval 43 41 true false 53043 (.mov (.t 0)),
   .gval 44 41 true false 53044 (.bin .eql (.t 42) (.t 43)),
   .v 45 (.pick (.t 41) (.t 44) (.c (.bool false))),
   .v 2 (.mov (.t 45))]
def lreads_6 : AK := .seq (.reg lreads_6o [2]) .ret
def lreads_5o : List ROp := [.v 35 (.ld true 9 (.t 3)),
   .cal (some 36) false 53036 10 [(.t 35)],
   .v 34 (.mov (.t 36)),
   .v 37 (.ext (.t 34) 0),
   .v 38 (.ext (.t 34) 1),
   .v 7 (.mov (.t 37)),
   .v 8 (.mov (.t 38))]
def lreads_5 : AK := .seq (.reg lreads_5o [0, 7, 8]) lreads_6
def lreads_9o : List ROp := [.v 2 (.mov (.c (.bool true)))]
def lreads_9 : AK := .seq (.reg lreads_9o [2]) .ret
def lreads_8 : AK := .cond (.t 33) lreads_9 .skip
def lreads_7o : List ROp := [.v 32 (.mov (.t 6)),
   .v 33 (.bin .neq (.t 32) (.c (.int .i64 0)))]
def lreads_7 : AK := .seq (.reg lreads_7o [0, 3, 33]) lreads_8
def lreads_4 : AK := .seq lreads_7 lreads_5
def lreads_12o : List ROp := [.v 2 (.mov (.c (.bool false)))]
def lreads_12 : AK := .seq (.reg lreads_12o [2]) .ret
def lreads_11 : AK := .cond (.t 31) lreads_12 .skip
def lreads_10o : List ROp := [.cal (some 19) false 53019 12 [],
   .v 20 (.un .not (.t 19)),
   .v 21 (.mov (.t 20)),
   .gval 22 21 false false 53022 (.mov (.t 4)),
   .gval 23 21 false false 53023 (.mov (.t 6)),
   .gval 24 21 false false 53024 (.bin .neq (.t 22) (.t 23)),
   .v 25 (.pick (.t 21) (.c (.bool true)) (.t 24)),
   .v 26 (.mov (.t 25)),
   .gval 27 26 false false 53027 (.ld true 9 (.t 3)),
   .gval 28 26 false false 53028 (.ld true 9 (.t 5)),
   .gcal 29 26 false false 53029 16 [(.t 27), (.t 28)],
   .gval 30 26 false false 53030 (.un .not (.t 29)),
   .v 31 (.pick (.t 26) (.c (.bool true)) (.t 30))]
def lreads_10 : AK := .seq (.reg lreads_10o [0, 3, 6, 31]) lreads_11
def lreads_3 : AK := .seq lreads_10 lreads_4
def lreads_2o : List ROp := [.v 15 (.mov (.t 0)),
   .cal (some 16) false 53016 19 [(.t 15)],
   .v 14 (.mov (.t 16)),
   .v 17 (.ext (.t 14) 0),
   .v 18 (.ext (.t 14) 1),
   .eff 5 false 53005 (.alloc [.str [], .nilsl, .str [], .int .i64 0, .int .i64 0, .str [], .int .i64 0, .int .i64 0, .str []]),
   .effN false 53000 (.st 9 (.t 5) (.t 17)),
   .v 6 (.mov (.t 18))]
def lreads_2 : AK := .seq (.reg lreads_2o [0, 3, 4, 5, 6]) lreads_3
def lreads_1o : List ROp := [.v 10 (.mov (.t 0)),
   .cal (some 11) false 53011 17 [(.t 10)],
   .v 9 (.mov (.t 11)),
   .v 12 (.ext (.t 9) 0),
   .v 13 (.ext (.t 9) 1),
   .eff 3 false 53003 (.alloc [.str [], .nilsl, .str [], .int .i64 0, .int .i64 0, .str [], .int .i64 0, .int .i64 0, .str []]),
   .effN false 53000 (.st 9 (.t 3) (.t 12)),
   .v 4 (.mov (.t 13))]
def lreads_1 : AK := .seq (.reg lreads_1o [0, 3, 4]) lreads_2
def lreads_0o : List ROp := [.v 2 (.mov (.c (.bool false)))]
def lreads_0 : AK := .seq (.reg lreads_0o [0]) lreads_1
def lreads : AK := lreads_0
theorem lreads_vc (P : Program) (E : Env) (Q : KQ) (st : St) :
  (vcW P E lreads_6 Q st = aopsW P lreads_6o st (KS.reg [2] (KQ.seq P E .ret Q))) ∧
  (vcW P E lreads_5 Q st = aopsW P lreads_5o st (KS.reg [0, 7, 8] (KQ.seq P E lreads_6 Q))) ∧
  (vcW P E lreads_9 Q st = aopsW P lreads_9o st (KS.reg [2] (KQ.seq P E .ret Q))) ∧
  (vcW P E lreads_8 Q st = cndW P E (ev st (.t 33)) lreads_9 .skip Q st) ∧
  (vcW P E lreads_7 Q st = aopsW P lreads_7o st (KS.reg [0, 3, 33] (KQ.seq P E lreads_8 Q))) ∧
  (vcW P E lreads_4 Q st = vcW P E lreads_7 (KQ.seq P E lreads_5 Q) st) ∧
  (vcW P E lreads_12 Q st = aopsW P lreads_12o st (KS.reg [2] (KQ.seq P E .ret Q))) ∧
  (vcW P E lreads_11 Q st = cndW P E (ev st (.t 31)) lreads_12 .skip Q st) ∧
  (vcW P E lreads_10 Q st = aopsW P lreads_10o st (KS.reg [0, 3, 6, 31] (KQ.seq P E lreads_11 Q))) ∧
  (vcW P E lreads_3 Q st = vcW P E lreads_10 (KQ.seq P E lreads_4 Q) st) ∧
  (vcW P E lreads_2 Q st = aopsW P lreads_2o st (KS.reg [0, 3, 4, 5, 6] (KQ.seq P E lreads_3 Q))) ∧
  (vcW P E lreads_1 Q st = aopsW P lreads_1o st (KS.reg [0, 3, 4] (KQ.seq P E lreads_2 Q))) ∧
  (vcW P E lreads_0 Q st = aopsW P lreads_0o st (KS.reg [0] (KQ.seq P E lreads_1 Q))) ∧
  (vcW P E lreads Q st = vcW P E lreads_0 Q st) :=
  ⟨rfl, rfl, rfl, vcW_cond, rfl, rfl, rfl, vcW_cond, rfl, rfl, rfl, rfl, rfl, rfl⟩
theorem lreads_jn (P : Program) (E : Env) (Q : KQ) (st : St) :
  (True) :=
  trivial
attribute [go_sem] lreads_vc lreads_6o lreads_5o lreads_9o lreads_7o lreads_12o lreads_10o lreads_2o lreads_1o lreads_0o
noncomputable def lreadsB : Code := (Tryd.f4.body).getD .skip
theorem lreads_eq : trCode Tryd.prog 46 53000 lreadsB = lreads.erase 53000 := by kernel_rfl
theorem lreads_body : Tryd.f4.body = some lreadsB := by kernel_rfl
theorem lreads_n : Tryd.f4.ntmps = 46 := by kernel_rfl
theorem lreads_r : Tryd.f4.results.toList.map (trRes Tryd.prog) = [.tmp 2] := by kernel_rfl
theorem lreads_spec {h : HP} {a0 : AV} {Post : HP → AV → List AV → Prop} (hp : ∀ (E : Env) (R : HP → AV → List AV → Prop), E.N ≤ 1000000 → PostTo Post R → vcW Tryd.prog E lreads (KQ.post [.tmp 2] 1 R) ⟨[(0, a0)], h⟩) : Eng.Spec Tryd.prog 4 h [a0] Post := spec_wk (
  spec_of (c := lreads.erase 53000) (B := 53000) Tryd.func4 lreads_body (by rw [lreads_n, lreads_eq]) (by rw [lreads_n]; decide) (by rw [lreads_n]; exact (by decide : 1 ≤ 46)) (fun E hE hB hrd => by
    have hN : E.N ≤ 1000000 := by
      rw [hE, lreads_n]; decide
    rw [lreads_r, ← hB]
    exact awp_slots [(0, a0)] ⟨rfl, trivial⟩ (vcW_sound hN _ (hp E _ hN fin_self))))
/- cartulary/cartularylaw15.CommitSigns -/
def lsigns_6o : List ROp := [.cal (some 45) false 54045 12 [],
   .v 46 (.mov (.t 45)),
   .gval 47 46 true false 54047 (.mov (.t 5)),
   .gval 48 46 true false 54048 (.bin .eql (.t 47) (.c (.int .i64 0))),
   .v 49 (.pick (.t 46) (.t 48) (.c (.bool false))),
   .v 50 (.mov (.t 49)),
   .gval 51 50 true false 54051 (.mov (.t 7)),
   .gval 52 50 true false 54052 (.bin .eql (.t 51) (.c (.int .i64 0))),
   .v 53 (.pick (.t 50) (.t 52) (.c (.bool false))),
   .v 54 (.mov (.t 53)),
   .gval 55 54 true false 54055 (.fldA true 2 3 (.t 6)),
   .gval 56 54 true false 54056 (.ld true 3 (.t 55)),
   .gval 57 54 true false 54057 (.ld true 3 (.t 1)),
   .gval 58 54 true false 54058 (.aeq false [2, 1, 1] (.t 56) (.t 57)),
   .v 59 (.pick (.t 54) (.t 58) (.c (.bool false))),
   .v 60 (.mov (.t 59)),
   .gval 61 60 true false 54061 (.fldA true 5 3 (.t 6)),
   .gval 62 60 true false 54062 (.ld true 3 (.t 61)),
   .gval 63 60 true false 54063 (.ld true 3 (.t 1)),
   .gval 64 60 true false 54064 (.aeq false [2, 1, 1] (.t 62) (.t 63)),
   .v 65 (.pick (.t 60) (.t 64) (.c (.bool false))),
   .v 66 (.mov (.t 65)),
   .gval 67 66 true false 54067 (.mov (.t 4)),
   .gval 68 66 true false 54068 (.mov (.t 8)),
   .gval 69 66 true false 54069 (.bin .eql (.t 67) (.t 68)),
   .v 70 (.pick (.t 66) (.t 69) (.c (.bool false))),
   .v 2 (.mov (.t 70))]
def lsigns_6 : AK := .seq (.reg lsigns_6o [2]) .ret
def lsigns_5o : List ROp := [.val 34 true 54034 (.mov (.t 3)),
   .val 35 true 54035 (.bin .add (.c (.str [116, 114, 101, 101, 32])) (.t 34)),
   .val 36 true 54036 (.bin .add (.t 35) (.c (.str [10, 97, 117, 116, 104, 111, 114, 32]))),
   .val 37 true 54037 (.ld true 3 (.t 1)),
   .val 41 true 54041 (.ld true 3 (.t 1)),
   .cal (some 38) true 54038 21 [(.t 37)],
   .val 39 true 54039 (.bin .add (.t 36) (.t 38)),
   .val 40 true 54040 (.bin .add (.t 39) (.c (.str [10, 99, 111, 109, 109, 105, 116, 116, 101, 114, 32]))),
   .cal (some 42) false 54042 21 [(.t 41)],
   .v 43 (.bin .add (.t 40) (.t 42)),
   .v 44 (.bin .add (.t 43) (.c (.str [10, 10]))),
   .v 8 (.mov (.t 44))]
def lsigns_5 : AK := .seq (.reg lsigns_5o [1, 4, 5, 6, 7, 8]) lsigns_6
def lsigns_4o : List ROp := [.v 30 (.mov (.t 4)),
   .cal (some 31) false 54031 17 [(.t 30)],
   .v 29 (.mov (.t 31)),
   .v 32 (.ext (.t 29) 0),
   .v 33 (.ext (.t 29) 1),
   .eff 6 false 54006 (.alloc [.str [], .nilsl, .str [], .int .i64 0, .int .i64 0, .str [], .int .i64 0, .int .i64 0, .str []]),
   .effN false 54000 (.st 9 (.t 6) (.t 32)),
   .v 7 (.mov (.t 33))]
def lsigns_4 : AK := .seq (.reg lsigns_4o [1, 3, 4, 5, 6, 7]) lsigns_5
def lsigns_9o : List ROp := [.cal (some 20) false 54020 12 [],
   .v 21 (.mov (.t 20)),
   .gval 22 21 true false 54022 (.mov (.t 5)),
   .gval 23 21 true false 54023 (.bin .eql (.t 22) (.c (.int .i64 4))),
   .v 24 (.pick (.t 21) (.t 23) (.c (.bool false))),
   .v 25 (.mov (.t 24)),
   .gval 26 25 true false 54026 (.mov (.t 4)),
   .gval 27 25 true false 54027 (.bin .eql (.t 26) (.c (.str []))),
   .v 28 (.pick (.t 25) (.t 27) (.c (.bool false))),
   .v 2 (.mov (.t 28))]
def lsigns_9 : AK := .seq (.reg lsigns_9o [2]) .ret
def lsigns_8 : AK := .cond (.t 19) lsigns_9 .skip
def lsigns_7o : List ROp := [.v 17 (.ld true 3 (.t 1)),
   .cal (some 18) false 54018 20 [(.t 17)],
   .v 19 (.un .not (.t 18))]
def lsigns_7 : AK := .seq (.reg lsigns_7o [1, 3, 4, 5, 19]) lsigns_8
def lsigns_3 : AK := .seq lsigns_7 lsigns_4
def lsigns_2o : List ROp := [.v 10 (.mov (.t 3)),
   .v 11 (.ld true 3 (.t 1)),
   .v 12 (.ld true 3 (.t 1)),
   .v 13 (.bld [.str [], .nilsl, .str [], .int .i64 0, .int .i64 0, .str [], .int .i64 0, .int .i64 0, .str []] [(0, 1, (.t 10)), (2, 3, (.t 11)), (5, 3, (.t 12))]),
   .cal (some 14) false 54014 10 [(.t 13)],
   .v 9 (.mov (.t 14)),
   .v 15 (.ext (.t 9) 0),
   .v 16 (.ext (.t 9) 1),
   .v 4 (.mov (.t 15)),
   .v 5 (.mov (.t 16))]
def lsigns_2 : AK := .seq (.reg lsigns_2o [1, 3, 4, 5]) lsigns_3
def lsigns_1o : List ROp := [.v 3 (.mov (.c (.str [52, 98, 56, 50, 53, 100, 99, 54, 52, 50, 99, 98, 54, 101, 98, 57, 97, 48, 54, 48, 101, 53, 52, 98, 102, 56, 100, 54, 57, 50, 56, 56, 102, 98, 101, 101, 52, 57, 48, 52])))]
def lsigns_1 : AK := .seq (.reg lsigns_1o [1, 3]) lsigns_2
def lsigns_0o : List ROp := [.eff 1 false 54001 (.box 3 (.t 0)),
   .v 2 (.mov (.c (.bool false)))]
def lsigns_0 : AK := .seq (.reg lsigns_0o [1]) lsigns_1
def lsigns : AK := lsigns_0
theorem lsigns_vc (P : Program) (E : Env) (Q : KQ) (st : St) :
  (vcW P E lsigns_6 Q st = aopsW P lsigns_6o st (KS.reg [2] (KQ.seq P E .ret Q))) ∧
  (vcW P E lsigns_5 Q st = aopsW P lsigns_5o st (KS.reg [1, 4, 5, 6, 7, 8] (KQ.seq P E lsigns_6 Q))) ∧
  (vcW P E lsigns_4 Q st = aopsW P lsigns_4o st (KS.reg [1, 3, 4, 5, 6, 7] (KQ.seq P E lsigns_5 Q))) ∧
  (vcW P E lsigns_9 Q st = aopsW P lsigns_9o st (KS.reg [2] (KQ.seq P E .ret Q))) ∧
  (vcW P E lsigns_8 Q st = cndW P E (ev st (.t 19)) lsigns_9 .skip Q st) ∧
  (vcW P E lsigns_7 Q st = aopsW P lsigns_7o st (KS.reg [1, 3, 4, 5, 19] (KQ.seq P E lsigns_8 Q))) ∧
  (vcW P E lsigns_3 Q st = vcW P E lsigns_7 (KQ.seq P E lsigns_4 Q) st) ∧
  (vcW P E lsigns_2 Q st = aopsW P lsigns_2o st (KS.reg [1, 3, 4, 5] (KQ.seq P E lsigns_3 Q))) ∧
  (vcW P E lsigns_1 Q st = aopsW P lsigns_1o st (KS.reg [1, 3] (KQ.seq P E lsigns_2 Q))) ∧
  (vcW P E lsigns_0 Q st = aopsW P lsigns_0o st (KS.reg [1] (KQ.seq P E lsigns_1 Q))) ∧
  (vcW P E lsigns Q st = vcW P E lsigns_0 Q st) :=
  ⟨rfl, rfl, rfl, rfl, vcW_cond, rfl, rfl, rfl, rfl, rfl, rfl⟩
theorem lsigns_jn (P : Program) (E : Env) (Q : KQ) (st : St) :
  (True) :=
  trivial
attribute [go_sem] lsigns_vc lsigns_6o lsigns_5o lsigns_4o lsigns_9o lsigns_7o lsigns_2o lsigns_1o lsigns_0o
noncomputable def lsignsB : Code := (Tryd.f5.body).getD .skip
theorem lsigns_eq : trCode Tryd.prog 71 54000 lsignsB = lsigns.erase 54000 := by kernel_rfl
theorem lsigns_body : Tryd.f5.body = some lsignsB := by kernel_rfl
theorem lsigns_n : Tryd.f5.ntmps = 71 := by kernel_rfl
theorem lsigns_r : Tryd.f5.results.toList.map (trRes Tryd.prog) = [.tmp 2] := by kernel_rfl
theorem lsigns_spec {h : HP} {a0 : AV} {Post : HP → AV → List AV → Prop} (hp : ∀ (E : Env) (R : HP → AV → List AV → Prop), E.N ≤ 1000000 → PostTo Post R → vcW Tryd.prog E lsigns (KQ.post [.tmp 2] 1 R) ⟨[(0, a0)], h⟩) : Eng.Spec Tryd.prog 5 h [a0] Post := spec_wk (
  spec_of (c := lsigns.erase 54000) (B := 54000) Tryd.func5 lsigns_body (by rw [lsigns_n, lsigns_eq]) (by rw [lsigns_n]; decide) (by rw [lsigns_n]; exact (by decide : 1 ≤ 71)) (fun E hE hB hrd => by
    have hN : E.N ≤ 1000000 := by
      rw [hE, lsigns_n]; decide
    rw [lsigns_r, ← hB]
    exact awp_slots [(0, a0)] ⟨rfl, trivial⟩ (vcW_sound hN _ (hp E _ hN fin_self))))
/- cartulary/cartularylaw15.CommitMessages -/
def lmessages_9o : List ROp := [.cal (some 36) false 55036 12 [],
   .v 37 (.mov (.t 36)),
   .gval 38 37 true false 55038 (.mov (.t 8)),
   .gval 39 37 true false 55039 (.bin .neq (.t 38) (.c (.int .i64 0))),
   .gval 40 37 true false 55040 (.mov (.t 39)),
   .gval 41 40 false false 55041 (.mov (.t 9)),
   .gval 42 40 false false 55042 (.mov (.t 7)),
   .gval 43 40 false false 55043 (.mov (.t 1)),
   .gval 44 40 false false 55044 (.bin .add (.t 42) (.t 43)),
   .gval 45 40 false false 55045 (.bin .eql (.t 41) (.t 44)),
   .gval 46 40 false false 55046 (.mov (.t 45)),
   .gval 47 46 true false 55047 (.mov (.t 7)),
   .gval 48 46 true false 55048 (.len true (.t 47)),
   .gval 49 46 true false 55049 (.bin .gtr (.t 48) (.c (.int .i64 2))),
   .gval 50 40 false false 55050 (.pick (.t 46) (.t 49) (.c (.bool false))),
   .gval 51 40 false false 55051 (.mov (.t 50)),
   .gval 52 51 true false 55052 (.mov (.t 7)),
   .gval 53 51 true false 55053 (.mov (.t 7)),
   .gval 54 51 true false 55054 (.len true (.t 53)),
   .gval 55 51 true false 55055 (.bin .sub (.t 54) (.c (.int .i64 2))),
   .gval 56 51 true false 55056 (.slcS (.t 52) (some (.t 55)) none),
   .gval 57 51 true false 55057 (.bin .eql (.t 56) (.c (.str [10, 10]))),
   .gval 58 40 false false 55058 (.pick (.t 51) (.t 57) (.c (.bool false))),
   .gval 59 37 true false 55059 (.pick (.t 40) (.c (.bool true)) (.t 58)),
   .v 60 (.pick (.t 37) (.t 59) (.c (.bool false))),
   .v 4 (.mov (.t 60))]
def lmessages_9 : AK := .seq (.reg lmessages_9o [4]) .ret
def lmessages_12o : List ROp := [.v 4 (.mov (.c (.bool false)))]
def lmessages_12 : AK := .seq (.reg lmessages_12o [4]) .ret
def lmessages_11 : AK := .cond (.t 35) lmessages_12 .skip
def lmessages_10o : List ROp := [.v 33 (.mov (.t 8)),
   .v 34 (.mov (.t 10)),
   .v 35 (.bin .neq (.t 33) (.t 34))]
def lmessages_10 : AK := .seq (.reg lmessages_10o [1, 7, 8, 9, 35]) lmessages_11
def lmessages_8 : AK := .seq lmessages_10 lmessages_9
def lmessages_7o : List ROp := [.v 29 (.ld true 9 (.t 6)),
   .cal (some 30) false 55030 10 [(.t 29)],
   .v 28 (.mov (.t 30)),
   .v 31 (.ext (.t 28) 0),
   .v 32 (.ext (.t 28) 1),
   .v 9 (.mov (.t 31)),
   .v 10 (.mov (.t 32))]
def lmessages_7 : AK := .seq (.reg lmessages_7o [1, 7, 8, 9, 10]) lmessages_8
def lmessages_6o : List ROp := [.v 24 (.ld true 9 (.t 5)),
   .cal (some 25) false 55025 10 [(.t 24)],
   .v 23 (.mov (.t 25)),
   .v 26 (.ext (.t 23) 0),
   .v 27 (.ext (.t 23) 1),
   .v 7 (.mov (.t 26)),
   .v 8 (.mov (.t 27))]
def lmessages_6 : AK := .seq (.reg lmessages_6o [1, 6, 7, 8]) lmessages_7
def lmessages_5o : List ROp := [.v 21 (.mov (.t 1)),
   .v 22 (.fldA false 8 1 (.t 6)),
   .effN false 55000 (.st 1 (.t 22) (.t 21))]
def lmessages_5 : AK := .seq (.reg lmessages_5o [1, 5, 6]) lmessages_6
def lmessages_4o : List ROp := [.v 19 (.ld true 9 (.t 2)),
   .cal (some 20) false 55020 9 [(.t 19)],
   .eff 6 false 55006 (.alloc [.str [], .nilsl, .str [], .int .i64 0, .int .i64 0, .str [], .int .i64 0, .int .i64 0, .str []]),
   .effN false 55000 (.st 9 (.t 6) (.t 20))]
def lmessages_4 : AK := .seq (.reg lmessages_4o [1, 5, 6]) lmessages_5
def lmessages_3o : List ROp := [.v 18 (.fldA false 8 1 (.t 5)),
   .effN false 55000 (.st 1 (.t 18) (.c (.str [])))]
def lmessages_3 : AK := .seq (.reg lmessages_3o [1, 2, 5]) lmessages_4
def lmessages_2o : List ROp := [.v 16 (.ld true 9 (.t 2)),
   .cal (some 17) false 55017 9 [(.t 16)],
   .eff 5 false 55005 (.alloc [.str [], .nilsl, .str [], .int .i64 0, .int .i64 0, .str [], .int .i64 0, .int .i64 0, .str []]),
   .effN false 55000 (.st 9 (.t 5) (.t 17))]
def lmessages_2 : AK := .seq (.reg lmessages_2o [1, 2, 5]) lmessages_3
def lmessages_15o : List ROp := [.v 14 (.mov (.t 1)),
   .v 15 (.slcS (.t 14) none (some (.c (.int .i64 300)))),
   .v 1 (.mov (.t 15))]
def lmessages_15 : AK := .reg lmessages_15o [1, 2]
def lmessages_14 : AK := .cond (.t 13) lmessages_15 .skip
def lmessages_13o : List ROp := [.v 11 (.mov (.t 1)),
   .v 12 (.len true (.t 11)),
   .v 13 (.bin .gtr (.t 12) (.c (.int .i64 300)))]
def lmessages_13 : AK := .seq (.reg lmessages_13o [1, 2, 13]) lmessages_14
def lmessages_1 : AK := .seq lmessages_13 (.mid lmessages_2)
def lmessages_0o : List ROp := [.eff 2 false 55002 (.box 9 (.t 0)),
   .v 4 (.mov (.c (.bool false)))]
def lmessages_0 : AK := .seq (.reg lmessages_0o [1, 2]) lmessages_1
def lmessages : AK := lmessages_0
theorem lmessages_vc (P : Program) (E : Env) (Q : KQ) (st : St) :
  (vcW P E lmessages_9 Q st = aopsW P lmessages_9o st (KS.reg [4] (KQ.seq P E .ret Q))) ∧
  (vcW P E lmessages_12 Q st = aopsW P lmessages_12o st (KS.reg [4] (KQ.seq P E .ret Q))) ∧
  (vcW P E lmessages_11 Q st = cndW P E (ev st (.t 35)) lmessages_12 .skip Q st) ∧
  (vcW P E lmessages_10 Q st = aopsW P lmessages_10o st (KS.reg [1, 7, 8, 9, 35] (KQ.seq P E lmessages_11 Q))) ∧
  (vcW P E lmessages_8 Q st = vcW P E lmessages_10 (KQ.seq P E lmessages_9 Q) st) ∧
  (vcW P E lmessages_7 Q st = aopsW P lmessages_7o st (KS.reg [1, 7, 8, 9, 10] (KQ.seq P E lmessages_8 Q))) ∧
  (vcW P E lmessages_6 Q st = aopsW P lmessages_6o st (KS.reg [1, 6, 7, 8] (KQ.seq P E lmessages_7 Q))) ∧
  (vcW P E lmessages_5 Q st = aopsW P lmessages_5o st (KS.reg [1, 5, 6] (KQ.seq P E lmessages_6 Q))) ∧
  (vcW P E lmessages_4 Q st = aopsW P lmessages_4o st (KS.reg [1, 5, 6] (KQ.seq P E lmessages_5 Q))) ∧
  (vcW P E lmessages_3 Q st = aopsW P lmessages_3o st (KS.reg [1, 2, 5] (KQ.seq P E lmessages_4 Q))) ∧
  (vcW P E lmessages_2 Q st = aopsW P lmessages_2o st (KS.reg [1, 2, 5] (KQ.seq P E lmessages_3 Q))) ∧
  (vcW P E lmessages_15 Q st = aopsW P lmessages_15o st (KS.reg [1, 2] Q)) ∧
  (vcW P E lmessages_14 Q st = cndW P E (ev st (.t 13)) lmessages_15 .skip Q st) ∧
  (vcW P E lmessages_13 Q st = aopsW P lmessages_13o st (KS.reg [1, 2, 13] (KQ.seq P E lmessages_14 Q))) ∧
  (vcW P E lmessages_0 Q st = aopsW P lmessages_0o st (KS.reg [1, 2] (KQ.seq P E lmessages_1 Q))) ∧
  (vcW P E lmessages Q st = vcW P E lmessages_0 Q st) :=
  ⟨rfl, rfl, vcW_cond, rfl, rfl, rfl, rfl, rfl, rfl, rfl, rfl, rfl, vcW_cond, rfl, rfl, rfl⟩
theorem lmessages_jn (P : Program) (E : Env) (Q : KQ) (st : St) :
  (vcW P E lmessages_1 Q st = vcW P E lmessages_13 (KQ.seq P E (.mid lmessages_2) Q) st) :=
  rfl
attribute [go_sem] lmessages_vc lmessages_9o lmessages_12o lmessages_10o lmessages_7o lmessages_6o lmessages_5o lmessages_4o lmessages_3o lmessages_2o lmessages_15o lmessages_13o lmessages_0o
noncomputable def lmessagesB : Code := (Tryd.f6.body).getD .skip
theorem lmessages_eq : trCode Tryd.prog 61 55000 lmessagesB = lmessages.erase 55000 := by kernel_rfl
theorem lmessages_body : Tryd.f6.body = some lmessagesB := by kernel_rfl
theorem lmessages_n : Tryd.f6.ntmps = 61 := by kernel_rfl
theorem lmessages_r : Tryd.f6.results.toList.map (trRes Tryd.prog) = [.tmp 4] := by kernel_rfl
theorem lmessages_spec {h : HP} {a0 a1 : AV} {Post : HP → AV → List AV → Prop} (hp : ∀ (E : Env) (R : HP → AV → List AV → Prop), E.N ≤ 1000000 → PostTo Post R → vcW Tryd.prog E lmessages (KQ.post [.tmp 4] 2 R) ⟨[(0, a0), (1, a1)], h⟩) : Eng.Spec Tryd.prog 6 h [a0, a1] Post := spec_wk (
  spec_of (c := lmessages.erase 55000) (B := 55000) Tryd.func6 lmessages_body (by rw [lmessages_n, lmessages_eq]) (by rw [lmessages_n]; decide) (by rw [lmessages_n]; exact (by decide : 2 ≤ 61)) (fun E hE hB hrd => by
    have hN : E.N ≤ 1000000 := by
      rw [hE, lmessages_n]; decide
    rw [lmessages_r, ← hB]
    exact awp_slots [(0, a0), (1, a1)] ⟨rfl, rfl, trivial⟩ (vcW_sound hN _ (hp E _ hN fin_self))))
/- cartulary/cartularylaw15.CommitTags -/
def ltags_9o : List ROp := [.v 79 (.mov (.t 5)),
   .v 80 (.ld true 7 (.t 2)),
   .cal (some 81) false 56081 27 [(.t 80)],
   .v 82 (.bin .eql (.t 79) (.t 81)),
   .v 83 (.mov (.t 82)),
   .gval 84 83 true false 56084 (.mov (.t 15)),
   .gval 85 83 true false 56085 (.bin .eql (.t 84) (.c (.int .i64 0))),
   .v 86 (.pick (.t 83) (.t 85) (.c (.bool false))),
   .v 87 (.mov (.t 86)),
   .gval 88 87 true false 56088 (.ld true 7 (.t 14)),
   .gval 89 87 true false 56089 (.ld true 7 (.t 2)),
   .gval 90 87 true false 56090 (.aeq false [2, 1, 2, 2, 1, 1, 2] (.t 88) (.t 89)),
   .v 91 (.pick (.t 87) (.t 90) (.c (.bool false))),
   .v 4 (.mov (.t 91))]
def ltags_9 : AK := .seq (.reg ltags_9o [4]) .ret
def ltags_8o : List ROp := [.v 75 (.mov (.t 5)),
   .cal (some 76) false 56076 24 [(.t 75)],
   .v 74 (.mov (.t 76)),
   .v 77 (.ext (.t 74) 0),
   .v 78 (.ext (.t 74) 1),
   .eff 14 false 56014 (.alloc [.str [], .int .i64 0, .str [], .str [], .int .i64 0, .int .i64 0, .str []]),
   .effN false 56000 (.st 7 (.t 14) (.t 77)),
   .v 15 (.mov (.t 78))]
def ltags_8 : AK := .seq (.reg ltags_8o [2, 5, 14, 15]) ltags_9
def ltags_12o : List ROp := [.v 72 (.mov (.t 5)),
   .v 73 (.bin .eql (.t 72) (.c (.str []))),
   .v 4 (.mov (.t 73))]
def ltags_12 : AK := .seq (.reg ltags_12o [4]) .ret
def ltags_11 : AK := .cond (.t 71) ltags_12 .skip
def ltags_10o : List ROp := [.v 70 (.mov (.t 7)),
   .v 71 (.bin .neq (.t 70) (.c (.int .i64 0)))]
def ltags_10 : AK := .seq (.reg ltags_10o [2, 5, 71]) ltags_11
def ltags_7 : AK := .seq ltags_10 ltags_8
def ltags_18o : List ROp := [.v 4 (.mov (.c (.bool false)))]
def ltags_18 : AK := .seq (.reg ltags_18o [4]) .ret
def ltags_17 : AK := .cond (.t 69) ltags_18 .skip
def ltags_16o : List ROp := [.v 63 (.mov (.t 13)),
   .v 64 (.bin .neq (.t 63) (.c (.int .i64 0))),
   .v 65 (.mov (.t 64)),
   .gval 66 65 false false 56066 (.mov (.t 12)),
   .gval 67 65 false false 56067 (.mov (.t 1)),
   .gval 68 65 false false 56068 (.bin .neq (.t 66) (.t 67)),
   .v 69 (.pick (.t 65) (.c (.bool true)) (.t 68))]
def ltags_16 : AK := .seq (.reg ltags_16o [2, 5, 7, 69]) ltags_17
def ltags_15o : List ROp := [.v 59 (.ld true 7 (.t 8)),
   .cal (some 60) false 56060 22 [(.t 59)],
   .v 58 (.mov (.t 60)),
   .v 61 (.ext (.t 58) 0),
   .v 62 (.ext (.t 58) 1),
   .v 12 (.mov (.t 61)),
   .v 13 (.mov (.t 62))]
def ltags_15 : AK := .seq (.reg ltags_15o [1, 2, 5, 7, 12, 13]) ltags_16
def ltags_14 : AK := .cond (.t 57) ltags_15 .skip
def ltags_13o : List ROp := [.v 56 (.mov (.t 11)),
   .v 57 (.bin .eql (.t 56) (.c (.int .i64 0)))]
def ltags_13 : AK := .seq (.reg ltags_13o [1, 2, 5, 7, 8, 57]) ltags_14
def ltags_6 : AK := .seq ltags_13 (.mid ltags_7)
def ltags_21o : List ROp := [.v 4 (.mov (.c (.bool false)))]
def ltags_21 : AK := .seq (.reg ltags_21o [4]) .ret
def ltags_20 : AK := .cond (.t 55) ltags_21 .skip
def ltags_19o : List ROp := [.cal (some 33) false 56033 12 [],
   .v 34 (.un .not (.t 33)),
   .v 35 (.mov (.t 34)),
   .gval 36 35 false false 56036 (.mov (.t 6)),
   .gval 37 35 false false 56037 (.mov (.t 7)),
   .gval 38 35 false false 56038 (.bin .neq (.t 36) (.t 37)),
   .v 39 (.pick (.t 35) (.c (.bool true)) (.t 38)),
   .v 40 (.mov (.t 39)),
   .gval 41 40 false false 56041 (.ld true 7 (.t 2)),
   .gcal 42 40 false false 56042 26 [(.t 41)],
   .gval 43 40 false false 56043 (.mov (.t 7)),
   .gval 44 40 false false 56044 (.bin .neq (.t 42) (.t 43)),
   .v 45 (.pick (.t 40) (.c (.bool true)) (.t 44)),
   .v 46 (.mov (.t 45)),
   .gval 47 46 false false 56047 (.ld true 7 (.t 8)),
   .gval 48 46 false false 56048 (.ld true 7 (.t 10)),
   .gval 49 46 false false 56049 (.aeq true [2, 1, 2, 2, 1, 1, 2] (.t 47) (.t 48)),
   .v 50 (.pick (.t 46) (.c (.bool true)) (.t 49)),
   .v 51 (.mov (.t 50)),
   .gval 52 51 false false 56052 (.mov (.t 9)),
   .gval 53 51 false false 56053 (.mov (.t 11)),
   .gval 54 51 false false 56054 (.bin .neq (.t 52) (.t 53)),
   .v 55 (.pick (.t 51) (.c (.bool true)) (.t 54))]
def ltags_19 : AK := .seq (.reg ltags_19o [1, 2, 5, 7, 8, 11, 55]) ltags_20
def ltags_5 : AK := .seq ltags_19 ltags_6
def ltags_4o : List ROp := [.v 29 (.mov (.t 1)),
   .cal (some 30) false 56030 25 [(.t 29)],
   .v 28 (.mov (.t 30)),
   .v 31 (.ext (.t 28) 0),
   .v 32 (.ext (.t 28) 1),
   .eff 10 false 56010 (.alloc [.str [], .int .i64 0, .str [], .str [], .int .i64 0, .int .i64 0, .str []]),
   .effN false 56000 (.st 7 (.t 10) (.t 31)),
   .v 11 (.mov (.t 32))]
def ltags_4 : AK := .seq (.reg ltags_4o [1, 2, 5, 6, 7, 8, 9, 10, 11]) ltags_5
def ltags_3o : List ROp := [.v 24 (.mov (.t 1)),
   .cal (some 25) false 56025 24 [(.t 24)],
   .v 23 (.mov (.t 25)),
   .v 26 (.ext (.t 23) 0),
   .v 27 (.ext (.t 23) 1),
   .eff 8 false 56008 (.alloc [.str [], .int .i64 0, .str [], .str [], .int .i64 0, .int .i64 0, .str []]),
   .effN false 56000 (.st 7 (.t 8) (.t 26)),
   .v 9 (.mov (.t 27))]
def ltags_3 : AK := .seq (.reg ltags_3o [1, 2, 5, 6, 7, 8, 9]) ltags_4
def ltags_2o : List ROp := [.v 21 (.ld true 7 (.t 2)),
   .cal (some 22) false 56022 23 [(.t 21)],
   .v 7 (.mov (.t 22))]
def ltags_2 : AK := .seq (.reg ltags_2o [1, 2, 5, 6, 7]) ltags_3
def ltags_1o : List ROp := [.v 17 (.ld true 7 (.t 2)),
   .cal (some 18) false 56018 22 [(.t 17)],
   .v 16 (.mov (.t 18)),
   .v 19 (.ext (.t 16) 0),
   .v 20 (.ext (.t 16) 1),
   .v 5 (.mov (.t 19)),
   .v 6 (.mov (.t 20))]
def ltags_1 : AK := .seq (.reg ltags_1o [1, 2, 5, 6]) ltags_2
def ltags_0o : List ROp := [.eff 2 false 56002 (.box 7 (.t 0)),
   .v 4 (.mov (.c (.bool false)))]
def ltags_0 : AK := .seq (.reg ltags_0o [1, 2]) ltags_1
def ltags : AK := ltags_0
theorem ltags_vc (P : Program) (E : Env) (Q : KQ) (st : St) :
  (vcW P E ltags_9 Q st = aopsW P ltags_9o st (KS.reg [4] (KQ.seq P E .ret Q))) ∧
  (vcW P E ltags_8 Q st = aopsW P ltags_8o st (KS.reg [2, 5, 14, 15] (KQ.seq P E ltags_9 Q))) ∧
  (vcW P E ltags_12 Q st = aopsW P ltags_12o st (KS.reg [4] (KQ.seq P E .ret Q))) ∧
  (vcW P E ltags_11 Q st = cndW P E (ev st (.t 71)) ltags_12 .skip Q st) ∧
  (vcW P E ltags_10 Q st = aopsW P ltags_10o st (KS.reg [2, 5, 71] (KQ.seq P E ltags_11 Q))) ∧
  (vcW P E ltags_7 Q st = vcW P E ltags_10 (KQ.seq P E ltags_8 Q) st) ∧
  (vcW P E ltags_18 Q st = aopsW P ltags_18o st (KS.reg [4] (KQ.seq P E .ret Q))) ∧
  (vcW P E ltags_17 Q st = cndW P E (ev st (.t 69)) ltags_18 .skip Q st) ∧
  (vcW P E ltags_16 Q st = aopsW P ltags_16o st (KS.reg [2, 5, 7, 69] (KQ.seq P E ltags_17 Q))) ∧
  (vcW P E ltags_15 Q st = aopsW P ltags_15o st (KS.reg [1, 2, 5, 7, 12, 13] (KQ.seq P E ltags_16 Q))) ∧
  (vcW P E ltags_14 Q st = cndW P E (ev st (.t 57)) ltags_15 .skip Q st) ∧
  (vcW P E ltags_13 Q st = aopsW P ltags_13o st (KS.reg [1, 2, 5, 7, 8, 57] (KQ.seq P E ltags_14 Q))) ∧
  (vcW P E ltags_21 Q st = aopsW P ltags_21o st (KS.reg [4] (KQ.seq P E .ret Q))) ∧
  (vcW P E ltags_20 Q st = cndW P E (ev st (.t 55)) ltags_21 .skip Q st) ∧
  (vcW P E ltags_19 Q st = aopsW P ltags_19o st (KS.reg [1, 2, 5, 7, 8, 11, 55] (KQ.seq P E ltags_20 Q))) ∧
  (vcW P E ltags_5 Q st = vcW P E ltags_19 (KQ.seq P E ltags_6 Q) st) ∧
  (vcW P E ltags_4 Q st = aopsW P ltags_4o st (KS.reg [1, 2, 5, 6, 7, 8, 9, 10, 11] (KQ.seq P E ltags_5 Q))) ∧
  (vcW P E ltags_3 Q st = aopsW P ltags_3o st (KS.reg [1, 2, 5, 6, 7, 8, 9] (KQ.seq P E ltags_4 Q))) ∧
  (vcW P E ltags_2 Q st = aopsW P ltags_2o st (KS.reg [1, 2, 5, 6, 7] (KQ.seq P E ltags_3 Q))) ∧
  (vcW P E ltags_1 Q st = aopsW P ltags_1o st (KS.reg [1, 2, 5, 6] (KQ.seq P E ltags_2 Q))) ∧
  (vcW P E ltags_0 Q st = aopsW P ltags_0o st (KS.reg [1, 2] (KQ.seq P E ltags_1 Q))) ∧
  (vcW P E ltags Q st = vcW P E ltags_0 Q st) :=
  ⟨rfl, rfl, rfl, vcW_cond, rfl, rfl, rfl, vcW_cond, rfl, rfl, vcW_cond, rfl, rfl, vcW_cond, rfl, rfl, rfl, rfl, rfl, rfl, rfl, rfl⟩
theorem ltags_jn (P : Program) (E : Env) (Q : KQ) (st : St) :
  (vcW P E ltags_6 Q st = vcW P E ltags_13 (KQ.seq P E (.mid ltags_7) Q) st) :=
  rfl
attribute [go_sem] ltags_vc ltags_9o ltags_8o ltags_12o ltags_10o ltags_18o ltags_16o ltags_15o ltags_13o ltags_21o ltags_19o ltags_4o ltags_3o ltags_2o ltags_1o ltags_0o
noncomputable def ltagsB : Code := (Tryd.f7.body).getD .skip
theorem ltags_eq : trCode Tryd.prog 92 56000 ltagsB = ltags.erase 56000 := by kernel_rfl
theorem ltags_body : Tryd.f7.body = some ltagsB := by kernel_rfl
theorem ltags_n : Tryd.f7.ntmps = 92 := by kernel_rfl
theorem ltags_r : Tryd.f7.results.toList.map (trRes Tryd.prog) = [.tmp 4] := by kernel_rfl
theorem ltags_spec {h : HP} {a0 a1 : AV} {Post : HP → AV → List AV → Prop} (hp : ∀ (E : Env) (R : HP → AV → List AV → Prop), E.N ≤ 1000000 → PostTo Post R → vcW Tryd.prog E ltags (KQ.post [.tmp 4] 2 R) ⟨[(0, a0), (1, a1)], h⟩) : Eng.Spec Tryd.prog 7 h [a0, a1] Post := spec_wk (
  spec_of (c := ltags.erase 56000) (B := 56000) Tryd.func7 ltags_body (by rw [ltags_n, ltags_eq]) (by rw [ltags_n]; decide) (by rw [ltags_n]; exact (by decide : 2 ≤ 92)) (fun E hE hB hrd => by
    have hN : E.N ≤ 1000000 := by
      rw [hE, ltags_n]; decide
    rw [ltags_r, ← hB]
    exact awp_slots [(0, a0), (1, a1)] ⟨rfl, rfl, trivial⟩ (vcW_sound hN _ (hp E _ hN fin_self))))
/- cartulary/cartularylaw15.CommitApart -/
def lapart_7o : List ROp := [.cal (some 61) false 57061 12 [],
   .v 62 (.mov (.t 61)),
   .gval 63 62 true false 57063 (.mov (.t 12)),
   .gval 64 62 true false 57064 (.bin .neq (.t 63) (.c (.int .i64 0))),
   .gval 65 62 true false 57065 (.mov (.t 64)),
   .gval 66 65 false false 57066 (.mov (.t 14)),
   .gval 67 65 false false 57067 (.bin .neq (.t 66) (.c (.int .i64 0))),
   .gval 68 62 true false 57068 (.pick (.t 65) (.c (.bool true)) (.t 67)),
   .v 69 (.pick (.t 62) (.t 68) (.c (.bool false))),
   .v 70 (.mov (.t 69)),
   .gval 71 70 true false 57071 (.mov (.t 8)),
   .gval 72 70 true false 57072 (.bin .neq (.t 71) (.c (.int .i64 0))),
   .gval 73 70 true false 57073 (.mov (.t 72)),
   .gval 74 73 false false 57074 (.mov (.t 16)),
   .gval 75 73 false false 57075 (.bin .neq (.t 74) (.c (.int .i64 0))),
   .gval 76 70 true false 57076 (.pick (.t 73) (.c (.bool true)) (.t 75)),
   .v 77 (.pick (.t 70) (.t 76) (.c (.bool false))),
   .v 6 (.mov (.t 77))]
def lapart_7 : AK := .seq (.reg lapart_7o [6]) .ret
def lapart_6o : List ROp := [.v 57 (.mov (.t 7)),
   .cal (some 58) false 57058 24 [(.t 57)],
   .v 56 (.mov (.t 58)),
   .v 59 (.ext (.t 56) 0),
   .v 60 (.ext (.t 56) 1),
   .eff 15 false 57015 (.alloc [.str [], .int .i64 0, .str [], .str [], .int .i64 0, .int .i64 0, .str []]),
   .effN false 57000 (.st 7 (.t 15) (.t 59)),
   .v 16 (.mov (.t 60))]
def lapart_6 : AK := .seq (.reg lapart_6o [8, 12, 14, 16]) lapart_7
def lapart_5o : List ROp := [.v 52 (.mov (.t 11)),
   .cal (some 53) false 57053 17 [(.t 52)],
   .v 51 (.mov (.t 53)),
   .v 54 (.ext (.t 51) 0),
   .v 55 (.ext (.t 51) 1),
   .eff 13 false 57013 (.alloc [.str [], .nilsl, .str [], .int .i64 0, .int .i64 0, .str [], .int .i64 0, .int .i64 0, .str []]),
   .effN false 57000 (.st 9 (.t 13) (.t 54)),
   .v 14 (.mov (.t 55))]
def lapart_5 : AK := .seq (.reg lapart_5o [7, 8, 12, 14]) lapart_6
def lapart_4o : List ROp := [.v 47 (.ld true 7 (.t 5)),
   .cal (some 48) false 57048 22 [(.t 47)],
   .v 46 (.mov (.t 48)),
   .v 49 (.ext (.t 46) 0),
   .v 50 (.ext (.t 46) 1),
   .v 11 (.mov (.t 49)),
   .v 12 (.mov (.t 50))]
def lapart_4 : AK := .seq (.reg lapart_4o [7, 8, 11, 12]) lapart_5
def lapart_10o : List ROp := [.v 6 (.mov (.c (.bool false)))]
def lapart_10 : AK := .seq (.reg lapart_10o [6]) .ret
def lapart_9 : AK := .cond (.t 45) lapart_10 .skip
def lapart_8o : List ROp := [.v 29 (.mov (.t 8)),
   .v 30 (.bin .eql (.t 29) (.c (.int .i64 0))),
   .v 31 (.mov (.t 30)),
   .gval 32 31 true false 57032 (.mov (.t 10)),
   .gval 33 31 true false 57033 (.bin .eql (.t 32) (.c (.int .i64 0))),
   .v 34 (.pick (.t 31) (.t 33) (.c (.bool false))),
   .v 35 (.mov (.t 34)),
   .gval 36 35 true true 57036 (.mov (.t 7)),
   .gval 37 35 true true 57037 (.mov (.t 9)),
   .gval 38 35 true true 57038 (.bin .eql (.t 36) (.t 37)),
   .gval 39 35 true true 57039 (.ld true 9 (.t 3)),
   .gval 41 35 true true 57041 (.ld true 9 (.t 4)),
   .gcal 40 35 true true 57040 9 [(.t 39)],
   .gcal 42 35 true true 57042 9 [(.t 41)],
   .gcal 43 35 true true 57043 16 [(.t 40), (.t 42)],
   .gval 44 35 true false 57044 (.beq true (.t 38) (.t 43)),
   .v 45 (.pick (.t 35) (.t 44) (.c (.bool false)))]
def lapart_8 : AK := .seq (.reg lapart_8o [5, 7, 8, 45]) lapart_9
def lapart_3 : AK := .seq lapart_8 lapart_4
def lapart_2o : List ROp := [.v 24 (.ld true 9 (.t 4)),
   .cal (some 25) false 57025 9 [(.t 24)],
   .cal (some 26) false 57026 10 [(.t 25)],
   .v 23 (.mov (.t 26)),
   .v 27 (.ext (.t 23) 0),
   .v 28 (.ext (.t 23) 1),
   .v 9 (.mov (.t 27)),
   .v 10 (.mov (.t 28))]
def lapart_2 : AK := .seq (.reg lapart_2o [3, 4, 5, 7, 8, 9, 10]) lapart_3
def lapart_1o : List ROp := [.v 18 (.ld true 9 (.t 3)),
   .cal (some 19) false 57019 9 [(.t 18)],
   .cal (some 20) false 57020 10 [(.t 19)],
   .v 17 (.mov (.t 20)),
   .v 21 (.ext (.t 17) 0),
   .v 22 (.ext (.t 17) 1),
   .v 7 (.mov (.t 21)),
   .v 8 (.mov (.t 22))]
def lapart_1 : AK := .seq (.reg lapart_1o [3, 4, 5, 7, 8]) lapart_2
def lapart_0o : List ROp := [.eff 3 false 57003 (.box 9 (.t 0)),
   .eff 4 false 57004 (.box 9 (.t 1)),
   .eff 5 false 57005 (.box 7 (.t 2)),
   .v 6 (.mov (.c (.bool false)))]
def lapart_0 : AK := .seq (.reg lapart_0o [3, 4, 5]) lapart_1
def lapart : AK := lapart_0
theorem lapart_vc (P : Program) (E : Env) (Q : KQ) (st : St) :
  (vcW P E lapart_7 Q st = aopsW P lapart_7o st (KS.reg [6] (KQ.seq P E .ret Q))) ∧
  (vcW P E lapart_6 Q st = aopsW P lapart_6o st (KS.reg [8, 12, 14, 16] (KQ.seq P E lapart_7 Q))) ∧
  (vcW P E lapart_5 Q st = aopsW P lapart_5o st (KS.reg [7, 8, 12, 14] (KQ.seq P E lapart_6 Q))) ∧
  (vcW P E lapart_4 Q st = aopsW P lapart_4o st (KS.reg [7, 8, 11, 12] (KQ.seq P E lapart_5 Q))) ∧
  (vcW P E lapart_10 Q st = aopsW P lapart_10o st (KS.reg [6] (KQ.seq P E .ret Q))) ∧
  (vcW P E lapart_9 Q st = cndW P E (ev st (.t 45)) lapart_10 .skip Q st) ∧
  (vcW P E lapart_8 Q st = aopsW P lapart_8o st (KS.reg [5, 7, 8, 45] (KQ.seq P E lapart_9 Q))) ∧
  (vcW P E lapart_3 Q st = vcW P E lapart_8 (KQ.seq P E lapart_4 Q) st) ∧
  (vcW P E lapart_2 Q st = aopsW P lapart_2o st (KS.reg [3, 4, 5, 7, 8, 9, 10] (KQ.seq P E lapart_3 Q))) ∧
  (vcW P E lapart_1 Q st = aopsW P lapart_1o st (KS.reg [3, 4, 5, 7, 8] (KQ.seq P E lapart_2 Q))) ∧
  (vcW P E lapart_0 Q st = aopsW P lapart_0o st (KS.reg [3, 4, 5] (KQ.seq P E lapart_1 Q))) ∧
  (vcW P E lapart Q st = vcW P E lapart_0 Q st) :=
  ⟨rfl, rfl, rfl, rfl, rfl, vcW_cond, rfl, rfl, rfl, rfl, rfl, rfl⟩
theorem lapart_jn (P : Program) (E : Env) (Q : KQ) (st : St) :
  (True) :=
  trivial
attribute [go_sem] lapart_vc lapart_7o lapart_6o lapart_5o lapart_4o lapart_10o lapart_8o lapart_2o lapart_1o lapart_0o
noncomputable def lapartB : Code := (Tryd.f8.body).getD .skip
theorem lapart_eq : trCode Tryd.prog 78 57000 lapartB = lapart.erase 57000 := by kernel_rfl
theorem lapart_body : Tryd.f8.body = some lapartB := by kernel_rfl
theorem lapart_n : Tryd.f8.ntmps = 78 := by kernel_rfl
theorem lapart_r : Tryd.f8.results.toList.map (trRes Tryd.prog) = [.tmp 6] := by kernel_rfl
theorem lapart_spec {h : HP} {a0 a1 a2 : AV} {Post : HP → AV → List AV → Prop} (hp : ∀ (E : Env) (R : HP → AV → List AV → Prop), E.N ≤ 1000000 → PostTo Post R → vcW Tryd.prog E lapart (KQ.post [.tmp 6] 3 R) ⟨[(0, a0), (1, a1), (2, a2)], h⟩) : Eng.Spec Tryd.prog 8 h [a0, a1, a2] Post := spec_wk (
  spec_of (c := lapart.erase 57000) (B := 57000) Tryd.func8 lapart_body (by rw [lapart_n, lapart_eq]) (by rw [lapart_n]; decide) (by rw [lapart_n]; exact (by decide : 3 ≤ 78)) (fun E hE hB hrd => by
    have hN : E.N ≤ 1000000 := by
      rw [hE, lapart_n]; decide
    rw [lapart_r, ← hB]
    exact awp_slots [(0, a0), (1, a1), (2, a2)] ⟨rfl, rfl, rfl, trivial⟩ (vcW_sound hN _ (hp E _ hN fin_self))))
end Go.Proofs.YtjpinndnicmokaaDoor.Cod
