/- Code of functions as the engine reads it: written by a program (code2.py). -/
import Derived.Test.YtjpinndnicmokaaDoorEngX
import Derived.Test.YtjpinndnicmokaaDoorProg
import Derived.KernelRfl
set_option linter.all false
namespace Go.Proofs.YtjpinndnicmokaaDoor.Cod
open Eng
set_option maxRecDepth 100000
/- cartulary/commit.Line -/
def cline_1o : List ROp := [.v 3 (.mov (.t 0)),
   .v 4 (.bin .neq (.t 3) (.c (.str []))),
   .v 5 (.mov (.t 4)),
   .gval 6 5 true false 1006 (.mov (.t 0)),
   .gval 7 5 true false 1007 (.len true (.t 6)),
   .gval 8 5 true false 1008 (.bin .leq (.t 7) (.c (.int .i64 100))),
   .v 9 (.pick (.t 5) (.t 8) (.c (.bool false))),
   .v 10 (.mov (.t 9)),
   .gval 11 10 true false 1011 (.mov (.t 0)),
   .gcal 12 10 true false 1012 32 [(.t 11), (.c (.str [10, 0]))],
   .gval 13 10 true false 1013 (.un .not (.t 12)),
   .v 14 (.pick (.t 10) (.t 13) (.c (.bool false))),
   .v 2 (.mov (.t 14))]
def cline_1 : AK := .seq (.reg cline_1o [2]) .ret
def cline_0o : List ROp := [.v 2 (.mov (.c (.bool false)))]
def cline_0 : AK := .seq (.reg cline_0o [0]) cline_1
def cline : AK := cline_0
theorem cline_vc (P : Program) (E : Env) (Q : KQ) (st : St) :
  (vcW P E cline_1 Q st = aopsW P cline_1o st (KS.reg [2] (KQ.seq P E .ret Q))) ∧
  (vcW P E cline_0 Q st = aopsW P cline_0o st (KS.reg [0] (KQ.seq P E cline_1 Q))) ∧
  (vcW P E cline Q st = vcW P E cline_0 Q st) :=
  ⟨rfl, rfl, rfl⟩
theorem cline_jn (P : Program) (E : Env) (Q : KQ) (st : St) :
  (True) :=
  trivial
attribute [go_sem] cline_vc cline_1o cline_0o
noncomputable def clineB : Code := (Tryd.f14.body).getD .skip
theorem cline_eq : trCode Tryd.prog 15 1000 clineB = cline.erase 1000 := by kernel_rfl
theorem cline_body : Tryd.f14.body = some clineB := by kernel_rfl
theorem cline_n : Tryd.f14.ntmps = 15 := by kernel_rfl
theorem cline_r : Tryd.f14.results.toList.map (trRes Tryd.prog) = [.tmp 2] := by kernel_rfl
theorem cline_spec {h : HP} {a0 : AV} {Post : HP → AV → List AV → Prop} (hp : ∀ (E : Env) (R : HP → AV → List AV → Prop), E.N ≤ 1000000 → PostTo Post R → vcW Tryd.prog E cline (KQ.post [.tmp 2] 1 R) ⟨[(0, a0)], h⟩) : Eng.Spec Tryd.prog 14 h [a0] Post := spec_wk (
  spec_of (c := cline.erase 1000) (B := 1000) Tryd.func14 cline_body (by rw [cline_n, cline_eq]) (by rw [cline_n]; decide) (by rw [cline_n]; exact (by decide : 1 ≤ 15)) (fun E hE hB hrd => by
    have hN : E.N ≤ 1000000 := by
      rw [hE, cline_n]; decide
    rw [cline_r, ← hB]
    exact awp_slots [(0, a0)] ⟨rfl, trivial⟩ (vcW_sound hN _ (hp E _ hN fin_self))))
/- cartulary/commit.signed -/
def csigned_1o : List ROp := [.v 3 (.fldA false 0 1 (.t 1)),
   .v 4 (.ld false 1 (.t 3)),
   .cal (some 5) false 2005 14 [(.t 4)],
   .v 6 (.mov (.t 5)),
   .gval 7 6 true false 2007 (.fldA false 1 1 (.t 1)),
   .gval 8 6 true false 2008 (.ld false 1 (.t 7)),
   .gval 9 6 true false 2009 (.bin .geq (.t 8) (.c (.int .i64 0))),
   .v 10 (.pick (.t 6) (.t 9) (.c (.bool false))),
   .v 11 (.mov (.t 10)),
   .gval 12 11 true false 2012 (.fldA false 1 1 (.t 1)),
   .gval 13 11 true false 2013 (.ld false 1 (.t 12)),
   .gval 14 11 true false 2014 (.bin .leq (.t 13) (.c (.int .i64 253402300799))),
   .v 15 (.pick (.t 11) (.t 14) (.c (.bool false))),
   .v 16 (.mov (.t 15)),
   .gval 17 16 true false 2017 (.fldA false 2 1 (.t 1)),
   .gval 18 16 true false 2018 (.ld false 1 (.t 17)),
   .gval 19 16 true false 2019 (.bin .geq (.t 18) (.c (.int .i64 (-840)))),
   .v 20 (.pick (.t 16) (.t 19) (.c (.bool false))),
   .v 21 (.mov (.t 20)),
   .gval 22 21 true false 2022 (.fldA false 2 1 (.t 1)),
   .gval 23 21 true false 2023 (.ld false 1 (.t 22)),
   .gval 24 21 true false 2024 (.bin .leq (.t 23) (.c (.int .i64 840))),
   .v 25 (.pick (.t 21) (.t 24) (.c (.bool false))),
   .v 2 (.mov (.t 25))]
def csigned_1 : AK := .seq (.reg csigned_1o [2]) .ret
def csigned_0o : List ROp := [.eff 1 false 2001 (.box 3 (.t 0)),
   .v 2 (.mov (.c (.bool false)))]
def csigned_0 : AK := .seq (.reg csigned_0o [1]) csigned_1
def csigned : AK := csigned_0
theorem csigned_vc (P : Program) (E : Env) (Q : KQ) (st : St) :
  (vcW P E csigned_1 Q st = aopsW P csigned_1o st (KS.reg [2] (KQ.seq P E .ret Q))) ∧
  (vcW P E csigned_0 Q st = aopsW P csigned_0o st (KS.reg [1] (KQ.seq P E csigned_1 Q))) ∧
  (vcW P E csigned Q st = vcW P E csigned_0 Q st) :=
  ⟨rfl, rfl, rfl⟩
theorem csigned_jn (P : Program) (E : Env) (Q : KQ) (st : St) :
  (True) :=
  trivial
attribute [go_sem] csigned_vc csigned_1o csigned_0o
noncomputable def csignedB : Code := (Tryd.f31.body).getD .skip
theorem csigned_eq : trCode Tryd.prog 26 2000 csignedB = csigned.erase 2000 := by kernel_rfl
theorem csigned_body : Tryd.f31.body = some csignedB := by kernel_rfl
theorem csigned_n : Tryd.f31.ntmps = 26 := by kernel_rfl
theorem csigned_r : Tryd.f31.results.toList.map (trRes Tryd.prog) = [.tmp 2] := by kernel_rfl
theorem csigned_spec {h : HP} {a0 : AV} {Post : HP → AV → List AV → Prop} (hp : ∀ (E : Env) (R : HP → AV → List AV → Prop), E.N ≤ 1000000 → PostTo Post R → vcW Tryd.prog E csigned (KQ.post [.tmp 2] 1 R) ⟨[(0, a0)], h⟩) : Eng.Spec Tryd.prog 31 h [a0] Post := spec_wk (
  spec_of (c := csigned.erase 2000) (B := 2000) Tryd.func31 csigned_body (by rw [csigned_n, csigned_eq]) (by rw [csigned_n]; decide) (by rw [csigned_n]; exact (by decide : 1 ≤ 26)) (fun E hE hB hrd => by
    have hN : E.N ≤ 1000000 := by
      rw [hE, csigned_n]; decide
    rw [csigned_r, ← hB]
    exact awp_slots [(0, a0)] ⟨rfl, trivial⟩ (vcW_sound hN _ (hp E _ hN fin_self))))
/- cartulary/commit.zone -/
def zone_4o : List ROp := [.v 17 (.mov (.t 3)),
   .v 18 (.mov (.t 4)),
   .v 19 (.slcS (.t 18) (some (.c (.int .i64 1))) none),
   .v 20 (.bin .add (.t 17) (.t 19)),
   .v 2 (.mov (.t 20))]
def zone_4 : AK := .seq (.reg zone_4o [2]) .ret
def zone_3o : List ROp := [.v 9 (.mov (.t 0)),
   .v 10 (.bin .quo (.t 9) (.c (.int .i64 60))),
   .v 11 (.bin .mul (.t 10) (.c (.int .i64 100))),
   .v 12 (.bin .add (.c (.int .i64 10000)) (.t 11)),
   .v 13 (.mov (.t 0)),
   .v 14 (.bin .rem (.t 13) (.c (.int .i64 60))),
   .v 15 (.bin .add (.t 12) (.t 14)),
   .cal (some 16) false 3016 45 [(.t 15)],
   .v 4 (.mov (.t 16))]
def zone_3 : AK := .seq (.reg zone_3o [3, 4]) zone_4
def zone_7o : List ROp := [.v 7 (.mov (.t 0)),
   .v 8 (.un .neg (.t 7)),
   .v 3 (.mov (.c (.str [45]))),
   .v 0 (.mov (.t 8))]
def zone_7 : AK := .reg zone_7o [0, 3]
def zone_6 : AK := .cond (.t 6) zone_7 .skip
def zone_5o : List ROp := [.v 5 (.mov (.t 0)),
   .v 6 (.bin .lss (.t 5) (.c (.int .i64 0)))]
def zone_5 : AK := .seq (.reg zone_5o [0, 3, 6]) zone_6
def zone_2 : AK := .seq zone_5 (.mid zone_3)
def zone_1o : List ROp := [.v 3 (.mov (.c (.str [43])))]
def zone_1 : AK := .seq (.reg zone_1o [0, 3]) zone_2
def zone_0o : List ROp := [.v 2 (.mov (.c (.str [])))]
def zone_0 : AK := .seq (.reg zone_0o [0]) zone_1
def zone : AK := zone_0
theorem zone_vc (P : Program) (E : Env) (Q : KQ) (st : St) :
  (vcW P E zone_4 Q st = aopsW P zone_4o st (KS.reg [2] (KQ.seq P E .ret Q))) ∧
  (vcW P E zone_3 Q st = aopsW P zone_3o st (KS.reg [3, 4] (KQ.seq P E zone_4 Q))) ∧
  (vcW P E zone_7 Q st = aopsW P zone_7o st (KS.reg [0, 3] Q)) ∧
  (vcW P E zone_6 Q st = cndW P E (ev st (.t 6)) zone_7 .skip Q st) ∧
  (vcW P E zone_5 Q st = aopsW P zone_5o st (KS.reg [0, 3, 6] (KQ.seq P E zone_6 Q))) ∧
  (vcW P E zone_1 Q st = aopsW P zone_1o st (KS.reg [0, 3] (KQ.seq P E zone_2 Q))) ∧
  (vcW P E zone_0 Q st = aopsW P zone_0o st (KS.reg [0] (KQ.seq P E zone_1 Q))) ∧
  (vcW P E zone Q st = vcW P E zone_0 Q st) :=
  ⟨rfl, rfl, rfl, vcW_cond, rfl, rfl, rfl, rfl⟩
theorem zone_jn (P : Program) (E : Env) (Q : KQ) (st : St) :
  (vcW P E zone_2 Q st = vcW P E zone_5 (KQ.seq P E (.mid zone_3) Q) st) :=
  rfl
attribute [go_sem] zone_vc zone_4o zone_3o zone_7o zone_5o zone_1o zone_0o
noncomputable def zoneB : Code := (Tryd.f46.body).getD .skip
theorem zone_eq : trCode Tryd.prog 21 3000 zoneB = zone.erase 3000 := by kernel_rfl
theorem zone_body : Tryd.f46.body = some zoneB := by kernel_rfl
theorem zone_n : Tryd.f46.ntmps = 21 := by kernel_rfl
theorem zone_r : Tryd.f46.results.toList.map (trRes Tryd.prog) = [.tmp 2] := by kernel_rfl
theorem zone_spec {h : HP} {a0 : AV} {Post : HP → AV → List AV → Prop} (hp : ∀ (E : Env) (R : HP → AV → List AV → Prop), E.N ≤ 1000000 → PostTo Post R → vcW Tryd.prog E zone (KQ.post [.tmp 2] 1 R) ⟨[(0, a0)], h⟩) : Eng.Spec Tryd.prog 46 h [a0] Post := spec_wk (
  spec_of (c := zone.erase 3000) (B := 3000) Tryd.func46 zone_body (by rw [zone_n, zone_eq]) (by rw [zone_n]; decide) (by rw [zone_n]; exact (by decide : 1 ≤ 21)) (fun E hE hB hrd => by
    have hN : E.N ≤ 1000000 := by
      rw [hE, zone_n]; decide
    rw [zone_r, ← hB]
    exact awp_slots [(0, a0)] ⟨rfl, trivial⟩ (vcW_sound hN _ (hp E _ hN fin_self))))
/- cartulary/commit.sign -/
def csign_1o : List ROp := [.val 3 true 4003 (.fldA false 0 1 (.t 1)),
   .val 4 true 4004 (.ld false 1 (.t 3)),
   .val 5 true 4005 (.bin .add (.t 4) (.c (.str [32]))),
   .val 6 true 4006 (.fldA false 1 1 (.t 1)),
   .val 7 true 4007 (.ld false 1 (.t 6)),
   .val 11 true 4011 (.fldA false 2 1 (.t 1)),
   .val 12 true 4012 (.ld false 1 (.t 11)),
   .cal (some 8) true 4008 45 [(.t 7)],
   .val 9 true 4009 (.bin .add (.t 5) (.t 8)),
   .val 10 true 4010 (.bin .add (.t 9) (.c (.str [32]))),
   .cal (some 13) true 4013 46 [(.t 12)],
   .v 14 (.bin .add (.t 10) (.t 13)),
   .v 2 (.mov (.t 14))]
def csign_1 : AK := .seq (.reg csign_1o [2]) .ret
def csign_0o : List ROp := [.eff 1 false 4001 (.box 3 (.t 0)),
   .v 2 (.mov (.c (.str [])))]
def csign_0 : AK := .seq (.reg csign_0o [1]) csign_1
def csign : AK := csign_0
theorem csign_vc (P : Program) (E : Env) (Q : KQ) (st : St) :
  (vcW P E csign_1 Q st = aopsW P csign_1o st (KS.reg [2] (KQ.seq P E .ret Q))) ∧
  (vcW P E csign_0 Q st = aopsW P csign_0o st (KS.reg [1] (KQ.seq P E csign_1 Q))) ∧
  (vcW P E csign Q st = vcW P E csign_0 Q st) :=
  ⟨rfl, rfl, rfl⟩
theorem csign_jn (P : Program) (E : Env) (Q : KQ) (st : St) :
  (True) :=
  trivial
attribute [go_sem] csign_vc csign_1o csign_0o
noncomputable def csignB : Code := (Tryd.f28.body).getD .skip
theorem csign_eq : trCode Tryd.prog 15 4000 csignB = csign.erase 4000 := by kernel_rfl
theorem csign_body : Tryd.f28.body = some csignB := by kernel_rfl
theorem csign_n : Tryd.f28.ntmps = 15 := by kernel_rfl
theorem csign_r : Tryd.f28.results.toList.map (trRes Tryd.prog) = [.tmp 2] := by kernel_rfl
theorem csign_spec {h : HP} {a0 : AV} {Post : HP → AV → List AV → Prop} (hp : ∀ (E : Env) (R : HP → AV → List AV → Prop), E.N ≤ 1000000 → PostTo Post R → vcW Tryd.prog E csign (KQ.post [.tmp 2] 1 R) ⟨[(0, a0)], h⟩) : Eng.Spec Tryd.prog 28 h [a0] Post := spec_wk (
  spec_of (c := csign.erase 4000) (B := 4000) Tryd.func28 csign_body (by rw [csign_n, csign_eq]) (by rw [csign_n]; decide) (by rw [csign_n]; exact (by decide : 1 ≤ 15)) (fun E hE hB hrd => by
    have hN : E.N ≤ 1000000 := by
      rw [hE, csign_n]; decide
    rw [csign_r, ← hB]
    exact awp_slots [(0, a0)] ⟨rfl, trivial⟩ (vcW_sound hN _ (hp E _ hN fin_self))))
/- cartulary/commit.Check -/
def ccheck_4o : List ROp := [.v 2 (.mov (.c (.int .i64 0)))]
def ccheck_4 : AK := .seq (.reg ccheck_4o [2]) .ret
def ccheck_7o : List ROp := [.v 2 (.mov (.c (.int .i64 4)))]
def ccheck_7 : AK := .seq (.reg ccheck_7o [2]) .ret
def ccheck_6 : AK := .cond (.t 35) ccheck_7 .skip
def ccheck_5o : List ROp := [.v 20 (.fldA false 0 1 (.t 1)),
   .v 21 (.ld false 1 (.t 20)),
   .cal (some 22) false 5022 30 [(.t 21)],
   .v 23 (.un .not (.t 22)),
   .v 24 (.mov (.t 23)),
   .gval 25 24 false false 5025 (.fldA true 2 3 (.t 1)),
   .gval 26 24 false false 5026 (.ld true 3 (.t 25)),
   .gcal 27 24 false false 5027 31 [(.t 26)],
   .gval 28 24 false false 5028 (.un .not (.t 27)),
   .v 29 (.pick (.t 24) (.c (.bool true)) (.t 28)),
   .v 30 (.mov (.t 29)),
   .gval 31 30 false false 5031 (.fldA true 5 3 (.t 1)),
   .gval 32 30 false false 5032 (.ld true 3 (.t 31)),
   .gcal 33 30 false false 5033 31 [(.t 32)],
   .gval 34 30 false false 5034 (.un .not (.t 33)),
   .v 35 (.pick (.t 30) (.c (.bool true)) (.t 34))]
def ccheck_5 : AK := .seq (.reg ccheck_5o [35]) ccheck_6
def ccheck_3 : AK := .seq ccheck_5 ccheck_4
def ccheck_13o : List ROp := [.v 19 (.bin .add (.t 12) (.c (.int .i64 1))),
   .v 12 (.mov (.t 19))]
def ccheck_13 : AK := .reg ccheck_13o [1, 10, 11, 12]
def ccheck_18o : List ROp := [.v 2 (.mov (.c (.int .i64 4)))]
def ccheck_18 : AK := .seq (.reg ccheck_18o [2]) .ret
def ccheck_17 : AK := .cond (.t 18) ccheck_18 .skip
def ccheck_16o : List ROp := [.v 16 (.mov (.t 4)),
   .cal (some 17) false 5017 30 [(.t 16)],
   .v 18 (.un .not (.t 17))]
def ccheck_16 : AK := .seq (.reg ccheck_16o [1, 10, 11, 12, 18]) ccheck_17
def ccheck_15o : List ROp := [.v 14 (.idxA 1 (.t 10) (.t 12)),
   .v 15 (.ld false 1 (.t 14)),
   .v 4 (.mov (.t 15))]
def ccheck_15 : AK := .seq (.reg ccheck_15o [1, 4, 10, 11, 12]) ccheck_16
def ccheck_14 : AK := .block 1 ccheck_15
def ccheck_12 : AK := .seq ccheck_14 ccheck_13
def ccheck_19 : AK := .cond (.t 13) .skip (.exit 0)
def ccheck_11 : AK := .seq ccheck_19 ccheck_12
def ccheck_10o : List ROp := [.v 13 (.bin .lss (.t 12) (.t 11))]
def ccheck_10 : AK := .seq (.reg ccheck_10o [1, 10, 11, 12, 13]) ccheck_11
def ccheck_L0 : AK := .loop ccheck_10
def ccheck_9 : AK := .block 0 ccheck_L0
def ccheck_8o : List ROp := [.v 9 (.fldA false 1 1 (.t 1)),
   .v 10 (.ld false 1 (.t 9)),
   .v 11 (.len false (.t 10)),
   .v 12 (.mov (.c (.int .i64 0)))]
def ccheck_8 : AK := .seq (.reg ccheck_8o [1, 10, 11, 12]) ccheck_9
def ccheck_2 : AK := .seq ccheck_8 ccheck_3
def ccheck_22o : List ROp := [.v 2 (.mov (.c (.int .i64 2)))]
def ccheck_22 : AK := .seq (.reg ccheck_22o [2]) .ret
def ccheck_21 : AK := .cond (.t 8) ccheck_22 .skip
def ccheck_20o : List ROp := [.v 5 (.fldA false 1 1 (.t 1)),
   .v 6 (.ld false 1 (.t 5)),
   .v 7 (.len false (.t 6)),
   .v 8 (.bin .gtr (.t 7) (.c (.int .i64 16)))]
def ccheck_20 : AK := .seq (.reg ccheck_20o [1, 8]) ccheck_21
def ccheck_1 : AK := .seq ccheck_20 ccheck_2
def ccheck_0o : List ROp := [.eff 1 false 5001 (.box 9 (.t 0)),
   .v 2 (.mov (.c (.int .i64 0)))]
def ccheck_0 : AK := .seq (.reg ccheck_0o [1]) ccheck_1
def ccheck : AK := ccheck_0
theorem ccheck_vc (P : Program) (E : Env) (Q : KQ) (st : St) :
  (vcW P E ccheck_4 Q st = aopsW P ccheck_4o st (KS.reg [2] (KQ.seq P E .ret Q))) ∧
  (vcW P E ccheck_7 Q st = aopsW P ccheck_7o st (KS.reg [2] (KQ.seq P E .ret Q))) ∧
  (vcW P E ccheck_6 Q st = cndW P E (ev st (.t 35)) ccheck_7 .skip Q st) ∧
  (vcW P E ccheck_5 Q st = aopsW P ccheck_5o st (KS.reg [35] (KQ.seq P E ccheck_6 Q))) ∧
  (vcW P E ccheck_3 Q st = vcW P E ccheck_5 (KQ.seq P E ccheck_4 Q) st) ∧
  (vcW P E ccheck_13 Q st = aopsW P ccheck_13o st (KS.reg [1, 10, 11, 12] Q)) ∧
  (vcW P E ccheck_18 Q st = aopsW P ccheck_18o st (KS.reg [2] (KQ.seq P E .ret Q))) ∧
  (vcW P E ccheck_17 Q st = cndW P E (ev st (.t 18)) ccheck_18 .skip Q st) ∧
  (vcW P E ccheck_16 Q st = aopsW P ccheck_16o st (KS.reg [1, 10, 11, 12, 18] (KQ.seq P E ccheck_17 Q))) ∧
  (vcW P E ccheck_15 Q st = aopsW P ccheck_15o st (KS.reg [1, 4, 10, 11, 12] (KQ.seq P E ccheck_16 Q))) ∧
  (vcW P E ccheck_14 Q st = vcW P E ccheck_15 (KQ.blk 1 Q) st) ∧
  (vcW P E ccheck_12 Q st = vcW P E ccheck_14 (KQ.seq P E ccheck_13 Q) st) ∧
  (vcW P E ccheck_19 Q st = cndW P E (ev st (.t 13)) .skip (.exit 0) Q st) ∧
  (vcW P E ccheck_11 Q st = vcW P E ccheck_19 (KQ.seq P E ccheck_12 Q) st) ∧
  (vcW P E ccheck_10 Q st = aopsW P ccheck_10o st (KS.reg [1, 10, 11, 12, 13] (KQ.seq P E ccheck_11 Q))) ∧
  (vcW P E ccheck_9 Q st = vcW P E ccheck_L0 (KQ.blk 0 Q) st) ∧
  (vcW P E ccheck_8 Q st = aopsW P ccheck_8o st (KS.reg [1, 10, 11, 12] (KQ.seq P E ccheck_9 Q))) ∧
  (vcW P E ccheck_2 Q st = vcW P E ccheck_8 (KQ.seq P E ccheck_3 Q) st) ∧
  (vcW P E ccheck_22 Q st = aopsW P ccheck_22o st (KS.reg [2] (KQ.seq P E .ret Q))) ∧
  (vcW P E ccheck_21 Q st = cndW P E (ev st (.t 8)) ccheck_22 .skip Q st) ∧
  (vcW P E ccheck_20 Q st = aopsW P ccheck_20o st (KS.reg [1, 8] (KQ.seq P E ccheck_21 Q))) ∧
  (vcW P E ccheck_1 Q st = vcW P E ccheck_20 (KQ.seq P E ccheck_2 Q) st) ∧
  (vcW P E ccheck_0 Q st = aopsW P ccheck_0o st (KS.reg [1] (KQ.seq P E ccheck_1 Q))) ∧
  (vcW P E ccheck Q st = vcW P E ccheck_0 Q st) :=
  ⟨rfl, rfl, vcW_cond, rfl, rfl, rfl, rfl, vcW_cond, rfl, rfl, rfl, rfl, vcW_cond, rfl, rfl, rfl, rfl, rfl, rfl, vcW_cond, rfl, rfl, rfl, rfl⟩
theorem ccheck_jn (P : Program) (E : Env) (Q : KQ) (st : St) :
  (True) :=
  trivial
attribute [go_sem] ccheck_vc ccheck_4o ccheck_7o ccheck_5o ccheck_13o ccheck_18o ccheck_16o ccheck_15o ccheck_10o ccheck_8o ccheck_22o ccheck_20o ccheck_0o
noncomputable def ccheckB : Code := (Tryd.f13.body).getD .skip
theorem ccheck_eq : trCode Tryd.prog 36 5000 ccheckB = ccheck.erase 5000 := by kernel_rfl
theorem ccheck_body : Tryd.f13.body = some ccheckB := by kernel_rfl
theorem ccheck_n : Tryd.f13.ntmps = 36 := by kernel_rfl
theorem ccheck_r : Tryd.f13.results.toList.map (trRes Tryd.prog) = [.tmp 2] := by kernel_rfl
theorem ccheck_spec {h : HP} {a0 : AV} {Post : HP → AV → List AV → Prop} (hp : ∀ (E : Env) (R : HP → AV → List AV → Prop), E.N ≤ 1000000 → PostTo Post R → vcW Tryd.prog E ccheck (KQ.post [.tmp 2] 1 R) ⟨[(0, a0)], h⟩) : Eng.Spec Tryd.prog 13 h [a0] Post := spec_wk (
  spec_of (c := ccheck.erase 5000) (B := 5000) Tryd.func13 ccheck_body (by rw [ccheck_n, ccheck_eq]) (by rw [ccheck_n]; decide) (by rw [ccheck_n]; exact (by decide : 1 ≤ 36)) (fun E hE hB hrd => by
    have hN : E.N ≤ 1000000 := by
      rw [hE, ccheck_n]; decide
    rw [ccheck_r, ← hB]
    exact awp_slots [(0, a0)] ⟨rfl, trivial⟩ (vcW_sound hN _ (hp E _ hN fin_self))))
/- cartulary/commit.Format -/
def format_4o : List ROp := [.val 30 true 6030 (.mov (.t 5)),
   .val 31 true 6031 (.bin .add (.t 30) (.c (.str [97, 117, 116, 104, 111, 114, 32]))),
   .val 32 true 6032 (.fldA true 2 3 (.t 1)),
   .val 33 true 6033 (.ld true 3 (.t 32)),
   .val 37 true 6037 (.fldA true 5 3 (.t 1)),
   .val 38 true 6038 (.ld true 3 (.t 37)),
   .val 42 true 6042 (.fldA false 8 1 (.t 1)),
   .val 43 true 6043 (.ld false 1 (.t 42)),
   .cal (some 34) true 6034 28 [(.t 33)],
   .val 35 true 6035 (.bin .add (.t 31) (.t 34)),
   .val 36 true 6036 (.bin .add (.t 35) (.c (.str [10, 99, 111, 109, 109, 105, 116, 116, 101, 114, 32]))),
   .cal (some 39) true 6039 28 [(.t 38)],
   .val 40 true 6040 (.bin .add (.t 36) (.t 39)),
   .val 41 true 6041 (.bin .add (.t 40) (.c (.str [10, 10]))),
   .v 44 (.bin .add (.t 41) (.t 43)),
   .v 2 (.mov (.t 44)),
   .v 3 (.mov (.c (.int .i64 0)))]
def format_4 : AK := .seq (.reg format_4o [2, 3]) .ret
def format_10o : List ROp := [.v 29 (.bin .add (.t 20) (.c (.int .i64 1))),
   .v 20 (.mov (.t 29))]
def format_10 : AK := .reg format_10o [1, 5, 18, 19, 20]
def format_13o : List ROp := [.v 24 (.mov (.t 5)),
   .v 25 (.mov (.t 7)),
   .v 26 (.bin .add (.c (.str [112, 97, 114, 101, 110, 116, 32])) (.t 25)),
   .v 27 (.bin .add (.t 26) (.c (.str [10]))),
   .v 28 (.bin .add (.t 24) (.t 27)),
   .v 5 (.mov (.t 28))]
def format_13 : AK := .reg format_13o [1, 5, 18, 19, 20]
def format_12o : List ROp := [.v 22 (.idxA 1 (.t 18) (.t 20)),
   .v 23 (.ld false 1 (.t 22)),
   .v 7 (.mov (.t 23))]
def format_12 : AK := .seq (.reg format_12o [1, 5, 7, 18, 19, 20]) format_13
def format_11 : AK := .block 1 format_12
def format_9 : AK := .seq format_11 format_10
def format_14 : AK := .cond (.t 21) .skip (.exit 0)
def format_8 : AK := .seq format_14 format_9
def format_7o : List ROp := [.v 21 (.bin .lss (.t 20) (.t 19))]
def format_7 : AK := .seq (.reg format_7o [1, 5, 18, 19, 20, 21]) format_8
def format_L0 : AK := .loop format_7
def format_6 : AK := .block 0 format_L0
def format_5o : List ROp := [.v 17 (.fldA false 1 1 (.t 1)),
   .v 18 (.ld false 1 (.t 17)),
   .v 19 (.len false (.t 18)),
   .v 20 (.mov (.c (.int .i64 0)))]
def format_5 : AK := .seq (.reg format_5o [1, 5, 18, 19, 20]) format_6
def format_3 : AK := .seq format_5 format_4
def format_2o : List ROp := [.v 13 (.fldA false 0 1 (.t 1)),
   .v 14 (.ld false 1 (.t 13)),
   .v 15 (.bin .add (.c (.str [116, 114, 101, 101, 32])) (.t 14)),
   .v 16 (.bin .add (.t 15) (.c (.str [10]))),
   .v 5 (.mov (.t 16))]
def format_2 : AK := .seq (.reg format_2o [1, 5]) format_3
def format_18o : List ROp := [.v 12 (.mov (.t 4)),
   .v 2 (.mov (.c (.str []))),
   .v 3 (.mov (.t 12))]
def format_18 : AK := .seq (.reg format_18o [2, 3]) .ret
def format_17 : AK := .cond (.t 11) format_18 .skip
def format_16o : List ROp := [.v 10 (.mov (.t 4)),
   .v 11 (.bin .neq (.t 10) (.c (.int .i64 0)))]
def format_16 : AK := .seq (.reg format_16o [1, 4, 11]) format_17
def format_15o : List ROp := [.v 8 (.ld true 9 (.t 1)),
   .cal (some 9) false 6009 13 [(.t 8)],
   .v 4 (.mov (.t 9))]
def format_15 : AK := .seq (.reg format_15o [1, 4]) format_16
def format_1 : AK := .seq format_15 format_2
def format_0o : List ROp := [.eff 1 false 6001 (.box 9 (.t 0)),
   .v 2 (.mov (.c (.str []))),
   .v 3 (.mov (.c (.int .i64 0)))]
def format_0 : AK := .seq (.reg format_0o [1]) format_1
def format : AK := format_0
theorem format_vc (P : Program) (E : Env) (Q : KQ) (st : St) :
  (vcW P E format_4 Q st = aopsW P format_4o st (KS.reg [2, 3] (KQ.seq P E .ret Q))) ∧
  (vcW P E format_10 Q st = aopsW P format_10o st (KS.reg [1, 5, 18, 19, 20] Q)) ∧
  (vcW P E format_13 Q st = aopsW P format_13o st (KS.reg [1, 5, 18, 19, 20] Q)) ∧
  (vcW P E format_12 Q st = aopsW P format_12o st (KS.reg [1, 5, 7, 18, 19, 20] (KQ.seq P E format_13 Q))) ∧
  (vcW P E format_11 Q st = vcW P E format_12 (KQ.blk 1 Q) st) ∧
  (vcW P E format_9 Q st = vcW P E format_11 (KQ.seq P E format_10 Q) st) ∧
  (vcW P E format_14 Q st = cndW P E (ev st (.t 21)) .skip (.exit 0) Q st) ∧
  (vcW P E format_8 Q st = vcW P E format_14 (KQ.seq P E format_9 Q) st) ∧
  (vcW P E format_7 Q st = aopsW P format_7o st (KS.reg [1, 5, 18, 19, 20, 21] (KQ.seq P E format_8 Q))) ∧
  (vcW P E format_6 Q st = vcW P E format_L0 (KQ.blk 0 Q) st) ∧
  (vcW P E format_5 Q st = aopsW P format_5o st (KS.reg [1, 5, 18, 19, 20] (KQ.seq P E format_6 Q))) ∧
  (vcW P E format_3 Q st = vcW P E format_5 (KQ.seq P E format_4 Q) st) ∧
  (vcW P E format_2 Q st = aopsW P format_2o st (KS.reg [1, 5] (KQ.seq P E format_3 Q))) ∧
  (vcW P E format_18 Q st = aopsW P format_18o st (KS.reg [2, 3] (KQ.seq P E .ret Q))) ∧
  (vcW P E format_17 Q st = cndW P E (ev st (.t 11)) format_18 .skip Q st) ∧
  (vcW P E format_16 Q st = aopsW P format_16o st (KS.reg [1, 4, 11] (KQ.seq P E format_17 Q))) ∧
  (vcW P E format_15 Q st = aopsW P format_15o st (KS.reg [1, 4] (KQ.seq P E format_16 Q))) ∧
  (vcW P E format_1 Q st = vcW P E format_15 (KQ.seq P E format_2 Q) st) ∧
  (vcW P E format_0 Q st = aopsW P format_0o st (KS.reg [1] (KQ.seq P E format_1 Q))) ∧
  (vcW P E format Q st = vcW P E format_0 Q st) :=
  ⟨rfl, rfl, rfl, rfl, rfl, rfl, vcW_cond, rfl, rfl, rfl, rfl, rfl, rfl, rfl, vcW_cond, rfl, rfl, rfl, rfl, rfl⟩
theorem format_jn (P : Program) (E : Env) (Q : KQ) (st : St) :
  (True) :=
  trivial
attribute [go_sem] format_vc format_4o format_10o format_13o format_12o format_7o format_5o format_2o format_18o format_16o format_15o format_0o
noncomputable def formatB : Code := (Tryd.f10.body).getD .skip
theorem format_eq : trCode Tryd.prog 45 6000 formatB = format.erase 6000 := by kernel_rfl
theorem format_body : Tryd.f10.body = some formatB := by kernel_rfl
theorem format_n : Tryd.f10.ntmps = 45 := by kernel_rfl
theorem format_r : Tryd.f10.results.toList.map (trRes Tryd.prog) = [.tmp 2, .tmp 3] := by kernel_rfl
theorem format_spec {h : HP} {a0 : AV} {Post : HP → AV → List AV → Prop} (hp : ∀ (E : Env) (R : HP → AV → List AV → Prop), E.N ≤ 1000000 → PostTo Post R → vcW Tryd.prog E format (KQ.post [.tmp 2, .tmp 3] 1 R) ⟨[(0, a0)], h⟩) : Eng.Spec Tryd.prog 10 h [a0] Post := spec_wk (
  spec_of (c := format.erase 6000) (B := 6000) Tryd.func10 format_body (by rw [format_n, format_eq]) (by rw [format_n]; decide) (by rw [format_n]; exact (by decide : 1 ≤ 45)) (fun E hE hB hrd => by
    have hN : E.N ≤ 1000000 := by
      rw [hE, format_n]; decide
    rw [format_r, ← hB]
    exact awp_slots [(0, a0)] ⟨rfl, trivial⟩ (vcW_sound hN _ (hp E _ hN fin_self))))
/- cartulary/commit.CheckTag -/
def cchecktag_2o : List ROp := [.v 2 (.mov (.c (.int .i64 0)))]
def cchecktag_2 : AK := .seq (.reg cchecktag_2o [2]) .ret
def cchecktag_5o : List ROp := [.v 2 (.mov (.c (.int .i64 4)))]
def cchecktag_5 : AK := .seq (.reg cchecktag_5o [2]) .ret
def cchecktag_4 : AK := .cond (.t 24) cchecktag_5 .skip
def cchecktag_3o : List ROp := [.v 3 (.fldA false 0 1 (.t 1)),
   .v 4 (.ld false 1 (.t 3)),
   .cal (some 5) false 7005 30 [(.t 4)],
   .v 6 (.un .not (.t 5)),
   .v 7 (.mov (.t 6)),
   .gval 8 7 false false 7008 (.fldA false 1 1 (.t 1)),
   .gval 9 7 false false 7009 (.ld false 1 (.t 8)),
   .gcal 10 7 false false 7010 41 [(.t 9)],
   .gval 11 7 false false 7011 (.bin .eql (.t 10) (.c (.str []))),
   .v 12 (.pick (.t 7) (.c (.bool true)) (.t 11)),
   .v 13 (.mov (.t 12)),
   .gval 14 13 false false 7014 (.fldA false 2 1 (.t 1)),
   .gval 15 13 false false 7015 (.ld false 1 (.t 14)),
   .gcal 16 13 false false 7016 14 [(.t 15)],
   .gval 17 13 false false 7017 (.un .not (.t 16)),
   .v 18 (.pick (.t 13) (.c (.bool true)) (.t 17)),
   .v 19 (.mov (.t 18)),
   .gval 20 19 false false 7020 (.fldA true 3 3 (.t 1)),
   .gval 21 19 false false 7021 (.ld true 3 (.t 20)),
   .gcal 22 19 false false 7022 31 [(.t 21)],
   .gval 23 19 false false 7023 (.un .not (.t 22)),
   .v 24 (.pick (.t 19) (.c (.bool true)) (.t 23))]
def cchecktag_3 : AK := .seq (.reg cchecktag_3o [24]) cchecktag_4
def cchecktag_1 : AK := .seq cchecktag_3 cchecktag_2
def cchecktag_0o : List ROp := [.eff 1 false 7001 (.box 7 (.t 0)),
   .v 2 (.mov (.c (.int .i64 0)))]
def cchecktag_0 : AK := .seq (.reg cchecktag_0o [1]) cchecktag_1
def cchecktag : AK := cchecktag_0
theorem cchecktag_vc (P : Program) (E : Env) (Q : KQ) (st : St) :
  (vcW P E cchecktag_2 Q st = aopsW P cchecktag_2o st (KS.reg [2] (KQ.seq P E .ret Q))) ∧
  (vcW P E cchecktag_5 Q st = aopsW P cchecktag_5o st (KS.reg [2] (KQ.seq P E .ret Q))) ∧
  (vcW P E cchecktag_4 Q st = cndW P E (ev st (.t 24)) cchecktag_5 .skip Q st) ∧
  (vcW P E cchecktag_3 Q st = aopsW P cchecktag_3o st (KS.reg [24] (KQ.seq P E cchecktag_4 Q))) ∧
  (vcW P E cchecktag_1 Q st = vcW P E cchecktag_3 (KQ.seq P E cchecktag_2 Q) st) ∧
  (vcW P E cchecktag_0 Q st = aopsW P cchecktag_0o st (KS.reg [1] (KQ.seq P E cchecktag_1 Q))) ∧
  (vcW P E cchecktag Q st = vcW P E cchecktag_0 Q st) :=
  ⟨rfl, rfl, vcW_cond, rfl, rfl, rfl, rfl⟩
theorem cchecktag_jn (P : Program) (E : Env) (Q : KQ) (st : St) :
  (True) :=
  trivial
attribute [go_sem] cchecktag_vc cchecktag_2o cchecktag_5o cchecktag_3o cchecktag_0o
noncomputable def cchecktagB : Code := (Tryd.f26.body).getD .skip
theorem cchecktag_eq : trCode Tryd.prog 25 7000 cchecktagB = cchecktag.erase 7000 := by kernel_rfl
theorem cchecktag_body : Tryd.f26.body = some cchecktagB := by kernel_rfl
theorem cchecktag_n : Tryd.f26.ntmps = 25 := by kernel_rfl
theorem cchecktag_r : Tryd.f26.results.toList.map (trRes Tryd.prog) = [.tmp 2] := by kernel_rfl
theorem cchecktag_spec {h : HP} {a0 : AV} {Post : HP → AV → List AV → Prop} (hp : ∀ (E : Env) (R : HP → AV → List AV → Prop), E.N ≤ 1000000 → PostTo Post R → vcW Tryd.prog E cchecktag (KQ.post [.tmp 2] 1 R) ⟨[(0, a0)], h⟩) : Eng.Spec Tryd.prog 26 h [a0] Post := spec_wk (
  spec_of (c := cchecktag.erase 7000) (B := 7000) Tryd.func26 cchecktag_body (by rw [cchecktag_n, cchecktag_eq]) (by rw [cchecktag_n]; decide) (by rw [cchecktag_n]; exact (by decide : 1 ≤ 25)) (fun E hE hB hrd => by
    have hN : E.N ≤ 1000000 := by
      rw [hE, cchecktag_n]; decide
    rw [cchecktag_r, ← hB]
    exact awp_slots [(0, a0)] ⟨rfl, trivial⟩ (vcW_sound hN _ (hp E _ hN fin_self))))
/- cartulary/commit.FormatTag -/
def formattag_2o : List ROp := [.val 10 true 8010 (.fldA false 0 1 (.t 1)),
   .val 11 true 8011 (.ld false 1 (.t 10)),
   .val 12 true 8012 (.bin .add (.c (.str [111, 98, 106, 101, 99, 116, 32])) (.t 11)),
   .val 13 true 8013 (.bin .add (.t 12) (.c (.str [10, 116, 121, 112, 101, 32]))),
   .val 14 true 8014 (.fldA false 1 1 (.t 1)),
   .val 15 true 8015 (.ld false 1 (.t 14)),
   .val 19 true 8019 (.fldA false 2 1 (.t 1)),
   .val 20 true 8020 (.ld false 1 (.t 19)),
   .val 23 true 8023 (.fldA true 3 3 (.t 1)),
   .val 24 true 8024 (.ld true 3 (.t 23)),
   .val 28 true 8028 (.fldA false 6 1 (.t 1)),
   .val 29 true 8029 (.ld false 1 (.t 28)),
   .cal (some 16) true 8016 41 [(.t 15)],
   .val 17 true 8017 (.bin .add (.t 13) (.t 16)),
   .val 18 true 8018 (.bin .add (.t 17) (.c (.str [10, 116, 97, 103, 32]))),
   .val 21 true 8021 (.bin .add (.t 18) (.t 20)),
   .val 22 true 8022 (.bin .add (.t 21) (.c (.str [10, 116, 97, 103, 103, 101, 114, 32]))),
   .cal (some 25) true 8025 28 [(.t 24)],
   .val 26 true 8026 (.bin .add (.t 22) (.t 25)),
   .val 27 true 8027 (.bin .add (.t 26) (.c (.str [10, 10]))),
   .v 30 (.bin .add (.t 27) (.t 29)),
   .v 2 (.mov (.t 30)),
   .v 3 (.mov (.c (.int .i64 0)))]
def formattag_2 : AK := .seq (.reg formattag_2o [2, 3]) .ret
def formattag_6o : List ROp := [.v 9 (.mov (.t 4)),
   .v 2 (.mov (.c (.str []))),
   .v 3 (.mov (.t 9))]
def formattag_6 : AK := .seq (.reg formattag_6o [2, 3]) .ret
def formattag_5 : AK := .cond (.t 8) formattag_6 .skip
def formattag_4o : List ROp := [.v 7 (.mov (.t 4)),
   .v 8 (.bin .neq (.t 7) (.c (.int .i64 0)))]
def formattag_4 : AK := .seq (.reg formattag_4o [1, 4, 8]) formattag_5
def formattag_3o : List ROp := [.v 5 (.ld true 7 (.t 1)),
   .cal (some 6) false 8006 26 [(.t 5)],
   .v 4 (.mov (.t 6))]
def formattag_3 : AK := .seq (.reg formattag_3o [1, 4]) formattag_4
def formattag_1 : AK := .seq formattag_3 formattag_2
def formattag_0o : List ROp := [.eff 1 false 8001 (.box 7 (.t 0)),
   .v 2 (.mov (.c (.str []))),
   .v 3 (.mov (.c (.int .i64 0)))]
def formattag_0 : AK := .seq (.reg formattag_0o [1]) formattag_1
def formattag : AK := formattag_0
theorem formattag_vc (P : Program) (E : Env) (Q : KQ) (st : St) :
  (vcW P E formattag_2 Q st = aopsW P formattag_2o st (KS.reg [2, 3] (KQ.seq P E .ret Q))) ∧
  (vcW P E formattag_6 Q st = aopsW P formattag_6o st (KS.reg [2, 3] (KQ.seq P E .ret Q))) ∧
  (vcW P E formattag_5 Q st = cndW P E (ev st (.t 8)) formattag_6 .skip Q st) ∧
  (vcW P E formattag_4 Q st = aopsW P formattag_4o st (KS.reg [1, 4, 8] (KQ.seq P E formattag_5 Q))) ∧
  (vcW P E formattag_3 Q st = aopsW P formattag_3o st (KS.reg [1, 4] (KQ.seq P E formattag_4 Q))) ∧
  (vcW P E formattag_1 Q st = vcW P E formattag_3 (KQ.seq P E formattag_2 Q) st) ∧
  (vcW P E formattag_0 Q st = aopsW P formattag_0o st (KS.reg [1] (KQ.seq P E formattag_1 Q))) ∧
  (vcW P E formattag Q st = vcW P E formattag_0 Q st) :=
  ⟨rfl, rfl, vcW_cond, rfl, rfl, rfl, rfl, rfl⟩
theorem formattag_jn (P : Program) (E : Env) (Q : KQ) (st : St) :
  (True) :=
  trivial
attribute [go_sem] formattag_vc formattag_2o formattag_6o formattag_4o formattag_3o formattag_0o
noncomputable def formattagB : Code := (Tryd.f22.body).getD .skip
theorem formattag_eq : trCode Tryd.prog 31 8000 formattagB = formattag.erase 8000 := by kernel_rfl
theorem formattag_body : Tryd.f22.body = some formattagB := by kernel_rfl
theorem formattag_n : Tryd.f22.ntmps = 31 := by kernel_rfl
theorem formattag_r : Tryd.f22.results.toList.map (trRes Tryd.prog) = [.tmp 2, .tmp 3] := by kernel_rfl
theorem formattag_spec {h : HP} {a0 : AV} {Post : HP → AV → List AV → Prop} (hp : ∀ (E : Env) (R : HP → AV → List AV → Prop), E.N ≤ 1000000 → PostTo Post R → vcW Tryd.prog E formattag (KQ.post [.tmp 2, .tmp 3] 1 R) ⟨[(0, a0)], h⟩) : Eng.Spec Tryd.prog 22 h [a0] Post := spec_wk (
  spec_of (c := formattag.erase 8000) (B := 8000) Tryd.func22 formattag_body (by rw [formattag_n, formattag_eq]) (by rw [formattag_n]; decide) (by rw [formattag_n]; exact (by decide : 1 ≤ 31)) (fun E hE hB hrd => by
    have hN : E.N ≤ 1000000 := by
      rw [hE, formattag_n]; decide
    rw [formattag_r, ← hB]
    exact awp_slots [(0, a0)] ⟨rfl, trivial⟩ (vcW_sound hN _ (hp E _ hN fin_self))))
/- (*cartulary/commit.reader).line -/
def rline_5o : List ROp := [.v 38 (.mov (.t 8)),
   .v 4 (.mov (.t 38))]
def rline_5 : AK := .seq (.reg rline_5o [4, 2000000, 2000001]) .ret
def rline_4o : List ROp := [.v 34 (.mov (.t 0)),
   .v 35 (.mov (.t 6)),
   .v 36 (.nilc (.t 34)),
   .v 37 (.fldA false 0 1 (.t 36)),
   .effN false 9000 (.st 1 (.t 37) (.t 35))]
def rline_4 : AK := .seq (.reg rline_4o [8, 2000000, 2000001]) rline_5
def rline_8po : List ROp := [.v 32 (.bld [] []),
   .v 33 (.mki 90 (.t 32))]
def rline_8do : ROp := .effN false 9000 (.pnc (.t 33))
def rline_8ro : List ROp := []
def rline_8 : AK := .regD rline_8po rline_8do rline_8ro [0, 6, 8, 2000000, 2000001]
def rline_7 : AK := .cond (.t 31) rline_8 .skip
def rline_6o : List ROp := [.v 26 (.mov (.t 7)),
   .v 27 (.un .not (.t 26)),
   .v 28 (.mov (.t 27)),
   .gval 29 28 false false 9029 (.mov (.t 9)),
   .gval 30 28 false false 9030 (.un .not (.t 29)),
   .v 31 (.pick (.t 28) (.c (.bool true)) (.t 30))]
def rline_6 : AK := .seq (.reg rline_6o [0, 4, 6, 8, 31, 2000000, 2000001]) rline_7
def rline_3 : AK := .seq rline_6 rline_4
def rline_2o : List ROp := [.v 20 (.mov (.t 5)),
   .v 21 (.mov (.t 1)),
   .v 22 (.bin .add (.t 21) (.c (.str [32]))),
   .cal (some 23) false 9023 64 [(.t 20), (.t 22)],
   .v 19 (.mov (.t 23)),
   .v 24 (.ext (.t 19) 0),
   .v 25 (.ext (.t 19) 1),
   .v 8 (.mov (.t 24)),
   .v 9 (.mov (.t 25))]
def rline_2 : AK := .seq (.reg rline_2o [0, 4, 6, 7, 8, 9, 2000000, 2000001]) rline_3
def rline_1o : List ROp := [.v 11 (.mov (.t 0)),
   .v 12 (.nilc (.t 11)),
   .v 13 (.fldA false 0 1 (.t 12)),
   .v 14 (.ld false 1 (.t 13)),
   .cal (some 15) false 9015 63 [(.t 14), (.c (.str [10]))],
   .v 10 (.mov (.t 15)),
   .v 16 (.ext (.t 10) 0),
   .v 17 (.ext (.t 10) 1),
   .v 18 (.ext (.t 10) 2),
   .v 5 (.mov (.t 16)),
   .v 6 (.mov (.t 17)),
   .v 7 (.mov (.t 18))]
def rline_1 : AK := .seq (.reg rline_1o [0, 1, 4, 5, 6, 7, 2000000, 2000001]) rline_2
def rline_0o : List ROp := [.v 4 (.mov (.c (.str [])))]
def rline_0 : AK := .seq (.reg rline_0o [0, 1, 4, 2000000, 2000001]) rline_1
def rline : AK := rline_0
theorem rline_vc (P : Program) (E : Env) (Q : KQ) (st : St) :
  (vcW P E rline_5 Q st = aopsW P rline_5o st (KS.reg [4, 2000000, 2000001] (KQ.seq P E .ret Q))) ∧
  (vcW P E rline_4 Q st = aopsW P rline_4o st (KS.reg [8, 2000000, 2000001] (KQ.seq P E rline_5 Q))) ∧
  (vcW P E rline_8 Q st = aopsW P rline_8po st (KS.dor P rline_8do rline_8ro [0, 6, 8, 2000000, 2000001] Q)) ∧
  (vcW P E rline_7 Q st = cndW P E (ev st (.t 31)) rline_8 .skip Q st) ∧
  (vcW P E rline_6 Q st = aopsW P rline_6o st (KS.reg [0, 4, 6, 8, 31, 2000000, 2000001] (KQ.seq P E rline_7 Q))) ∧
  (vcW P E rline_3 Q st = vcW P E rline_6 (KQ.seq P E rline_4 Q) st) ∧
  (vcW P E rline_2 Q st = aopsW P rline_2o st (KS.reg [0, 4, 6, 7, 8, 9, 2000000, 2000001] (KQ.seq P E rline_3 Q))) ∧
  (vcW P E rline_1 Q st = aopsW P rline_1o st (KS.reg [0, 1, 4, 5, 6, 7, 2000000, 2000001] (KQ.seq P E rline_2 Q))) ∧
  (vcW P E rline_0 Q st = aopsW P rline_0o st (KS.reg [0, 1, 4, 2000000, 2000001] (KQ.seq P E rline_1 Q))) ∧
  (vcW P E rline Q st = vcW P E rline_0 Q st) :=
  ⟨rfl, rfl, rfl, vcW_cond, rfl, rfl, rfl, rfl, rfl, rfl⟩
theorem rline_jn (P : Program) (E : Env) (Q : KQ) (st : St) :
  (True) :=
  trivial
attribute [go_sem] rline_vc rline_5o rline_4o rline_8po rline_8do rline_8ro rline_6o rline_2o rline_1o rline_0o
noncomputable def rlineB : Code := (Tryd.f51.body).getD .skip
theorem rline_eq : trCode Tryd.prog 39 9000 rlineB = rline.erase 9000 := by kernel_rfl
theorem rline_body : Tryd.f51.body = some rlineB := by kernel_rfl
theorem rline_n : Tryd.f51.ntmps = 39 := by kernel_rfl
theorem rline_r : Tryd.f51.results.toList.map (trRes Tryd.prog) = [.tmp 4] := by kernel_rfl
theorem rline_dies {h : HP} {a0 a1 : AV} {V : Value} (hp : ∀ (E : Env), E.N ≤ 1000000 → vcW Tryd.prog E rline (KQ.dies V) ⟨[(0, a0), (1, a1), (2000000, a0), (2000001, a1)], h⟩) : Eng.SpecDies Tryd.prog 51 h [a0, a1] V :=
  spec_diesW (x := rline) (B := 9000) Tryd.func51 rline_body (by rw [rline_n, rline_eq]) (by rw [rline_n]; decide) (by rw [rline_n]; exact (by decide : 2 ≤ 39)) [(0, a0), (1, a1), (2000000, a0), (2000001, a1)] ⟨rfl, rfl, rfl, rfl, trivial⟩ hp
theorem rline_spec {h : HP} {a0 a1 : AV} {Post : HP → AV → List AV → Prop} (hp : ∀ (E : Env) (R : HP → AV → List AV → Prop), E.N ≤ 1000000 → PostTo Post R → vcW Tryd.prog E rline (KQ.post [.tmp 4] 2 R) ⟨[(0, a0), (1, a1), (2000000, a0), (2000001, a1)], h⟩) : Eng.Spec Tryd.prog 51 h [a0, a1] Post := spec_wk (
  spec_of (c := rline.erase 9000) (B := 9000) Tryd.func51 rline_body (by rw [rline_n, rline_eq]) (by rw [rline_n]; decide) (by rw [rline_n]; exact (by decide : 2 ≤ 39)) (fun E hE hB hrd => by
    have hN : E.N ≤ 1000000 := by
      rw [hE, rline_n]; decide
    rw [rline_r, ← hB]
    exact awp_slots [(0, a0), (1, a1), (2000000, a0), (2000001, a1)] ⟨rfl, rfl, rfl, rfl, trivial⟩ (vcW_sound hN _ (hp E _ hN fin_self))))
/- (*cartulary/commit.reader).message -/
def rmsg_3o : List ROp := [.v 17 (.mov (.t 3)),
   .v 2 (.mov (.t 17))]
def rmsg_3 : AK := .seq (.reg rmsg_3o [2, 2000000]) .ret
def rmsg_6po : List ROp := [.v 15 (.bld [] []),
   .v 16 (.mki 90 (.t 15))]
def rmsg_6do : ROp := .effN false 10000 (.pnc (.t 16))
def rmsg_6ro : List ROp := []
def rmsg_6 : AK := .regD rmsg_6po rmsg_6do rmsg_6ro [3, 2000000]
def rmsg_5 : AK := .cond (.t 14) rmsg_6 .skip
def rmsg_4o : List ROp := [.v 13 (.mov (.t 4)),
   .v 14 (.un .not (.t 13))]
def rmsg_4 : AK := .seq (.reg rmsg_4o [2, 3, 14, 2000000]) rmsg_5
def rmsg_2 : AK := .seq rmsg_4 rmsg_3
def rmsg_1o : List ROp := [.v 6 (.mov (.t 0)),
   .v 7 (.nilc (.t 6)),
   .v 8 (.fldA false 0 1 (.t 7)),
   .v 9 (.ld false 1 (.t 8)),
   .cal (some 10) false 10010 64 [(.t 9), (.c (.str [10]))],
   .v 5 (.mov (.t 10)),
   .v 11 (.ext (.t 5) 0),
   .v 12 (.ext (.t 5) 1),
   .v 3 (.mov (.t 11)),
   .v 4 (.mov (.t 12))]
def rmsg_1 : AK := .seq (.reg rmsg_1o [2, 3, 4, 2000000]) rmsg_2
def rmsg_0o : List ROp := [.v 2 (.mov (.c (.str [])))]
def rmsg_0 : AK := .seq (.reg rmsg_0o [0, 2, 2000000]) rmsg_1
def rmsg : AK := rmsg_0
theorem rmsg_vc (P : Program) (E : Env) (Q : KQ) (st : St) :
  (vcW P E rmsg_3 Q st = aopsW P rmsg_3o st (KS.reg [2, 2000000] (KQ.seq P E .ret Q))) ∧
  (vcW P E rmsg_6 Q st = aopsW P rmsg_6po st (KS.dor P rmsg_6do rmsg_6ro [3, 2000000] Q)) ∧
  (vcW P E rmsg_5 Q st = cndW P E (ev st (.t 14)) rmsg_6 .skip Q st) ∧
  (vcW P E rmsg_4 Q st = aopsW P rmsg_4o st (KS.reg [2, 3, 14, 2000000] (KQ.seq P E rmsg_5 Q))) ∧
  (vcW P E rmsg_2 Q st = vcW P E rmsg_4 (KQ.seq P E rmsg_3 Q) st) ∧
  (vcW P E rmsg_1 Q st = aopsW P rmsg_1o st (KS.reg [2, 3, 4, 2000000] (KQ.seq P E rmsg_2 Q))) ∧
  (vcW P E rmsg_0 Q st = aopsW P rmsg_0o st (KS.reg [0, 2, 2000000] (KQ.seq P E rmsg_1 Q))) ∧
  (vcW P E rmsg Q st = vcW P E rmsg_0 Q st) :=
  ⟨rfl, rfl, vcW_cond, rfl, rfl, rfl, rfl, rfl⟩
theorem rmsg_jn (P : Program) (E : Env) (Q : KQ) (st : St) :
  (True) :=
  trivial
attribute [go_sem] rmsg_vc rmsg_3o rmsg_6po rmsg_6do rmsg_6ro rmsg_4o rmsg_1o rmsg_0o
noncomputable def rmsgB : Code := (Tryd.f54.body).getD .skip
theorem rmsg_eq : trCode Tryd.prog 18 10000 rmsgB = rmsg.erase 10000 := by kernel_rfl
theorem rmsg_body : Tryd.f54.body = some rmsgB := by kernel_rfl
theorem rmsg_n : Tryd.f54.ntmps = 18 := by kernel_rfl
theorem rmsg_r : Tryd.f54.results.toList.map (trRes Tryd.prog) = [.tmp 2] := by kernel_rfl
theorem rmsg_dies {h : HP} {a0 : AV} {V : Value} (hp : ∀ (E : Env), E.N ≤ 1000000 → vcW Tryd.prog E rmsg (KQ.dies V) ⟨[(0, a0), (2000000, a0)], h⟩) : Eng.SpecDies Tryd.prog 54 h [a0] V :=
  spec_diesW (x := rmsg) (B := 10000) Tryd.func54 rmsg_body (by rw [rmsg_n, rmsg_eq]) (by rw [rmsg_n]; decide) (by rw [rmsg_n]; exact (by decide : 1 ≤ 18)) [(0, a0), (2000000, a0)] ⟨rfl, rfl, trivial⟩ hp
theorem rmsg_spec {h : HP} {a0 : AV} {Post : HP → AV → List AV → Prop} (hp : ∀ (E : Env) (R : HP → AV → List AV → Prop), E.N ≤ 1000000 → PostTo Post R → vcW Tryd.prog E rmsg (KQ.post [.tmp 2] 1 R) ⟨[(0, a0), (2000000, a0)], h⟩) : Eng.Spec Tryd.prog 54 h [a0] Post := spec_wk (
  spec_of (c := rmsg.erase 10000) (B := 10000) Tryd.func54 rmsg_body (by rw [rmsg_n, rmsg_eq]) (by rw [rmsg_n]; decide) (by rw [rmsg_n]; exact (by decide : 1 ≤ 18)) (fun E hE hB hrd => by
    have hN : E.N ≤ 1000000 := by
      rw [hE, rmsg_n]; decide
    rw [rmsg_r, ← hB]
    exact awp_slots [(0, a0), (2000000, a0)] ⟨rfl, rfl, trivial⟩ (vcW_sound hN _ (hp E _ hN fin_self))))
/- (*cartulary/commit.reader).sign -/
def rsign_14o : List ROp := [.v 102 (.ld true 3 (.t 12)),
   .effN false 11000 (.st 3 (.t 4) (.t 102))]
def rsign_14 : AK := .seq (.reg rsign_14o [4, 2000000, 2000001]) .ret
def rsign_17po : List ROp := [.v 100 (.bld [] []),
   .v 101 (.mki 90 (.t 100))]
def rsign_17do : ROp := .effN false 11000 (.pnc (.t 101))
def rsign_17ro : List ROp := []
def rsign_17 : AK := .regD rsign_17po rsign_17do rsign_17ro [4, 12, 2000000, 2000001]
def rsign_16 : AK := .cond (.t 99) rsign_17 .skip
def rsign_15o : List ROp := [.v 95 (.fldA false 2 1 (.t 12)),
   .v 96 (.ld false 1 (.t 95)),
   .cal (some 97) false 11097 46 [(.t 96)],
   .v 98 (.mov (.t 10)),
   .v 99 (.bin .neq (.t 97) (.t 98))]
def rsign_15 : AK := .seq (.reg rsign_15o [4, 12, 99, 2000000, 2000001]) rsign_16
def rsign_13 : AK := .seq rsign_15 rsign_14
def rsign_20o : List ROp := [.v 91 (.fldA false 2 1 (.t 12)),
   .v 92 (.ld false 1 (.t 91)),
   .v 93 (.un .neg (.t 92)),
   .v 94 (.fldA false 2 1 (.t 12)),
   .effN false 11000 (.st 1 (.t 94) (.t 93))]
def rsign_20 : AK := .reg rsign_20o [4, 10, 12, 2000000, 2000001]
def rsign_19 : AK := .cond (.t 90) rsign_20 .skip
def rsign_18o : List ROp := [.v 88 (.mov (.t 10)),
   .v 89 (.sidx (.t 88) (.c (.int .i64 0))),
   .v 90 (.bin .eql (.t 89) (.c (.int .u8 45)))]
def rsign_18 : AK := .seq (.reg rsign_18o [4, 10, 12, 90, 2000000, 2000001]) rsign_19
def rsign_12 : AK := .seq rsign_18 (.mid rsign_13)
def rsign_11o : List ROp := [.v 77 (.mov (.t 5)),
   .v 78 (.mov (.t 7)),
   .v 79 (.slcS (.t 77) none (some (.t 78))),
   .v 80 (.mov (.t 8)),
   .v 81 (.mov (.t 11)),
   .v 82 (.bin .quo (.t 81) (.c (.int .i64 100))),
   .v 83 (.bin .mul (.t 82) (.c (.int .i64 60))),
   .v 84 (.mov (.t 11)),
   .v 85 (.bin .rem (.t 84) (.c (.int .i64 100))),
   .v 86 (.bin .add (.t 83) (.t 85)),
   .v 87 (.bld [.str [], .int .i64 0, .int .i64 0] [(0, 1, (.t 79)), (1, 1, (.t 80)), (2, 1, (.t 86))]),
   .eff 12 false 11012 (.alloc [.str [], .int .i64 0, .int .i64 0]),
   .effN false 11000 (.st 3 (.t 12) (.t 87))]
def rsign_11 : AK := .seq (.reg rsign_11o [4, 10, 12, 2000000, 2000001]) rsign_12
def rsign_23po : List ROp := [.v 75 (.bld [] []),
   .v 76 (.mki 90 (.t 75))]
def rsign_23do : ROp := .effN false 11000 (.pnc (.t 76))
def rsign_23ro : List ROp := []
def rsign_23 : AK := .regD rsign_23po rsign_23do rsign_23ro [4, 5, 7, 8, 10, 11, 2000000, 2000001]
def rsign_22 : AK := .cond (.t 74) rsign_23 .skip
def rsign_21o : List ROp := [.v 68 (.mov (.t 9)),
   .v 69 (.inil true (.t 68)),
   .v 70 (.mov (.t 69)),
   .gval 71 70 false false 11071 (.mov (.t 11)),
   .gval 72 70 false false 11072 (.bin .rem (.t 71) (.c (.int .i64 100))),
   .gval 73 70 false false 11073 (.bin .geq (.t 72) (.c (.int .i64 60))),
   .v 74 (.pick (.t 70) (.c (.bool true)) (.t 73))]
def rsign_21 : AK := .seq (.reg rsign_21o [4, 5, 7, 8, 10, 11, 74, 2000000, 2000001]) rsign_22
def rsign_10 : AK := .seq rsign_21 rsign_11
def rsign_9o : List ROp := [.v 63 (.mov (.t 10)),
   .v 64 (.slcS (.t 63) (some (.c (.int .i64 1))) none),
   .cal (some 65) false 11065 67 [(.t 64)],
   .v 62 (.mov (.t 65)),
   .v 66 (.ext (.t 62) 0),
   .v 67 (.ext (.t 62) 1),
   .v 11 (.mov (.t 66)),
   .v 9 (.mov (.t 67))]
def rsign_9 : AK := .seq (.reg rsign_9o [4, 5, 7, 8, 9, 10, 11, 2000000, 2000001]) rsign_10
def rsign_26po : List ROp := [.v 60 (.bld [] []),
   .v 61 (.mki 90 (.t 60))]
def rsign_26do : ROp := .effN false 11000 (.pnc (.t 61))
def rsign_26ro : List ROp := []
def rsign_26 : AK := .regD rsign_26po rsign_26do rsign_26ro [4, 5, 7, 8, 10, 2000000, 2000001]
def rsign_25 : AK := .cond (.t 59) rsign_26 .skip
def rsign_24o : List ROp := [.v 43 (.mov (.t 9)),
   .v 44 (.inil true (.t 43)),
   .v 45 (.mov (.t 44)),
   .gval 46 45 false true 11046 (.mov (.t 8)),
   .gval 48 45 false false 11048 (.mov (.t 5)),
   .gval 49 45 false false 11049 (.mov (.t 7)),
   .gval 50 45 false false 11050 (.bin .add (.t 49) (.c (.int .i64 1))),
   .gval 51 45 false false 11051 (.mov (.t 6)),
   .gval 52 45 false false 11052 (.slcS (.t 48) (some (.t 50)) (some (.t 51))),
   .gcal 47 45 false true 11047 45 [(.t 46)],
   .gval 53 45 false false 11053 (.bin .neq (.t 47) (.t 52)),
   .v 54 (.pick (.t 45) (.c (.bool true)) (.t 53)),
   .v 55 (.mov (.t 54)),
   .gval 56 55 false false 11056 (.mov (.t 10)),
   .gval 57 55 false false 11057 (.len true (.t 56)),
   .gval 58 55 false false 11058 (.bin .neq (.t 57) (.c (.int .i64 5))),
   .v 59 (.pick (.t 55) (.c (.bool true)) (.t 58))]
def rsign_24 : AK := .seq (.reg rsign_24o [4, 5, 7, 8, 10, 59, 2000000, 2000001]) rsign_25
def rsign_8 : AK := .seq rsign_24 rsign_9
def rsign_7o : List ROp := [.v 39 (.mov (.t 5)),
   .v 40 (.mov (.t 6)),
   .v 41 (.bin .add (.t 40) (.c (.int .i64 1))),
   .v 42 (.slcS (.t 39) (some (.t 41)) none),
   .v 10 (.mov (.t 42))]
def rsign_7 : AK := .seq (.reg rsign_7o [4, 5, 6, 7, 8, 9, 10, 2000000, 2000001]) rsign_8
def rsign_6o : List ROp := [.v 31 (.mov (.t 5)),
   .v 32 (.mov (.t 7)),
   .v 33 (.bin .add (.t 32) (.c (.int .i64 1))),
   .v 34 (.mov (.t 6)),
   .v 35 (.slcS (.t 31) (some (.t 33)) (some (.t 34))),
   .cal (some 36) false 11036 67 [(.t 35)],
   .v 30 (.mov (.t 36)),
   .v 37 (.ext (.t 30) 0),
   .v 38 (.ext (.t 30) 1),
   .v 8 (.mov (.t 37)),
   .v 9 (.mov (.t 38))]
def rsign_6 : AK := .seq (.reg rsign_6o [4, 5, 6, 7, 8, 9, 2000000, 2000001]) rsign_7
def rsign_29po : List ROp := [.v 28 (.bld [] []),
   .v 29 (.mki 90 (.t 28))]
def rsign_29do : ROp := .effN false 11000 (.pnc (.t 29))
def rsign_29ro : List ROp := []
def rsign_29 : AK := .regD rsign_29po rsign_29do rsign_29ro [4, 5, 6, 7, 2000000, 2000001]
def rsign_28 : AK := .cond (.t 27) rsign_29 .skip
def rsign_27o : List ROp := [.v 26 (.mov (.t 7)),
   .v 27 (.bin .lss (.t 26) (.c (.int .i64 0)))]
def rsign_27 : AK := .seq (.reg rsign_27o [4, 5, 6, 7, 27, 2000000, 2000001]) rsign_28
def rsign_5 : AK := .seq rsign_27 rsign_6
def rsign_4o : List ROp := [.v 22 (.mov (.t 5)),
   .v 23 (.mov (.t 6)),
   .v 24 (.slcS (.t 22) none (some (.t 23))),
   .cal (some 25) false 11025 66 [(.t 24), (.c (.int .u8 32))],
   .v 7 (.mov (.t 25))]
def rsign_4 : AK := .seq (.reg rsign_4o [4, 5, 6, 7, 2000000, 2000001]) rsign_5
def rsign_32po : List ROp := [.v 20 (.bld [] []),
   .v 21 (.mki 90 (.t 20))]
def rsign_32do : ROp := .effN false 11000 (.pnc (.t 21))
def rsign_32ro : List ROp := []
def rsign_32 : AK := .regD rsign_32po rsign_32do rsign_32ro [4, 5, 6, 2000000, 2000001]
def rsign_31 : AK := .cond (.t 19) rsign_32 .skip
def rsign_30o : List ROp := [.v 18 (.mov (.t 6)),
   .v 19 (.bin .lss (.t 18) (.c (.int .i64 0)))]
def rsign_30 : AK := .seq (.reg rsign_30o [4, 5, 6, 19, 2000000, 2000001]) rsign_31
def rsign_3 : AK := .seq rsign_30 rsign_4
def rsign_2o : List ROp := [.v 16 (.mov (.t 5)),
   .cal (some 17) false 11017 66 [(.t 16), (.c (.int .u8 32))],
   .v 6 (.mov (.t 17))]
def rsign_2 : AK := .seq (.reg rsign_2o [4, 5, 6, 2000000, 2000001]) rsign_3
def rsign_33po : List ROp := [.v 13 (.mov (.t 0)),
   .v 14 (.mov (.t 1))]
def rsign_33do : ROp := .cal (some 15) false 11015 51 [(.t 13), (.t 14)]
def rsign_33ro : List ROp := [.v 5 (.mov (.t 15))]
def rsign_33 : AK := .regD rsign_33po rsign_33do rsign_33ro [4, 5, 2000000, 2000001]
def rsign_1 : AK := .seq rsign_33 rsign_2
def rsign_0o : List ROp := [.eff 4 false 11004 (.alloc [.str [], .int .i64 0, .int .i64 0])]
def rsign_0 : AK := .seq (.reg rsign_0o [0, 1, 4, 2000000, 2000001]) rsign_1
def rsign : AK := rsign_0
theorem rsign_vc (P : Program) (E : Env) (Q : KQ) (st : St) :
  (vcW P E rsign_14 Q st = aopsW P rsign_14o st (KS.reg [4, 2000000, 2000001] (KQ.seq P E .ret Q))) ∧
  (vcW P E rsign_17 Q st = aopsW P rsign_17po st (KS.dor P rsign_17do rsign_17ro [4, 12, 2000000, 2000001] Q)) ∧
  (vcW P E rsign_16 Q st = cndW P E (ev st (.t 99)) rsign_17 .skip Q st) ∧
  (vcW P E rsign_15 Q st = aopsW P rsign_15o st (KS.reg [4, 12, 99, 2000000, 2000001] (KQ.seq P E rsign_16 Q))) ∧
  (vcW P E rsign_13 Q st = vcW P E rsign_15 (KQ.seq P E rsign_14 Q) st) ∧
  (vcW P E rsign_20 Q st = aopsW P rsign_20o st (KS.reg [4, 10, 12, 2000000, 2000001] Q)) ∧
  (vcW P E rsign_19 Q st = cndW P E (ev st (.t 90)) rsign_20 .skip Q st) ∧
  (vcW P E rsign_18 Q st = aopsW P rsign_18o st (KS.reg [4, 10, 12, 90, 2000000, 2000001] (KQ.seq P E rsign_19 Q))) ∧
  (vcW P E rsign_11 Q st = aopsW P rsign_11o st (KS.reg [4, 10, 12, 2000000, 2000001] (KQ.seq P E rsign_12 Q))) ∧
  (vcW P E rsign_23 Q st = aopsW P rsign_23po st (KS.dor P rsign_23do rsign_23ro [4, 5, 7, 8, 10, 11, 2000000, 2000001] Q)) ∧
  (vcW P E rsign_22 Q st = cndW P E (ev st (.t 74)) rsign_23 .skip Q st) ∧
  (vcW P E rsign_21 Q st = aopsW P rsign_21o st (KS.reg [4, 5, 7, 8, 10, 11, 74, 2000000, 2000001] (KQ.seq P E rsign_22 Q))) ∧
  (vcW P E rsign_10 Q st = vcW P E rsign_21 (KQ.seq P E rsign_11 Q) st) ∧
  (vcW P E rsign_9 Q st = aopsW P rsign_9o st (KS.reg [4, 5, 7, 8, 9, 10, 11, 2000000, 2000001] (KQ.seq P E rsign_10 Q))) ∧
  (vcW P E rsign_26 Q st = aopsW P rsign_26po st (KS.dor P rsign_26do rsign_26ro [4, 5, 7, 8, 10, 2000000, 2000001] Q)) ∧
  (vcW P E rsign_25 Q st = cndW P E (ev st (.t 59)) rsign_26 .skip Q st) ∧
  (vcW P E rsign_24 Q st = aopsW P rsign_24o st (KS.reg [4, 5, 7, 8, 10, 59, 2000000, 2000001] (KQ.seq P E rsign_25 Q))) ∧
  (vcW P E rsign_8 Q st = vcW P E rsign_24 (KQ.seq P E rsign_9 Q) st) ∧
  (vcW P E rsign_7 Q st = aopsW P rsign_7o st (KS.reg [4, 5, 6, 7, 8, 9, 10, 2000000, 2000001] (KQ.seq P E rsign_8 Q))) ∧
  (vcW P E rsign_6 Q st = aopsW P rsign_6o st (KS.reg [4, 5, 6, 7, 8, 9, 2000000, 2000001] (KQ.seq P E rsign_7 Q))) ∧
  (vcW P E rsign_29 Q st = aopsW P rsign_29po st (KS.dor P rsign_29do rsign_29ro [4, 5, 6, 7, 2000000, 2000001] Q)) ∧
  (vcW P E rsign_28 Q st = cndW P E (ev st (.t 27)) rsign_29 .skip Q st) ∧
  (vcW P E rsign_27 Q st = aopsW P rsign_27o st (KS.reg [4, 5, 6, 7, 27, 2000000, 2000001] (KQ.seq P E rsign_28 Q))) ∧
  (vcW P E rsign_5 Q st = vcW P E rsign_27 (KQ.seq P E rsign_6 Q) st) ∧
  (vcW P E rsign_4 Q st = aopsW P rsign_4o st (KS.reg [4, 5, 6, 7, 2000000, 2000001] (KQ.seq P E rsign_5 Q))) ∧
  (vcW P E rsign_32 Q st = aopsW P rsign_32po st (KS.dor P rsign_32do rsign_32ro [4, 5, 6, 2000000, 2000001] Q)) ∧
  (vcW P E rsign_31 Q st = cndW P E (ev st (.t 19)) rsign_32 .skip Q st) ∧
  (vcW P E rsign_30 Q st = aopsW P rsign_30o st (KS.reg [4, 5, 6, 19, 2000000, 2000001] (KQ.seq P E rsign_31 Q))) ∧
  (vcW P E rsign_3 Q st = vcW P E rsign_30 (KQ.seq P E rsign_4 Q) st) ∧
  (vcW P E rsign_2 Q st = aopsW P rsign_2o st (KS.reg [4, 5, 6, 2000000, 2000001] (KQ.seq P E rsign_3 Q))) ∧
  (vcW P E rsign_33 Q st = aopsW P rsign_33po st (KS.dor P rsign_33do rsign_33ro [4, 5, 2000000, 2000001] Q)) ∧
  (vcW P E rsign_1 Q st = vcW P E rsign_33 (KQ.seq P E rsign_2 Q) st) ∧
  (vcW P E rsign_0 Q st = aopsW P rsign_0o st (KS.reg [0, 1, 4, 2000000, 2000001] (KQ.seq P E rsign_1 Q))) ∧
  (vcW P E rsign Q st = vcW P E rsign_0 Q st) :=
  ⟨rfl, rfl, vcW_cond, rfl, rfl, rfl, vcW_cond, rfl, rfl, rfl, vcW_cond, rfl, rfl, rfl, rfl, vcW_cond, rfl, rfl, rfl, rfl, rfl, vcW_cond, rfl, rfl, rfl, rfl, vcW_cond, rfl, rfl, rfl, rfl, rfl, rfl, rfl⟩
theorem rsign_jn (P : Program) (E : Env) (Q : KQ) (st : St) :
  (vcW P E rsign_12 Q st = vcW P E rsign_18 (KQ.seq P E (.mid rsign_13) Q) st) :=
  rfl
attribute [go_sem] rsign_vc rsign_14o rsign_17po rsign_17do rsign_17ro rsign_15o rsign_20o rsign_18o rsign_11o rsign_23po rsign_23do rsign_23ro rsign_21o rsign_9o rsign_26po rsign_26do rsign_26ro rsign_24o rsign_7o rsign_6o rsign_29po rsign_29do rsign_29ro rsign_27o rsign_4o rsign_32po rsign_32do rsign_32ro rsign_30o rsign_2o rsign_33po rsign_33do rsign_33ro rsign_0o
noncomputable def rsignB : Code := (Tryd.f53.body).getD .skip
theorem rsign_eq : trCode Tryd.prog 103 11000 rsignB = rsign.erase 11000 := by kernel_rfl
theorem rsign_body : Tryd.f53.body = some rsignB := by kernel_rfl
theorem rsign_n : Tryd.f53.ntmps = 103 := by kernel_rfl
theorem rsign_r : Tryd.f53.results.toList.map (trRes Tryd.prog) = [.cell 4 true 3] := by kernel_rfl
theorem rsign_dies {h : HP} {a0 a1 : AV} {V : Value} (hp : ∀ (E : Env), E.N ≤ 1000000 → vcW Tryd.prog E rsign (KQ.dies V) ⟨[(0, a0), (1, a1), (2000000, a0), (2000001, a1)], h⟩) : Eng.SpecDies Tryd.prog 53 h [a0, a1] V :=
  spec_diesW (x := rsign) (B := 11000) Tryd.func53 rsign_body (by rw [rsign_n, rsign_eq]) (by rw [rsign_n]; decide) (by rw [rsign_n]; exact (by decide : 2 ≤ 103)) [(0, a0), (1, a1), (2000000, a0), (2000001, a1)] ⟨rfl, rfl, rfl, rfl, trivial⟩ hp
theorem rsign_spec {h : HP} {a0 a1 : AV} {Post : HP → AV → List AV → Prop} (hp : ∀ (E : Env) (R : HP → AV → List AV → Prop), E.N ≤ 1000000 → PostTo Post R → vcW Tryd.prog E rsign (KQ.post [.cell 4 true 3] 2 R) ⟨[(0, a0), (1, a1), (2000000, a0), (2000001, a1)], h⟩) : Eng.Spec Tryd.prog 53 h [a0, a1] Post := spec_wk (
  spec_of (c := rsign.erase 11000) (B := 11000) Tryd.func53 rsign_body (by rw [rsign_n, rsign_eq]) (by rw [rsign_n]; decide) (by rw [rsign_n]; exact (by decide : 2 ≤ 103)) (fun E hE hB hrd => by
    have hN : E.N ≤ 1000000 := by
      rw [hE, rsign_n]; decide
    rw [rsign_r, ← hB]
    exact awp_slots [(0, a0), (1, a1), (2000000, a0), (2000001, a1)] ⟨rfl, rfl, rfl, rfl, trivial⟩ (vcW_sound hN _ (hp E _ hN fin_self))))
/- cartulary/commit.parse -/
def parse_7o : List ROp := [.v 32 (.ld true 9 (.t 2)),
   .effN false 12000 (.st 9 (.t 2) (.t 32)),
   .effN false 12000 (.st 1 (.t 3) (.c (.int .i64 0)))]
def parse_7 : AK := .seq (.reg parse_7o [2, 3, 2000001]) .ret
def parse_8po : List ROp := [.v 29 (.mov (.t 4))]
def parse_8do : ROp := .cal (some 30) false 12030 54 [(.t 29)]
def parse_8ro : List ROp := [.v 31 (.fldA false 8 1 (.t 2)),
   .effN false 12000 (.st 1 (.t 31) (.t 30))]
def parse_8 : AK := .regD parse_8po parse_8do parse_8ro [2, 3, 2000001]
def parse_6 : AK := .seq parse_8 parse_7
def parse_9po : List ROp := [.v 26 (.mov (.t 4))]
def parse_9do : ROp := .cal (some 27) false 12027 53 [(.t 26), (.c (.str [99, 111, 109, 109, 105, 116, 116, 101, 114]))]
def parse_9ro : List ROp := [.v 28 (.fldA true 5 3 (.t 2)),
   .effN false 12000 (.st 3 (.t 28) (.t 27))]
def parse_9 : AK := .regD parse_9po parse_9do parse_9ro [2, 3, 4, 2000001]
def parse_5 : AK := .seq parse_9 parse_6
def parse_10po : List ROp := [.v 23 (.mov (.t 4))]
def parse_10do : ROp := .cal (some 24) false 12024 53 [(.t 23), (.c (.str [97, 117, 116, 104, 111, 114]))]
def parse_10ro : List ROp := [.v 25 (.fldA true 2 3 (.t 2)),
   .effN false 12000 (.st 3 (.t 25) (.t 24))]
def parse_10 : AK := .regD parse_10po parse_10do parse_10ro [2, 3, 4, 2000001]
def parse_4 : AK := .seq parse_10 parse_5
def parse_14po : List ROp := [.v 16 (.fldA false 1 1 (.t 2)),
   .val 18 true 12018 (.mov (.t 4))]
def parse_14xo : List ROp := [.v 17 (.ld false 1 (.t 16)),
   .cal (some 19) false 12019 51 [(.t 18), (.c (.str [112, 97, 114, 101, 110, 116]))],
   .eff 20 true 12020 (.bsl 1 [(.t 19)]),
   .eff 21 false 12021 (.app 1 16 (.t 17) (.t 20)),
   .v 22 (.fldA false 1 1 (.t 2)),
   .effN false 12000 (.st 1 (.t 22) (.t 21))]
def parse_14yo : List ROp := [.cal (some 19) false 12019 51 [(.t 18), (.c (.str [112, 97, 114, 101, 110, 116]))],
   .v 17 (.ld false 1 (.t 16)),
   .eff 20 true 12020 (.bsl 1 [(.t 19)]),
   .eff 21 false 12021 (.app 1 16 (.t 17) (.t 20)),
   .v 22 (.fldA false 1 1 (.t 2)),
   .effN false 12000 (.st 1 (.t 22) (.t 21))]
def parse_14to : DT := (.br (.step (.v 16 (.fldA false 1 1 (.t 2))) (.br (.step (.v 17 (.ld false 1 (.t 16))) (.step (.val 18 true 12018 (.mov (.t 4))) (.die (.cal (some 19) false 12019 51 [(.t 18), (.c (.str [112, 97, 114, 101, 110, 116]))])))) (.step (.val 18 true 12018 (.mov (.t 4))) (.br (.step (.v 17 (.ld false 1 (.t 16))) (.die (.cal (some 19) false 12019 51 [(.t 18), (.c (.str [112, 97, 114, 101, 110, 116]))]))) (.die (.cal (some 19) false 12019 51 [(.t 18), (.c (.str [112, 97, 114, 101, 110, 116]))])))))) (.step (.val 18 true 12018 (.mov (.t 4))) (.br (.step (.v 16 (.fldA false 1 1 (.t 2))) (.br (.step (.v 17 (.ld false 1 (.t 16))) (.die (.cal (some 19) false 12019 51 [(.t 18), (.c (.str [112, 97, 114, 101, 110, 116]))]))) (.die (.cal (some 19) false 12019 51 [(.t 18), (.c (.str [112, 97, 114, 101, 110, 116]))])))) (.die (.cal (some 19) false 12019 51 [(.t 18), (.c (.str [112, 97, 114, 101, 110, 116]))])))))
def parse_14 : AK := .altD parse_14po parse_14xo parse_14yo [2, 3, 4, 2000001] parse_14to
def parse_13 : AK := .block 1 parse_14
def parse_16 : AK := .cond (.t 15) .skip (.exit 0)
def parse_15o : List ROp := [.v 11 (.mov (.t 4)),
   .v 12 (.nilc (.t 11)),
   .v 13 (.fldA false 0 1 (.t 12)),
   .v 14 (.ld false 1 (.t 13)),
   .cal (some 15) false 12015 52 [(.t 14), (.c (.str [112, 97, 114, 101, 110, 116, 32]))]]
def parse_15 : AK := .seq (.reg parse_15o [2, 3, 4, 15, 2000001]) parse_16
def parse_12 : AK := .seq parse_15 parse_13
def parse_L0 : AK := .loop parse_12
def parse_11 : AK := .block 0 parse_L0
def parse_3 : AK := .seq parse_11 parse_4
def parse_17po : List ROp := [.v 8 (.mov (.t 4))]
def parse_17do : ROp := .cal (some 9) false 12009 51 [(.t 8), (.c (.str [116, 114, 101, 101]))]
def parse_17ro : List ROp := [.v 10 (.fldA false 0 1 (.t 2)),
   .effN false 12000 (.st 1 (.t 10) (.t 9))]
def parse_17 : AK := .regD parse_17po parse_17do parse_17ro [2, 3, 4, 2000001]
def parse_2 : AK := .seq parse_17 parse_3
def parse_1o : List ROp := [.v 5 (.mov (.t 0)),
   .v 6 (.bld [.str []] [(0, 1, (.t 5))]),
   .eff 7 false 12007 (.box 1 (.t 6)),
   .v 4 (.mov (.t 7))]
def parse_1 : AK := .seq (.reg parse_1o [2, 3, 4, 2000001]) parse_2
def parse_0o : List ROp := [.eff 2 false 12002 (.alloc [.str [], .nilsl, .str [], .int .i64 0, .int .i64 0, .str [], .int .i64 0, .int .i64 0, .str []]),
   .eff 3 false 12003 (.alloc [.int .i64 0])]
def parse : AK := (.seq (.reg parse_0o [0, 2, 3, 2000001]) (.seq (.dfr 50 [(.t 3)]) parse_1))
theorem parse_vc (P : Program) (E : Env) (Q : KQ) (st : St) :
  (vcW P E parse_7 Q st = aopsW P parse_7o st (KS.reg [2, 3, 2000001] (KQ.seq P E .ret Q))) ∧
  (vcW P E parse_8 Q st = aopsW P parse_8po st (KS.dor P parse_8do parse_8ro [2, 3, 2000001] Q)) ∧
  (vcW P E parse_6 Q st = vcW P E parse_8 (KQ.seq P E parse_7 Q) st) ∧
  (vcW P E parse_9 Q st = aopsW P parse_9po st (KS.dor P parse_9do parse_9ro [2, 3, 4, 2000001] Q)) ∧
  (vcW P E parse_5 Q st = vcW P E parse_9 (KQ.seq P E parse_6 Q) st) ∧
  (vcW P E parse_10 Q st = aopsW P parse_10po st (KS.dor P parse_10do parse_10ro [2, 3, 4, 2000001] Q)) ∧
  (vcW P E parse_4 Q st = vcW P E parse_10 (KQ.seq P E parse_5 Q) st) ∧
  (vcW P E parse_13 Q st = vcW P E parse_14 (KQ.blk 1 Q) st) ∧
  (vcW P E parse_16 Q st = cndW P E (ev st (.t 15)) .skip (.exit 0) Q st) ∧
  (vcW P E parse_15 Q st = aopsW P parse_15o st (KS.reg [2, 3, 4, 15, 2000001] (KQ.seq P E parse_16 Q))) ∧
  (vcW P E parse_12 Q st = vcW P E parse_15 (KQ.seq P E parse_13 Q) st) ∧
  (vcW P E parse_11 Q st = vcW P E parse_L0 (KQ.blk 0 Q) st) ∧
  (vcW P E parse_3 Q st = vcW P E parse_11 (KQ.seq P E parse_4 Q) st) ∧
  (vcW P E parse_17 Q st = aopsW P parse_17po st (KS.dor P parse_17do parse_17ro [2, 3, 4, 2000001] Q)) ∧
  (vcW P E parse_2 Q st = vcW P E parse_17 (KQ.seq P E parse_3 Q) st) ∧
  (vcW P E parse_1 Q st = aopsW P parse_1o st (KS.reg [2, 3, 4, 2000001] (KQ.seq P E parse_2 Q))) :=
  ⟨rfl, rfl, rfl, rfl, rfl, rfl, rfl, rfl, vcW_cond, rfl, rfl, rfl, rfl, rfl, rfl, rfl⟩
theorem parse_jn (P : Program) (E : Env) (Q : KQ) (st : St) :
  (True) :=
  trivial
attribute [go_sem] parse_vc parse_7o parse_8po parse_8do parse_8ro parse_9po parse_9do parse_9ro parse_10po parse_10do parse_10ro parse_14po parse_14xo parse_14yo parse_14to parse_15o parse_17po parse_17do parse_17ro parse_1o parse_0o
noncomputable def parseB : Code := (Tryd.f35.body).getD .skip
theorem parse_eq : trCode Tryd.prog 33 12000 parseB = parse.erase 12000 := by kernel_rfl
theorem parse_body : Tryd.f35.body = some parseB := by kernel_rfl
theorem parse_n : Tryd.f35.ntmps = 33 := by kernel_rfl
theorem parse_r : Tryd.f35.results.toList.map (trRes Tryd.prog) = [.cell 2 true 9, .cell 3 false 1] := by kernel_rfl
theorem parse_spec {h : HP} {a0 : AV} {Post : HP → AV → List AV → Prop} {V : Value} {t : TypeId} {q : IntKind} {z : Int} (hG : GuardOK Tryd.prog 50 V t (.int q z)) (ht : szOf Tryd.prog t = some 1)
  (hp : ∀ (E : Env) (R : HP → AV → List AV → Prop), E.N ≤ 1000000 → PostTo Post R → vcW Tryd.prog E (.reg parse_0o [0, 2, 3, 2000001]) (KQ.dfr Tryd.prog 3 1 parse_1 [.cell 2 true 9, .cell 3 false 1] V (.int q z) R) ⟨[(0, a0)], h⟩) : Eng.Spec Tryd.prog 35 h [a0] Post :=
  spec_guardedW (x := (.reg parse_0o [0, 2, 3, 2000001])) (y := parse_1) (B := 12000) Tryd.func35 parse_body (by rw [parse_n, parse_eq]; rfl) (by rw [parse_n]; decide) (by rw [parse_n]; exact (by decide : 1 ≤ 33)) hG ht (by rw [parse_r]) [(0, a0)] ⟨rfl, trivial⟩ hp
/- cartulary/commit.Parse -/
def cparse_4o : List ROp := [.v 19 (.ld true 9 (.t 4)),
   .effN false 13000 (.st 9 (.t 2) (.t 19)),
   .v 3 (.mov (.c (.int .i64 0)))]
def cparse_4 : AK := .seq (.reg cparse_4o [2, 3]) .ret
def cparse_7o : List ROp := [.v 17 (.bld [.str [], .nilsl, .str [], .int .i64 0, .int .i64 0, .str [], .int .i64 0, .int .i64 0, .str []] []),
   .v 18 (.mov (.t 5)),
   .effN false 13000 (.st 9 (.t 2) (.t 17)),
   .v 3 (.mov (.t 18))]
def cparse_7 : AK := .seq (.reg cparse_7o [2, 3]) .ret
def cparse_6 : AK := .cond (.t 16) cparse_7 .skip
def cparse_5o : List ROp := [.v 15 (.mov (.t 5)),
   .v 16 (.bin .neq (.t 15) (.c (.int .i64 0)))]
def cparse_5 : AK := .seq (.reg cparse_5o [2, 4, 5, 16]) cparse_6
def cparse_3 : AK := .seq cparse_5 cparse_4
def cparse_10o : List ROp := [.v 13 (.ld true 9 (.t 4)),
   .cal (some 14) false 13014 13 [(.t 13)],
   .v 5 (.mov (.t 14))]
def cparse_10 : AK := .reg cparse_10o [2, 4, 5]
def cparse_9 : AK := .cond (.t 12) cparse_10 .skip
def cparse_8o : List ROp := [.v 11 (.mov (.t 5)),
   .v 12 (.bin .eql (.t 11) (.c (.int .i64 0)))]
def cparse_8 : AK := .seq (.reg cparse_8o [2, 4, 5, 12]) cparse_9
def cparse_2 : AK := .seq cparse_8 (.mid cparse_3)
def cparse_1o : List ROp := [.v 7 (.mov (.t 0)),
   .cal (some 8) false 13008 35 [(.t 7)],
   .v 6 (.mov (.t 8)),
   .v 9 (.ext (.t 6) 0),
   .v 10 (.ext (.t 6) 1),
   .eff 4 false 13004 (.alloc [.str [], .nilsl, .str [], .int .i64 0, .int .i64 0, .str [], .int .i64 0, .int .i64 0, .str []]),
   .effN false 13000 (.st 9 (.t 4) (.t 9)),
   .v 5 (.mov (.t 10))]
def cparse_1 : AK := .seq (.reg cparse_1o [2, 4, 5]) cparse_2
def cparse_0o : List ROp := [.eff 2 false 13002 (.alloc [.str [], .nilsl, .str [], .int .i64 0, .int .i64 0, .str [], .int .i64 0, .int .i64 0, .str []]),
   .v 3 (.mov (.c (.int .i64 0)))]
def cparse_0 : AK := .seq (.reg cparse_0o [0, 2]) cparse_1
def cparse : AK := cparse_0
theorem cparse_vc (P : Program) (E : Env) (Q : KQ) (st : St) :
  (vcW P E cparse_4 Q st = aopsW P cparse_4o st (KS.reg [2, 3] (KQ.seq P E .ret Q))) ∧
  (vcW P E cparse_7 Q st = aopsW P cparse_7o st (KS.reg [2, 3] (KQ.seq P E .ret Q))) ∧
  (vcW P E cparse_6 Q st = cndW P E (ev st (.t 16)) cparse_7 .skip Q st) ∧
  (vcW P E cparse_5 Q st = aopsW P cparse_5o st (KS.reg [2, 4, 5, 16] (KQ.seq P E cparse_6 Q))) ∧
  (vcW P E cparse_3 Q st = vcW P E cparse_5 (KQ.seq P E cparse_4 Q) st) ∧
  (vcW P E cparse_10 Q st = aopsW P cparse_10o st (KS.reg [2, 4, 5] Q)) ∧
  (vcW P E cparse_9 Q st = cndW P E (ev st (.t 12)) cparse_10 .skip Q st) ∧
  (vcW P E cparse_8 Q st = aopsW P cparse_8o st (KS.reg [2, 4, 5, 12] (KQ.seq P E cparse_9 Q))) ∧
  (vcW P E cparse_1 Q st = aopsW P cparse_1o st (KS.reg [2, 4, 5] (KQ.seq P E cparse_2 Q))) ∧
  (vcW P E cparse_0 Q st = aopsW P cparse_0o st (KS.reg [0, 2] (KQ.seq P E cparse_1 Q))) ∧
  (vcW P E cparse Q st = vcW P E cparse_0 Q st) :=
  ⟨rfl, rfl, vcW_cond, rfl, rfl, rfl, vcW_cond, rfl, rfl, rfl, rfl⟩
theorem cparse_jn (P : Program) (E : Env) (Q : KQ) (st : St) :
  (vcW P E cparse_2 Q st = vcW P E cparse_8 (KQ.seq P E (.mid cparse_3) Q) st) :=
  rfl
attribute [go_sem] cparse_vc cparse_4o cparse_7o cparse_5o cparse_10o cparse_8o cparse_1o cparse_0o
noncomputable def cparseB : Code := (Tryd.f17.body).getD .skip
theorem cparse_eq : trCode Tryd.prog 20 13000 cparseB = cparse.erase 13000 := by kernel_rfl
theorem cparse_body : Tryd.f17.body = some cparseB := by kernel_rfl
theorem cparse_n : Tryd.f17.ntmps = 20 := by kernel_rfl
theorem cparse_r : Tryd.f17.results.toList.map (trRes Tryd.prog) = [.cell 2 true 9, .tmp 3] := by kernel_rfl
theorem cparse_spec {h : HP} {a0 : AV} {Post : HP → AV → List AV → Prop} (hp : ∀ (E : Env) (R : HP → AV → List AV → Prop), E.N ≤ 1000000 → PostTo Post R → vcW Tryd.prog E cparse (KQ.post [.cell 2 true 9, .tmp 3] 1 R) ⟨[(0, a0)], h⟩) : Eng.Spec Tryd.prog 17 h [a0] Post := spec_wk (
  spec_of (c := cparse.erase 13000) (B := 13000) Tryd.func17 cparse_body (by rw [cparse_n, cparse_eq]) (by rw [cparse_n]; decide) (by rw [cparse_n]; exact (by decide : 1 ≤ 20)) (fun E hE hB hrd => by
    have hN : E.N ≤ 1000000 := by
      rw [hE, cparse_n]; decide
    rw [cparse_r, ← hB]
    exact awp_slots [(0, a0)] ⟨rfl, trivial⟩ (vcW_sound hN _ (hp E _ hN fin_self))))
/- cartulary/commit.parseTag -/
def parsetag_7o : List ROp := [.v 24 (.ld true 7 (.t 2)),
   .effN false 14000 (.st 7 (.t 2) (.t 24)),
   .effN false 14000 (.st 1 (.t 3) (.c (.int .i64 0)))]
def parsetag_7 : AK := .seq (.reg parsetag_7o [2, 3, 2000001]) .ret
def parsetag_8po : List ROp := [.v 21 (.mov (.t 4))]
def parsetag_8do : ROp := .cal (some 22) false 14022 54 [(.t 21)]
def parsetag_8ro : List ROp := [.v 23 (.fldA false 6 1 (.t 2)),
   .effN false 14000 (.st 1 (.t 23) (.t 22))]
def parsetag_8 : AK := .regD parsetag_8po parsetag_8do parsetag_8ro [2, 3, 2000001]
def parsetag_6 : AK := .seq parsetag_8 parsetag_7
def parsetag_9po : List ROp := [.v 18 (.mov (.t 4))]
def parsetag_9do : ROp := .cal (some 19) false 14019 53 [(.t 18), (.c (.str [116, 97, 103, 103, 101, 114]))]
def parsetag_9ro : List ROp := [.v 20 (.fldA true 3 3 (.t 2)),
   .effN false 14000 (.st 3 (.t 20) (.t 19))]
def parsetag_9 : AK := .regD parsetag_9po parsetag_9do parsetag_9ro [2, 3, 4, 2000001]
def parsetag_5 : AK := .seq parsetag_9 parsetag_6
def parsetag_10po : List ROp := [.v 15 (.mov (.t 4))]
def parsetag_10do : ROp := .cal (some 16) false 14016 51 [(.t 15), (.c (.str [116, 97, 103]))]
def parsetag_10ro : List ROp := [.v 17 (.fldA false 2 1 (.t 2)),
   .effN false 14000 (.st 1 (.t 17) (.t 16))]
def parsetag_10 : AK := .regD parsetag_10po parsetag_10do parsetag_10ro [2, 3, 4, 2000001]
def parsetag_4 : AK := .seq parsetag_10 parsetag_5
def parsetag_11po : List ROp := [.v 11 (.mov (.t 4))]
def parsetag_11do : ROp := .cal (some 12) false 14012 51 [(.t 11), (.c (.str [116, 121, 112, 101]))]
def parsetag_11ro : List ROp := [.cal (some 13) false 14013 56 [(.t 12)],
   .v 14 (.fldA false 1 1 (.t 2)),
   .effN false 14000 (.st 1 (.t 14) (.t 13))]
def parsetag_11 : AK := .regD parsetag_11po parsetag_11do parsetag_11ro [2, 3, 4, 2000001]
def parsetag_3 : AK := .seq parsetag_11 parsetag_4
def parsetag_12po : List ROp := [.v 8 (.mov (.t 4))]
def parsetag_12do : ROp := .cal (some 9) false 14009 51 [(.t 8), (.c (.str [111, 98, 106, 101, 99, 116]))]
def parsetag_12ro : List ROp := [.v 10 (.fldA false 0 1 (.t 2)),
   .effN false 14000 (.st 1 (.t 10) (.t 9))]
def parsetag_12 : AK := .regD parsetag_12po parsetag_12do parsetag_12ro [2, 3, 4, 2000001]
def parsetag_2 : AK := .seq parsetag_12 parsetag_3
def parsetag_1o : List ROp := [.v 5 (.mov (.t 0)),
   .v 6 (.bld [.str []] [(0, 1, (.t 5))]),
   .eff 7 false 14007 (.box 1 (.t 6)),
   .v 4 (.mov (.t 7))]
def parsetag_1 : AK := .seq (.reg parsetag_1o [2, 3, 4, 2000001]) parsetag_2
def parsetag_0o : List ROp := [.eff 2 false 14002 (.alloc [.str [], .int .i64 0, .str [], .str [], .int .i64 0, .int .i64 0, .str []]),
   .eff 3 false 14003 (.alloc [.int .i64 0])]
def parsetag : AK := (.seq (.reg parsetag_0o [0, 2, 3, 2000001]) (.seq (.dfr 50 [(.t 3)]) parsetag_1))
theorem parsetag_vc (P : Program) (E : Env) (Q : KQ) (st : St) :
  (vcW P E parsetag_7 Q st = aopsW P parsetag_7o st (KS.reg [2, 3, 2000001] (KQ.seq P E .ret Q))) ∧
  (vcW P E parsetag_8 Q st = aopsW P parsetag_8po st (KS.dor P parsetag_8do parsetag_8ro [2, 3, 2000001] Q)) ∧
  (vcW P E parsetag_6 Q st = vcW P E parsetag_8 (KQ.seq P E parsetag_7 Q) st) ∧
  (vcW P E parsetag_9 Q st = aopsW P parsetag_9po st (KS.dor P parsetag_9do parsetag_9ro [2, 3, 4, 2000001] Q)) ∧
  (vcW P E parsetag_5 Q st = vcW P E parsetag_9 (KQ.seq P E parsetag_6 Q) st) ∧
  (vcW P E parsetag_10 Q st = aopsW P parsetag_10po st (KS.dor P parsetag_10do parsetag_10ro [2, 3, 4, 2000001] Q)) ∧
  (vcW P E parsetag_4 Q st = vcW P E parsetag_10 (KQ.seq P E parsetag_5 Q) st) ∧
  (vcW P E parsetag_11 Q st = aopsW P parsetag_11po st (KS.dor P parsetag_11do parsetag_11ro [2, 3, 4, 2000001] Q)) ∧
  (vcW P E parsetag_3 Q st = vcW P E parsetag_11 (KQ.seq P E parsetag_4 Q) st) ∧
  (vcW P E parsetag_12 Q st = aopsW P parsetag_12po st (KS.dor P parsetag_12do parsetag_12ro [2, 3, 4, 2000001] Q)) ∧
  (vcW P E parsetag_2 Q st = vcW P E parsetag_12 (KQ.seq P E parsetag_3 Q) st) ∧
  (vcW P E parsetag_1 Q st = aopsW P parsetag_1o st (KS.reg [2, 3, 4, 2000001] (KQ.seq P E parsetag_2 Q))) :=
  ⟨rfl, rfl, rfl, rfl, rfl, rfl, rfl, rfl, rfl, rfl, rfl, rfl⟩
theorem parsetag_jn (P : Program) (E : Env) (Q : KQ) (st : St) :
  (True) :=
  trivial
attribute [go_sem] parsetag_vc parsetag_7o parsetag_8po parsetag_8do parsetag_8ro parsetag_9po parsetag_9do parsetag_9ro parsetag_10po parsetag_10do parsetag_10ro parsetag_11po parsetag_11do parsetag_11ro parsetag_12po parsetag_12do parsetag_12ro parsetag_1o parsetag_0o
noncomputable def parsetagB : Code := (Tryd.f43.body).getD .skip
theorem parsetag_eq : trCode Tryd.prog 25 14000 parsetagB = parsetag.erase 14000 := by kernel_rfl
theorem parsetag_body : Tryd.f43.body = some parsetagB := by kernel_rfl
theorem parsetag_n : Tryd.f43.ntmps = 25 := by kernel_rfl
theorem parsetag_r : Tryd.f43.results.toList.map (trRes Tryd.prog) = [.cell 2 true 7, .cell 3 false 1] := by kernel_rfl
theorem parsetag_spec {h : HP} {a0 : AV} {Post : HP → AV → List AV → Prop} {V : Value} {t : TypeId} {q : IntKind} {z : Int} (hG : GuardOK Tryd.prog 50 V t (.int q z)) (ht : szOf Tryd.prog t = some 1)
  (hp : ∀ (E : Env) (R : HP → AV → List AV → Prop), E.N ≤ 1000000 → PostTo Post R → vcW Tryd.prog E (.reg parsetag_0o [0, 2, 3, 2000001]) (KQ.dfr Tryd.prog 3 1 parsetag_1 [.cell 2 true 7, .cell 3 false 1] V (.int q z) R) ⟨[(0, a0)], h⟩) : Eng.Spec Tryd.prog 43 h [a0] Post :=
  spec_guardedW (x := (.reg parsetag_0o [0, 2, 3, 2000001])) (y := parsetag_1) (B := 14000) Tryd.func43 parsetag_body (by rw [parsetag_n, parsetag_eq]; rfl) (by rw [parsetag_n]; decide) (by rw [parsetag_n]; exact (by decide : 1 ≤ 25)) hG ht (by rw [parsetag_r]) [(0, a0)] ⟨rfl, trivial⟩ hp
/- cartulary/commit.ParseTag -/
def cparsetag_4o : List ROp := [.v 19 (.ld true 7 (.t 4)),
   .effN false 15000 (.st 7 (.t 2) (.t 19)),
   .v 3 (.mov (.c (.int .i64 0)))]
def cparsetag_4 : AK := .seq (.reg cparsetag_4o [2, 3]) .ret
def cparsetag_7o : List ROp := [.v 17 (.bld [.str [], .int .i64 0, .str [], .str [], .int .i64 0, .int .i64 0, .str []] []),
   .v 18 (.mov (.t 5)),
   .effN false 15000 (.st 7 (.t 2) (.t 17)),
   .v 3 (.mov (.t 18))]
def cparsetag_7 : AK := .seq (.reg cparsetag_7o [2, 3]) .ret
def cparsetag_6 : AK := .cond (.t 16) cparsetag_7 .skip
def cparsetag_5o : List ROp := [.v 15 (.mov (.t 5)),
   .v 16 (.bin .neq (.t 15) (.c (.int .i64 0)))]
def cparsetag_5 : AK := .seq (.reg cparsetag_5o [2, 4, 5, 16]) cparsetag_6
def cparsetag_3 : AK := .seq cparsetag_5 cparsetag_4
def cparsetag_10o : List ROp := [.v 13 (.ld true 7 (.t 4)),
   .cal (some 14) false 15014 26 [(.t 13)],
   .v 5 (.mov (.t 14))]
def cparsetag_10 : AK := .reg cparsetag_10o [2, 4, 5]
def cparsetag_9 : AK := .cond (.t 12) cparsetag_10 .skip
def cparsetag_8o : List ROp := [.v 11 (.mov (.t 5)),
   .v 12 (.bin .eql (.t 11) (.c (.int .i64 0)))]
def cparsetag_8 : AK := .seq (.reg cparsetag_8o [2, 4, 5, 12]) cparsetag_9
def cparsetag_2 : AK := .seq cparsetag_8 (.mid cparsetag_3)
def cparsetag_1o : List ROp := [.v 7 (.mov (.t 0)),
   .cal (some 8) false 15008 43 [(.t 7)],
   .v 6 (.mov (.t 8)),
   .v 9 (.ext (.t 6) 0),
   .v 10 (.ext (.t 6) 1),
   .eff 4 false 15004 (.alloc [.str [], .int .i64 0, .str [], .str [], .int .i64 0, .int .i64 0, .str []]),
   .effN false 15000 (.st 7 (.t 4) (.t 9)),
   .v 5 (.mov (.t 10))]
def cparsetag_1 : AK := .seq (.reg cparsetag_1o [2, 4, 5]) cparsetag_2
def cparsetag_0o : List ROp := [.eff 2 false 15002 (.alloc [.str [], .int .i64 0, .str [], .str [], .int .i64 0, .int .i64 0, .str []]),
   .v 3 (.mov (.c (.int .i64 0)))]
def cparsetag_0 : AK := .seq (.reg cparsetag_0o [0, 2]) cparsetag_1
def cparsetag : AK := cparsetag_0
theorem cparsetag_vc (P : Program) (E : Env) (Q : KQ) (st : St) :
  (vcW P E cparsetag_4 Q st = aopsW P cparsetag_4o st (KS.reg [2, 3] (KQ.seq P E .ret Q))) ∧
  (vcW P E cparsetag_7 Q st = aopsW P cparsetag_7o st (KS.reg [2, 3] (KQ.seq P E .ret Q))) ∧
  (vcW P E cparsetag_6 Q st = cndW P E (ev st (.t 16)) cparsetag_7 .skip Q st) ∧
  (vcW P E cparsetag_5 Q st = aopsW P cparsetag_5o st (KS.reg [2, 4, 5, 16] (KQ.seq P E cparsetag_6 Q))) ∧
  (vcW P E cparsetag_3 Q st = vcW P E cparsetag_5 (KQ.seq P E cparsetag_4 Q) st) ∧
  (vcW P E cparsetag_10 Q st = aopsW P cparsetag_10o st (KS.reg [2, 4, 5] Q)) ∧
  (vcW P E cparsetag_9 Q st = cndW P E (ev st (.t 12)) cparsetag_10 .skip Q st) ∧
  (vcW P E cparsetag_8 Q st = aopsW P cparsetag_8o st (KS.reg [2, 4, 5, 12] (KQ.seq P E cparsetag_9 Q))) ∧
  (vcW P E cparsetag_1 Q st = aopsW P cparsetag_1o st (KS.reg [2, 4, 5] (KQ.seq P E cparsetag_2 Q))) ∧
  (vcW P E cparsetag_0 Q st = aopsW P cparsetag_0o st (KS.reg [0, 2] (KQ.seq P E cparsetag_1 Q))) ∧
  (vcW P E cparsetag Q st = vcW P E cparsetag_0 Q st) :=
  ⟨rfl, rfl, vcW_cond, rfl, rfl, rfl, vcW_cond, rfl, rfl, rfl, rfl⟩
theorem cparsetag_jn (P : Program) (E : Env) (Q : KQ) (st : St) :
  (vcW P E cparsetag_2 Q st = vcW P E cparsetag_8 (KQ.seq P E (.mid cparsetag_3) Q) st) :=
  rfl
attribute [go_sem] cparsetag_vc cparsetag_4o cparsetag_7o cparsetag_5o cparsetag_10o cparsetag_8o cparsetag_1o cparsetag_0o
noncomputable def cparsetagB : Code := (Tryd.f24.body).getD .skip
theorem cparsetag_eq : trCode Tryd.prog 20 15000 cparsetagB = cparsetag.erase 15000 := by kernel_rfl
theorem cparsetag_body : Tryd.f24.body = some cparsetagB := by kernel_rfl
theorem cparsetag_n : Tryd.f24.ntmps = 20 := by kernel_rfl
theorem cparsetag_r : Tryd.f24.results.toList.map (trRes Tryd.prog) = [.cell 2 true 7, .tmp 3] := by kernel_rfl
theorem cparsetag_spec {h : HP} {a0 : AV} {Post : HP → AV → List AV → Prop} (hp : ∀ (E : Env) (R : HP → AV → List AV → Prop), E.N ≤ 1000000 → PostTo Post R → vcW Tryd.prog E cparsetag (KQ.post [.cell 2 true 7, .tmp 3] 1 R) ⟨[(0, a0)], h⟩) : Eng.Spec Tryd.prog 24 h [a0] Post := spec_wk (
  spec_of (c := cparsetag.erase 15000) (B := 15000) Tryd.func24 cparsetag_body (by rw [cparsetag_n, cparsetag_eq]) (by rw [cparsetag_n]; decide) (by rw [cparsetag_n]; exact (by decide : 1 ≤ 20)) (fun E hE hB hrd => by
    have hN : E.N ≤ 1000000 := by
      rw [hE, cparsetag_n]; decide
    rw [cparsetag_r, ← hB]
    exact awp_slots [(0, a0)] ⟨rfl, trivial⟩ (vcW_sound hN _ (hp E _ hN fin_self))))
/- cartulary/cartularyref15.Line -/
def dline_1o : List ROp := [.v 3 (.mov (.t 0)),
   .v 4 (.len true (.t 3)),
   .v 5 (.bin .geq (.t 4) (.c (.int .i64 1))),
   .v 6 (.mov (.t 5)),
   .gval 7 6 true false 16007 (.mov (.t 0)),
   .gval 8 6 true false 16008 (.len true (.t 7)),
   .gval 9 6 true false 16009 (.bin .leq (.t 8) (.c (.int .i64 100))),
   .v 10 (.pick (.t 6) (.t 9) (.c (.bool false))),
   .v 11 (.mov (.t 10)),
   .gval 12 11 true false 16012 (.mov (.t 0)),
   .gcal 13 11 true false 16013 33 [(.t 12), (.c (.int .u8 10))],
   .gval 14 11 true false 16014 (.bin .lss (.t 13) (.c (.int .i64 0))),
   .v 15 (.pick (.t 11) (.t 14) (.c (.bool false))),
   .v 16 (.mov (.t 15)),
   .gval 17 16 true false 16017 (.mov (.t 0)),
   .gcal 18 16 true false 16018 33 [(.t 17), (.c (.int .u8 0))],
   .gval 19 16 true false 16019 (.bin .lss (.t 18) (.c (.int .i64 0))),
   .v 20 (.pick (.t 16) (.t 19) (.c (.bool false))),
   .v 2 (.mov (.t 20))]
def dline_1 : AK := .seq (.reg dline_1o [2]) .ret
def dline_0o : List ROp := [.v 2 (.mov (.c (.bool false)))]
def dline_0 : AK := .seq (.reg dline_0o [0]) dline_1
def dline : AK := dline_0
theorem dline_vc (P : Program) (E : Env) (Q : KQ) (st : St) :
  (vcW P E dline_1 Q st = aopsW P dline_1o st (KS.reg [2] (KQ.seq P E .ret Q))) ∧
  (vcW P E dline_0 Q st = aopsW P dline_0o st (KS.reg [0] (KQ.seq P E dline_1 Q))) ∧
  (vcW P E dline Q st = vcW P E dline_0 Q st) :=
  ⟨rfl, rfl, rfl⟩
theorem dline_jn (P : Program) (E : Env) (Q : KQ) (st : St) :
  (True) :=
  trivial
attribute [go_sem] dline_vc dline_1o dline_0o
noncomputable def dlineB : Code := (Tryd.f15.body).getD .skip
theorem dline_eq : trCode Tryd.prog 21 16000 dlineB = dline.erase 16000 := by kernel_rfl
theorem dline_body : Tryd.f15.body = some dlineB := by kernel_rfl
theorem dline_n : Tryd.f15.ntmps = 21 := by kernel_rfl
theorem dline_r : Tryd.f15.results.toList.map (trRes Tryd.prog) = [.tmp 2] := by kernel_rfl
theorem dline_spec {h : HP} {a0 : AV} {Post : HP → AV → List AV → Prop} (hp : ∀ (E : Env) (R : HP → AV → List AV → Prop), E.N ≤ 1000000 → PostTo Post R → vcW Tryd.prog E dline (KQ.post [.tmp 2] 1 R) ⟨[(0, a0)], h⟩) : Eng.Spec Tryd.prog 15 h [a0] Post := spec_wk (
  spec_of (c := dline.erase 16000) (B := 16000) Tryd.func15 dline_body (by rw [dline_n, dline_eq]) (by rw [dline_n]; decide) (by rw [dline_n]; exact (by decide : 1 ≤ 21)) (fun E hE hB hrd => by
    have hN : E.N ≤ 1000000 := by
      rw [hE, dline_n]; decide
    rw [dline_r, ← hB]
    exact awp_slots [(0, a0)] ⟨rfl, trivial⟩ (vcW_sound hN _ (hp E _ hN fin_self))))
/- cartulary/cartularyref15.Signed -/
def dsigned_1o : List ROp := [.v 3 (.fldA false 0 1 (.t 1)),
   .v 4 (.ld false 1 (.t 3)),
   .cal (some 5) false 17005 15 [(.t 4)],
   .v 6 (.mov (.t 5)),
   .gval 7 6 true false 17007 (.fldA false 1 1 (.t 1)),
   .gval 8 6 true false 17008 (.ld false 1 (.t 7)),
   .gval 9 6 true false 17009 (.bin .geq (.t 8) (.c (.int .i64 0))),
   .v 10 (.pick (.t 6) (.t 9) (.c (.bool false))),
   .v 11 (.mov (.t 10)),
   .gval 12 11 true false 17012 (.fldA false 1 1 (.t 1)),
   .gval 13 11 true false 17013 (.ld false 1 (.t 12)),
   .gval 14 11 true false 17014 (.bin .leq (.t 13) (.c (.int .i64 253402300799))),
   .v 15 (.pick (.t 11) (.t 14) (.c (.bool false))),
   .v 16 (.mov (.t 15)),
   .gval 17 16 true false 17017 (.fldA false 2 1 (.t 1)),
   .gval 18 16 true false 17018 (.ld false 1 (.t 17)),
   .gval 19 16 true false 17019 (.bin .geq (.t 18) (.c (.int .i64 (-840)))),
   .v 20 (.pick (.t 16) (.t 19) (.c (.bool false))),
   .v 21 (.mov (.t 20)),
   .gval 22 21 true false 17022 (.fldA false 2 1 (.t 1)),
   .gval 23 21 true false 17023 (.ld false 1 (.t 22)),
   .gval 24 21 true false 17024 (.bin .leq (.t 23) (.c (.int .i64 840))),
   .v 25 (.pick (.t 21) (.t 24) (.c (.bool false))),
   .v 2 (.mov (.t 25))]
def dsigned_1 : AK := .seq (.reg dsigned_1o [2]) .ret
def dsigned_0o : List ROp := [.eff 1 false 17001 (.box 3 (.t 0)),
   .v 2 (.mov (.c (.bool false)))]
def dsigned_0 : AK := .seq (.reg dsigned_0o [1]) dsigned_1
def dsigned : AK := dsigned_0
theorem dsigned_vc (P : Program) (E : Env) (Q : KQ) (st : St) :
  (vcW P E dsigned_1 Q st = aopsW P dsigned_1o st (KS.reg [2] (KQ.seq P E .ret Q))) ∧
  (vcW P E dsigned_0 Q st = aopsW P dsigned_0o st (KS.reg [1] (KQ.seq P E dsigned_1 Q))) ∧
  (vcW P E dsigned Q st = vcW P E dsigned_0 Q st) :=
  ⟨rfl, rfl, rfl⟩
theorem dsigned_jn (P : Program) (E : Env) (Q : KQ) (st : St) :
  (True) :=
  trivial
attribute [go_sem] dsigned_vc dsigned_1o dsigned_0o
noncomputable def dsignedB : Code := (Tryd.f20.body).getD .skip
theorem dsigned_eq : trCode Tryd.prog 26 17000 dsignedB = dsigned.erase 17000 := by kernel_rfl
theorem dsigned_body : Tryd.f20.body = some dsignedB := by kernel_rfl
theorem dsigned_n : Tryd.f20.ntmps = 26 := by kernel_rfl
theorem dsigned_r : Tryd.f20.results.toList.map (trRes Tryd.prog) = [.tmp 2] := by kernel_rfl
theorem dsigned_spec {h : HP} {a0 : AV} {Post : HP → AV → List AV → Prop} (hp : ∀ (E : Env) (R : HP → AV → List AV → Prop), E.N ≤ 1000000 → PostTo Post R → vcW Tryd.prog E dsigned (KQ.post [.tmp 2] 1 R) ⟨[(0, a0)], h⟩) : Eng.Spec Tryd.prog 20 h [a0] Post := spec_wk (
  spec_of (c := dsigned.erase 17000) (B := 17000) Tryd.func20 dsigned_body (by rw [dsigned_n, dsigned_eq]) (by rw [dsigned_n]; decide) (by rw [dsigned_n]; exact (by decide : 1 ≤ 26)) (fun E hE hB hrd => by
    have hN : E.N ≤ 1000000 := by
      rw [hE, dsigned_n]; decide
    rw [dsigned_r, ← hB]
    exact awp_slots [(0, a0)] ⟨rfl, trivial⟩ (vcW_sound hN _ (hp E _ hN fin_self))))
/- cartulary/cartularyref15.two -/
def two_2o : List ROp := [.v 8 (.mov (.t 0)),
   .cal (some 9) false 18009 39 [(.t 8)],
   .v 2 (.mov (.t 9))]
def two_2 : AK := .seq (.reg two_2o [2]) .ret
def two_5o : List ROp := [.v 5 (.mov (.t 0)),
   .cal (some 6) false 18006 39 [(.t 5)],
   .v 7 (.bin .add (.c (.str [48])) (.t 6)),
   .v 2 (.mov (.t 7))]
def two_5 : AK := .seq (.reg two_5o [2]) .ret
def two_4 : AK := .cond (.t 4) two_5 .skip
def two_3o : List ROp := [.v 3 (.mov (.t 0)),
   .v 4 (.bin .lss (.t 3) (.c (.int .i64 10)))]
def two_3 : AK := .seq (.reg two_3o [0, 4]) two_4
def two_1 : AK := .seq two_3 two_2
def two_0o : List ROp := [.v 2 (.mov (.c (.str [])))]
def two_0 : AK := .seq (.reg two_0o [0]) two_1
def two : AK := two_0
theorem two_vc (P : Program) (E : Env) (Q : KQ) (st : St) :
  (vcW P E two_2 Q st = aopsW P two_2o st (KS.reg [2] (KQ.seq P E .ret Q))) ∧
  (vcW P E two_5 Q st = aopsW P two_5o st (KS.reg [2] (KQ.seq P E .ret Q))) ∧
  (vcW P E two_4 Q st = cndW P E (ev st (.t 4)) two_5 .skip Q st) ∧
  (vcW P E two_3 Q st = aopsW P two_3o st (KS.reg [0, 4] (KQ.seq P E two_4 Q))) ∧
  (vcW P E two_1 Q st = vcW P E two_3 (KQ.seq P E two_2 Q) st) ∧
  (vcW P E two_0 Q st = aopsW P two_0o st (KS.reg [0] (KQ.seq P E two_1 Q))) ∧
  (vcW P E two Q st = vcW P E two_0 Q st) :=
  ⟨rfl, rfl, vcW_cond, rfl, rfl, rfl, rfl⟩
theorem two_jn (P : Program) (E : Env) (Q : KQ) (st : St) :
  (True) :=
  trivial
attribute [go_sem] two_vc two_2o two_5o two_3o two_0o
noncomputable def twoB : Code := (Tryd.f40.body).getD .skip
theorem two_eq : trCode Tryd.prog 10 18000 twoB = two.erase 18000 := by kernel_rfl
theorem two_body : Tryd.f40.body = some twoB := by kernel_rfl
theorem two_n : Tryd.f40.ntmps = 10 := by kernel_rfl
theorem two_r : Tryd.f40.results.toList.map (trRes Tryd.prog) = [.tmp 2] := by kernel_rfl
theorem two_spec {h : HP} {a0 : AV} {Post : HP → AV → List AV → Prop} (hp : ∀ (E : Env) (R : HP → AV → List AV → Prop), E.N ≤ 1000000 → PostTo Post R → vcW Tryd.prog E two (KQ.post [.tmp 2] 1 R) ⟨[(0, a0)], h⟩) : Eng.Spec Tryd.prog 40 h [a0] Post := spec_wk (
  spec_of (c := two.erase 18000) (B := 18000) Tryd.func40 two_body (by rw [two_n, two_eq]) (by rw [two_n]; decide) (by rw [two_n]; exact (by decide : 1 ≤ 10)) (fun E hE hB hrd => by
    have hN : E.N ≤ 1000000 := by
      rw [hE, two_n]; decide
    rw [two_r, ← hB]
    exact awp_slots [(0, a0)] ⟨rfl, trivial⟩ (vcW_sound hN _ (hp E _ hN fin_self))))
/- cartulary/cartularyref15.Sign -/
def dsign_4o : List ROp := [.val 11 true 19011 (.fldA false 0 1 (.t 1)),
   .val 12 true 19012 (.ld false 1 (.t 11)),
   .val 13 true 19013 (.bin .add (.t 12) (.c (.str [32]))),
   .val 14 true 19014 (.fldA false 1 1 (.t 1)),
   .val 15 true 19015 (.ld false 1 (.t 14)),
   .val 19 true 19019 (.mov (.t 3)),
   .val 21 true 19021 (.mov (.t 4)),
   .val 22 true 19022 (.bin .quo (.t 21) (.c (.int .i64 60))),
   .val 25 true 19025 (.mov (.t 4)),
   .val 26 true 19026 (.bin .rem (.t 25) (.c (.int .i64 60))),
   .cal (some 16) true 19016 39 [(.t 15)],
   .val 17 true 19017 (.bin .add (.t 13) (.t 16)),
   .val 18 true 19018 (.bin .add (.t 17) (.c (.str [32]))),
   .val 20 true 19020 (.bin .add (.t 18) (.t 19)),
   .cal (some 23) true 19023 40 [(.t 22)],
   .val 24 true 19024 (.bin .add (.t 20) (.t 23)),
   .cal (some 27) true 19027 40 [(.t 26)],
   .v 28 (.bin .add (.t 24) (.t 27)),
   .v 2 (.mov (.t 28))]
def dsign_4 : AK := .seq (.reg dsign_4o [2]) .ret
def dsign_8o : List ROp := [.v 9 (.mov (.t 4)),
   .v 10 (.un .neg (.t 9)),
   .v 4 (.mov (.t 10))]
def dsign_8 : AK := .reg dsign_8o [1, 3, 4]
def dsign_7o : List ROp := [.v 3 (.mov (.c (.str [45])))]
def dsign_7 : AK := .seq (.reg dsign_7o [1, 3, 4]) dsign_8
def dsign_6 : AK := .cond (.t 8) dsign_7 .skip
def dsign_5o : List ROp := [.v 7 (.mov (.t 4)),
   .v 8 (.bin .lss (.t 7) (.c (.int .i64 0)))]
def dsign_5 : AK := .seq (.reg dsign_5o [1, 3, 4, 8]) dsign_6
def dsign_3 : AK := .seq dsign_5 (.mid dsign_4)
def dsign_2o : List ROp := [.v 5 (.fldA false 2 1 (.t 1)),
   .v 6 (.ld false 1 (.t 5)),
   .v 4 (.mov (.t 6))]
def dsign_2 : AK := .seq (.reg dsign_2o [1, 3, 4]) dsign_3
def dsign_1o : List ROp := [.v 3 (.mov (.c (.str [43])))]
def dsign_1 : AK := .seq (.reg dsign_1o [1, 3]) dsign_2
def dsign_0o : List ROp := [.eff 1 false 19001 (.box 3 (.t 0)),
   .v 2 (.mov (.c (.str [])))]
def dsign_0 : AK := .seq (.reg dsign_0o [1]) dsign_1
def dsign : AK := dsign_0
theorem dsign_vc (P : Program) (E : Env) (Q : KQ) (st : St) :
  (vcW P E dsign_4 Q st = aopsW P dsign_4o st (KS.reg [2] (KQ.seq P E .ret Q))) ∧
  (vcW P E dsign_8 Q st = aopsW P dsign_8o st (KS.reg [1, 3, 4] Q)) ∧
  (vcW P E dsign_7 Q st = aopsW P dsign_7o st (KS.reg [1, 3, 4] (KQ.seq P E dsign_8 Q))) ∧
  (vcW P E dsign_6 Q st = cndW P E (ev st (.t 8)) dsign_7 .skip Q st) ∧
  (vcW P E dsign_5 Q st = aopsW P dsign_5o st (KS.reg [1, 3, 4, 8] (KQ.seq P E dsign_6 Q))) ∧
  (vcW P E dsign_2 Q st = aopsW P dsign_2o st (KS.reg [1, 3, 4] (KQ.seq P E dsign_3 Q))) ∧
  (vcW P E dsign_1 Q st = aopsW P dsign_1o st (KS.reg [1, 3] (KQ.seq P E dsign_2 Q))) ∧
  (vcW P E dsign_0 Q st = aopsW P dsign_0o st (KS.reg [1] (KQ.seq P E dsign_1 Q))) ∧
  (vcW P E dsign Q st = vcW P E dsign_0 Q st) :=
  ⟨rfl, rfl, rfl, vcW_cond, rfl, rfl, rfl, rfl, rfl⟩
theorem dsign_jn (P : Program) (E : Env) (Q : KQ) (st : St) :
  (vcW P E dsign_3 Q st = vcW P E dsign_5 (KQ.seq P E (.mid dsign_4) Q) st) :=
  rfl
attribute [go_sem] dsign_vc dsign_4o dsign_8o dsign_7o dsign_5o dsign_2o dsign_1o dsign_0o
noncomputable def dsignB : Code := (Tryd.f21.body).getD .skip
theorem dsign_eq : trCode Tryd.prog 29 19000 dsignB = dsign.erase 19000 := by kernel_rfl
theorem dsign_body : Tryd.f21.body = some dsignB := by kernel_rfl
theorem dsign_n : Tryd.f21.ntmps = 29 := by kernel_rfl
theorem dsign_r : Tryd.f21.results.toList.map (trRes Tryd.prog) = [.tmp 2] := by kernel_rfl
theorem dsign_spec {h : HP} {a0 : AV} {Post : HP → AV → List AV → Prop} (hp : ∀ (E : Env) (R : HP → AV → List AV → Prop), E.N ≤ 1000000 → PostTo Post R → vcW Tryd.prog E dsign (KQ.post [.tmp 2] 1 R) ⟨[(0, a0)], h⟩) : Eng.Spec Tryd.prog 21 h [a0] Post := spec_wk (
  spec_of (c := dsign.erase 19000) (B := 19000) Tryd.func21 dsign_body (by rw [dsign_n, dsign_eq]) (by rw [dsign_n]; decide) (by rw [dsign_n]; exact (by decide : 1 ≤ 29)) (fun E hE hB hrd => by
    have hN : E.N ≤ 1000000 := by
      rw [hE, dsign_n]; decide
    rw [dsign_r, ← hB]
    exact awp_slots [(0, a0)] ⟨rfl, trivial⟩ (vcW_sound hN _ (hp E _ hN fin_self))))
/- cartulary/cartularyref15.Check -/
def dcheck_4o : List ROp := [.v 2 (.mov (.c (.int .i64 0)))]
def dcheck_4 : AK := .seq (.reg dcheck_4o [2]) .ret
def dcheck_7o : List ROp := [.v 2 (.mov (.c (.int .i64 4)))]
def dcheck_7 : AK := .seq (.reg dcheck_7o [2]) .ret
def dcheck_6 : AK := .cond (.t 35) dcheck_7 .skip
def dcheck_5o : List ROp := [.v 20 (.fldA false 0 1 (.t 1)),
   .v 21 (.ld false 1 (.t 20)),
   .cal (some 22) false 20022 29 [(.t 21)],
   .v 23 (.un .not (.t 22)),
   .v 24 (.mov (.t 23)),
   .gval 25 24 false false 20025 (.fldA true 2 3 (.t 1)),
   .gval 26 24 false false 20026 (.ld true 3 (.t 25)),
   .gcal 27 24 false false 20027 20 [(.t 26)],
   .gval 28 24 false false 20028 (.un .not (.t 27)),
   .v 29 (.pick (.t 24) (.c (.bool true)) (.t 28)),
   .v 30 (.mov (.t 29)),
   .gval 31 30 false false 20031 (.fldA true 5 3 (.t 1)),
   .gval 32 30 false false 20032 (.ld true 3 (.t 31)),
   .gcal 33 30 false false 20033 20 [(.t 32)],
   .gval 34 30 false false 20034 (.un .not (.t 33)),
   .v 35 (.pick (.t 30) (.c (.bool true)) (.t 34))]
def dcheck_5 : AK := .seq (.reg dcheck_5o [35]) dcheck_6
def dcheck_3 : AK := .seq dcheck_5 dcheck_4
def dcheck_13o : List ROp := [.v 19 (.bin .add (.t 12) (.c (.int .i64 1))),
   .v 12 (.mov (.t 19))]
def dcheck_13 : AK := .reg dcheck_13o [1, 10, 11, 12]
def dcheck_18o : List ROp := [.v 2 (.mov (.c (.int .i64 4)))]
def dcheck_18 : AK := .seq (.reg dcheck_18o [2]) .ret
def dcheck_17 : AK := .cond (.t 18) dcheck_18 .skip
def dcheck_16o : List ROp := [.v 16 (.mov (.t 4)),
   .cal (some 17) false 20017 29 [(.t 16)],
   .v 18 (.un .not (.t 17))]
def dcheck_16 : AK := .seq (.reg dcheck_16o [1, 10, 11, 12, 18]) dcheck_17
def dcheck_15o : List ROp := [.v 14 (.idxA 1 (.t 10) (.t 12)),
   .v 15 (.ld false 1 (.t 14)),
   .v 4 (.mov (.t 15))]
def dcheck_15 : AK := .seq (.reg dcheck_15o [1, 4, 10, 11, 12]) dcheck_16
def dcheck_14 : AK := .block 1 dcheck_15
def dcheck_12 : AK := .seq dcheck_14 dcheck_13
def dcheck_19 : AK := .cond (.t 13) .skip (.exit 0)
def dcheck_11 : AK := .seq dcheck_19 dcheck_12
def dcheck_10o : List ROp := [.v 13 (.bin .lss (.t 12) (.t 11))]
def dcheck_10 : AK := .seq (.reg dcheck_10o [1, 10, 11, 12, 13]) dcheck_11
def dcheck_L0 : AK := .loop dcheck_10
def dcheck_9 : AK := .block 0 dcheck_L0
def dcheck_8o : List ROp := [.v 9 (.fldA false 1 1 (.t 1)),
   .v 10 (.ld false 1 (.t 9)),
   .v 11 (.len false (.t 10)),
   .v 12 (.mov (.c (.int .i64 0)))]
def dcheck_8 : AK := .seq (.reg dcheck_8o [1, 10, 11, 12]) dcheck_9
def dcheck_2 : AK := .seq dcheck_8 dcheck_3
def dcheck_22o : List ROp := [.v 2 (.mov (.c (.int .i64 2)))]
def dcheck_22 : AK := .seq (.reg dcheck_22o [2]) .ret
def dcheck_21 : AK := .cond (.t 8) dcheck_22 .skip
def dcheck_20o : List ROp := [.v 5 (.fldA false 1 1 (.t 1)),
   .v 6 (.ld false 1 (.t 5)),
   .v 7 (.len false (.t 6)),
   .v 8 (.bin .gtr (.t 7) (.c (.int .i64 16)))]
def dcheck_20 : AK := .seq (.reg dcheck_20o [1, 8]) dcheck_21
def dcheck_1 : AK := .seq dcheck_20 dcheck_2
def dcheck_0o : List ROp := [.eff 1 false 20001 (.box 9 (.t 0)),
   .v 2 (.mov (.c (.int .i64 0)))]
def dcheck_0 : AK := .seq (.reg dcheck_0o [1]) dcheck_1
def dcheck : AK := dcheck_0
theorem dcheck_vc (P : Program) (E : Env) (Q : KQ) (st : St) :
  (vcW P E dcheck_4 Q st = aopsW P dcheck_4o st (KS.reg [2] (KQ.seq P E .ret Q))) ∧
  (vcW P E dcheck_7 Q st = aopsW P dcheck_7o st (KS.reg [2] (KQ.seq P E .ret Q))) ∧
  (vcW P E dcheck_6 Q st = cndW P E (ev st (.t 35)) dcheck_7 .skip Q st) ∧
  (vcW P E dcheck_5 Q st = aopsW P dcheck_5o st (KS.reg [35] (KQ.seq P E dcheck_6 Q))) ∧
  (vcW P E dcheck_3 Q st = vcW P E dcheck_5 (KQ.seq P E dcheck_4 Q) st) ∧
  (vcW P E dcheck_13 Q st = aopsW P dcheck_13o st (KS.reg [1, 10, 11, 12] Q)) ∧
  (vcW P E dcheck_18 Q st = aopsW P dcheck_18o st (KS.reg [2] (KQ.seq P E .ret Q))) ∧
  (vcW P E dcheck_17 Q st = cndW P E (ev st (.t 18)) dcheck_18 .skip Q st) ∧
  (vcW P E dcheck_16 Q st = aopsW P dcheck_16o st (KS.reg [1, 10, 11, 12, 18] (KQ.seq P E dcheck_17 Q))) ∧
  (vcW P E dcheck_15 Q st = aopsW P dcheck_15o st (KS.reg [1, 4, 10, 11, 12] (KQ.seq P E dcheck_16 Q))) ∧
  (vcW P E dcheck_14 Q st = vcW P E dcheck_15 (KQ.blk 1 Q) st) ∧
  (vcW P E dcheck_12 Q st = vcW P E dcheck_14 (KQ.seq P E dcheck_13 Q) st) ∧
  (vcW P E dcheck_19 Q st = cndW P E (ev st (.t 13)) .skip (.exit 0) Q st) ∧
  (vcW P E dcheck_11 Q st = vcW P E dcheck_19 (KQ.seq P E dcheck_12 Q) st) ∧
  (vcW P E dcheck_10 Q st = aopsW P dcheck_10o st (KS.reg [1, 10, 11, 12, 13] (KQ.seq P E dcheck_11 Q))) ∧
  (vcW P E dcheck_9 Q st = vcW P E dcheck_L0 (KQ.blk 0 Q) st) ∧
  (vcW P E dcheck_8 Q st = aopsW P dcheck_8o st (KS.reg [1, 10, 11, 12] (KQ.seq P E dcheck_9 Q))) ∧
  (vcW P E dcheck_2 Q st = vcW P E dcheck_8 (KQ.seq P E dcheck_3 Q) st) ∧
  (vcW P E dcheck_22 Q st = aopsW P dcheck_22o st (KS.reg [2] (KQ.seq P E .ret Q))) ∧
  (vcW P E dcheck_21 Q st = cndW P E (ev st (.t 8)) dcheck_22 .skip Q st) ∧
  (vcW P E dcheck_20 Q st = aopsW P dcheck_20o st (KS.reg [1, 8] (KQ.seq P E dcheck_21 Q))) ∧
  (vcW P E dcheck_1 Q st = vcW P E dcheck_20 (KQ.seq P E dcheck_2 Q) st) ∧
  (vcW P E dcheck_0 Q st = aopsW P dcheck_0o st (KS.reg [1] (KQ.seq P E dcheck_1 Q))) ∧
  (vcW P E dcheck Q st = vcW P E dcheck_0 Q st) :=
  ⟨rfl, rfl, vcW_cond, rfl, rfl, rfl, rfl, vcW_cond, rfl, rfl, rfl, rfl, vcW_cond, rfl, rfl, rfl, rfl, rfl, rfl, vcW_cond, rfl, rfl, rfl, rfl⟩
theorem dcheck_jn (P : Program) (E : Env) (Q : KQ) (st : St) :
  (True) :=
  trivial
attribute [go_sem] dcheck_vc dcheck_4o dcheck_7o dcheck_5o dcheck_13o dcheck_18o dcheck_16o dcheck_15o dcheck_10o dcheck_8o dcheck_22o dcheck_20o dcheck_0o
noncomputable def dcheckB : Code := (Tryd.f11.body).getD .skip
theorem dcheck_eq : trCode Tryd.prog 36 20000 dcheckB = dcheck.erase 20000 := by kernel_rfl
theorem dcheck_body : Tryd.f11.body = some dcheckB := by kernel_rfl
theorem dcheck_n : Tryd.f11.ntmps = 36 := by kernel_rfl
theorem dcheck_r : Tryd.f11.results.toList.map (trRes Tryd.prog) = [.tmp 2] := by kernel_rfl
theorem dcheck_spec {h : HP} {a0 : AV} {Post : HP → AV → List AV → Prop} (hp : ∀ (E : Env) (R : HP → AV → List AV → Prop), E.N ≤ 1000000 → PostTo Post R → vcW Tryd.prog E dcheck (KQ.post [.tmp 2] 1 R) ⟨[(0, a0)], h⟩) : Eng.Spec Tryd.prog 11 h [a0] Post := spec_wk (
  spec_of (c := dcheck.erase 20000) (B := 20000) Tryd.func11 dcheck_body (by rw [dcheck_n, dcheck_eq]) (by rw [dcheck_n]; decide) (by rw [dcheck_n]; exact (by decide : 1 ≤ 36)) (fun E hE hB hrd => by
    have hN : E.N ≤ 1000000 := by
      rw [hE, dcheck_n]; decide
    rw [dcheck_r, ← hB]
    exact awp_slots [(0, a0)] ⟨rfl, trivial⟩ (vcW_sound hN _ (hp E _ hN fin_self))))
/- cartulary/cartularyref15.Text -/
def dtext_3o : List ROp := [.val 23 true 21023 (.mov (.t 3)),
   .val 24 true 21024 (.bin .add (.t 23) (.c (.str [97, 117, 116, 104, 111, 114, 32]))),
   .val 25 true 21025 (.fldA true 2 3 (.t 1)),
   .val 26 true 21026 (.ld true 3 (.t 25)),
   .val 31 true 21031 (.fldA true 5 3 (.t 1)),
   .val 32 true 21032 (.ld true 3 (.t 31)),
   .val 36 true 21036 (.fldA false 8 1 (.t 1)),
   .val 37 true 21037 (.ld false 1 (.t 36)),
   .cal (some 27) true 21027 21 [(.t 26)],
   .val 28 true 21028 (.bin .add (.t 24) (.t 27)),
   .val 29 true 21029 (.bin .add (.t 28) (.c (.str [10]))),
   .val 30 true 21030 (.bin .add (.t 29) (.c (.str [99, 111, 109, 109, 105, 116, 116, 101, 114, 32]))),
   .cal (some 33) true 21033 21 [(.t 32)],
   .val 34 true 21034 (.bin .add (.t 30) (.t 33)),
   .val 35 true 21035 (.bin .add (.t 34) (.c (.str [10, 10]))),
   .v 38 (.bin .add (.t 35) (.t 37)),
   .v 2 (.mov (.t 38))]
def dtext_3 : AK := .seq (.reg dtext_3o [2]) .ret
def dtext_9o : List ROp := [.v 22 (.bin .add (.t 13) (.c (.int .i64 1))),
   .v 13 (.mov (.t 22))]
def dtext_9 : AK := .reg dtext_9o [1, 3, 11, 12, 13]
def dtext_12o : List ROp := [.v 17 (.mov (.t 3)),
   .v 18 (.mov (.t 5)),
   .v 19 (.bin .add (.c (.str [112, 97, 114, 101, 110, 116, 32])) (.t 18)),
   .v 20 (.bin .add (.t 19) (.c (.str [10]))),
   .v 21 (.bin .add (.t 17) (.t 20)),
   .v 3 (.mov (.t 21))]
def dtext_12 : AK := .reg dtext_12o [1, 3, 11, 12, 13]
def dtext_11o : List ROp := [.v 15 (.idxA 1 (.t 11) (.t 13)),
   .v 16 (.ld false 1 (.t 15)),
   .v 5 (.mov (.t 16))]
def dtext_11 : AK := .seq (.reg dtext_11o [1, 3, 5, 11, 12, 13]) dtext_12
def dtext_10 : AK := .block 1 dtext_11
def dtext_8 : AK := .seq dtext_10 dtext_9
def dtext_13 : AK := .cond (.t 14) .skip (.exit 0)
def dtext_7 : AK := .seq dtext_13 dtext_8
def dtext_6o : List ROp := [.v 14 (.bin .lss (.t 13) (.t 12))]
def dtext_6 : AK := .seq (.reg dtext_6o [1, 3, 11, 12, 13, 14]) dtext_7
def dtext_L0 : AK := .loop dtext_6
def dtext_5 : AK := .block 0 dtext_L0
def dtext_4o : List ROp := [.v 10 (.fldA false 1 1 (.t 1)),
   .v 11 (.ld false 1 (.t 10)),
   .v 12 (.len false (.t 11)),
   .v 13 (.mov (.c (.int .i64 0)))]
def dtext_4 : AK := .seq (.reg dtext_4o [1, 3, 11, 12, 13]) dtext_5
def dtext_2 : AK := .seq dtext_4 dtext_3
def dtext_1o : List ROp := [.v 6 (.fldA false 0 1 (.t 1)),
   .v 7 (.ld false 1 (.t 6)),
   .v 8 (.bin .add (.c (.str [116, 114, 101, 101, 32])) (.t 7)),
   .v 9 (.bin .add (.t 8) (.c (.str [10]))),
   .v 3 (.mov (.t 9))]
def dtext_1 : AK := .seq (.reg dtext_1o [1, 3]) dtext_2
def dtext_0o : List ROp := [.eff 1 false 21001 (.box 9 (.t 0)),
   .v 2 (.mov (.c (.str [])))]
def dtext_0 : AK := .seq (.reg dtext_0o [1]) dtext_1
def dtext : AK := dtext_0
theorem dtext_vc (P : Program) (E : Env) (Q : KQ) (st : St) :
  (vcW P E dtext_3 Q st = aopsW P dtext_3o st (KS.reg [2] (KQ.seq P E .ret Q))) ∧
  (vcW P E dtext_9 Q st = aopsW P dtext_9o st (KS.reg [1, 3, 11, 12, 13] Q)) ∧
  (vcW P E dtext_12 Q st = aopsW P dtext_12o st (KS.reg [1, 3, 11, 12, 13] Q)) ∧
  (vcW P E dtext_11 Q st = aopsW P dtext_11o st (KS.reg [1, 3, 5, 11, 12, 13] (KQ.seq P E dtext_12 Q))) ∧
  (vcW P E dtext_10 Q st = vcW P E dtext_11 (KQ.blk 1 Q) st) ∧
  (vcW P E dtext_8 Q st = vcW P E dtext_10 (KQ.seq P E dtext_9 Q) st) ∧
  (vcW P E dtext_13 Q st = cndW P E (ev st (.t 14)) .skip (.exit 0) Q st) ∧
  (vcW P E dtext_7 Q st = vcW P E dtext_13 (KQ.seq P E dtext_8 Q) st) ∧
  (vcW P E dtext_6 Q st = aopsW P dtext_6o st (KS.reg [1, 3, 11, 12, 13, 14] (KQ.seq P E dtext_7 Q))) ∧
  (vcW P E dtext_5 Q st = vcW P E dtext_L0 (KQ.blk 0 Q) st) ∧
  (vcW P E dtext_4 Q st = aopsW P dtext_4o st (KS.reg [1, 3, 11, 12, 13] (KQ.seq P E dtext_5 Q))) ∧
  (vcW P E dtext_2 Q st = vcW P E dtext_4 (KQ.seq P E dtext_3 Q) st) ∧
  (vcW P E dtext_1 Q st = aopsW P dtext_1o st (KS.reg [1, 3] (KQ.seq P E dtext_2 Q))) ∧
  (vcW P E dtext_0 Q st = aopsW P dtext_0o st (KS.reg [1] (KQ.seq P E dtext_1 Q))) ∧
  (vcW P E dtext Q st = vcW P E dtext_0 Q st) :=
  ⟨rfl, rfl, rfl, rfl, rfl, rfl, vcW_cond, rfl, rfl, rfl, rfl, rfl, rfl, rfl, rfl⟩
theorem dtext_jn (P : Program) (E : Env) (Q : KQ) (st : St) :
  (True) :=
  trivial
attribute [go_sem] dtext_vc dtext_3o dtext_9o dtext_12o dtext_11o dtext_6o dtext_4o dtext_1o dtext_0o
noncomputable def dtextB : Code := (Tryd.f18.body).getD .skip
theorem dtext_eq : trCode Tryd.prog 39 21000 dtextB = dtext.erase 21000 := by kernel_rfl
theorem dtext_body : Tryd.f18.body = some dtextB := by kernel_rfl
theorem dtext_n : Tryd.f18.ntmps = 39 := by kernel_rfl
theorem dtext_r : Tryd.f18.results.toList.map (trRes Tryd.prog) = [.tmp 2] := by kernel_rfl
theorem dtext_spec {h : HP} {a0 : AV} {Post : HP → AV → List AV → Prop} (hp : ∀ (E : Env) (R : HP → AV → List AV → Prop), E.N ≤ 1000000 → PostTo Post R → vcW Tryd.prog E dtext (KQ.post [.tmp 2] 1 R) ⟨[(0, a0)], h⟩) : Eng.Spec Tryd.prog 18 h [a0] Post := spec_wk (
  spec_of (c := dtext.erase 21000) (B := 21000) Tryd.func18 dtext_body (by rw [dtext_n, dtext_eq]) (by rw [dtext_n]; decide) (by rw [dtext_n]; exact (by decide : 1 ≤ 39)) (fun E hE hB hrd => by
    have hN : E.N ≤ 1000000 := by
      rw [hE, dtext_n]; decide
    rw [dtext_r, ← hB]
    exact awp_slots [(0, a0)] ⟨rfl, trivial⟩ (vcW_sound hN _ (hp E _ hN fin_self))))
/- cartulary/cartularyref15.CheckTag -/
def dchecktag_2o : List ROp := [.v 2 (.mov (.c (.int .i64 0)))]
def dchecktag_2 : AK := .seq (.reg dchecktag_2o [2]) .ret
def dchecktag_5o : List ROp := [.v 2 (.mov (.c (.int .i64 4)))]
def dchecktag_5 : AK := .seq (.reg dchecktag_5o [2]) .ret
def dchecktag_4 : AK := .cond (.t 24) dchecktag_5 .skip
def dchecktag_3o : List ROp := [.v 3 (.fldA false 0 1 (.t 1)),
   .v 4 (.ld false 1 (.t 3)),
   .cal (some 5) false 22005 29 [(.t 4)],
   .v 6 (.un .not (.t 5)),
   .v 7 (.mov (.t 6)),
   .gval 8 7 false false 22008 (.fldA false 1 1 (.t 1)),
   .gval 9 7 false false 22009 (.ld false 1 (.t 8)),
   .gcal 10 7 false false 22010 42 [(.t 9)],
   .gval 11 7 false false 22011 (.bin .eql (.t 10) (.c (.str []))),
   .v 12 (.pick (.t 7) (.c (.bool true)) (.t 11)),
   .v 13 (.mov (.t 12)),
   .gval 14 13 false false 22014 (.fldA false 2 1 (.t 1)),
   .gval 15 13 false false 22015 (.ld false 1 (.t 14)),
   .gcal 16 13 false false 22016 15 [(.t 15)],
   .gval 17 13 false false 22017 (.un .not (.t 16)),
   .v 18 (.pick (.t 13) (.c (.bool true)) (.t 17)),
   .v 19 (.mov (.t 18)),
   .gval 20 19 false false 22020 (.fldA true 3 3 (.t 1)),
   .gval 21 19 false false 22021 (.ld true 3 (.t 20)),
   .gcal 22 19 false false 22022 20 [(.t 21)],
   .gval 23 19 false false 22023 (.un .not (.t 22)),
   .v 24 (.pick (.t 19) (.c (.bool true)) (.t 23))]
def dchecktag_3 : AK := .seq (.reg dchecktag_3o [24]) dchecktag_4
def dchecktag_1 : AK := .seq dchecktag_3 dchecktag_2
def dchecktag_0o : List ROp := [.eff 1 false 22001 (.box 7 (.t 0)),
   .v 2 (.mov (.c (.int .i64 0)))]
def dchecktag_0 : AK := .seq (.reg dchecktag_0o [1]) dchecktag_1
def dchecktag : AK := dchecktag_0
theorem dchecktag_vc (P : Program) (E : Env) (Q : KQ) (st : St) :
  (vcW P E dchecktag_2 Q st = aopsW P dchecktag_2o st (KS.reg [2] (KQ.seq P E .ret Q))) ∧
  (vcW P E dchecktag_5 Q st = aopsW P dchecktag_5o st (KS.reg [2] (KQ.seq P E .ret Q))) ∧
  (vcW P E dchecktag_4 Q st = cndW P E (ev st (.t 24)) dchecktag_5 .skip Q st) ∧
  (vcW P E dchecktag_3 Q st = aopsW P dchecktag_3o st (KS.reg [24] (KQ.seq P E dchecktag_4 Q))) ∧
  (vcW P E dchecktag_1 Q st = vcW P E dchecktag_3 (KQ.seq P E dchecktag_2 Q) st) ∧
  (vcW P E dchecktag_0 Q st = aopsW P dchecktag_0o st (KS.reg [1] (KQ.seq P E dchecktag_1 Q))) ∧
  (vcW P E dchecktag Q st = vcW P E dchecktag_0 Q st) :=
  ⟨rfl, rfl, vcW_cond, rfl, rfl, rfl, rfl⟩
theorem dchecktag_jn (P : Program) (E : Env) (Q : KQ) (st : St) :
  (True) :=
  trivial
attribute [go_sem] dchecktag_vc dchecktag_2o dchecktag_5o dchecktag_3o dchecktag_0o
noncomputable def dchecktagB : Code := (Tryd.f23.body).getD .skip
theorem dchecktag_eq : trCode Tryd.prog 25 22000 dchecktagB = dchecktag.erase 22000 := by kernel_rfl
theorem dchecktag_body : Tryd.f23.body = some dchecktagB := by kernel_rfl
theorem dchecktag_n : Tryd.f23.ntmps = 25 := by kernel_rfl
theorem dchecktag_r : Tryd.f23.results.toList.map (trRes Tryd.prog) = [.tmp 2] := by kernel_rfl
theorem dchecktag_spec {h : HP} {a0 : AV} {Post : HP → AV → List AV → Prop} (hp : ∀ (E : Env) (R : HP → AV → List AV → Prop), E.N ≤ 1000000 → PostTo Post R → vcW Tryd.prog E dchecktag (KQ.post [.tmp 2] 1 R) ⟨[(0, a0)], h⟩) : Eng.Spec Tryd.prog 23 h [a0] Post := spec_wk (
  spec_of (c := dchecktag.erase 22000) (B := 22000) Tryd.func23 dchecktag_body (by rw [dchecktag_n, dchecktag_eq]) (by rw [dchecktag_n]; decide) (by rw [dchecktag_n]; exact (by decide : 1 ≤ 25)) (fun E hE hB hrd => by
    have hN : E.N ≤ 1000000 := by
      rw [hE, dchecktag_n]; decide
    rw [dchecktag_r, ← hB]
    exact awp_slots [(0, a0)] ⟨rfl, trivial⟩ (vcW_sound hN _ (hp E _ hN fin_self))))
/- cartulary/cartularyref15.TagText -/
def dtagtext_1o : List ROp := [.val 3 true 23003 (.fldA false 0 1 (.t 1)),
   .val 4 true 23004 (.ld false 1 (.t 3)),
   .val 5 true 23005 (.bin .add (.c (.str [111, 98, 106, 101, 99, 116, 32])) (.t 4)),
   .val 6 true 23006 (.bin .add (.t 5) (.c (.str [10, 116, 121, 112, 101, 32]))),
   .val 7 true 23007 (.fldA false 1 1 (.t 1)),
   .val 8 true 23008 (.ld false 1 (.t 7)),
   .val 12 true 23012 (.fldA false 2 1 (.t 1)),
   .val 13 true 23013 (.ld false 1 (.t 12)),
   .val 16 true 23016 (.fldA true 3 3 (.t 1)),
   .val 17 true 23017 (.ld true 3 (.t 16)),
   .val 21 true 23021 (.fldA false 6 1 (.t 1)),
   .val 22 true 23022 (.ld false 1 (.t 21)),
   .cal (some 9) true 23009 42 [(.t 8)],
   .val 10 true 23010 (.bin .add (.t 6) (.t 9)),
   .val 11 true 23011 (.bin .add (.t 10) (.c (.str [10, 116, 97, 103, 32]))),
   .val 14 true 23014 (.bin .add (.t 11) (.t 13)),
   .val 15 true 23015 (.bin .add (.t 14) (.c (.str [10, 116, 97, 103, 103, 101, 114, 32]))),
   .cal (some 18) true 23018 21 [(.t 17)],
   .val 19 true 23019 (.bin .add (.t 15) (.t 18)),
   .val 20 true 23020 (.bin .add (.t 19) (.c (.str [10, 10]))),
   .v 23 (.bin .add (.t 20) (.t 22)),
   .v 2 (.mov (.t 23))]
def dtagtext_1 : AK := .seq (.reg dtagtext_1o [2]) .ret
def dtagtext_0o : List ROp := [.eff 1 false 23001 (.box 7 (.t 0)),
   .v 2 (.mov (.c (.str [])))]
def dtagtext_0 : AK := .seq (.reg dtagtext_0o [1]) dtagtext_1
def dtagtext : AK := dtagtext_0
theorem dtagtext_vc (P : Program) (E : Env) (Q : KQ) (st : St) :
  (vcW P E dtagtext_1 Q st = aopsW P dtagtext_1o st (KS.reg [2] (KQ.seq P E .ret Q))) ∧
  (vcW P E dtagtext_0 Q st = aopsW P dtagtext_0o st (KS.reg [1] (KQ.seq P E dtagtext_1 Q))) ∧
  (vcW P E dtagtext Q st = vcW P E dtagtext_0 Q st) :=
  ⟨rfl, rfl, rfl⟩
theorem dtagtext_jn (P : Program) (E : Env) (Q : KQ) (st : St) :
  (True) :=
  trivial
attribute [go_sem] dtagtext_vc dtagtext_1o dtagtext_0o
noncomputable def dtagtextB : Code := (Tryd.f27.body).getD .skip
theorem dtagtext_eq : trCode Tryd.prog 24 23000 dtagtextB = dtagtext.erase 23000 := by kernel_rfl
theorem dtagtext_body : Tryd.f27.body = some dtagtextB := by kernel_rfl
theorem dtagtext_n : Tryd.f27.ntmps = 24 := by kernel_rfl
theorem dtagtext_r : Tryd.f27.results.toList.map (trRes Tryd.prog) = [.tmp 2] := by kernel_rfl
theorem dtagtext_spec {h : HP} {a0 : AV} {Post : HP → AV → List AV → Prop} (hp : ∀ (E : Env) (R : HP → AV → List AV → Prop), E.N ≤ 1000000 → PostTo Post R → vcW Tryd.prog E dtagtext (KQ.post [.tmp 2] 1 R) ⟨[(0, a0)], h⟩) : Eng.Spec Tryd.prog 27 h [a0] Post := spec_wk (
  spec_of (c := dtagtext.erase 23000) (B := 23000) Tryd.func27 dtagtext_body (by rw [dtagtext_n, dtagtext_eq]) (by rw [dtagtext_n]; decide) (by rw [dtagtext_n]; exact (by decide : 1 ≤ 24)) (fun E hE hB hrd => by
    have hN : E.N ≤ 1000000 := by
      rw [hE, dtagtext_n]; decide
    rw [dtagtext_r, ← hB]
    exact awp_slots [(0, a0)] ⟨rfl, trivial⟩ (vcW_sound hN _ (hp E _ hN fin_self))))
/- cartulary/cartularyref15.line -/
def dl_3o : List ROp := [.val 21 true 24021 (.mov (.t 0)),
   .val 22 true 24022 (.mov (.t 1)),
   .val 23 true 24023 (.len true (.t 22)),
   .val 24 true 24024 (.bin .add (.t 23) (.c (.int .i64 1))),
   .val 25 true 24025 (.mov (.t 7)),
   .val 26 true 24026 (.slcS (.t 21) (some (.t 24)) (some (.t 25))),
   .val 27 true 24027 (.mov (.t 0)),
   .val 28 true 24028 (.mov (.t 7)),
   .val 29 true 24029 (.bin .add (.t 28) (.c (.int .i64 1))),
   .val 30 true 24030 (.slcS (.t 27) (some (.t 29)) none),
   .val 4 true 24004 (.mov (.t 26)),
   .v 5 (.mov (.t 30)),
   .v 6 (.mov (.c (.bool true)))]
def dl_3 : AK := .seq (.reg dl_3o [4, 5, 6]) .ret
def dl_6o : List ROp := [.v 4 (.mov (.c (.str []))),
   .v 5 (.mov (.c (.str []))),
   .v 6 (.mov (.c (.bool false)))]
def dl_6 : AK := .seq (.reg dl_6o [4, 5, 6]) .ret
def dl_5 : AK := .cond (.t 20) dl_6 .skip
def dl_4o : List ROp := [.v 10 (.mov (.t 7)),
   .v 11 (.bin .lss (.t 10) (.c (.int .i64 0))),
   .v 12 (.mov (.t 11)),
   .gval 13 12 false false 24013 (.mov (.t 0)),
   .gval 14 12 false false 24014 (.mov (.t 7)),
   .gval 15 12 false false 24015 (.slcS (.t 13) none (some (.t 14))),
   .gval 16 12 false false 24016 (.mov (.t 1)),
   .gval 17 12 false false 24017 (.bin .add (.t 16) (.c (.str [32]))),
   .gcal 18 12 false false 24018 37 [(.t 15), (.t 17)],
   .gval 19 12 false false 24019 (.un .not (.t 18)),
   .v 20 (.pick (.t 12) (.c (.bool true)) (.t 19))]
def dl_4 : AK := .seq (.reg dl_4o [0, 1, 7, 20]) dl_5
def dl_2 : AK := .seq dl_4 dl_3
def dl_1o : List ROp := [.v 8 (.mov (.t 0)),
   .cal (some 9) false 24009 33 [(.t 8), (.c (.int .u8 10))],
   .v 7 (.mov (.t 9))]
def dl_1 : AK := .seq (.reg dl_1o [0, 1, 7]) dl_2
def dl_0o : List ROp := [.v 4 (.mov (.c (.str []))),
   .v 5 (.mov (.c (.str []))),
   .v 6 (.mov (.c (.bool false)))]
def dl_0 : AK := .seq (.reg dl_0o [0, 1]) dl_1
def dl : AK := dl_0
theorem dl_vc (P : Program) (E : Env) (Q : KQ) (st : St) :
  (vcW P E dl_3 Q st = aopsW P dl_3o st (KS.reg [4, 5, 6] (KQ.seq P E .ret Q))) ∧
  (vcW P E dl_6 Q st = aopsW P dl_6o st (KS.reg [4, 5, 6] (KQ.seq P E .ret Q))) ∧
  (vcW P E dl_5 Q st = cndW P E (ev st (.t 20)) dl_6 .skip Q st) ∧
  (vcW P E dl_4 Q st = aopsW P dl_4o st (KS.reg [0, 1, 7, 20] (KQ.seq P E dl_5 Q))) ∧
  (vcW P E dl_2 Q st = vcW P E dl_4 (KQ.seq P E dl_3 Q) st) ∧
  (vcW P E dl_1 Q st = aopsW P dl_1o st (KS.reg [0, 1, 7] (KQ.seq P E dl_2 Q))) ∧
  (vcW P E dl_0 Q st = aopsW P dl_0o st (KS.reg [0, 1] (KQ.seq P E dl_1 Q))) ∧
  (vcW P E dl Q st = vcW P E dl_0 Q st) :=
  ⟨rfl, rfl, vcW_cond, rfl, rfl, rfl, rfl, rfl⟩
theorem dl_jn (P : Program) (E : Env) (Q : KQ) (st : St) :
  (True) :=
  trivial
attribute [go_sem] dl_vc dl_3o dl_6o dl_4o dl_1o dl_0o
noncomputable def dlB : Code := (Tryd.f36.body).getD .skip
theorem dl_eq : trCode Tryd.prog 31 24000 dlB = dl.erase 24000 := by kernel_rfl
theorem dl_body : Tryd.f36.body = some dlB := by kernel_rfl
theorem dl_n : Tryd.f36.ntmps = 31 := by kernel_rfl
theorem dl_r : Tryd.f36.results.toList.map (trRes Tryd.prog) = [.tmp 4, .tmp 5, .tmp 6] := by kernel_rfl
theorem dl_spec {h : HP} {a0 a1 : AV} {Post : HP → AV → List AV → Prop} (hp : ∀ (E : Env) (R : HP → AV → List AV → Prop), E.N ≤ 1000000 → PostTo Post R → vcW Tryd.prog E dl (KQ.post [.tmp 4, .tmp 5, .tmp 6] 2 R) ⟨[(0, a0), (1, a1)], h⟩) : Eng.Spec Tryd.prog 36 h [a0, a1] Post := spec_wk (
  spec_of (c := dl.erase 24000) (B := 24000) Tryd.func36 dl_body (by rw [dl_n, dl_eq]) (by rw [dl_n]; decide) (by rw [dl_n]; exact (by decide : 2 ≤ 31)) (fun E hE hB hrd => by
    have hN : E.N ≤ 1000000 := by
      rw [hE, dl_n]; decide
    rw [dl_r, ← hB]
    exact awp_slots [(0, a0), (1, a1)] ⟨rfl, rfl, trivial⟩ (vcW_sound hN _ (hp E _ hN fin_self))))
/- cartulary/cartularyref15.number -/
def dnum_4o : List ROp := [.v 54 (.mov (.t 5)),
   .v 55 (.mov (.t 5)),
   .cal (some 56) false 25056 39 [(.t 55)],
   .v 57 (.mov (.t 0)),
   .v 58 (.bin .eql (.t 56) (.t 57)),
   .v 2 (.mov (.t 54)),
   .v 3 (.mov (.t 58))]
def dnum_4 : AK := .seq (.reg dnum_4o [2, 3]) .ret
def dnum_9o : List ROp := [.v 20 (.mov (.t 6)),
   .v 21 (.bin .add (.t 20) (.c (.int .i64 1))),
   .v 6 (.mov (.t 21))]
def dnum_9 : AK := .reg dnum_9o [0, 4, 5, 6]
def dnum_15o : List ROp := [.v 50 (.mov (.t 5)),
   .v 51 (.bin .mul (.c (.int .i64 10)) (.t 50)),
   .v 52 (.mov (.t 7)),
   .v 53 (.bin .add (.t 51) (.t 52)),
   .v 5 (.mov (.t 53))]
def dnum_15 : AK := .reg dnum_15o [0, 4, 5, 6]
def dnum_18o : List ROp := [.v 48 (.mov (.t 7)),
   .v 49 (.un .neg (.t 48)),
   .v 7 (.mov (.t 49))]
def dnum_18 : AK := .reg dnum_18o [0, 4, 5, 6, 7]
def dnum_17 : AK := .cond (.t 47) dnum_18 .skip
def dnum_16o : List ROp := [.v 47 (.mov (.t 4))]
def dnum_16 : AK := .seq (.reg dnum_16o [0, 4, 5, 6, 7, 47]) dnum_17
def dnum_14 : AK := .seq dnum_16 dnum_15
def dnum_13o : List ROp := [.v 42 (.mov (.t 0)),
   .v 43 (.mov (.t 6)),
   .v 44 (.sidx (.t 42) (.t 43)),
   .v 45 (.bin .sub (.t 44) (.c (.int .u8 48))),
   .v 46 (.cvi .i64 (.t 45)),
   .v 7 (.mov (.t 46))]
def dnum_13 : AK := .seq (.reg dnum_13o [0, 4, 5, 6, 7]) dnum_14
def dnum_21o : List ROp := [.v 2 (.mov (.c (.int .i64 0))),
   .v 3 (.mov (.c (.bool false)))]
def dnum_21 : AK := .seq (.reg dnum_21o [2, 3]) .ret
def dnum_20 : AK := .cond (.t 41) dnum_21 .skip
def dnum_19o : List ROp := [.v 27 (.mov (.t 0)),
   .v 28 (.mov (.t 6)),
   .v 29 (.sidx (.t 27) (.t 28)),
   .v 30 (.bin .lss (.t 29) (.c (.int .u8 48))),
   .v 31 (.mov (.t 30)),
   .gval 32 31 false false 25032 (.mov (.t 0)),
   .gval 33 31 false false 25033 (.mov (.t 6)),
   .gval 34 31 false false 25034 (.sidx (.t 32) (.t 33)),
   .gval 35 31 false false 25035 (.bin .gtr (.t 34) (.c (.int .u8 57))),
   .v 36 (.pick (.t 31) (.c (.bool true)) (.t 35)),
   .v 37 (.mov (.t 36)),
   .gval 38 37 false false 25038 (.mov (.t 0)),
   .gval 39 37 false false 25039 (.len true (.t 38)),
   .gval 40 37 false false 25040 (.bin .gtr (.t 39) (.c (.int .i64 20))),
   .v 41 (.pick (.t 37) (.c (.bool true)) (.t 40))]
def dnum_19 : AK := .seq (.reg dnum_19o [0, 4, 5, 6, 41]) dnum_20
def dnum_12 : AK := .seq dnum_19 dnum_13
def dnum_23 : AK := .cond (.t 26) (.exit 1) .skip
def dnum_22o : List ROp := [.v 22 (.mov (.t 6)),
   .v 23 (.bin .eql (.t 22) (.c (.int .i64 0))),
   .v 24 (.mov (.t 23)),
   .gval 25 24 true false 25025 (.mov (.t 4)),
   .v 26 (.pick (.t 24) (.t 25) (.c (.bool false)))]
def dnum_22 : AK := .seq (.reg dnum_22o [0, 4, 5, 6, 26]) dnum_23
def dnum_11 : AK := .seq dnum_22 dnum_12
def dnum_10 : AK := .block 1 dnum_11
def dnum_8 : AK := .seq dnum_10 dnum_9
def dnum_25 : AK := .cond (.t 19) .skip (.exit 0)
def dnum_24o : List ROp := [.v 16 (.mov (.t 6)),
   .v 17 (.mov (.t 0)),
   .v 18 (.len true (.t 17)),
   .v 19 (.bin .lss (.t 16) (.t 18))]
def dnum_24 : AK := .seq (.reg dnum_24o [0, 4, 5, 6, 19]) dnum_25
def dnum_7 : AK := .seq dnum_24 dnum_8
def dnum_L0 : AK := .loop dnum_7
def dnum_6 : AK := .block 0 dnum_L0
def dnum_5o : List ROp := [.v 6 (.mov (.c (.int .i64 0)))]
def dnum_5 : AK := .seq (.reg dnum_5o [0, 4, 5, 6]) dnum_6
def dnum_3 : AK := .seq dnum_5 dnum_4
def dnum_2o : List ROp := [.v 5 (.mov (.c (.int .i64 0)))]
def dnum_2 : AK := .seq (.reg dnum_2o [0, 4, 5]) dnum_3
def dnum_1o : List ROp := [.v 8 (.mov (.t 0)),
   .v 9 (.len true (.t 8)),
   .v 10 (.bin .gtr (.t 9) (.c (.int .i64 0))),
   .v 11 (.mov (.t 10)),
   .gval 12 11 true false 25012 (.mov (.t 0)),
   .gval 13 11 true false 25013 (.sidx (.t 12) (.c (.int .i64 0))),
   .gval 14 11 true false 25014 (.bin .eql (.t 13) (.c (.int .u8 45))),
   .v 15 (.pick (.t 11) (.t 14) (.c (.bool false))),
   .v 4 (.mov (.t 15))]
def dnum_1 : AK := .seq (.reg dnum_1o [0, 4]) dnum_2
def dnum_0o : List ROp := [.v 2 (.mov (.c (.int .i64 0))),
   .v 3 (.mov (.c (.bool false)))]
def dnum_0 : AK := .seq (.reg dnum_0o [0]) dnum_1
def dnum : AK := dnum_0
theorem dnum_vc (P : Program) (E : Env) (Q : KQ) (st : St) :
  (vcW P E dnum_4 Q st = aopsW P dnum_4o st (KS.reg [2, 3] (KQ.seq P E .ret Q))) ∧
  (vcW P E dnum_9 Q st = aopsW P dnum_9o st (KS.reg [0, 4, 5, 6] Q)) ∧
  (vcW P E dnum_15 Q st = aopsW P dnum_15o st (KS.reg [0, 4, 5, 6] Q)) ∧
  (vcW P E dnum_18 Q st = aopsW P dnum_18o st (KS.reg [0, 4, 5, 6, 7] Q)) ∧
  (vcW P E dnum_17 Q st = cndW P E (ev st (.t 47)) dnum_18 .skip Q st) ∧
  (vcW P E dnum_16 Q st = aopsW P dnum_16o st (KS.reg [0, 4, 5, 6, 7, 47] (KQ.seq P E dnum_17 Q))) ∧
  (vcW P E dnum_14 Q st = vcW P E dnum_16 (KQ.seq P E dnum_15 Q) st) ∧
  (vcW P E dnum_13 Q st = aopsW P dnum_13o st (KS.reg [0, 4, 5, 6, 7] (KQ.seq P E dnum_14 Q))) ∧
  (vcW P E dnum_21 Q st = aopsW P dnum_21o st (KS.reg [2, 3] (KQ.seq P E .ret Q))) ∧
  (vcW P E dnum_20 Q st = cndW P E (ev st (.t 41)) dnum_21 .skip Q st) ∧
  (vcW P E dnum_19 Q st = aopsW P dnum_19o st (KS.reg [0, 4, 5, 6, 41] (KQ.seq P E dnum_20 Q))) ∧
  (vcW P E dnum_12 Q st = vcW P E dnum_19 (KQ.seq P E dnum_13 Q) st) ∧
  (vcW P E dnum_23 Q st = cndW P E (ev st (.t 26)) (.exit 1) .skip Q st) ∧
  (vcW P E dnum_22 Q st = aopsW P dnum_22o st (KS.reg [0, 4, 5, 6, 26] (KQ.seq P E dnum_23 Q))) ∧
  (vcW P E dnum_11 Q st = vcW P E dnum_22 (KQ.seq P E dnum_12 Q) st) ∧
  (vcW P E dnum_10 Q st = vcW P E dnum_11 (KQ.blk 1 Q) st) ∧
  (vcW P E dnum_8 Q st = vcW P E dnum_10 (KQ.seq P E dnum_9 Q) st) ∧
  (vcW P E dnum_25 Q st = cndW P E (ev st (.t 19)) .skip (.exit 0) Q st) ∧
  (vcW P E dnum_24 Q st = aopsW P dnum_24o st (KS.reg [0, 4, 5, 6, 19] (KQ.seq P E dnum_25 Q))) ∧
  (vcW P E dnum_7 Q st = vcW P E dnum_24 (KQ.seq P E dnum_8 Q) st) ∧
  (vcW P E dnum_6 Q st = vcW P E dnum_L0 (KQ.blk 0 Q) st) ∧
  (vcW P E dnum_5 Q st = aopsW P dnum_5o st (KS.reg [0, 4, 5, 6] (KQ.seq P E dnum_6 Q))) ∧
  (vcW P E dnum_3 Q st = vcW P E dnum_5 (KQ.seq P E dnum_4 Q) st) ∧
  (vcW P E dnum_2 Q st = aopsW P dnum_2o st (KS.reg [0, 4, 5] (KQ.seq P E dnum_3 Q))) ∧
  (vcW P E dnum_1 Q st = aopsW P dnum_1o st (KS.reg [0, 4] (KQ.seq P E dnum_2 Q))) ∧
  (vcW P E dnum_0 Q st = aopsW P dnum_0o st (KS.reg [0] (KQ.seq P E dnum_1 Q))) ∧
  (vcW P E dnum Q st = vcW P E dnum_0 Q st) :=
  ⟨rfl, rfl, rfl, rfl, vcW_cond, rfl, rfl, rfl, rfl, vcW_cond, rfl, rfl, vcW_cond, rfl, rfl, rfl, rfl, vcW_cond, rfl, rfl, rfl, rfl, rfl, rfl, rfl, rfl, rfl⟩
theorem dnum_jn (P : Program) (E : Env) (Q : KQ) (st : St) :
  (True) :=
  trivial
attribute [go_sem] dnum_vc dnum_4o dnum_9o dnum_15o dnum_18o dnum_16o dnum_13o dnum_21o dnum_19o dnum_22o dnum_24o dnum_5o dnum_2o dnum_1o dnum_0o
noncomputable def dnumB : Code := (Tryd.f55.body).getD .skip
theorem dnum_eq : trCode Tryd.prog 59 25000 dnumB = dnum.erase 25000 := by kernel_rfl
theorem dnum_body : Tryd.f55.body = some dnumB := by kernel_rfl
theorem dnum_n : Tryd.f55.ntmps = 59 := by kernel_rfl
theorem dnum_r : Tryd.f55.results.toList.map (trRes Tryd.prog) = [.tmp 2, .tmp 3] := by kernel_rfl
theorem dnum_spec {h : HP} {a0 : AV} {Post : HP → AV → List AV → Prop} (hp : ∀ (E : Env) (R : HP → AV → List AV → Prop), E.N ≤ 1000000 → PostTo Post R → vcW Tryd.prog E dnum (KQ.post [.tmp 2, .tmp 3] 1 R) ⟨[(0, a0)], h⟩) : Eng.Spec Tryd.prog 55 h [a0] Post := spec_wk (
  spec_of (c := dnum.erase 25000) (B := 25000) Tryd.func55 dnum_body (by rw [dnum_n, dnum_eq]) (by rw [dnum_n]; decide) (by rw [dnum_n]; exact (by decide : 1 ≤ 59)) (fun E hE hB hrd => by
    have hN : E.N ≤ 1000000 := by
      rw [hE, dnum_n]; decide
    rw [dnum_r, ← hB]
    exact awp_slots [(0, a0)] ⟨rfl, trivial⟩ (vcW_sound hN _ (hp E _ hN fin_self))))
/- cartulary/cartularyref15.Read -/
def dread_14o : List ROp := [.v 137 (.ld true 3 (.t 8)),
   .effN false 26000 (.st 3 (.t 2) (.t 137)),
   .v 3 (.mov (.c (.bool true)))]
def dread_14 : AK := .seq (.reg dread_14o [2, 3]) .ret
def dread_18o : List ROp := [.v 128 (.bld [.str [], .int .i64 0, .int .i64 0] []),
   .effN false 26000 (.st 3 (.t 2) (.t 128)),
   .v 3 (.mov (.c (.bool false)))]
def dread_18 : AK := .seq (.reg dread_18o [2, 3]) .ret
def dread_21o : List ROp := [.v 133 (.fldA false 2 1 (.t 8)),
   .v 134 (.ld false 1 (.t 133)),
   .v 135 (.un .neg (.t 134)),
   .v 136 (.fldA false 2 1 (.t 8)),
   .effN false 26000 (.st 1 (.t 136) (.t 135))]
def dread_21 : AK := .reg dread_21o [2, 8]
def dread_20 : AK := .cond (.t 129) dread_21 .skip
def dread_19o : List ROp := [.v 130 (.mov (.t 10)),
   .v 131 (.sidx (.t 130) (.c (.int .i64 0))),
   .v 132 (.bin .eql (.t 131) (.c (.int .u8 45))),
   .v 129 (.mov (.t 132))]
def dread_19 : AK := .seq (.reg dread_19o [2, 8, 129]) dread_20
def dread_17 : AK := .cond (.t 111) dread_18 dread_19
def dread_16o : List ROp := [.v 112 (.mov (.t 13)),
   .v 113 (.bin .geq (.t 112) (.c (.int .i64 60))),
   .v 114 (.mov (.t 113)),
   .gval 115 114 false false 26115 (.mov (.t 10)),
   .gval 116 114 false false 26116 (.sidx (.t 115) (.c (.int .i64 0))),
   .gval 117 114 false false 26117 (.bin .neq (.t 116) (.c (.int .u8 43))),
   .gval 118 114 false false 26118 (.mov (.t 117)),
   .gval 119 118 true false 26119 (.mov (.t 10)),
   .gval 120 118 true false 26120 (.sidx (.t 119) (.c (.int .i64 0))),
   .gval 121 118 true false 26121 (.bin .neq (.t 120) (.c (.int .u8 45))),
   .gval 122 114 false false 26122 (.pick (.t 118) (.t 121) (.c (.bool false))),
   .v 123 (.pick (.t 114) (.c (.bool true)) (.t 122)),
   .v 124 (.mov (.t 123)),
   .gval 125 124 false false 26125 (.mov (.t 10)),
   .gval 126 124 false false 26126 (.bin .eql (.t 125) (.c (.str [45, 48, 48, 48, 48]))),
   .v 127 (.pick (.t 124) (.c (.bool true)) (.t 126)),
   .v 111 (.mov (.t 127))]
def dread_16 : AK := .seq (.reg dread_16o [2, 8, 10, 111]) dread_17
def dread_15 : AK := .block 4 dread_16
def dread_13 : AK := .seq dread_15 dread_14
def dread_12o : List ROp := [.v 106 (.mov (.t 12)),
   .v 107 (.bin .mul (.c (.int .i64 60)) (.t 106)),
   .v 108 (.mov (.t 13)),
   .v 109 (.bin .add (.t 107) (.t 108)),
   .v 110 (.fldA false 2 1 (.t 8)),
   .effN false 26000 (.st 1 (.t 110) (.t 109))]
def dread_12 : AK := .seq (.reg dread_12o [2, 8, 10, 13]) dread_13
def dread_11o : List ROp := [.val 86 true 26086 (.mov (.t 10)),
   .val 87 true 26087 (.sidx (.t 86) (.c (.int .i64 1))),
   .val 88 true 26088 (.bin .sub (.t 87) (.c (.int .u8 48))),
   .val 89 true 26089 (.cvi .i64 (.t 88)),
   .val 90 true 26090 (.bin .mul (.t 89) (.c (.int .i64 10))),
   .val 91 true 26091 (.mov (.t 10)),
   .val 92 true 26092 (.sidx (.t 91) (.c (.int .i64 2))),
   .val 93 true 26093 (.bin .sub (.t 92) (.c (.int .u8 48))),
   .val 94 true 26094 (.cvi .i64 (.t 93)),
   .val 95 true 26095 (.bin .add (.t 90) (.t 94)),
   .val 96 true 26096 (.mov (.t 10)),
   .val 97 true 26097 (.sidx (.t 96) (.c (.int .i64 3))),
   .val 98 true 26098 (.bin .sub (.t 97) (.c (.int .u8 48))),
   .val 99 true 26099 (.cvi .i64 (.t 98)),
   .val 100 true 26100 (.bin .mul (.t 99) (.c (.int .i64 10))),
   .val 101 true 26101 (.mov (.t 10)),
   .val 102 true 26102 (.sidx (.t 101) (.c (.int .i64 4))),
   .val 103 true 26103 (.bin .sub (.t 102) (.c (.int .u8 48))),
   .val 104 true 26104 (.cvi .i64 (.t 103)),
   .val 105 true 26105 (.bin .add (.t 100) (.t 104)),
   .val 12 true 26012 (.mov (.t 95)),
   .v 13 (.mov (.t 105))]
def dread_11 : AK := .seq (.reg dread_11o [2, 8, 10, 12, 13]) dread_12
def dread_26o : List ROp := [.v 73 (.mov (.t 11)),
   .v 74 (.bin .add (.t 73) (.c (.int .i64 1))),
   .v 11 (.mov (.t 74))]
def dread_26 : AK := .reg dread_26o [2, 8, 10, 11]
def dread_30o : List ROp := [.v 85 (.bld [.str [], .int .i64 0, .int .i64 0] []),
   .effN false 26000 (.st 3 (.t 2) (.t 85)),
   .v 3 (.mov (.c (.bool false)))]
def dread_30 : AK := .seq (.reg dread_30o [2, 3]) .ret
def dread_29 : AK := .cond (.t 84) dread_30 .skip
def dread_28o : List ROp := [.v 75 (.mov (.t 10)),
   .v 76 (.mov (.t 11)),
   .v 77 (.sidx (.t 75) (.t 76)),
   .v 78 (.bin .lss (.t 77) (.c (.int .u8 48))),
   .v 79 (.mov (.t 78)),
   .gval 80 79 false false 26080 (.mov (.t 10)),
   .gval 81 79 false false 26081 (.mov (.t 11)),
   .gval 82 79 false false 26082 (.sidx (.t 80) (.t 81)),
   .gval 83 79 false false 26083 (.bin .gtr (.t 82) (.c (.int .u8 57))),
   .v 84 (.pick (.t 79) (.c (.bool true)) (.t 83))]
def dread_28 : AK := .seq (.reg dread_28o [2, 8, 10, 11, 84]) dread_29
def dread_27 : AK := .block 3 dread_28
def dread_25 : AK := .seq dread_27 dread_26
def dread_32 : AK := .cond (.t 72) .skip (.exit 2)
def dread_31o : List ROp := [.v 71 (.mov (.t 11)),
   .v 72 (.bin .lss (.t 71) (.c (.int .i64 5)))]
def dread_31 : AK := .seq (.reg dread_31o [2, 8, 10, 11, 72]) dread_32
def dread_24 : AK := .seq dread_31 dread_25
def dread_L0 : AK := .loop dread_24
def dread_23 : AK := .block 2 dread_L0
def dread_22o : List ROp := [.v 11 (.mov (.c (.int .i64 1)))]
def dread_22 : AK := .seq (.reg dread_22o [2, 8, 10, 11]) dread_23
def dread_10 : AK := .seq dread_22 dread_11
def dread_35o : List ROp := [.v 70 (.bld [.str [], .int .i64 0, .int .i64 0] []),
   .effN false 26000 (.st 3 (.t 2) (.t 70)),
   .v 3 (.mov (.c (.bool false)))]
def dread_35 : AK := .seq (.reg dread_35o [2, 3]) .ret
def dread_34 : AK := .cond (.t 69) dread_35 .skip
def dread_33o : List ROp := [.v 63 (.mov (.t 9)),
   .v 64 (.un .not (.t 63)),
   .v 65 (.mov (.t 64)),
   .gval 66 65 false false 26066 (.mov (.t 10)),
   .gval 67 65 false false 26067 (.len true (.t 66)),
   .gval 68 65 false false 26068 (.bin .neq (.t 67) (.c (.int .i64 5))),
   .v 69 (.pick (.t 65) (.c (.bool true)) (.t 68))]
def dread_33 : AK := .seq (.reg dread_33o [2, 8, 10, 69]) dread_34
def dread_9 : AK := .seq dread_33 dread_10
def dread_8o : List ROp := [.v 59 (.mov (.t 0)),
   .v 60 (.mov (.t 7)),
   .v 61 (.bin .add (.t 60) (.c (.int .i64 1))),
   .v 62 (.slcS (.t 59) (some (.t 61)) none),
   .v 10 (.mov (.t 62))]
def dread_8 : AK := .seq (.reg dread_8o [2, 8, 9, 10]) dread_9
def dread_7o : List ROp := [.v 50 (.mov (.t 0)),
   .v 51 (.mov (.t 6)),
   .v 52 (.bin .add (.t 51) (.c (.int .i64 1))),
   .v 53 (.mov (.t 7)),
   .v 54 (.slcS (.t 50) (some (.t 52)) (some (.t 53))),
   .cal (some 55) false 26055 55 [(.t 54)],
   .v 49 (.mov (.t 55)),
   .v 56 (.ext (.t 49) 0),
   .v 57 (.ext (.t 49) 1),
   .v 58 (.fldA false 1 1 (.t 8)),
   .effN false 26000 (.st 1 (.t 58) (.t 56)),
   .v 9 (.mov (.t 57))]
def dread_7 : AK := .seq (.reg dread_7o [0, 2, 7, 8, 9]) dread_8
def dread_6o : List ROp := [.v 9 (.mov (.c (.bool false)))]
def dread_6 : AK := .seq (.reg dread_6o [0, 2, 6, 7, 8]) dread_7
def dread_5o : List ROp := [.v 45 (.mov (.t 0)),
   .v 46 (.mov (.t 6)),
   .v 47 (.slcS (.t 45) none (some (.t 46))),
   .v 48 (.bld [.str [], .int .i64 0, .int .i64 0] [(0, 1, (.t 47))]),
   .eff 8 false 26008 (.alloc [.str [], .int .i64 0, .int .i64 0]),
   .effN false 26000 (.st 3 (.t 8) (.t 48))]
def dread_5 : AK := .seq (.reg dread_5o [0, 2, 6, 7, 8]) dread_6
def dread_4o : List ROp := [.val 33 true 26033 (.mov (.t 4)),
   .val 34 true 26034 (.mov (.t 4)),
   .val 35 true 26035 (.len false (.t 34)),
   .val 36 true 26036 (.bin .sub (.t 35) (.c (.int .i64 2))),
   .val 37 true 26037 (.idxA 1 (.t 33) (.t 36)),
   .val 38 true 26038 (.ld false 1 (.t 37)),
   .val 39 true 26039 (.mov (.t 4)),
   .val 40 true 26040 (.mov (.t 4)),
   .val 41 true 26041 (.len false (.t 40)),
   .val 42 true 26042 (.bin .sub (.t 41) (.c (.int .i64 1))),
   .val 43 true 26043 (.idxA 1 (.t 39) (.t 42)),
   .val 44 true 26044 (.ld false 1 (.t 43)),
   .val 6 true 26006 (.mov (.t 38)),
   .v 7 (.mov (.t 44))]
def dread_4 : AK := .seq (.reg dread_4o [0, 2, 6, 7]) dread_5
def dread_38o : List ROp := [.v 32 (.bld [.str [], .int .i64 0, .int .i64 0] []),
   .effN false 26000 (.st 3 (.t 2) (.t 32)),
   .v 3 (.mov (.c (.bool false)))]
def dread_38 : AK := .seq (.reg dread_38o [2, 3]) .ret
def dread_37 : AK := .cond (.t 31) dread_38 .skip
def dread_36o : List ROp := [.v 29 (.mov (.t 4)),
   .v 30 (.len false (.t 29)),
   .v 31 (.bin .lss (.t 30) (.c (.int .i64 2)))]
def dread_36 : AK := .seq (.reg dread_36o [0, 2, 4, 31]) dread_37
def dread_3 : AK := .seq dread_36 dread_4
def dread_43o : List ROp := [.v 19 (.mov (.t 5)),
   .v 20 (.bin .add (.t 19) (.c (.int .i64 1))),
   .v 5 (.mov (.t 20))]
def dread_43 : AK := .reg dread_43o [0, 2, 4, 5]
def dread_47o : List ROp := [.v 25 (.mov (.t 4)),
   .v 26 (.mov (.t 5)),
   .eff 27 false 26027 (.bsl 1 [(.t 26)]),
   .eff 28 false 26028 (.app 1 8 (.t 25) (.t 27)),
   .v 4 (.mov (.t 28))]
def dread_47 : AK := .reg dread_47o [0, 2, 4, 5]
def dread_46 : AK := .cond (.t 24) dread_47 .skip
def dread_45o : List ROp := [.v 21 (.mov (.t 0)),
   .v 22 (.mov (.t 5)),
   .v 23 (.sidx (.t 21) (.t 22)),
   .v 24 (.bin .eql (.t 23) (.c (.int .u8 32)))]
def dread_45 : AK := .seq (.reg dread_45o [0, 2, 4, 5, 24]) dread_46
def dread_44 : AK := .block 1 dread_45
def dread_42 : AK := .seq dread_44 dread_43
def dread_49 : AK := .cond (.t 18) .skip (.exit 0)
def dread_48o : List ROp := [.v 15 (.mov (.t 5)),
   .v 16 (.mov (.t 0)),
   .v 17 (.len true (.t 16)),
   .v 18 (.bin .lss (.t 15) (.t 17))]
def dread_48 : AK := .seq (.reg dread_48o [0, 2, 4, 5, 18]) dread_49
def dread_41 : AK := .seq dread_48 dread_42
def dread_L1 : AK := .loop dread_41
def dread_40 : AK := .block 0 dread_L1
def dread_39o : List ROp := [.v 5 (.mov (.c (.int .i64 0)))]
def dread_39 : AK := .seq (.reg dread_39o [0, 2, 4, 5]) dread_40
def dread_2 : AK := .seq dread_39 dread_3
def dread_1o : List ROp := [.eff 14 false 26014 (.bsl 1 []),
   .v 4 (.mov (.t 14))]
def dread_1 : AK := .seq (.reg dread_1o [0, 2, 4]) dread_2
def dread_0o : List ROp := [.eff 2 false 26002 (.alloc [.str [], .int .i64 0, .int .i64 0]),
   .v 3 (.mov (.c (.bool false)))]
def dread_0 : AK := .seq (.reg dread_0o [0, 2]) dread_1
def dread : AK := dread_0
theorem dread_vc (P : Program) (E : Env) (Q : KQ) (st : St) :
  (vcW P E dread_14 Q st = aopsW P dread_14o st (KS.reg [2, 3] (KQ.seq P E .ret Q))) ∧
  (vcW P E dread_18 Q st = aopsW P dread_18o st (KS.reg [2, 3] (KQ.seq P E .ret Q))) ∧
  (vcW P E dread_21 Q st = aopsW P dread_21o st (KS.reg [2, 8] Q)) ∧
  (vcW P E dread_20 Q st = cndW P E (ev st (.t 129)) dread_21 .skip Q st) ∧
  (vcW P E dread_19 Q st = aopsW P dread_19o st (KS.reg [2, 8, 129] (KQ.seq P E dread_20 Q))) ∧
  (vcW P E dread_17 Q st = cndW P E (ev st (.t 111)) dread_18 dread_19 Q st) ∧
  (vcW P E dread_16 Q st = aopsW P dread_16o st (KS.reg [2, 8, 10, 111] (KQ.seq P E dread_17 Q))) ∧
  (vcW P E dread_15 Q st = vcW P E dread_16 (KQ.blk 4 Q) st) ∧
  (vcW P E dread_13 Q st = vcW P E dread_15 (KQ.seq P E dread_14 Q) st) ∧
  (vcW P E dread_12 Q st = aopsW P dread_12o st (KS.reg [2, 8, 10, 13] (KQ.seq P E dread_13 Q))) ∧
  (vcW P E dread_11 Q st = aopsW P dread_11o st (KS.reg [2, 8, 10, 12, 13] (KQ.seq P E dread_12 Q))) ∧
  (vcW P E dread_26 Q st = aopsW P dread_26o st (KS.reg [2, 8, 10, 11] Q)) ∧
  (vcW P E dread_30 Q st = aopsW P dread_30o st (KS.reg [2, 3] (KQ.seq P E .ret Q))) ∧
  (vcW P E dread_29 Q st = cndW P E (ev st (.t 84)) dread_30 .skip Q st) ∧
  (vcW P E dread_28 Q st = aopsW P dread_28o st (KS.reg [2, 8, 10, 11, 84] (KQ.seq P E dread_29 Q))) ∧
  (vcW P E dread_27 Q st = vcW P E dread_28 (KQ.blk 3 Q) st) ∧
  (vcW P E dread_25 Q st = vcW P E dread_27 (KQ.seq P E dread_26 Q) st) ∧
  (vcW P E dread_32 Q st = cndW P E (ev st (.t 72)) .skip (.exit 2) Q st) ∧
  (vcW P E dread_31 Q st = aopsW P dread_31o st (KS.reg [2, 8, 10, 11, 72] (KQ.seq P E dread_32 Q))) ∧
  (vcW P E dread_24 Q st = vcW P E dread_31 (KQ.seq P E dread_25 Q) st) ∧
  (vcW P E dread_23 Q st = vcW P E dread_L0 (KQ.blk 2 Q) st) ∧
  (vcW P E dread_22 Q st = aopsW P dread_22o st (KS.reg [2, 8, 10, 11] (KQ.seq P E dread_23 Q))) ∧
  (vcW P E dread_10 Q st = vcW P E dread_22 (KQ.seq P E dread_11 Q) st) ∧
  (vcW P E dread_35 Q st = aopsW P dread_35o st (KS.reg [2, 3] (KQ.seq P E .ret Q))) ∧
  (vcW P E dread_34 Q st = cndW P E (ev st (.t 69)) dread_35 .skip Q st) ∧
  (vcW P E dread_33 Q st = aopsW P dread_33o st (KS.reg [2, 8, 10, 69] (KQ.seq P E dread_34 Q))) ∧
  (vcW P E dread_9 Q st = vcW P E dread_33 (KQ.seq P E dread_10 Q) st) ∧
  (vcW P E dread_8 Q st = aopsW P dread_8o st (KS.reg [2, 8, 9, 10] (KQ.seq P E dread_9 Q))) ∧
  (vcW P E dread_7 Q st = aopsW P dread_7o st (KS.reg [0, 2, 7, 8, 9] (KQ.seq P E dread_8 Q))) ∧
  (vcW P E dread_6 Q st = aopsW P dread_6o st (KS.reg [0, 2, 6, 7, 8] (KQ.seq P E dread_7 Q))) ∧
  (vcW P E dread_5 Q st = aopsW P dread_5o st (KS.reg [0, 2, 6, 7, 8] (KQ.seq P E dread_6 Q))) ∧
  (vcW P E dread_4 Q st = aopsW P dread_4o st (KS.reg [0, 2, 6, 7] (KQ.seq P E dread_5 Q))) ∧
  (vcW P E dread_38 Q st = aopsW P dread_38o st (KS.reg [2, 3] (KQ.seq P E .ret Q))) ∧
  (vcW P E dread_37 Q st = cndW P E (ev st (.t 31)) dread_38 .skip Q st) ∧
  (vcW P E dread_36 Q st = aopsW P dread_36o st (KS.reg [0, 2, 4, 31] (KQ.seq P E dread_37 Q))) ∧
  (vcW P E dread_3 Q st = vcW P E dread_36 (KQ.seq P E dread_4 Q) st) ∧
  (vcW P E dread_43 Q st = aopsW P dread_43o st (KS.reg [0, 2, 4, 5] Q)) ∧
  (vcW P E dread_47 Q st = aopsW P dread_47o st (KS.reg [0, 2, 4, 5] Q)) ∧
  (vcW P E dread_46 Q st = cndW P E (ev st (.t 24)) dread_47 .skip Q st) ∧
  (vcW P E dread_45 Q st = aopsW P dread_45o st (KS.reg [0, 2, 4, 5, 24] (KQ.seq P E dread_46 Q))) ∧
  (vcW P E dread_44 Q st = vcW P E dread_45 (KQ.blk 1 Q) st) ∧
  (vcW P E dread_42 Q st = vcW P E dread_44 (KQ.seq P E dread_43 Q) st) ∧
  (vcW P E dread_49 Q st = cndW P E (ev st (.t 18)) .skip (.exit 0) Q st) ∧
  (vcW P E dread_48 Q st = aopsW P dread_48o st (KS.reg [0, 2, 4, 5, 18] (KQ.seq P E dread_49 Q))) ∧
  (vcW P E dread_41 Q st = vcW P E dread_48 (KQ.seq P E dread_42 Q) st) ∧
  (vcW P E dread_40 Q st = vcW P E dread_L1 (KQ.blk 0 Q) st) ∧
  (vcW P E dread_39 Q st = aopsW P dread_39o st (KS.reg [0, 2, 4, 5] (KQ.seq P E dread_40 Q))) ∧
  (vcW P E dread_2 Q st = vcW P E dread_39 (KQ.seq P E dread_3 Q) st) ∧
  (vcW P E dread_1 Q st = aopsW P dread_1o st (KS.reg [0, 2, 4] (KQ.seq P E dread_2 Q))) ∧
  (vcW P E dread_0 Q st = aopsW P dread_0o st (KS.reg [0, 2] (KQ.seq P E dread_1 Q))) ∧
  (vcW P E dread Q st = vcW P E dread_0 Q st) :=
  ⟨rfl, rfl, rfl, vcW_cond, rfl, vcW_cond, rfl, rfl, rfl, rfl, rfl, rfl, rfl, vcW_cond, rfl, rfl, rfl, vcW_cond, rfl, rfl, rfl, rfl, rfl, rfl, vcW_cond, rfl, rfl, rfl, rfl, rfl, rfl, rfl, rfl, vcW_cond, rfl, rfl, rfl, rfl, vcW_cond, rfl, rfl, rfl, vcW_cond, rfl, rfl, rfl, rfl, rfl, rfl, rfl, rfl⟩
theorem dread_jn (P : Program) (E : Env) (Q : KQ) (st : St) :
  (True) :=
  trivial
attribute [go_sem] dread_vc dread_14o dread_18o dread_21o dread_19o dread_16o dread_12o dread_11o dread_26o dread_30o dread_28o dread_31o dread_22o dread_35o dread_33o dread_8o dread_7o dread_6o dread_5o dread_4o dread_38o dread_36o dread_43o dread_47o dread_45o dread_48o dread_39o dread_1o dread_0o
noncomputable def dreadB : Code := (Tryd.f38.body).getD .skip
theorem dread_eq : trCode Tryd.prog 138 26000 dreadB = dread.erase 26000 := by kernel_rfl
theorem dread_body : Tryd.f38.body = some dreadB := by kernel_rfl
theorem dread_n : Tryd.f38.ntmps = 138 := by kernel_rfl
theorem dread_r : Tryd.f38.results.toList.map (trRes Tryd.prog) = [.cell 2 true 3, .tmp 3] := by kernel_rfl
theorem dread_spec {h : HP} {a0 : AV} {Post : HP → AV → List AV → Prop} (hp : ∀ (E : Env) (R : HP → AV → List AV → Prop), E.N ≤ 1000000 → PostTo Post R → vcW Tryd.prog E dread (KQ.post [.cell 2 true 3, .tmp 3] 1 R) ⟨[(0, a0)], h⟩) : Eng.Spec Tryd.prog 38 h [a0] Post := spec_wk (
  spec_of (c := dread.erase 26000) (B := 26000) Tryd.func38 dread_body (by rw [dread_n, dread_eq]) (by rw [dread_n]; decide) (by rw [dread_n]; exact (by decide : 1 ≤ 138)) (fun E hE hB hrd => by
    have hN : E.N ≤ 1000000 := by
      rw [hE, dread_n]; decide
    rw [dread_r, ← hB]
    exact awp_slots [(0, a0)] ⟨rfl, trivial⟩ (vcW_sound hN _ (hp E _ hN fin_self))))
/- cartulary/cartularyref15.Parse -/
def dparse_13o : List ROp := [.v 88 (.ld true 9 (.t 4)),
   .effN false 27000 (.st 9 (.t 2) (.t 88)),
   .v 3 (.mov (.c (.int .i64 0)))]
def dparse_13 : AK := .seq (.reg dparse_13o [2, 3]) .ret
def dparse_17o : List ROp := [.v 86 (.bld [.str [], .nilsl, .str [], .int .i64 0, .int .i64 0, .str [], .int .i64 0, .int .i64 0, .str []] []),
   .v 87 (.mov (.t 10)),
   .effN false 27000 (.st 9 (.t 2) (.t 86)),
   .v 3 (.mov (.t 87))]
def dparse_17 : AK := .seq (.reg dparse_17o [2, 3]) .ret
def dparse_16 : AK := .cond (.t 85) dparse_17 .skip
def dparse_15o : List ROp := [.v 84 (.mov (.t 10)),
   .v 85 (.bin .neq (.t 84) (.c (.int .i64 0)))]
def dparse_15 : AK := .seq (.reg dparse_15o [2, 4, 10, 85]) dparse_16
def dparse_14o : List ROp := [.v 82 (.ld true 9 (.t 4)),
   .cal (some 83) false 27083 11 [(.t 82)],
   .v 10 (.mov (.t 83))]
def dparse_14 : AK := .seq (.reg dparse_14o [2, 4, 10]) dparse_15
def dparse_12 : AK := .seq dparse_14 dparse_13
def dparse_11o : List ROp := [.v 79 (.mov (.t 6)),
   .v 80 (.slcS (.t 79) (some (.c (.int .i64 1))) none),
   .v 81 (.fldA false 8 1 (.t 4)),
   .effN false 27000 (.st 1 (.t 81) (.t 80))]
def dparse_11 : AK := .seq (.reg dparse_11o [2, 4]) dparse_12
def dparse_20o : List ROp := [.v 78 (.bld [.str [], .nilsl, .str [], .int .i64 0, .int .i64 0, .str [], .int .i64 0, .int .i64 0, .str []] []),
   .effN false 27000 (.st 9 (.t 2) (.t 78)),
   .v 3 (.mov (.c (.int .i64 3)))]
def dparse_20 : AK := .seq (.reg dparse_20o [2, 3]) .ret
def dparse_19 : AK := .cond (.t 77) dparse_20 .skip
def dparse_18o : List ROp := [.v 63 (.mov (.t 7)),
   .v 64 (.un .not (.t 63)),
   .v 65 (.mov (.t 64)),
   .gval 66 65 false false 27066 (.mov (.t 8)),
   .gval 67 65 false false 27067 (.un .not (.t 66)),
   .v 68 (.pick (.t 65) (.c (.bool true)) (.t 67)),
   .v 69 (.mov (.t 68)),
   .gval 70 69 false false 27070 (.mov (.t 9)),
   .gval 71 69 false false 27071 (.un .not (.t 70)),
   .v 72 (.pick (.t 69) (.c (.bool true)) (.t 71)),
   .v 73 (.mov (.t 72)),
   .gval 74 73 false false 27074 (.mov (.t 6)),
   .gcal 75 73 false false 27075 37 [(.t 74), (.c (.str [10]))],
   .gval 76 73 false false 27076 (.un .not (.t 75)),
   .v 77 (.pick (.t 73) (.c (.bool true)) (.t 76))]
def dparse_18 : AK := .seq (.reg dparse_18o [2, 4, 6, 77]) dparse_19
def dparse_10 : AK := .seq dparse_18 dparse_11
def dparse_9o : List ROp := [.v 58 (.mov (.t 5)),
   .cal (some 59) false 27059 38 [(.t 58)],
   .v 57 (.mov (.t 59)),
   .v 60 (.ext (.t 57) 0),
   .v 61 (.ext (.t 57) 1),
   .v 62 (.fldA true 5 3 (.t 4)),
   .effN false 27000 (.st 3 (.t 62) (.t 60)),
   .v 9 (.mov (.t 61))]
def dparse_9 : AK := .seq (.reg dparse_9o [2, 4, 6, 7, 8, 9]) dparse_10
def dparse_23o : List ROp := [.v 52 (.mov (.t 6)),
   .cal (some 53) false 27053 36 [(.t 52), (.c (.str [99, 111, 109, 109, 105, 116, 116, 101, 114]))],
   .v 51 (.mov (.t 53)),
   .v 54 (.ext (.t 51) 0),
   .v 55 (.ext (.t 51) 1),
   .v 56 (.ext (.t 51) 2),
   .v 5 (.mov (.t 54)),
   .v 6 (.mov (.t 55)),
   .v 7 (.mov (.t 56))]
def dparse_23 : AK := .reg dparse_23o [2, 4, 5, 6, 7, 8]
def dparse_22 : AK := .cond (.t 50) dparse_23 .skip
def dparse_21o : List ROp := [.v 50 (.mov (.t 7))]
def dparse_21 : AK := .seq (.reg dparse_21o [2, 4, 5, 6, 7, 8, 50]) dparse_22
def dparse_8 : AK := .seq dparse_21 (.mid dparse_9)
def dparse_7o : List ROp := [.v 45 (.mov (.t 5)),
   .cal (some 46) false 27046 38 [(.t 45)],
   .v 44 (.mov (.t 46)),
   .v 47 (.ext (.t 44) 0),
   .v 48 (.ext (.t 44) 1),
   .v 49 (.fldA true 2 3 (.t 4)),
   .effN false 27000 (.st 3 (.t 49) (.t 47)),
   .v 8 (.mov (.t 48))]
def dparse_7 : AK := .seq (.reg dparse_7o [2, 4, 5, 6, 7, 8]) dparse_8
def dparse_26o : List ROp := [.v 39 (.mov (.t 6)),
   .cal (some 40) false 27040 36 [(.t 39), (.c (.str [97, 117, 116, 104, 111, 114]))],
   .v 38 (.mov (.t 40)),
   .v 41 (.ext (.t 38) 0),
   .v 42 (.ext (.t 38) 1),
   .v 43 (.ext (.t 38) 2),
   .v 5 (.mov (.t 41)),
   .v 6 (.mov (.t 42)),
   .v 7 (.mov (.t 43))]
def dparse_26 : AK := .reg dparse_26o [2, 4, 5, 6, 7]
def dparse_25 : AK := .cond (.t 37) dparse_26 .skip
def dparse_24o : List ROp := [.v 37 (.mov (.t 7))]
def dparse_24 : AK := .seq (.reg dparse_24o [2, 4, 5, 6, 7, 37]) dparse_25
def dparse_6 : AK := .seq dparse_24 (.mid dparse_7)
def dparse_5o : List ROp := [.v 8 (.mov (.c (.bool false))),
   .v 9 (.mov (.c (.bool false)))]
def dparse_5 : AK := .seq (.reg dparse_5o [2, 4, 5, 6, 7]) dparse_6
def dparse_31o : List ROp := [.v 31 (.fldA false 1 1 (.t 4)),
   .v 32 (.ld false 1 (.t 31)),
   .v 33 (.mov (.t 5)),
   .eff 34 false 27034 (.bsl 1 [(.t 33)]),
   .eff 35 false 27035 (.app 1 16 (.t 32) (.t 34)),
   .v 36 (.fldA false 1 1 (.t 4)),
   .effN false 27000 (.st 1 (.t 36) (.t 35))]
def dparse_31 : AK := .reg dparse_31o [2, 4, 5, 6, 7]
def dparse_30o : List ROp := [.v 26 (.mov (.t 6)),
   .cal (some 27) false 27027 36 [(.t 26), (.c (.str [112, 97, 114, 101, 110, 116]))],
   .v 25 (.mov (.t 27)),
   .v 28 (.ext (.t 25) 0),
   .v 29 (.ext (.t 25) 1),
   .v 30 (.ext (.t 25) 2),
   .v 5 (.mov (.t 28)),
   .v 6 (.mov (.t 29)),
   .v 7 (.mov (.t 30))]
def dparse_30 : AK := .seq (.reg dparse_30o [2, 4, 5, 6, 7]) dparse_31
def dparse_29 : AK := .block 1 dparse_30
def dparse_33 : AK := .cond (.t 24) .skip (.exit 0)
def dparse_32o : List ROp := [.v 20 (.mov (.t 7)),
   .v 21 (.mov (.t 20)),
   .gval 22 21 true false 27022 (.mov (.t 6)),
   .gcal 23 21 true false 27023 37 [(.t 22), (.c (.str [112, 97, 114, 101, 110, 116, 32]))],
   .v 24 (.pick (.t 21) (.t 23) (.c (.bool false)))]
def dparse_32 : AK := .seq (.reg dparse_32o [2, 4, 5, 6, 7, 24]) dparse_33
def dparse_28 : AK := .seq dparse_32 dparse_29
def dparse_L0 : AK := .loop dparse_28
def dparse_27 : AK := .block 0 dparse_L0
def dparse_4 : AK := .seq dparse_27 dparse_5
def dparse_3o : List ROp := [.v 18 (.mov (.t 5)),
   .v 19 (.fldA false 0 1 (.t 4)),
   .effN false 27000 (.st 1 (.t 19) (.t 18))]
def dparse_3 : AK := .seq (.reg dparse_3o [2, 4, 5, 6, 7]) dparse_4
def dparse_2o : List ROp := [.v 13 (.mov (.t 0)),
   .cal (some 14) false 27014 36 [(.t 13), (.c (.str [116, 114, 101, 101]))],
   .v 12 (.mov (.t 14)),
   .v 15 (.ext (.t 12) 0),
   .v 16 (.ext (.t 12) 1),
   .v 17 (.ext (.t 12) 2),
   .v 5 (.mov (.t 15)),
   .v 6 (.mov (.t 16)),
   .v 7 (.mov (.t 17))]
def dparse_2 : AK := .seq (.reg dparse_2o [2, 4, 5, 6, 7]) dparse_3
def dparse_1o : List ROp := [.v 11 (.bld [.str [], .nilsl, .str [], .int .i64 0, .int .i64 0, .str [], .int .i64 0, .int .i64 0, .str []] []),
   .eff 4 false 27004 (.alloc [.str [], .nilsl, .str [], .int .i64 0, .int .i64 0, .str [], .int .i64 0, .int .i64 0, .str []]),
   .effN false 27000 (.st 9 (.t 4) (.t 11))]
def dparse_1 : AK := .seq (.reg dparse_1o [0, 2, 4]) dparse_2
def dparse_0o : List ROp := [.eff 2 false 27002 (.alloc [.str [], .nilsl, .str [], .int .i64 0, .int .i64 0, .str [], .int .i64 0, .int .i64 0, .str []]),
   .v 3 (.mov (.c (.int .i64 0)))]
def dparse_0 : AK := .seq (.reg dparse_0o [0, 2]) dparse_1
def dparse : AK := dparse_0
theorem dparse_vc (P : Program) (E : Env) (Q : KQ) (st : St) :
  (vcW P E dparse_13 Q st = aopsW P dparse_13o st (KS.reg [2, 3] (KQ.seq P E .ret Q))) ∧
  (vcW P E dparse_17 Q st = aopsW P dparse_17o st (KS.reg [2, 3] (KQ.seq P E .ret Q))) ∧
  (vcW P E dparse_16 Q st = cndW P E (ev st (.t 85)) dparse_17 .skip Q st) ∧
  (vcW P E dparse_15 Q st = aopsW P dparse_15o st (KS.reg [2, 4, 10, 85] (KQ.seq P E dparse_16 Q))) ∧
  (vcW P E dparse_14 Q st = aopsW P dparse_14o st (KS.reg [2, 4, 10] (KQ.seq P E dparse_15 Q))) ∧
  (vcW P E dparse_12 Q st = vcW P E dparse_14 (KQ.seq P E dparse_13 Q) st) ∧
  (vcW P E dparse_11 Q st = aopsW P dparse_11o st (KS.reg [2, 4] (KQ.seq P E dparse_12 Q))) ∧
  (vcW P E dparse_20 Q st = aopsW P dparse_20o st (KS.reg [2, 3] (KQ.seq P E .ret Q))) ∧
  (vcW P E dparse_19 Q st = cndW P E (ev st (.t 77)) dparse_20 .skip Q st) ∧
  (vcW P E dparse_18 Q st = aopsW P dparse_18o st (KS.reg [2, 4, 6, 77] (KQ.seq P E dparse_19 Q))) ∧
  (vcW P E dparse_10 Q st = vcW P E dparse_18 (KQ.seq P E dparse_11 Q) st) ∧
  (vcW P E dparse_9 Q st = aopsW P dparse_9o st (KS.reg [2, 4, 6, 7, 8, 9] (KQ.seq P E dparse_10 Q))) ∧
  (vcW P E dparse_23 Q st = aopsW P dparse_23o st (KS.reg [2, 4, 5, 6, 7, 8] Q)) ∧
  (vcW P E dparse_22 Q st = cndW P E (ev st (.t 50)) dparse_23 .skip Q st) ∧
  (vcW P E dparse_21 Q st = aopsW P dparse_21o st (KS.reg [2, 4, 5, 6, 7, 8, 50] (KQ.seq P E dparse_22 Q))) ∧
  (vcW P E dparse_7 Q st = aopsW P dparse_7o st (KS.reg [2, 4, 5, 6, 7, 8] (KQ.seq P E dparse_8 Q))) ∧
  (vcW P E dparse_26 Q st = aopsW P dparse_26o st (KS.reg [2, 4, 5, 6, 7] Q)) ∧
  (vcW P E dparse_25 Q st = cndW P E (ev st (.t 37)) dparse_26 .skip Q st) ∧
  (vcW P E dparse_24 Q st = aopsW P dparse_24o st (KS.reg [2, 4, 5, 6, 7, 37] (KQ.seq P E dparse_25 Q))) ∧
  (vcW P E dparse_5 Q st = aopsW P dparse_5o st (KS.reg [2, 4, 5, 6, 7] (KQ.seq P E dparse_6 Q))) ∧
  (vcW P E dparse_31 Q st = aopsW P dparse_31o st (KS.reg [2, 4, 5, 6, 7] Q)) ∧
  (vcW P E dparse_30 Q st = aopsW P dparse_30o st (KS.reg [2, 4, 5, 6, 7] (KQ.seq P E dparse_31 Q))) ∧
  (vcW P E dparse_29 Q st = vcW P E dparse_30 (KQ.blk 1 Q) st) ∧
  (vcW P E dparse_33 Q st = cndW P E (ev st (.t 24)) .skip (.exit 0) Q st) ∧
  (vcW P E dparse_32 Q st = aopsW P dparse_32o st (KS.reg [2, 4, 5, 6, 7, 24] (KQ.seq P E dparse_33 Q))) ∧
  (vcW P E dparse_28 Q st = vcW P E dparse_32 (KQ.seq P E dparse_29 Q) st) ∧
  (vcW P E dparse_27 Q st = vcW P E dparse_L0 (KQ.blk 0 Q) st) ∧
  (vcW P E dparse_4 Q st = vcW P E dparse_27 (KQ.seq P E dparse_5 Q) st) ∧
  (vcW P E dparse_3 Q st = aopsW P dparse_3o st (KS.reg [2, 4, 5, 6, 7] (KQ.seq P E dparse_4 Q))) ∧
  (vcW P E dparse_2 Q st = aopsW P dparse_2o st (KS.reg [2, 4, 5, 6, 7] (KQ.seq P E dparse_3 Q))) ∧
  (vcW P E dparse_1 Q st = aopsW P dparse_1o st (KS.reg [0, 2, 4] (KQ.seq P E dparse_2 Q))) ∧
  (vcW P E dparse_0 Q st = aopsW P dparse_0o st (KS.reg [0, 2] (KQ.seq P E dparse_1 Q))) ∧
  (vcW P E dparse Q st = vcW P E dparse_0 Q st) :=
  ⟨rfl, rfl, vcW_cond, rfl, rfl, rfl, rfl, rfl, vcW_cond, rfl, rfl, rfl, rfl, vcW_cond, rfl, rfl, rfl, vcW_cond, rfl, rfl, rfl, rfl, rfl, vcW_cond, rfl, rfl, rfl, rfl, rfl, rfl, rfl, rfl, rfl⟩
theorem dparse_jn (P : Program) (E : Env) (Q : KQ) (st : St) :
  (vcW P E dparse_8 Q st = vcW P E dparse_21 (KQ.seq P E (.mid dparse_9) Q) st) ∧
  (vcW P E dparse_6 Q st = vcW P E dparse_24 (KQ.seq P E (.mid dparse_7) Q) st) :=
  ⟨rfl, rfl⟩
attribute [go_sem] dparse_vc dparse_13o dparse_17o dparse_15o dparse_14o dparse_11o dparse_20o dparse_18o dparse_9o dparse_23o dparse_21o dparse_7o dparse_26o dparse_24o dparse_5o dparse_31o dparse_30o dparse_32o dparse_3o dparse_2o dparse_1o dparse_0o
noncomputable def dparseB : Code := (Tryd.f19.body).getD .skip
theorem dparse_eq : trCode Tryd.prog 89 27000 dparseB = dparse.erase 27000 := by kernel_rfl
theorem dparse_body : Tryd.f19.body = some dparseB := by kernel_rfl
theorem dparse_n : Tryd.f19.ntmps = 89 := by kernel_rfl
theorem dparse_r : Tryd.f19.results.toList.map (trRes Tryd.prog) = [.cell 2 true 9, .tmp 3] := by kernel_rfl
theorem dparse_spec {h : HP} {a0 : AV} {Post : HP → AV → List AV → Prop} (hp : ∀ (E : Env) (R : HP → AV → List AV → Prop), E.N ≤ 1000000 → PostTo Post R → vcW Tryd.prog E dparse (KQ.post [.cell 2 true 9, .tmp 3] 1 R) ⟨[(0, a0)], h⟩) : Eng.Spec Tryd.prog 19 h [a0] Post := spec_wk (
  spec_of (c := dparse.erase 27000) (B := 27000) Tryd.func19 dparse_body (by rw [dparse_n, dparse_eq]) (by rw [dparse_n]; decide) (by rw [dparse_n]; exact (by decide : 1 ≤ 89)) (fun E hE hB hrd => by
    have hN : E.N ≤ 1000000 := by
      rw [hE, dparse_n]; decide
    rw [dparse_r, ← hB]
    exact awp_slots [(0, a0)] ⟨rfl, trivial⟩ (vcW_sound hN _ (hp E _ hN fin_self))))
/- cartulary/cartularyref15.ParseTag -/
def dparsetag_15o : List ROp := [.v 75 (.ld true 7 (.t 4)),
   .effN false 28000 (.st 7 (.t 2) (.t 75)),
   .v 3 (.mov (.c (.int .i64 0)))]
def dparsetag_15 : AK := .seq (.reg dparsetag_15o [2, 3]) .ret
def dparsetag_19o : List ROp := [.v 73 (.bld [.str [], .int .i64 0, .str [], .str [], .int .i64 0, .int .i64 0, .str []] []),
   .v 74 (.mov (.t 12)),
   .effN false 28000 (.st 7 (.t 2) (.t 73)),
   .v 3 (.mov (.t 74))]
def dparsetag_19 : AK := .seq (.reg dparsetag_19o [2, 3]) .ret
def dparsetag_18 : AK := .cond (.t 72) dparsetag_19 .skip
def dparsetag_17o : List ROp := [.v 71 (.mov (.t 12)),
   .v 72 (.bin .neq (.t 71) (.c (.int .i64 0)))]
def dparsetag_17 : AK := .seq (.reg dparsetag_17o [2, 4, 12, 72]) dparsetag_18
def dparsetag_16o : List ROp := [.v 69 (.ld true 7 (.t 4)),
   .cal (some 70) false 28070 23 [(.t 69)],
   .v 12 (.mov (.t 70))]
def dparsetag_16 : AK := .seq (.reg dparsetag_16o [2, 4, 12]) dparsetag_17
def dparsetag_14 : AK := .seq dparsetag_16 dparsetag_15
def dparsetag_13o : List ROp := [.v 66 (.mov (.t 6)),
   .v 67 (.slcS (.t 66) (some (.c (.int .i64 1))) none),
   .v 68 (.fldA false 6 1 (.t 4)),
   .effN false 28000 (.st 1 (.t 68) (.t 67))]
def dparsetag_13 : AK := .seq (.reg dparsetag_13o [2, 4]) dparsetag_14
def dparsetag_12o : List ROp := [.v 64 (.mov (.t 9)),
   .v 65 (.fldA false 2 1 (.t 4)),
   .effN false 28000 (.st 1 (.t 65) (.t 64))]
def dparsetag_12 : AK := .seq (.reg dparsetag_12o [2, 4, 6]) dparsetag_13
def dparsetag_11o : List ROp := [.v 61 (.mov (.t 8)),
   .cal (some 62) false 28062 44 [(.t 61)],
   .v 63 (.fldA false 1 1 (.t 4)),
   .effN false 28000 (.st 1 (.t 63) (.t 62))]
def dparsetag_11 : AK := .seq (.reg dparsetag_11o [2, 4, 6, 9]) dparsetag_12
def dparsetag_10o : List ROp := [.v 59 (.mov (.t 5)),
   .v 60 (.fldA false 0 1 (.t 4)),
   .effN false 28000 (.st 1 (.t 60) (.t 59))]
def dparsetag_10 : AK := .seq (.reg dparsetag_10o [2, 4, 6, 8, 9]) dparsetag_11
def dparsetag_22o : List ROp := [.v 58 (.bld [.str [], .int .i64 0, .str [], .str [], .int .i64 0, .int .i64 0, .str []] []),
   .effN false 28000 (.st 7 (.t 2) (.t 58)),
   .v 3 (.mov (.c (.int .i64 3)))]
def dparsetag_22 : AK := .seq (.reg dparsetag_22o [2, 3]) .ret
def dparsetag_21 : AK := .cond (.t 57) dparsetag_22 .skip
def dparsetag_20o : List ROp := [.v 47 (.mov (.t 7)),
   .v 48 (.un .not (.t 47)),
   .v 49 (.mov (.t 48)),
   .gval 50 49 false false 28050 (.mov (.t 11)),
   .gval 51 49 false false 28051 (.un .not (.t 50)),
   .v 52 (.pick (.t 49) (.c (.bool true)) (.t 51)),
   .v 53 (.mov (.t 52)),
   .gval 54 53 false false 28054 (.mov (.t 6)),
   .gcal 55 53 false false 28055 37 [(.t 54), (.c (.str [10]))],
   .gval 56 53 false false 28056 (.un .not (.t 55)),
   .v 57 (.pick (.t 53) (.c (.bool true)) (.t 56))]
def dparsetag_20 : AK := .seq (.reg dparsetag_20o [2, 4, 5, 6, 8, 9, 57]) dparsetag_21
def dparsetag_9 : AK := .seq dparsetag_20 dparsetag_10
def dparsetag_8o : List ROp := [.v 42 (.mov (.t 10)),
   .cal (some 43) false 28043 38 [(.t 42)],
   .v 41 (.mov (.t 43)),
   .v 44 (.ext (.t 41) 0),
   .v 45 (.ext (.t 41) 1),
   .v 46 (.fldA true 3 3 (.t 4)),
   .effN false 28000 (.st 3 (.t 46) (.t 44)),
   .v 11 (.mov (.t 45))]
def dparsetag_8 : AK := .seq (.reg dparsetag_8o [2, 4, 5, 6, 7, 8, 9, 11]) dparsetag_9
def dparsetag_7o : List ROp := [.v 11 (.mov (.c (.bool false)))]
def dparsetag_7 : AK := .seq (.reg dparsetag_7o [2, 4, 5, 6, 7, 8, 9, 10]) dparsetag_8
def dparsetag_25o : List ROp := [.v 36 (.mov (.t 6)),
   .cal (some 37) false 28037 36 [(.t 36), (.c (.str [116, 97, 103, 103, 101, 114]))],
   .v 35 (.mov (.t 37)),
   .v 38 (.ext (.t 35) 0),
   .v 39 (.ext (.t 35) 1),
   .v 40 (.ext (.t 35) 2),
   .v 10 (.mov (.t 38)),
   .v 6 (.mov (.t 39)),
   .v 7 (.mov (.t 40))]
def dparsetag_25 : AK := .reg dparsetag_25o [2, 4, 5, 6, 7, 8, 9, 10]
def dparsetag_24 : AK := .cond (.t 34) dparsetag_25 .skip
def dparsetag_23o : List ROp := [.v 34 (.mov (.t 7))]
def dparsetag_23 : AK := .seq (.reg dparsetag_23o [2, 4, 5, 6, 7, 8, 9, 10, 34]) dparsetag_24
def dparsetag_6 : AK := .seq dparsetag_23 (.mid dparsetag_7)
def dparsetag_28o : List ROp := [.v 29 (.mov (.t 6)),
   .cal (some 30) false 28030 36 [(.t 29), (.c (.str [116, 97, 103]))],
   .v 28 (.mov (.t 30)),
   .v 31 (.ext (.t 28) 0),
   .v 32 (.ext (.t 28) 1),
   .v 33 (.ext (.t 28) 2),
   .v 9 (.mov (.t 31)),
   .v 6 (.mov (.t 32)),
   .v 7 (.mov (.t 33))]
def dparsetag_28 : AK := .reg dparsetag_28o [2, 4, 5, 6, 7, 8, 9, 10]
def dparsetag_27 : AK := .cond (.t 27) dparsetag_28 .skip
def dparsetag_26o : List ROp := [.v 27 (.mov (.t 7))]
def dparsetag_26 : AK := .seq (.reg dparsetag_26o [2, 4, 5, 6, 7, 8, 9, 10, 27]) dparsetag_27
def dparsetag_5 : AK := .seq dparsetag_26 (.mid dparsetag_6)
def dparsetag_31o : List ROp := [.v 22 (.mov (.t 6)),
   .cal (some 23) false 28023 36 [(.t 22), (.c (.str [116, 121, 112, 101]))],
   .v 21 (.mov (.t 23)),
   .v 24 (.ext (.t 21) 0),
   .v 25 (.ext (.t 21) 1),
   .v 26 (.ext (.t 21) 2),
   .v 8 (.mov (.t 24)),
   .v 6 (.mov (.t 25)),
   .v 7 (.mov (.t 26))]
def dparsetag_31 : AK := .reg dparsetag_31o [2, 4, 5, 6, 7, 8, 9, 10]
def dparsetag_30 : AK := .cond (.t 20) dparsetag_31 .skip
def dparsetag_29o : List ROp := [.v 20 (.mov (.t 7))]
def dparsetag_29 : AK := .seq (.reg dparsetag_29o [2, 4, 5, 6, 7, 8, 9, 10, 20]) dparsetag_30
def dparsetag_4 : AK := .seq dparsetag_29 (.mid dparsetag_5)
def dparsetag_3o : List ROp := [.v 8 (.mov (.c (.str []))),
   .v 9 (.mov (.c (.str []))),
   .v 10 (.mov (.c (.str [])))]
def dparsetag_3 : AK := .seq (.reg dparsetag_3o [2, 4, 5, 6, 7, 8, 9, 10]) dparsetag_4
def dparsetag_2o : List ROp := [.v 15 (.mov (.t 0)),
   .cal (some 16) false 28016 36 [(.t 15), (.c (.str [111, 98, 106, 101, 99, 116]))],
   .v 14 (.mov (.t 16)),
   .v 17 (.ext (.t 14) 0),
   .v 18 (.ext (.t 14) 1),
   .v 19 (.ext (.t 14) 2),
   .v 5 (.mov (.t 17)),
   .v 6 (.mov (.t 18)),
   .v 7 (.mov (.t 19))]
def dparsetag_2 : AK := .seq (.reg dparsetag_2o [2, 4, 5, 6, 7]) dparsetag_3
def dparsetag_1o : List ROp := [.v 13 (.bld [.str [], .int .i64 0, .str [], .str [], .int .i64 0, .int .i64 0, .str []] []),
   .eff 4 false 28004 (.alloc [.str [], .int .i64 0, .str [], .str [], .int .i64 0, .int .i64 0, .str []]),
   .effN false 28000 (.st 7 (.t 4) (.t 13))]
def dparsetag_1 : AK := .seq (.reg dparsetag_1o [0, 2, 4]) dparsetag_2
def dparsetag_0o : List ROp := [.eff 2 false 28002 (.alloc [.str [], .int .i64 0, .str [], .str [], .int .i64 0, .int .i64 0, .str []]),
   .v 3 (.mov (.c (.int .i64 0)))]
def dparsetag_0 : AK := .seq (.reg dparsetag_0o [0, 2]) dparsetag_1
def dparsetag : AK := dparsetag_0
theorem dparsetag_vc (P : Program) (E : Env) (Q : KQ) (st : St) :
  (vcW P E dparsetag_15 Q st = aopsW P dparsetag_15o st (KS.reg [2, 3] (KQ.seq P E .ret Q))) ∧
  (vcW P E dparsetag_19 Q st = aopsW P dparsetag_19o st (KS.reg [2, 3] (KQ.seq P E .ret Q))) ∧
  (vcW P E dparsetag_18 Q st = cndW P E (ev st (.t 72)) dparsetag_19 .skip Q st) ∧
  (vcW P E dparsetag_17 Q st = aopsW P dparsetag_17o st (KS.reg [2, 4, 12, 72] (KQ.seq P E dparsetag_18 Q))) ∧
  (vcW P E dparsetag_16 Q st = aopsW P dparsetag_16o st (KS.reg [2, 4, 12] (KQ.seq P E dparsetag_17 Q))) ∧
  (vcW P E dparsetag_14 Q st = vcW P E dparsetag_16 (KQ.seq P E dparsetag_15 Q) st) ∧
  (vcW P E dparsetag_13 Q st = aopsW P dparsetag_13o st (KS.reg [2, 4] (KQ.seq P E dparsetag_14 Q))) ∧
  (vcW P E dparsetag_12 Q st = aopsW P dparsetag_12o st (KS.reg [2, 4, 6] (KQ.seq P E dparsetag_13 Q))) ∧
  (vcW P E dparsetag_11 Q st = aopsW P dparsetag_11o st (KS.reg [2, 4, 6, 9] (KQ.seq P E dparsetag_12 Q))) ∧
  (vcW P E dparsetag_10 Q st = aopsW P dparsetag_10o st (KS.reg [2, 4, 6, 8, 9] (KQ.seq P E dparsetag_11 Q))) ∧
  (vcW P E dparsetag_22 Q st = aopsW P dparsetag_22o st (KS.reg [2, 3] (KQ.seq P E .ret Q))) ∧
  (vcW P E dparsetag_21 Q st = cndW P E (ev st (.t 57)) dparsetag_22 .skip Q st) ∧
  (vcW P E dparsetag_20 Q st = aopsW P dparsetag_20o st (KS.reg [2, 4, 5, 6, 8, 9, 57] (KQ.seq P E dparsetag_21 Q))) ∧
  (vcW P E dparsetag_9 Q st = vcW P E dparsetag_20 (KQ.seq P E dparsetag_10 Q) st) ∧
  (vcW P E dparsetag_8 Q st = aopsW P dparsetag_8o st (KS.reg [2, 4, 5, 6, 7, 8, 9, 11] (KQ.seq P E dparsetag_9 Q))) ∧
  (vcW P E dparsetag_7 Q st = aopsW P dparsetag_7o st (KS.reg [2, 4, 5, 6, 7, 8, 9, 10] (KQ.seq P E dparsetag_8 Q))) ∧
  (vcW P E dparsetag_25 Q st = aopsW P dparsetag_25o st (KS.reg [2, 4, 5, 6, 7, 8, 9, 10] Q)) ∧
  (vcW P E dparsetag_24 Q st = cndW P E (ev st (.t 34)) dparsetag_25 .skip Q st) ∧
  (vcW P E dparsetag_23 Q st = aopsW P dparsetag_23o st (KS.reg [2, 4, 5, 6, 7, 8, 9, 10, 34] (KQ.seq P E dparsetag_24 Q))) ∧
  (vcW P E dparsetag_28 Q st = aopsW P dparsetag_28o st (KS.reg [2, 4, 5, 6, 7, 8, 9, 10] Q)) ∧
  (vcW P E dparsetag_27 Q st = cndW P E (ev st (.t 27)) dparsetag_28 .skip Q st) ∧
  (vcW P E dparsetag_26 Q st = aopsW P dparsetag_26o st (KS.reg [2, 4, 5, 6, 7, 8, 9, 10, 27] (KQ.seq P E dparsetag_27 Q))) ∧
  (vcW P E dparsetag_31 Q st = aopsW P dparsetag_31o st (KS.reg [2, 4, 5, 6, 7, 8, 9, 10] Q)) ∧
  (vcW P E dparsetag_30 Q st = cndW P E (ev st (.t 20)) dparsetag_31 .skip Q st) ∧
  (vcW P E dparsetag_29 Q st = aopsW P dparsetag_29o st (KS.reg [2, 4, 5, 6, 7, 8, 9, 10, 20] (KQ.seq P E dparsetag_30 Q))) ∧
  (vcW P E dparsetag_3 Q st = aopsW P dparsetag_3o st (KS.reg [2, 4, 5, 6, 7, 8, 9, 10] (KQ.seq P E dparsetag_4 Q))) ∧
  (vcW P E dparsetag_2 Q st = aopsW P dparsetag_2o st (KS.reg [2, 4, 5, 6, 7] (KQ.seq P E dparsetag_3 Q))) ∧
  (vcW P E dparsetag_1 Q st = aopsW P dparsetag_1o st (KS.reg [0, 2, 4] (KQ.seq P E dparsetag_2 Q))) ∧
  (vcW P E dparsetag_0 Q st = aopsW P dparsetag_0o st (KS.reg [0, 2] (KQ.seq P E dparsetag_1 Q))) ∧
  (vcW P E dparsetag Q st = vcW P E dparsetag_0 Q st) :=
  ⟨rfl, rfl, vcW_cond, rfl, rfl, rfl, rfl, rfl, rfl, rfl, rfl, vcW_cond, rfl, rfl, rfl, rfl, rfl, vcW_cond, rfl, rfl, vcW_cond, rfl, rfl, vcW_cond, rfl, rfl, rfl, rfl, rfl, rfl⟩
theorem dparsetag_jn (P : Program) (E : Env) (Q : KQ) (st : St) :
  (vcW P E dparsetag_6 Q st = vcW P E dparsetag_23 (KQ.seq P E (.mid dparsetag_7) Q) st) ∧
  (vcW P E dparsetag_5 Q st = vcW P E dparsetag_26 (KQ.seq P E (.mid dparsetag_6) Q) st) ∧
  (vcW P E dparsetag_4 Q st = vcW P E dparsetag_29 (KQ.seq P E (.mid dparsetag_5) Q) st) :=
  ⟨rfl, rfl, rfl⟩
attribute [go_sem] dparsetag_vc dparsetag_15o dparsetag_19o dparsetag_17o dparsetag_16o dparsetag_13o dparsetag_12o dparsetag_11o dparsetag_10o dparsetag_22o dparsetag_20o dparsetag_8o dparsetag_7o dparsetag_25o dparsetag_23o dparsetag_28o dparsetag_26o dparsetag_31o dparsetag_29o dparsetag_3o dparsetag_2o dparsetag_1o dparsetag_0o
noncomputable def dparsetagB : Code := (Tryd.f25.body).getD .skip
theorem dparsetag_eq : trCode Tryd.prog 76 28000 dparsetagB = dparsetag.erase 28000 := by kernel_rfl
theorem dparsetag_body : Tryd.f25.body = some dparsetagB := by kernel_rfl
theorem dparsetag_n : Tryd.f25.ntmps = 76 := by kernel_rfl
theorem dparsetag_r : Tryd.f25.results.toList.map (trRes Tryd.prog) = [.cell 2 true 7, .tmp 3] := by kernel_rfl
theorem dparsetag_spec {h : HP} {a0 : AV} {Post : HP → AV → List AV → Prop} (hp : ∀ (E : Env) (R : HP → AV → List AV → Prop), E.N ≤ 1000000 → PostTo Post R → vcW Tryd.prog E dparsetag (KQ.post [.cell 2 true 7, .tmp 3] 1 R) ⟨[(0, a0)], h⟩) : Eng.Spec Tryd.prog 25 h [a0] Post := spec_wk (
  spec_of (c := dparsetag.erase 28000) (B := 28000) Tryd.func25 dparsetag_body (by rw [dparsetag_n, dparsetag_eq]) (by rw [dparsetag_n]; decide) (by rw [dparsetag_n]; exact (by decide : 1 ≤ 76)) (fun E hE hB hrd => by
    have hN : E.N ≤ 1000000 := by
      rw [hE, dparsetag_n]; decide
    rw [dparsetag_r, ← hB]
    exact awp_slots [(0, a0)] ⟨rfl, trivial⟩ (vcW_sound hN _ (hp E _ hN fin_self))))
/- cartulary/cartularyref15.Same -/
def dsame_1o : List ROp := [.v 5 (.fldA false 0 1 (.t 2)),
   .v 6 (.ld false 1 (.t 5)),
   .v 7 (.fldA false 0 1 (.t 3)),
   .v 8 (.ld false 1 (.t 7)),
   .v 9 (.bin .eql (.t 6) (.t 8)),
   .v 10 (.mov (.t 9)),
   .gval 11 10 true false 29011 (.fldA false 1 1 (.t 2)),
   .gval 12 10 true false 29012 (.ld false 1 (.t 11)),
   .gval 13 10 true false 29013 (.fldA false 1 1 (.t 3)),
   .gval 14 10 true false 29014 (.ld false 1 (.t 13)),
   .gcal 15 10 true false 29015 34 [(.t 12), (.t 14)],
   .v 16 (.pick (.t 10) (.t 15) (.c (.bool false))),
   .v 17 (.mov (.t 16)),
   .gval 18 17 true false 29018 (.fldA true 2 3 (.t 2)),
   .gval 19 17 true false 29019 (.ld true 3 (.t 18)),
   .gval 20 17 true false 29020 (.fldA true 2 3 (.t 3)),
   .gval 21 17 true false 29021 (.ld true 3 (.t 20)),
   .gval 22 17 true false 29022 (.aeq false [2, 1, 1] (.t 19) (.t 21)),
   .v 23 (.pick (.t 17) (.t 22) (.c (.bool false))),
   .v 24 (.mov (.t 23)),
   .gval 25 24 true false 29025 (.fldA true 5 3 (.t 2)),
   .gval 26 24 true false 29026 (.ld true 3 (.t 25)),
   .gval 27 24 true false 29027 (.fldA true 5 3 (.t 3)),
   .gval 28 24 true false 29028 (.ld true 3 (.t 27)),
   .gval 29 24 true false 29029 (.aeq false [2, 1, 1] (.t 26) (.t 28)),
   .v 30 (.pick (.t 24) (.t 29) (.c (.bool false))),
   .v 31 (.mov (.t 30)),
   .gval 32 31 true false 29032 (.fldA false 8 1 (.t 2)),
   .gval 33 31 true false 29033 (.ld false 1 (.t 32)),
   .gval 34 31 true false 29034 (.fldA false 8 1 (.t 3)),
   .gval 35 31 true false 29035 (.ld false 1 (.t 34)),
   .gval 36 31 true false 29036 (.bin .eql (.t 33) (.t 35)),
   .v 37 (.pick (.t 31) (.t 36) (.c (.bool false))),
   .v 4 (.mov (.t 37))]
def dsame_1 : AK := .seq (.reg dsame_1o [4]) .ret
def dsame_0o : List ROp := [.eff 2 false 29002 (.box 9 (.t 0)),
   .eff 3 false 29003 (.box 9 (.t 1)),
   .v 4 (.mov (.c (.bool false)))]
def dsame_0 : AK := .seq (.reg dsame_0o [2, 3]) dsame_1
def dsame : AK := dsame_0
theorem dsame_vc (P : Program) (E : Env) (Q : KQ) (st : St) :
  (vcW P E dsame_1 Q st = aopsW P dsame_1o st (KS.reg [4] (KQ.seq P E .ret Q))) ∧
  (vcW P E dsame_0 Q st = aopsW P dsame_0o st (KS.reg [2, 3] (KQ.seq P E dsame_1 Q))) ∧
  (vcW P E dsame Q st = vcW P E dsame_0 Q st) :=
  ⟨rfl, rfl, rfl⟩
theorem dsame_jn (P : Program) (E : Env) (Q : KQ) (st : St) :
  (True) :=
  trivial
attribute [go_sem] dsame_vc dsame_1o dsame_0o
noncomputable def dsameB : Code := (Tryd.f16.body).getD .skip
theorem dsame_eq : trCode Tryd.prog 38 29000 dsameB = dsame.erase 29000 := by kernel_rfl
theorem dsame_body : Tryd.f16.body = some dsameB := by kernel_rfl
theorem dsame_n : Tryd.f16.ntmps = 38 := by kernel_rfl
theorem dsame_r : Tryd.f16.results.toList.map (trRes Tryd.prog) = [.tmp 4] := by kernel_rfl
theorem dsame_spec {h : HP} {a0 a1 : AV} {Post : HP → AV → List AV → Prop} (hp : ∀ (E : Env) (R : HP → AV → List AV → Prop), E.N ≤ 1000000 → PostTo Post R → vcW Tryd.prog E dsame (KQ.post [.tmp 4] 2 R) ⟨[(0, a0), (1, a1)], h⟩) : Eng.Spec Tryd.prog 16 h [a0, a1] Post := spec_wk (
  spec_of (c := dsame.erase 29000) (B := 29000) Tryd.func16 dsame_body (by rw [dsame_n, dsame_eq]) (by rw [dsame_n]; decide) (by rw [dsame_n]; exact (by decide : 2 ≤ 38)) (fun E hE hB hrd => by
    have hN : E.N ≤ 1000000 := by
      rw [hE, dsame_n]; decide
    rw [dsame_r, ← hB]
    exact awp_slots [(0, a0), (1, a1)] ⟨rfl, rfl, trivial⟩ (vcW_sound hN _ (hp E _ hN fin_self))))
/- cartulary/cartularyref07.Begins -/
def begins_1o : List ROp := [.v 5 (.mov (.t 0)),
   .v 6 (.len true (.t 5)),
   .v 7 (.mov (.t 1)),
   .v 8 (.len true (.t 7)),
   .v 9 (.bin .geq (.t 6) (.t 8)),
   .v 10 (.mov (.t 9)),
   .gval 11 10 true false 30011 (.mov (.t 0)),
   .gval 12 10 true false 30012 (.mov (.t 1)),
   .gval 13 10 true false 30013 (.len true (.t 12)),
   .gval 14 10 true false 30014 (.slcS (.t 11) none (some (.t 13))),
   .gval 15 10 true false 30015 (.mov (.t 1)),
   .gval 16 10 true false 30016 (.bin .eql (.t 14) (.t 15)),
   .v 17 (.pick (.t 10) (.t 16) (.c (.bool false))),
   .v 4 (.mov (.t 17))]
def begins_1 : AK := .seq (.reg begins_1o [4]) .ret
def begins_0o : List ROp := [.v 4 (.mov (.c (.bool false)))]
def begins_0 : AK := .seq (.reg begins_0o [0, 1]) begins_1
def begins : AK := begins_0
theorem begins_vc (P : Program) (E : Env) (Q : KQ) (st : St) :
  (vcW P E begins_1 Q st = aopsW P begins_1o st (KS.reg [4] (KQ.seq P E .ret Q))) ∧
  (vcW P E begins_0 Q st = aopsW P begins_0o st (KS.reg [0, 1] (KQ.seq P E begins_1 Q))) ∧
  (vcW P E begins Q st = vcW P E begins_0 Q st) :=
  ⟨rfl, rfl, rfl⟩
theorem begins_jn (P : Program) (E : Env) (Q : KQ) (st : St) :
  (True) :=
  trivial
attribute [go_sem] begins_vc begins_1o begins_0o
noncomputable def beginsB : Code := (Tryd.f37.body).getD .skip
theorem begins_eq : trCode Tryd.prog 18 30000 beginsB = begins.erase 30000 := by kernel_rfl
theorem begins_body : Tryd.f37.body = some beginsB := by kernel_rfl
theorem begins_n : Tryd.f37.ntmps = 18 := by kernel_rfl
theorem begins_r : Tryd.f37.results.toList.map (trRes Tryd.prog) = [.tmp 4] := by kernel_rfl
theorem begins_spec {h : HP} {a0 a1 : AV} {Post : HP → AV → List AV → Prop} (hp : ∀ (E : Env) (R : HP → AV → List AV → Prop), E.N ≤ 1000000 → PostTo Post R → vcW Tryd.prog E begins (KQ.post [.tmp 4] 2 R) ⟨[(0, a0), (1, a1)], h⟩) : Eng.Spec Tryd.prog 37 h [a0, a1] Post := spec_wk (
  spec_of (c := begins.erase 30000) (B := 30000) Tryd.func37 begins_body (by rw [begins_n, begins_eq]) (by rw [begins_n]; decide) (by rw [begins_n]; exact (by decide : 2 ≤ 18)) (fun E hE hB hrd => by
    have hN : E.N ≤ 1000000 := by
      rw [hE, begins_n]; decide
    rw [begins_r, ← hB]
    exact awp_slots [(0, a0), (1, a1)] ⟨rfl, rfl, trivial⟩ (vcW_sound hN _ (hp E _ hN fin_self))))
/- cartulary/cartularyref07.Same -/
def same7_3o : List ROp := [.v 4 (.mov (.c (.bool true)))]
def same7_3 : AK := .seq (.reg same7_3o [4]) .ret
def same7_9o : List ROp := [.v 25 (.bin .add (.t 13) (.c (.int .i64 1))),
   .v 13 (.mov (.t 25))]
def same7_9 : AK := .reg same7_9o [0, 1, 12, 13]
def same7_14o : List ROp := [.v 4 (.mov (.c (.bool false)))]
def same7_14 : AK := .seq (.reg same7_14o [4]) .ret
def same7_13 : AK := .cond (.t 24) same7_14 .skip
def same7_12o : List ROp := [.val 16 true 31016 (.mov (.t 0)),
   .val 17 true 31017 (.mov (.t 5)),
   .val 18 true 31018 (.idxA 1 (.t 16) (.t 17)),
   .val 19 true 31019 (.ld false 1 (.t 18)),
   .val 20 true 31020 (.mov (.t 1)),
   .val 21 true 31021 (.mov (.t 5)),
   .val 22 true 31022 (.idxA 1 (.t 20) (.t 21)),
   .val 23 true 31023 (.ld false 1 (.t 22)),
   .v 24 (.bin .neq (.t 19) (.t 23))]
def same7_12 : AK := .seq (.reg same7_12o [0, 1, 12, 13, 24]) same7_13
def same7_11o : List ROp := [.v 15 (.mov (.t 13)),
   .v 5 (.mov (.t 15))]
def same7_11 : AK := .seq (.reg same7_11o [0, 1, 5, 12, 13]) same7_12
def same7_10 : AK := .block 1 same7_11
def same7_8 : AK := .seq same7_10 same7_9
def same7_15 : AK := .cond (.t 14) .skip (.exit 0)
def same7_7 : AK := .seq same7_15 same7_8
def same7_6o : List ROp := [.v 14 (.bin .lss (.t 13) (.t 12))]
def same7_6 : AK := .seq (.reg same7_6o [0, 1, 12, 13, 14]) same7_7
def same7_L0 : AK := .loop same7_6
def same7_5 : AK := .block 0 same7_L0
def same7_4o : List ROp := [.v 11 (.mov (.t 0)),
   .v 12 (.len false (.t 11)),
   .v 13 (.mov (.c (.int .i64 0)))]
def same7_4 : AK := .seq (.reg same7_4o [0, 1, 12, 13]) same7_5
def same7_2 : AK := .seq same7_4 same7_3
def same7_18o : List ROp := [.v 4 (.mov (.c (.bool false)))]
def same7_18 : AK := .seq (.reg same7_18o [4]) .ret
def same7_17 : AK := .cond (.t 10) same7_18 .skip
def same7_16o : List ROp := [.v 6 (.mov (.t 0)),
   .v 7 (.len false (.t 6)),
   .v 8 (.mov (.t 1)),
   .v 9 (.len false (.t 8)),
   .v 10 (.bin .neq (.t 7) (.t 9))]
def same7_16 : AK := .seq (.reg same7_16o [0, 1, 10]) same7_17
def same7_1 : AK := .seq same7_16 same7_2
def same7_0o : List ROp := [.v 4 (.mov (.c (.bool false)))]
def same7_0 : AK := .seq (.reg same7_0o [0, 1]) same7_1
def same7 : AK := same7_0
theorem same7_vc (P : Program) (E : Env) (Q : KQ) (st : St) :
  (vcW P E same7_3 Q st = aopsW P same7_3o st (KS.reg [4] (KQ.seq P E .ret Q))) ∧
  (vcW P E same7_9 Q st = aopsW P same7_9o st (KS.reg [0, 1, 12, 13] Q)) ∧
  (vcW P E same7_14 Q st = aopsW P same7_14o st (KS.reg [4] (KQ.seq P E .ret Q))) ∧
  (vcW P E same7_13 Q st = cndW P E (ev st (.t 24)) same7_14 .skip Q st) ∧
  (vcW P E same7_12 Q st = aopsW P same7_12o st (KS.reg [0, 1, 12, 13, 24] (KQ.seq P E same7_13 Q))) ∧
  (vcW P E same7_11 Q st = aopsW P same7_11o st (KS.reg [0, 1, 5, 12, 13] (KQ.seq P E same7_12 Q))) ∧
  (vcW P E same7_10 Q st = vcW P E same7_11 (KQ.blk 1 Q) st) ∧
  (vcW P E same7_8 Q st = vcW P E same7_10 (KQ.seq P E same7_9 Q) st) ∧
  (vcW P E same7_15 Q st = cndW P E (ev st (.t 14)) .skip (.exit 0) Q st) ∧
  (vcW P E same7_7 Q st = vcW P E same7_15 (KQ.seq P E same7_8 Q) st) ∧
  (vcW P E same7_6 Q st = aopsW P same7_6o st (KS.reg [0, 1, 12, 13, 14] (KQ.seq P E same7_7 Q))) ∧
  (vcW P E same7_5 Q st = vcW P E same7_L0 (KQ.blk 0 Q) st) ∧
  (vcW P E same7_4 Q st = aopsW P same7_4o st (KS.reg [0, 1, 12, 13] (KQ.seq P E same7_5 Q))) ∧
  (vcW P E same7_2 Q st = vcW P E same7_4 (KQ.seq P E same7_3 Q) st) ∧
  (vcW P E same7_18 Q st = aopsW P same7_18o st (KS.reg [4] (KQ.seq P E .ret Q))) ∧
  (vcW P E same7_17 Q st = cndW P E (ev st (.t 10)) same7_18 .skip Q st) ∧
  (vcW P E same7_16 Q st = aopsW P same7_16o st (KS.reg [0, 1, 10] (KQ.seq P E same7_17 Q))) ∧
  (vcW P E same7_1 Q st = vcW P E same7_16 (KQ.seq P E same7_2 Q) st) ∧
  (vcW P E same7_0 Q st = aopsW P same7_0o st (KS.reg [0, 1] (KQ.seq P E same7_1 Q))) ∧
  (vcW P E same7 Q st = vcW P E same7_0 Q st) :=
  ⟨rfl, rfl, rfl, vcW_cond, rfl, rfl, rfl, rfl, vcW_cond, rfl, rfl, rfl, rfl, rfl, rfl, vcW_cond, rfl, rfl, rfl, rfl⟩
theorem same7_jn (P : Program) (E : Env) (Q : KQ) (st : St) :
  (True) :=
  trivial
attribute [go_sem] same7_vc same7_3o same7_9o same7_14o same7_12o same7_11o same7_6o same7_4o same7_18o same7_16o same7_0o
noncomputable def same7B : Code := (Tryd.f34.body).getD .skip
theorem same7_eq : trCode Tryd.prog 26 31000 same7B = same7.erase 31000 := by kernel_rfl
theorem same7_body : Tryd.f34.body = some same7B := by kernel_rfl
theorem same7_n : Tryd.f34.ntmps = 26 := by kernel_rfl
theorem same7_r : Tryd.f34.results.toList.map (trRes Tryd.prog) = [.tmp 4] := by kernel_rfl
theorem same7_spec {h : HP} {a0 a1 : AV} {Post : HP → AV → List AV → Prop} (hp : ∀ (E : Env) (R : HP → AV → List AV → Prop), E.N ≤ 1000000 → PostTo Post R → vcW Tryd.prog E same7 (KQ.post [.tmp 4] 2 R) ⟨[(0, a0), (1, a1)], h⟩) : Eng.Spec Tryd.prog 34 h [a0, a1] Post := spec_wk (
  spec_of (c := same7.erase 31000) (B := 31000) Tryd.func34 same7_body (by rw [same7_n, same7_eq]) (by rw [same7_n]; decide) (by rw [same7_n]; exact (by decide : 2 ≤ 26)) (fun E hE hB hrd => by
    have hN : E.N ≤ 1000000 := by
      rw [hE, same7_n]; decide
    rw [same7_r, ← hB]
    exact awp_slots [(0, a0), (1, a1)] ⟨rfl, rfl, trivial⟩ (vcW_sound hN _ (hp E _ hN fin_self))))
/- cartulary/cartularyref09.Id -/
def did_1o : List ROp := [.v 3 (.mov (.t 0)),
   .v 4 (.len true (.t 3)),
   .v 5 (.bin .eql (.t 4) (.c (.int .i64 40))),
   .v 6 (.mov (.t 5)),
   .gval 7 6 true false 32007 (.mov (.t 0)),
   .gcal 8 6 true false 32008 47 [(.t 7)],
   .v 9 (.pick (.t 6) (.t 8) (.c (.bool false))),
   .v 2 (.mov (.t 9))]
def did_1 : AK := .seq (.reg did_1o [2]) .ret
def did_0o : List ROp := [.v 2 (.mov (.c (.bool false)))]
def did_0 : AK := .seq (.reg did_0o [0]) did_1
def did : AK := did_0
theorem did_vc (P : Program) (E : Env) (Q : KQ) (st : St) :
  (vcW P E did_1 Q st = aopsW P did_1o st (KS.reg [2] (KQ.seq P E .ret Q))) ∧
  (vcW P E did_0 Q st = aopsW P did_0o st (KS.reg [0] (KQ.seq P E did_1 Q))) ∧
  (vcW P E did Q st = vcW P E did_0 Q st) :=
  ⟨rfl, rfl, rfl⟩
theorem did_jn (P : Program) (E : Env) (Q : KQ) (st : St) :
  (True) :=
  trivial
attribute [go_sem] did_vc did_1o did_0o
noncomputable def didB : Code := (Tryd.f29.body).getD .skip
theorem did_eq : trCode Tryd.prog 10 32000 didB = did.erase 32000 := by kernel_rfl
theorem did_body : Tryd.f29.body = some didB := by kernel_rfl
theorem did_n : Tryd.f29.ntmps = 10 := by kernel_rfl
theorem did_r : Tryd.f29.results.toList.map (trRes Tryd.prog) = [.tmp 2] := by kernel_rfl
theorem did_spec {h : HP} {a0 : AV} {Post : HP → AV → List AV → Prop} (hp : ∀ (E : Env) (R : HP → AV → List AV → Prop), E.N ≤ 1000000 → PostTo Post R → vcW Tryd.prog E did (KQ.post [.tmp 2] 1 R) ⟨[(0, a0)], h⟩) : Eng.Spec Tryd.prog 29 h [a0] Post := spec_wk (
  spec_of (c := did.erase 32000) (B := 32000) Tryd.func29 did_body (by rw [did_n, did_eq]) (by rw [did_n]; decide) (by rw [did_n]; exact (by decide : 1 ≤ 10)) (fun E hE hB hrd => by
    have hN : E.N ≤ 1000000 := by
      rw [hE, did_n]; decide
    rw [did_r, ← hB]
    exact awp_slots [(0, a0)] ⟨rfl, trivial⟩ (vcW_sound hN _ (hp E _ hN fin_self))))
/- cartulary/cartularyref01.Hexed -/
def hexed_2o : List ROp := [.v 33 (.mov (.t 0)),
   .v 34 (.len true (.t 33)),
   .v 35 (.bin .rem (.t 34) (.c (.int .i64 2))),
   .v 36 (.bin .eql (.t 35) (.c (.int .i64 0))),
   .v 2 (.mov (.t 36))]
def hexed_2 : AK := .seq (.reg hexed_2o [2]) .ret
def hexed_7o : List ROp := [.v 8 (.mov (.t 3)),
   .v 9 (.bin .add (.t 8) (.c (.int .i64 1))),
   .v 3 (.mov (.t 9))]
def hexed_7 : AK := .reg hexed_7o [0, 3]
def hexed_11o : List ROp := [.v 2 (.mov (.c (.bool false)))]
def hexed_11 : AK := .seq (.reg hexed_11o [2]) .ret
def hexed_10 : AK := .cond (.t 32) hexed_11 .skip
def hexed_9o : List ROp := [.v 10 (.mov (.t 0)),
   .v 11 (.mov (.t 3)),
   .v 12 (.sidx (.t 10) (.t 11)),
   .v 13 (.bin .geq (.t 12) (.c (.int .u8 48))),
   .v 14 (.mov (.t 13)),
   .gval 15 14 true false 33015 (.mov (.t 0)),
   .gval 16 14 true false 33016 (.mov (.t 3)),
   .gval 17 14 true false 33017 (.sidx (.t 15) (.t 16)),
   .gval 18 14 true false 33018 (.bin .leq (.t 17) (.c (.int .u8 57))),
   .v 19 (.pick (.t 14) (.t 18) (.c (.bool false))),
   .v 20 (.mov (.t 19)),
   .gval 21 20 false false 33021 (.mov (.t 0)),
   .gval 22 20 false false 33022 (.mov (.t 3)),
   .gval 23 20 false false 33023 (.sidx (.t 21) (.t 22)),
   .gval 24 20 false false 33024 (.bin .geq (.t 23) (.c (.int .u8 97))),
   .gval 25 20 false false 33025 (.mov (.t 24)),
   .gval 26 25 true false 33026 (.mov (.t 0)),
   .gval 27 25 true false 33027 (.mov (.t 3)),
   .gval 28 25 true false 33028 (.sidx (.t 26) (.t 27)),
   .gval 29 25 true false 33029 (.bin .leq (.t 28) (.c (.int .u8 102))),
   .gval 30 20 false false 33030 (.pick (.t 25) (.t 29) (.c (.bool false))),
   .v 31 (.pick (.t 20) (.c (.bool true)) (.t 30)),
   .v 32 (.un .not (.t 31))]
def hexed_9 : AK := .seq (.reg hexed_9o [0, 3, 32]) hexed_10
def hexed_8 : AK := .block 1 hexed_9
def hexed_6 : AK := .seq hexed_8 hexed_7
def hexed_13 : AK := .cond (.t 7) .skip (.exit 0)
def hexed_12o : List ROp := [.v 4 (.mov (.t 3)),
   .v 5 (.mov (.t 0)),
   .v 6 (.len true (.t 5)),
   .v 7 (.bin .lss (.t 4) (.t 6))]
def hexed_12 : AK := .seq (.reg hexed_12o [0, 3, 7]) hexed_13
def hexed_5 : AK := .seq hexed_12 hexed_6
def hexed_L0 : AK := .loop hexed_5
def hexed_4 : AK := .block 0 hexed_L0
def hexed_3o : List ROp := [.v 3 (.mov (.c (.int .i64 0)))]
def hexed_3 : AK := .seq (.reg hexed_3o [0, 3]) hexed_4
def hexed_1 : AK := .seq hexed_3 hexed_2
def hexed_0o : List ROp := [.v 2 (.mov (.c (.bool false)))]
def hexed_0 : AK := .seq (.reg hexed_0o [0]) hexed_1
def hexed : AK := hexed_0
theorem hexed_vc (P : Program) (E : Env) (Q : KQ) (st : St) :
  (vcW P E hexed_2 Q st = aopsW P hexed_2o st (KS.reg [2] (KQ.seq P E .ret Q))) ∧
  (vcW P E hexed_7 Q st = aopsW P hexed_7o st (KS.reg [0, 3] Q)) ∧
  (vcW P E hexed_11 Q st = aopsW P hexed_11o st (KS.reg [2] (KQ.seq P E .ret Q))) ∧
  (vcW P E hexed_10 Q st = cndW P E (ev st (.t 32)) hexed_11 .skip Q st) ∧
  (vcW P E hexed_9 Q st = aopsW P hexed_9o st (KS.reg [0, 3, 32] (KQ.seq P E hexed_10 Q))) ∧
  (vcW P E hexed_8 Q st = vcW P E hexed_9 (KQ.blk 1 Q) st) ∧
  (vcW P E hexed_6 Q st = vcW P E hexed_8 (KQ.seq P E hexed_7 Q) st) ∧
  (vcW P E hexed_13 Q st = cndW P E (ev st (.t 7)) .skip (.exit 0) Q st) ∧
  (vcW P E hexed_12 Q st = aopsW P hexed_12o st (KS.reg [0, 3, 7] (KQ.seq P E hexed_13 Q))) ∧
  (vcW P E hexed_5 Q st = vcW P E hexed_12 (KQ.seq P E hexed_6 Q) st) ∧
  (vcW P E hexed_4 Q st = vcW P E hexed_L0 (KQ.blk 0 Q) st) ∧
  (vcW P E hexed_3 Q st = aopsW P hexed_3o st (KS.reg [0, 3] (KQ.seq P E hexed_4 Q))) ∧
  (vcW P E hexed_1 Q st = vcW P E hexed_3 (KQ.seq P E hexed_2 Q) st) ∧
  (vcW P E hexed_0 Q st = aopsW P hexed_0o st (KS.reg [0] (KQ.seq P E hexed_1 Q))) ∧
  (vcW P E hexed Q st = vcW P E hexed_0 Q st) :=
  ⟨rfl, rfl, rfl, vcW_cond, rfl, rfl, rfl, vcW_cond, rfl, rfl, rfl, rfl, rfl, rfl, rfl⟩
theorem hexed_jn (P : Program) (E : Env) (Q : KQ) (st : St) :
  (True) :=
  trivial
attribute [go_sem] hexed_vc hexed_2o hexed_7o hexed_11o hexed_9o hexed_12o hexed_3o hexed_0o
noncomputable def hexedB : Code := (Tryd.f47.body).getD .skip
theorem hexed_eq : trCode Tryd.prog 37 33000 hexedB = hexed.erase 33000 := by kernel_rfl
theorem hexed_body : Tryd.f47.body = some hexedB := by kernel_rfl
theorem hexed_n : Tryd.f47.ntmps = 37 := by kernel_rfl
theorem hexed_r : Tryd.f47.results.toList.map (trRes Tryd.prog) = [.tmp 2] := by kernel_rfl
theorem hexed_spec {h : HP} {a0 : AV} {Post : HP → AV → List AV → Prop} (hp : ∀ (E : Env) (R : HP → AV → List AV → Prop), E.N ≤ 1000000 → PostTo Post R → vcW Tryd.prog E hexed (KQ.post [.tmp 2] 1 R) ⟨[(0, a0)], h⟩) : Eng.Spec Tryd.prog 47 h [a0] Post := spec_wk (
  spec_of (c := hexed.erase 33000) (B := 33000) Tryd.func47 hexed_body (by rw [hexed_n, hexed_eq]) (by rw [hexed_n]; decide) (by rw [hexed_n]; exact (by decide : 1 ≤ 37)) (fun E hE hB hrd => by
    have hN : E.N ≤ 1000000 := by
      rw [hE, hexed_n]; decide
    rw [hexed_r, ← hB]
    exact awp_slots [(0, a0)] ⟨rfl, trivial⟩ (vcW_sound hN _ (hp E _ hN fin_self))))
/- cartulary/sums.Id -/
def sid_2o : List ROp := [.v 10 (.mov (.t 4)),
   .v 11 (.mov (.t 10)),
   .gval 12 11 true false 34012 (.mov (.t 0)),
   .gval 13 11 true false 34013 (.len true (.t 12)),
   .gval 14 11 true false 34014 (.bin .eql (.t 13) (.c (.int .i64 40))),
   .v 15 (.pick (.t 11) (.t 14) (.c (.bool false))),
   .v 2 (.mov (.t 15))]
def sid_2 : AK := .seq (.reg sid_2o [2]) .ret
def sid_1o : List ROp := [.v 6 (.mov (.t 0)),
   .cal (some 7) false 34007 48 [(.t 6)],
   .v 5 (.mov (.t 7)),
   .v 8 (.ext (.t 5) 0),
   .v 9 (.ext (.t 5) 1),
   .v 3 (.mov (.t 8)),
   .v 4 (.mov (.t 9))]
def sid_1 : AK := .seq (.reg sid_1o [0, 4]) sid_2
def sid_0o : List ROp := [.v 2 (.mov (.c (.bool false)))]
def sid_0 : AK := .seq (.reg sid_0o [0]) sid_1
def sid : AK := sid_0
theorem sid_vc (P : Program) (E : Env) (Q : KQ) (st : St) :
  (vcW P E sid_2 Q st = aopsW P sid_2o st (KS.reg [2] (KQ.seq P E .ret Q))) ∧
  (vcW P E sid_1 Q st = aopsW P sid_1o st (KS.reg [0, 4] (KQ.seq P E sid_2 Q))) ∧
  (vcW P E sid_0 Q st = aopsW P sid_0o st (KS.reg [0] (KQ.seq P E sid_1 Q))) ∧
  (vcW P E sid Q st = vcW P E sid_0 Q st) :=
  ⟨rfl, rfl, rfl, rfl⟩
theorem sid_jn (P : Program) (E : Env) (Q : KQ) (st : St) :
  (True) :=
  trivial
attribute [go_sem] sid_vc sid_2o sid_1o sid_0o
noncomputable def sidB : Code := (Tryd.f30.body).getD .skip
theorem sid_eq : trCode Tryd.prog 16 34000 sidB = sid.erase 34000 := by kernel_rfl
theorem sid_body : Tryd.f30.body = some sidB := by kernel_rfl
theorem sid_n : Tryd.f30.ntmps = 16 := by kernel_rfl
theorem sid_r : Tryd.f30.results.toList.map (trRes Tryd.prog) = [.tmp 2] := by kernel_rfl
theorem sid_spec {h : HP} {a0 : AV} {Post : HP → AV → List AV → Prop} (hp : ∀ (E : Env) (R : HP → AV → List AV → Prop), E.N ≤ 1000000 → PostTo Post R → vcW Tryd.prog E sid (KQ.post [.tmp 2] 1 R) ⟨[(0, a0)], h⟩) : Eng.Spec Tryd.prog 30 h [a0] Post := spec_wk (
  spec_of (c := sid.erase 34000) (B := 34000) Tryd.func30 sid_body (by rw [sid_n, sid_eq]) (by rw [sid_n]; decide) (by rw [sid_n]; exact (by decide : 1 ≤ 16)) (fun E hE hB hrd => by
    have hN : E.N ≤ 1000000 := by
      rw [hE, sid_n]; decide
    rw [sid_r, ← hB]
    exact awp_slots [(0, a0)] ⟨rfl, trivial⟩ (vcW_sound hN _ (hp E _ hN fin_self))))
/- cartulary/sums.Unhex -/
def unhex_4o : List ROp := [.v 42 (.mov (.t 4)),
   .v 43 (.bts (.t 42)),
   .v 2 (.mov (.t 43)),
   .v 3 (.mov (.c (.bool true)))]
def unhex_4 : AK := .seq (.reg unhex_4o [2, 3]) .ret
def unhex_7o : List ROp := [.v 2 (.mov (.c (.str []))),
   .v 3 (.mov (.c (.bool false)))]
def unhex_7 : AK := .seq (.reg unhex_7o [2, 3]) .ret
def unhex_6 : AK := .cond (.t 41) unhex_7 .skip
def unhex_5o : List ROp := [.v 38 (.mov (.t 0)),
   .v 39 (.len true (.t 38)),
   .v 40 (.bin .rem (.t 39) (.c (.int .i64 2))),
   .v 41 (.bin .neq (.t 40) (.c (.int .i64 0)))]
def unhex_5 : AK := .seq (.reg unhex_5o [4, 41]) unhex_6
def unhex_3 : AK := .seq unhex_5 unhex_4
def unhex_12o : List ROp := [.v 13 (.mov (.t 5)),
   .v 14 (.bin .add (.t 13) (.c (.int .i64 2))),
   .v 5 (.mov (.t 14))]
def unhex_12 : AK := .reg unhex_12o [0, 4, 5]
def unhex_16o : List ROp := [.v 30 (.mov (.t 4)),
   .v 31 (.mov (.t 6)),
   .v 32 (.bin .shl (.t 31) (.c (.int .u64 4))),
   .v 33 (.mov (.t 7)),
   .v 34 (.bin .or (.t 32) (.t 33)),
   .v 35 (.cvi .u8 (.t 34)),
   .eff 36 false 35036 (.bsl 1 [(.t 35)]),
   .eff 37 false 35037 (.app 1 1 (.t 30) (.t 36)),
   .v 4 (.mov (.t 37))]
def unhex_16 : AK := .reg unhex_16o [0, 4, 5]
def unhex_19o : List ROp := [.v 2 (.mov (.c (.str []))),
   .v 3 (.mov (.c (.bool false)))]
def unhex_19 : AK := .seq (.reg unhex_19o [2, 3]) .ret
def unhex_18 : AK := .cond (.t 29) unhex_19 .skip
def unhex_17o : List ROp := [.v 24 (.mov (.t 6)),
   .v 25 (.bin .lss (.t 24) (.c (.int .i64 0))),
   .v 26 (.mov (.t 25)),
   .gval 27 26 false false 35027 (.mov (.t 7)),
   .gval 28 26 false false 35028 (.bin .lss (.t 27) (.c (.int .i64 0))),
   .v 29 (.pick (.t 26) (.c (.bool true)) (.t 28))]
def unhex_17 : AK := .seq (.reg unhex_17o [0, 4, 5, 6, 7, 29]) unhex_18
def unhex_15 : AK := .seq unhex_17 unhex_16
def unhex_14o : List ROp := [.val 15 true 35015 (.mov (.t 0)),
   .val 16 true 35016 (.mov (.t 5)),
   .val 17 true 35017 (.sidx (.t 15) (.t 16)),
   .val 19 true 35019 (.mov (.t 0)),
   .val 20 true 35020 (.mov (.t 5)),
   .val 21 true 35021 (.bin .add (.t 20) (.c (.int .i64 1))),
   .val 22 true 35022 (.sidx (.t 19) (.t 21)),
   .cal (some 18) true 35018 58 [(.t 17)],
   .cal (some 23) false 35023 58 [(.t 22)],
   .v 6 (.mov (.t 18)),
   .v 7 (.mov (.t 23))]
def unhex_14 : AK := .seq (.reg unhex_14o [0, 4, 5, 6, 7]) unhex_15
def unhex_13 : AK := .block 1 unhex_14
def unhex_11 : AK := .seq unhex_13 unhex_12
def unhex_21 : AK := .cond (.t 12) .skip (.exit 0)
def unhex_20o : List ROp := [.v 8 (.mov (.t 5)),
   .v 9 (.bin .add (.t 8) (.c (.int .i64 1))),
   .v 10 (.mov (.t 0)),
   .v 11 (.len true (.t 10)),
   .v 12 (.bin .lss (.t 9) (.t 11))]
def unhex_20 : AK := .seq (.reg unhex_20o [0, 4, 5, 12]) unhex_21
def unhex_10 : AK := .seq unhex_20 unhex_11
def unhex_L0 : AK := .loop unhex_10
def unhex_9 : AK := .block 0 unhex_L0
def unhex_8o : List ROp := [.v 5 (.mov (.c (.int .i64 0)))]
def unhex_8 : AK := .seq (.reg unhex_8o [0, 4, 5]) unhex_9
def unhex_2 : AK := .seq unhex_8 unhex_3
def unhex_1o : List ROp := [.v 4 (.mov (.c (.nilsl)))]
def unhex_1 : AK := .seq (.reg unhex_1o [0, 4]) unhex_2
def unhex_0o : List ROp := [.v 2 (.mov (.c (.str []))),
   .v 3 (.mov (.c (.bool false)))]
def unhex_0 : AK := .seq (.reg unhex_0o [0]) unhex_1
def unhex : AK := unhex_0
theorem unhex_vc (P : Program) (E : Env) (Q : KQ) (st : St) :
  (vcW P E unhex_4 Q st = aopsW P unhex_4o st (KS.reg [2, 3] (KQ.seq P E .ret Q))) ∧
  (vcW P E unhex_7 Q st = aopsW P unhex_7o st (KS.reg [2, 3] (KQ.seq P E .ret Q))) ∧
  (vcW P E unhex_6 Q st = cndW P E (ev st (.t 41)) unhex_7 .skip Q st) ∧
  (vcW P E unhex_5 Q st = aopsW P unhex_5o st (KS.reg [4, 41] (KQ.seq P E unhex_6 Q))) ∧
  (vcW P E unhex_3 Q st = vcW P E unhex_5 (KQ.seq P E unhex_4 Q) st) ∧
  (vcW P E unhex_12 Q st = aopsW P unhex_12o st (KS.reg [0, 4, 5] Q)) ∧
  (vcW P E unhex_16 Q st = aopsW P unhex_16o st (KS.reg [0, 4, 5] Q)) ∧
  (vcW P E unhex_19 Q st = aopsW P unhex_19o st (KS.reg [2, 3] (KQ.seq P E .ret Q))) ∧
  (vcW P E unhex_18 Q st = cndW P E (ev st (.t 29)) unhex_19 .skip Q st) ∧
  (vcW P E unhex_17 Q st = aopsW P unhex_17o st (KS.reg [0, 4, 5, 6, 7, 29] (KQ.seq P E unhex_18 Q))) ∧
  (vcW P E unhex_15 Q st = vcW P E unhex_17 (KQ.seq P E unhex_16 Q) st) ∧
  (vcW P E unhex_14 Q st = aopsW P unhex_14o st (KS.reg [0, 4, 5, 6, 7] (KQ.seq P E unhex_15 Q))) ∧
  (vcW P E unhex_13 Q st = vcW P E unhex_14 (KQ.blk 1 Q) st) ∧
  (vcW P E unhex_11 Q st = vcW P E unhex_13 (KQ.seq P E unhex_12 Q) st) ∧
  (vcW P E unhex_21 Q st = cndW P E (ev st (.t 12)) .skip (.exit 0) Q st) ∧
  (vcW P E unhex_20 Q st = aopsW P unhex_20o st (KS.reg [0, 4, 5, 12] (KQ.seq P E unhex_21 Q))) ∧
  (vcW P E unhex_10 Q st = vcW P E unhex_20 (KQ.seq P E unhex_11 Q) st) ∧
  (vcW P E unhex_9 Q st = vcW P E unhex_L0 (KQ.blk 0 Q) st) ∧
  (vcW P E unhex_8 Q st = aopsW P unhex_8o st (KS.reg [0, 4, 5] (KQ.seq P E unhex_9 Q))) ∧
  (vcW P E unhex_2 Q st = vcW P E unhex_8 (KQ.seq P E unhex_3 Q) st) ∧
  (vcW P E unhex_1 Q st = aopsW P unhex_1o st (KS.reg [0, 4] (KQ.seq P E unhex_2 Q))) ∧
  (vcW P E unhex_0 Q st = aopsW P unhex_0o st (KS.reg [0] (KQ.seq P E unhex_1 Q))) ∧
  (vcW P E unhex Q st = vcW P E unhex_0 Q st) :=
  ⟨rfl, rfl, vcW_cond, rfl, rfl, rfl, rfl, rfl, vcW_cond, rfl, rfl, rfl, rfl, rfl, vcW_cond, rfl, rfl, rfl, rfl, rfl, rfl, rfl, rfl⟩
theorem unhex_jn (P : Program) (E : Env) (Q : KQ) (st : St) :
  (True) :=
  trivial
attribute [go_sem] unhex_vc unhex_4o unhex_7o unhex_5o unhex_12o unhex_16o unhex_19o unhex_17o unhex_14o unhex_20o unhex_8o unhex_1o unhex_0o
noncomputable def unhexB : Code := (Tryd.f48.body).getD .skip
theorem unhex_eq : trCode Tryd.prog 44 35000 unhexB = unhex.erase 35000 := by kernel_rfl
theorem unhex_body : Tryd.f48.body = some unhexB := by kernel_rfl
theorem unhex_n : Tryd.f48.ntmps = 44 := by kernel_rfl
theorem unhex_r : Tryd.f48.results.toList.map (trRes Tryd.prog) = [.tmp 2, .tmp 3] := by kernel_rfl
theorem unhex_spec {h : HP} {a0 : AV} {Post : HP → AV → List AV → Prop} (hp : ∀ (E : Env) (R : HP → AV → List AV → Prop), E.N ≤ 1000000 → PostTo Post R → vcW Tryd.prog E unhex (KQ.post [.tmp 2, .tmp 3] 1 R) ⟨[(0, a0)], h⟩) : Eng.Spec Tryd.prog 48 h [a0] Post := spec_wk (
  spec_of (c := unhex.erase 35000) (B := 35000) Tryd.func48 unhex_body (by rw [unhex_n, unhex_eq]) (by rw [unhex_n]; decide) (by rw [unhex_n]; exact (by decide : 1 ≤ 44)) (fun E hE hB hrd => by
    have hN : E.N ≤ 1000000 := by
      rw [hE, unhex_n]; decide
    rw [unhex_r, ← hB]
    exact awp_slots [(0, a0)] ⟨rfl, trivial⟩ (vcW_sound hN _ (hp E _ hN fin_self))))
/- cartulary/sums.digit -/
def sdigit_2o : List ROp := [.v 2 (.mov (.c (.int .i64 (-1))))]
def sdigit_2 : AK := .seq (.reg sdigit_2o [2]) .ret
def sdigit_6o : List ROp := [.v 10 (.mov (.t 0)),
   .v 11 (.bin .sub (.t 10) (.c (.int .u8 48))),
   .v 12 (.cvi .i64 (.t 11)),
   .v 2 (.mov (.t 12))]
def sdigit_6 : AK := .seq (.reg sdigit_6o [2]) .ret
def sdigit_9o : List ROp := [.v 20 (.mov (.t 0)),
   .v 21 (.bin .sub (.t 20) (.c (.int .u8 97))),
   .v 22 (.cvi .i64 (.t 21)),
   .v 23 (.bin .add (.t 22) (.c (.int .i64 10))),
   .v 2 (.mov (.t 23))]
def sdigit_9 : AK := .seq (.reg sdigit_9o [2]) .ret
def sdigit_8 : AK := .cond (.t 13) sdigit_9 .skip
def sdigit_7o : List ROp := [.v 14 (.mov (.t 0)),
   .v 15 (.bin .geq (.t 14) (.c (.int .u8 97))),
   .v 16 (.mov (.t 15)),
   .gval 17 16 true false 36017 (.mov (.t 0)),
   .gval 18 16 true false 36018 (.bin .leq (.t 17) (.c (.int .u8 102))),
   .v 19 (.pick (.t 16) (.t 18) (.c (.bool false))),
   .v 13 (.mov (.t 19))]
def sdigit_7 : AK := .seq (.reg sdigit_7o [0, 13]) sdigit_8
def sdigit_5 : AK := .cond (.t 3) sdigit_6 sdigit_7
def sdigit_4o : List ROp := [.v 4 (.mov (.t 0)),
   .v 5 (.bin .geq (.t 4) (.c (.int .u8 48))),
   .v 6 (.mov (.t 5)),
   .gval 7 6 true false 36007 (.mov (.t 0)),
   .gval 8 6 true false 36008 (.bin .leq (.t 7) (.c (.int .u8 57))),
   .v 9 (.pick (.t 6) (.t 8) (.c (.bool false))),
   .v 3 (.mov (.t 9))]
def sdigit_4 : AK := .seq (.reg sdigit_4o [0, 3]) sdigit_5
def sdigit_3 : AK := .block 0 sdigit_4
def sdigit_1 : AK := .seq sdigit_3 sdigit_2
def sdigit_0o : List ROp := [.v 2 (.mov (.c (.int .i64 0)))]
def sdigit_0 : AK := .seq (.reg sdigit_0o [0]) sdigit_1
def sdigit : AK := sdigit_0
theorem sdigit_vc (P : Program) (E : Env) (Q : KQ) (st : St) :
  (vcW P E sdigit_2 Q st = aopsW P sdigit_2o st (KS.reg [2] (KQ.seq P E .ret Q))) ∧
  (vcW P E sdigit_6 Q st = aopsW P sdigit_6o st (KS.reg [2] (KQ.seq P E .ret Q))) ∧
  (vcW P E sdigit_9 Q st = aopsW P sdigit_9o st (KS.reg [2] (KQ.seq P E .ret Q))) ∧
  (vcW P E sdigit_8 Q st = cndW P E (ev st (.t 13)) sdigit_9 .skip Q st) ∧
  (vcW P E sdigit_7 Q st = aopsW P sdigit_7o st (KS.reg [0, 13] (KQ.seq P E sdigit_8 Q))) ∧
  (vcW P E sdigit_5 Q st = cndW P E (ev st (.t 3)) sdigit_6 sdigit_7 Q st) ∧
  (vcW P E sdigit_4 Q st = aopsW P sdigit_4o st (KS.reg [0, 3] (KQ.seq P E sdigit_5 Q))) ∧
  (vcW P E sdigit_3 Q st = vcW P E sdigit_4 (KQ.blk 0 Q) st) ∧
  (vcW P E sdigit_1 Q st = vcW P E sdigit_3 (KQ.seq P E sdigit_2 Q) st) ∧
  (vcW P E sdigit_0 Q st = aopsW P sdigit_0o st (KS.reg [0] (KQ.seq P E sdigit_1 Q))) ∧
  (vcW P E sdigit Q st = vcW P E sdigit_0 Q st) :=
  ⟨rfl, rfl, rfl, vcW_cond, rfl, vcW_cond, rfl, rfl, rfl, rfl, rfl⟩
theorem sdigit_jn (P : Program) (E : Env) (Q : KQ) (st : St) :
  (True) :=
  trivial
attribute [go_sem] sdigit_vc sdigit_2o sdigit_6o sdigit_9o sdigit_7o sdigit_4o sdigit_0o
noncomputable def sdigitB : Code := (Tryd.f58.body).getD .skip
theorem sdigit_eq : trCode Tryd.prog 24 36000 sdigitB = sdigit.erase 36000 := by kernel_rfl
theorem sdigit_body : Tryd.f58.body = some sdigitB := by kernel_rfl
theorem sdigit_n : Tryd.f58.ntmps = 24 := by kernel_rfl
theorem sdigit_r : Tryd.f58.results.toList.map (trRes Tryd.prog) = [.tmp 2] := by kernel_rfl
theorem sdigit_spec {h : HP} {a0 : AV} {Post : HP → AV → List AV → Prop} (hp : ∀ (E : Env) (R : HP → AV → List AV → Prop), E.N ≤ 1000000 → PostTo Post R → vcW Tryd.prog E sdigit (KQ.post [.tmp 2] 1 R) ⟨[(0, a0)], h⟩) : Eng.Spec Tryd.prog 58 h [a0] Post := spec_wk (
  spec_of (c := sdigit.erase 36000) (B := 36000) Tryd.func58 sdigit_body (by rw [sdigit_n, sdigit_eq]) (by rw [sdigit_n]; decide) (by rw [sdigit_n]; exact (by decide : 1 ≤ 24)) (fun E hE hB hrd => by
    have hN : E.N ≤ 1000000 := by
      rw [hE, sdigit_n]; decide
    rw [sdigit_r, ← hB]
    exact awp_slots [(0, a0)] ⟨rfl, trivial⟩ (vcW_sound hN _ (hp E _ hN fin_self))))
/- cartulary/object.Name -/
def oname_2o : List ROp := [.v 2 (.mov (.c (.str [])))]
def oname_2 : AK := .seq (.reg oname_2o [2]) .ret
def oname_7o : List ROp := [.v 2 (.mov (.c (.str [99, 111, 109, 109, 105, 116])))]
def oname_7 : AK := .seq (.reg oname_7o [2]) .ret
def oname_10o : List ROp := [.v 2 (.mov (.c (.str [116, 114, 101, 101])))]
def oname_10 : AK := .seq (.reg oname_10o [2]) .ret
def oname_13o : List ROp := [.v 2 (.mov (.c (.str [98, 108, 111, 98])))]
def oname_13 : AK := .seq (.reg oname_13o [2]) .ret
def oname_16o : List ROp := [.v 2 (.mov (.c (.str [116, 97, 103])))]
def oname_16 : AK := .seq (.reg oname_16o [2]) .ret
def oname_15 : AK := .cond (.t 10) oname_16 .skip
def oname_14o : List ROp := [.v 11 (.bin .eql (.t 3) (.c (.int .i64 4))),
   .v 10 (.mov (.t 11))]
def oname_14 : AK := .seq (.reg oname_14o [10]) oname_15
def oname_12 : AK := .cond (.t 8) oname_13 oname_14
def oname_11o : List ROp := [.v 9 (.bin .eql (.t 3) (.c (.int .i64 3))),
   .v 8 (.mov (.t 9))]
def oname_11 : AK := .seq (.reg oname_11o [3, 8]) oname_12
def oname_9 : AK := .cond (.t 6) oname_10 oname_11
def oname_8o : List ROp := [.v 7 (.bin .eql (.t 3) (.c (.int .i64 2))),
   .v 6 (.mov (.t 7))]
def oname_8 : AK := .seq (.reg oname_8o [3, 6]) oname_9
def oname_6 : AK := .cond (.t 4) oname_7 oname_8
def oname_5o : List ROp := [.v 5 (.bin .eql (.t 3) (.c (.int .i64 1))),
   .v 4 (.mov (.t 5))]
def oname_5 : AK := .seq (.reg oname_5o [3, 4]) oname_6
def oname_4 : AK := .block 0 oname_5
def oname_3o : List ROp := [.v 3 (.mov (.t 0))]
def oname_3 : AK := .seq (.reg oname_3o [3]) oname_4
def oname_1 : AK := .seq oname_3 oname_2
def oname_0o : List ROp := [.v 2 (.mov (.c (.str [])))]
def oname_0 : AK := .seq (.reg oname_0o [0]) oname_1
def oname : AK := oname_0
theorem oname_vc (P : Program) (E : Env) (Q : KQ) (st : St) :
  (vcW P E oname_2 Q st = aopsW P oname_2o st (KS.reg [2] (KQ.seq P E .ret Q))) ∧
  (vcW P E oname_7 Q st = aopsW P oname_7o st (KS.reg [2] (KQ.seq P E .ret Q))) ∧
  (vcW P E oname_10 Q st = aopsW P oname_10o st (KS.reg [2] (KQ.seq P E .ret Q))) ∧
  (vcW P E oname_13 Q st = aopsW P oname_13o st (KS.reg [2] (KQ.seq P E .ret Q))) ∧
  (vcW P E oname_16 Q st = aopsW P oname_16o st (KS.reg [2] (KQ.seq P E .ret Q))) ∧
  (vcW P E oname_15 Q st = cndW P E (ev st (.t 10)) oname_16 .skip Q st) ∧
  (vcW P E oname_14 Q st = aopsW P oname_14o st (KS.reg [10] (KQ.seq P E oname_15 Q))) ∧
  (vcW P E oname_12 Q st = cndW P E (ev st (.t 8)) oname_13 oname_14 Q st) ∧
  (vcW P E oname_11 Q st = aopsW P oname_11o st (KS.reg [3, 8] (KQ.seq P E oname_12 Q))) ∧
  (vcW P E oname_9 Q st = cndW P E (ev st (.t 6)) oname_10 oname_11 Q st) ∧
  (vcW P E oname_8 Q st = aopsW P oname_8o st (KS.reg [3, 6] (KQ.seq P E oname_9 Q))) ∧
  (vcW P E oname_6 Q st = cndW P E (ev st (.t 4)) oname_7 oname_8 Q st) ∧
  (vcW P E oname_5 Q st = aopsW P oname_5o st (KS.reg [3, 4] (KQ.seq P E oname_6 Q))) ∧
  (vcW P E oname_4 Q st = vcW P E oname_5 (KQ.blk 0 Q) st) ∧
  (vcW P E oname_3 Q st = aopsW P oname_3o st (KS.reg [3] (KQ.seq P E oname_4 Q))) ∧
  (vcW P E oname_1 Q st = vcW P E oname_3 (KQ.seq P E oname_2 Q) st) ∧
  (vcW P E oname_0 Q st = aopsW P oname_0o st (KS.reg [0] (KQ.seq P E oname_1 Q))) ∧
  (vcW P E oname Q st = vcW P E oname_0 Q st) :=
  ⟨rfl, rfl, rfl, rfl, rfl, vcW_cond, rfl, vcW_cond, rfl, vcW_cond, rfl, vcW_cond, rfl, rfl, rfl, rfl, rfl, rfl⟩
theorem oname_jn (P : Program) (E : Env) (Q : KQ) (st : St) :
  (True) :=
  trivial
attribute [go_sem] oname_vc oname_2o oname_7o oname_10o oname_13o oname_16o oname_14o oname_11o oname_8o oname_5o oname_3o oname_0o
noncomputable def onameB : Code := (Tryd.f41.body).getD .skip
theorem oname_eq : trCode Tryd.prog 12 37000 onameB = oname.erase 37000 := by kernel_rfl
theorem oname_body : Tryd.f41.body = some onameB := by kernel_rfl
theorem oname_n : Tryd.f41.ntmps = 12 := by kernel_rfl
theorem oname_r : Tryd.f41.results.toList.map (trRes Tryd.prog) = [.tmp 2] := by kernel_rfl
theorem oname_spec {h : HP} {a0 : AV} {Post : HP → AV → List AV → Prop} (hp : ∀ (E : Env) (R : HP → AV → List AV → Prop), E.N ≤ 1000000 → PostTo Post R → vcW Tryd.prog E oname (KQ.post [.tmp 2] 1 R) ⟨[(0, a0)], h⟩) : Eng.Spec Tryd.prog 41 h [a0] Post := spec_wk (
  spec_of (c := oname.erase 37000) (B := 37000) Tryd.func41 oname_body (by rw [oname_n, oname_eq]) (by rw [oname_n]; decide) (by rw [oname_n]; exact (by decide : 1 ≤ 12)) (fun E hE hB hrd => by
    have hN : E.N ≤ 1000000 := by
      rw [hE, oname_n]; decide
    rw [oname_r, ← hB]
    exact awp_slots [(0, a0)] ⟨rfl, trivial⟩ (vcW_sound hN _ (hp E _ hN fin_self))))
/- cartulary/object.Kind -/
def kind_2o : List ROp := [.v 2 (.mov (.c (.int .i64 0)))]
def kind_2 : AK := .seq (.reg kind_2o [2]) .ret
def kind_7o : List ROp := [.v 6 (.mov (.t 3)),
   .v 7 (.bin .add (.t 6) (.c (.int .i64 1))),
   .v 3 (.mov (.t 7))]
def kind_7 : AK := .reg kind_7o [0, 3]
def kind_11o : List ROp := [.v 12 (.mov (.t 3)),
   .v 2 (.mov (.t 12))]
def kind_11 : AK := .seq (.reg kind_11o [2]) .ret
def kind_10 : AK := .cond (.t 11) kind_11 .skip
def kind_9o : List ROp := [.v 8 (.mov (.t 3)),
   .cal (some 9) false 38009 41 [(.t 8)],
   .v 10 (.mov (.t 0)),
   .v 11 (.bin .eql (.t 9) (.t 10))]
def kind_9 : AK := .seq (.reg kind_9o [0, 3, 11]) kind_10
def kind_8 : AK := .block 1 kind_9
def kind_6 : AK := .seq kind_8 kind_7
def kind_13 : AK := .cond (.t 5) .skip (.exit 0)
def kind_12o : List ROp := [.v 4 (.mov (.t 3)),
   .v 5 (.bin .leq (.t 4) (.c (.int .i64 4)))]
def kind_12 : AK := .seq (.reg kind_12o [0, 3, 5]) kind_13
def kind_5 : AK := .seq kind_12 kind_6
def kind_L0 : AK := .loop kind_5
def kind_4 : AK := .block 0 kind_L0
def kind_3o : List ROp := [.v 3 (.mov (.c (.int .i64 1)))]
def kind_3 : AK := .seq (.reg kind_3o [0, 3]) kind_4
def kind_1 : AK := .seq kind_3 kind_2
def kind_0o : List ROp := [.v 2 (.mov (.c (.int .i64 0)))]
def kind_0 : AK := .seq (.reg kind_0o [0]) kind_1
def kind : AK := kind_0
theorem kind_vc (P : Program) (E : Env) (Q : KQ) (st : St) :
  (vcW P E kind_2 Q st = aopsW P kind_2o st (KS.reg [2] (KQ.seq P E .ret Q))) ∧
  (vcW P E kind_7 Q st = aopsW P kind_7o st (KS.reg [0, 3] Q)) ∧
  (vcW P E kind_11 Q st = aopsW P kind_11o st (KS.reg [2] (KQ.seq P E .ret Q))) ∧
  (vcW P E kind_10 Q st = cndW P E (ev st (.t 11)) kind_11 .skip Q st) ∧
  (vcW P E kind_9 Q st = aopsW P kind_9o st (KS.reg [0, 3, 11] (KQ.seq P E kind_10 Q))) ∧
  (vcW P E kind_8 Q st = vcW P E kind_9 (KQ.blk 1 Q) st) ∧
  (vcW P E kind_6 Q st = vcW P E kind_8 (KQ.seq P E kind_7 Q) st) ∧
  (vcW P E kind_13 Q st = cndW P E (ev st (.t 5)) .skip (.exit 0) Q st) ∧
  (vcW P E kind_12 Q st = aopsW P kind_12o st (KS.reg [0, 3, 5] (KQ.seq P E kind_13 Q))) ∧
  (vcW P E kind_5 Q st = vcW P E kind_12 (KQ.seq P E kind_6 Q) st) ∧
  (vcW P E kind_4 Q st = vcW P E kind_L0 (KQ.blk 0 Q) st) ∧
  (vcW P E kind_3 Q st = aopsW P kind_3o st (KS.reg [0, 3] (KQ.seq P E kind_4 Q))) ∧
  (vcW P E kind_1 Q st = vcW P E kind_3 (KQ.seq P E kind_2 Q) st) ∧
  (vcW P E kind_0 Q st = aopsW P kind_0o st (KS.reg [0] (KQ.seq P E kind_1 Q))) ∧
  (vcW P E kind Q st = vcW P E kind_0 Q st) :=
  ⟨rfl, rfl, rfl, vcW_cond, rfl, rfl, rfl, vcW_cond, rfl, rfl, rfl, rfl, rfl, rfl, rfl⟩
theorem kind_jn (P : Program) (E : Env) (Q : KQ) (st : St) :
  (True) :=
  trivial
attribute [go_sem] kind_vc kind_2o kind_7o kind_11o kind_9o kind_12o kind_3o kind_0o
noncomputable def kindB : Code := (Tryd.f56.body).getD .skip
theorem kind_eq : trCode Tryd.prog 13 38000 kindB = kind.erase 38000 := by kernel_rfl
theorem kind_body : Tryd.f56.body = some kindB := by kernel_rfl
theorem kind_n : Tryd.f56.ntmps = 13 := by kernel_rfl
theorem kind_r : Tryd.f56.results.toList.map (trRes Tryd.prog) = [.tmp 2] := by kernel_rfl
theorem kind_spec {h : HP} {a0 : AV} {Post : HP → AV → List AV → Prop} (hp : ∀ (E : Env) (R : HP → AV → List AV → Prop), E.N ≤ 1000000 → PostTo Post R → vcW Tryd.prog E kind (KQ.post [.tmp 2] 1 R) ⟨[(0, a0)], h⟩) : Eng.Spec Tryd.prog 56 h [a0] Post := spec_wk (
  spec_of (c := kind.erase 38000) (B := 38000) Tryd.func56 kind_body (by rw [kind_n, kind_eq]) (by rw [kind_n]; decide) (by rw [kind_n]; exact (by decide : 1 ≤ 13)) (fun E hE hB hrd => by
    have hN : E.N ≤ 1000000 := by
      rw [hE, kind_n]; decide
    rw [kind_r, ← hB]
    exact awp_slots [(0, a0)] ⟨rfl, trivial⟩ (vcW_sound hN _ (hp E _ hN fin_self))))
/- cartulary/cartularyref08.Name -/
def rname_2o : List ROp := [.eff 9 false 39009 (.bsl 1 [(.c (.str [99, 111, 109, 109, 105, 116])), (.c (.str [116, 114, 101, 101])), (.c (.str [98, 108, 111, 98])), (.c (.str [116, 97, 103]))]),
   .v 10 (.mov (.t 0)),
   .v 11 (.bin .sub (.t 10) (.c (.int .i64 1))),
   .v 12 (.idxA 1 (.t 9) (.t 11)),
   .v 13 (.ld false 1 (.t 12)),
   .v 2 (.mov (.t 13))]
def rname_2 : AK := .seq (.reg rname_2o [2]) .ret
def rname_5o : List ROp := [.v 2 (.mov (.c (.str [])))]
def rname_5 : AK := .seq (.reg rname_5o [2]) .ret
def rname_4 : AK := .cond (.t 8) rname_5 .skip
def rname_3o : List ROp := [.v 3 (.mov (.t 0)),
   .v 4 (.bin .lss (.t 3) (.c (.int .i64 1))),
   .v 5 (.mov (.t 4)),
   .gval 6 5 false false 39006 (.mov (.t 0)),
   .gval 7 5 false false 39007 (.bin .gtr (.t 6) (.c (.int .i64 4))),
   .v 8 (.pick (.t 5) (.c (.bool true)) (.t 7))]
def rname_3 : AK := .seq (.reg rname_3o [0, 8]) rname_4
def rname_1 : AK := .seq rname_3 rname_2
def rname_0o : List ROp := [.v 2 (.mov (.c (.str [])))]
def rname_0 : AK := .seq (.reg rname_0o [0]) rname_1
def rname : AK := rname_0
theorem rname_vc (P : Program) (E : Env) (Q : KQ) (st : St) :
  (vcW P E rname_2 Q st = aopsW P rname_2o st (KS.reg [2] (KQ.seq P E .ret Q))) ∧
  (vcW P E rname_5 Q st = aopsW P rname_5o st (KS.reg [2] (KQ.seq P E .ret Q))) ∧
  (vcW P E rname_4 Q st = cndW P E (ev st (.t 8)) rname_5 .skip Q st) ∧
  (vcW P E rname_3 Q st = aopsW P rname_3o st (KS.reg [0, 8] (KQ.seq P E rname_4 Q))) ∧
  (vcW P E rname_1 Q st = vcW P E rname_3 (KQ.seq P E rname_2 Q) st) ∧
  (vcW P E rname_0 Q st = aopsW P rname_0o st (KS.reg [0] (KQ.seq P E rname_1 Q))) ∧
  (vcW P E rname Q st = vcW P E rname_0 Q st) :=
  ⟨rfl, rfl, vcW_cond, rfl, rfl, rfl, rfl⟩
theorem rname_jn (P : Program) (E : Env) (Q : KQ) (st : St) :
  (True) :=
  trivial
attribute [go_sem] rname_vc rname_2o rname_5o rname_3o rname_0o
noncomputable def rnameB : Code := (Tryd.f42.body).getD .skip
theorem rname_eq : trCode Tryd.prog 14 39000 rnameB = rname.erase 39000 := by kernel_rfl
theorem rname_body : Tryd.f42.body = some rnameB := by kernel_rfl
theorem rname_n : Tryd.f42.ntmps = 14 := by kernel_rfl
theorem rname_r : Tryd.f42.results.toList.map (trRes Tryd.prog) = [.tmp 2] := by kernel_rfl
theorem rname_spec {h : HP} {a0 : AV} {Post : HP → AV → List AV → Prop} (hp : ∀ (E : Env) (R : HP → AV → List AV → Prop), E.N ≤ 1000000 → PostTo Post R → vcW Tryd.prog E rname (KQ.post [.tmp 2] 1 R) ⟨[(0, a0)], h⟩) : Eng.Spec Tryd.prog 42 h [a0] Post := spec_wk (
  spec_of (c := rname.erase 39000) (B := 39000) Tryd.func42 rname_body (by rw [rname_n, rname_eq]) (by rw [rname_n]; decide) (by rw [rname_n]; exact (by decide : 1 ≤ 14)) (fun E hE hB hrd => by
    have hN : E.N ≤ 1000000 := by
      rw [hE, rname_n]; decide
    rw [rname_r, ← hB]
    exact awp_slots [(0, a0)] ⟨rfl, trivial⟩ (vcW_sound hN _ (hp E _ hN fin_self))))
/- cartulary/cartularyref08.Kind -/
def rkind_2o : List ROp := [.v 2 (.mov (.c (.int .i64 0)))]
def rkind_2 : AK := .seq (.reg rkind_2o [2]) .ret
def rkind_7o : List ROp := [.v 6 (.mov (.t 3)),
   .v 7 (.bin .add (.t 6) (.c (.int .i64 1))),
   .v 3 (.mov (.t 7))]
def rkind_7 : AK := .reg rkind_7o [0, 3]
def rkind_11o : List ROp := [.v 12 (.mov (.t 3)),
   .v 2 (.mov (.t 12))]
def rkind_11 : AK := .seq (.reg rkind_11o [2]) .ret
def rkind_10 : AK := .cond (.t 11) rkind_11 .skip
def rkind_9o : List ROp := [.v 8 (.mov (.t 3)),
   .cal (some 9) false 40009 42 [(.t 8)],
   .v 10 (.mov (.t 0)),
   .v 11 (.bin .eql (.t 9) (.t 10))]
def rkind_9 : AK := .seq (.reg rkind_9o [0, 3, 11]) rkind_10
def rkind_8 : AK := .block 1 rkind_9
def rkind_6 : AK := .seq rkind_8 rkind_7
def rkind_13 : AK := .cond (.t 5) .skip (.exit 0)
def rkind_12o : List ROp := [.v 4 (.mov (.t 3)),
   .v 5 (.bin .leq (.t 4) (.c (.int .i64 4)))]
def rkind_12 : AK := .seq (.reg rkind_12o [0, 3, 5]) rkind_13
def rkind_5 : AK := .seq rkind_12 rkind_6
def rkind_L0 : AK := .loop rkind_5
def rkind_4 : AK := .block 0 rkind_L0
def rkind_3o : List ROp := [.v 3 (.mov (.c (.int .i64 1)))]
def rkind_3 : AK := .seq (.reg rkind_3o [0, 3]) rkind_4
def rkind_1 : AK := .seq rkind_3 rkind_2
def rkind_0o : List ROp := [.v 2 (.mov (.c (.int .i64 0)))]
def rkind_0 : AK := .seq (.reg rkind_0o [0]) rkind_1
def rkind : AK := rkind_0
theorem rkind_vc (P : Program) (E : Env) (Q : KQ) (st : St) :
  (vcW P E rkind_2 Q st = aopsW P rkind_2o st (KS.reg [2] (KQ.seq P E .ret Q))) ∧
  (vcW P E rkind_7 Q st = aopsW P rkind_7o st (KS.reg [0, 3] Q)) ∧
  (vcW P E rkind_11 Q st = aopsW P rkind_11o st (KS.reg [2] (KQ.seq P E .ret Q))) ∧
  (vcW P E rkind_10 Q st = cndW P E (ev st (.t 11)) rkind_11 .skip Q st) ∧
  (vcW P E rkind_9 Q st = aopsW P rkind_9o st (KS.reg [0, 3, 11] (KQ.seq P E rkind_10 Q))) ∧
  (vcW P E rkind_8 Q st = vcW P E rkind_9 (KQ.blk 1 Q) st) ∧
  (vcW P E rkind_6 Q st = vcW P E rkind_8 (KQ.seq P E rkind_7 Q) st) ∧
  (vcW P E rkind_13 Q st = cndW P E (ev st (.t 5)) .skip (.exit 0) Q st) ∧
  (vcW P E rkind_12 Q st = aopsW P rkind_12o st (KS.reg [0, 3, 5] (KQ.seq P E rkind_13 Q))) ∧
  (vcW P E rkind_5 Q st = vcW P E rkind_12 (KQ.seq P E rkind_6 Q) st) ∧
  (vcW P E rkind_4 Q st = vcW P E rkind_L0 (KQ.blk 0 Q) st) ∧
  (vcW P E rkind_3 Q st = aopsW P rkind_3o st (KS.reg [0, 3] (KQ.seq P E rkind_4 Q))) ∧
  (vcW P E rkind_1 Q st = vcW P E rkind_3 (KQ.seq P E rkind_2 Q) st) ∧
  (vcW P E rkind_0 Q st = aopsW P rkind_0o st (KS.reg [0] (KQ.seq P E rkind_1 Q))) ∧
  (vcW P E rkind Q st = vcW P E rkind_0 Q st) :=
  ⟨rfl, rfl, rfl, vcW_cond, rfl, rfl, rfl, vcW_cond, rfl, rfl, rfl, rfl, rfl, rfl, rfl⟩
theorem rkind_jn (P : Program) (E : Env) (Q : KQ) (st : St) :
  (True) :=
  trivial
attribute [go_sem] rkind_vc rkind_2o rkind_7o rkind_11o rkind_9o rkind_12o rkind_3o rkind_0o
noncomputable def rkindB : Code := (Tryd.f44.body).getD .skip
theorem rkind_eq : trCode Tryd.prog 13 40000 rkindB = rkind.erase 40000 := by kernel_rfl
theorem rkind_body : Tryd.f44.body = some rkindB := by kernel_rfl
theorem rkind_n : Tryd.f44.ntmps = 13 := by kernel_rfl
theorem rkind_r : Tryd.f44.results.toList.map (trRes Tryd.prog) = [.tmp 2] := by kernel_rfl
theorem rkind_spec {h : HP} {a0 : AV} {Post : HP → AV → List AV → Prop} (hp : ∀ (E : Env) (R : HP → AV → List AV → Prop), E.N ≤ 1000000 → PostTo Post R → vcW Tryd.prog E rkind (KQ.post [.tmp 2] 1 R) ⟨[(0, a0)], h⟩) : Eng.Spec Tryd.prog 44 h [a0] Post := spec_wk (
  spec_of (c := rkind.erase 40000) (B := 40000) Tryd.func44 rkind_body (by rw [rkind_n, rkind_eq]) (by rw [rkind_n]; decide) (by rw [rkind_n]; exact (by decide : 1 ≤ 13)) (fun E hE hB hrd => by
    have hN : E.N ≤ 1000000 := by
      rw [hE, rkind_n]; decide
    rw [rkind_r, ← hB]
    exact awp_slots [(0, a0)] ⟨rfl, trivial⟩ (vcW_sound hN _ (hp E _ hN fin_self))))
/- cartulary/cartularyref08.Find -/
def find_2o : List ROp := [.v 4 (.mov (.c (.int .i64 (-1))))]
def find_2 : AK := .seq (.reg find_2o [4]) .ret
def find_7o : List ROp := [.v 10 (.mov (.t 5)),
   .v 11 (.bin .add (.t 10) (.c (.int .i64 1))),
   .v 5 (.mov (.t 11))]
def find_7 : AK := .reg find_7o [0, 1, 5]
def find_11o : List ROp := [.v 17 (.mov (.t 5)),
   .v 4 (.mov (.t 17))]
def find_11 : AK := .seq (.reg find_11o [4]) .ret
def find_10 : AK := .cond (.t 16) find_11 .skip
def find_9o : List ROp := [.v 12 (.mov (.t 0)),
   .v 13 (.mov (.t 5)),
   .v 14 (.sidx (.t 12) (.t 13)),
   .v 15 (.mov (.t 1)),
   .v 16 (.bin .eql (.t 14) (.t 15))]
def find_9 : AK := .seq (.reg find_9o [0, 1, 5, 16]) find_10
def find_8 : AK := .block 1 find_9
def find_6 : AK := .seq find_8 find_7
def find_13 : AK := .cond (.t 9) .skip (.exit 0)
def find_12o : List ROp := [.v 6 (.mov (.t 5)),
   .v 7 (.mov (.t 0)),
   .v 8 (.len true (.t 7)),
   .v 9 (.bin .lss (.t 6) (.t 8))]
def find_12 : AK := .seq (.reg find_12o [0, 1, 5, 9]) find_13
def find_5 : AK := .seq find_12 find_6
def find_L0 : AK := .loop find_5
def find_4 : AK := .block 0 find_L0
def find_3o : List ROp := [.v 5 (.mov (.c (.int .i64 0)))]
def find_3 : AK := .seq (.reg find_3o [0, 1, 5]) find_4
def find_1 : AK := .seq find_3 find_2
def find_0o : List ROp := [.v 4 (.mov (.c (.int .i64 0)))]
def find_0 : AK := .seq (.reg find_0o [0, 1]) find_1
def find : AK := find_0
theorem find_vc (P : Program) (E : Env) (Q : KQ) (st : St) :
  (vcW P E find_2 Q st = aopsW P find_2o st (KS.reg [4] (KQ.seq P E .ret Q))) ∧
  (vcW P E find_7 Q st = aopsW P find_7o st (KS.reg [0, 1, 5] Q)) ∧
  (vcW P E find_11 Q st = aopsW P find_11o st (KS.reg [4] (KQ.seq P E .ret Q))) ∧
  (vcW P E find_10 Q st = cndW P E (ev st (.t 16)) find_11 .skip Q st) ∧
  (vcW P E find_9 Q st = aopsW P find_9o st (KS.reg [0, 1, 5, 16] (KQ.seq P E find_10 Q))) ∧
  (vcW P E find_8 Q st = vcW P E find_9 (KQ.blk 1 Q) st) ∧
  (vcW P E find_6 Q st = vcW P E find_8 (KQ.seq P E find_7 Q) st) ∧
  (vcW P E find_13 Q st = cndW P E (ev st (.t 9)) .skip (.exit 0) Q st) ∧
  (vcW P E find_12 Q st = aopsW P find_12o st (KS.reg [0, 1, 5, 9] (KQ.seq P E find_13 Q))) ∧
  (vcW P E find_5 Q st = vcW P E find_12 (KQ.seq P E find_6 Q) st) ∧
  (vcW P E find_4 Q st = vcW P E find_L0 (KQ.blk 0 Q) st) ∧
  (vcW P E find_3 Q st = aopsW P find_3o st (KS.reg [0, 1, 5] (KQ.seq P E find_4 Q))) ∧
  (vcW P E find_1 Q st = vcW P E find_3 (KQ.seq P E find_2 Q) st) ∧
  (vcW P E find_0 Q st = aopsW P find_0o st (KS.reg [0, 1] (KQ.seq P E find_1 Q))) ∧
  (vcW P E find Q st = vcW P E find_0 Q st) :=
  ⟨rfl, rfl, rfl, vcW_cond, rfl, rfl, rfl, vcW_cond, rfl, rfl, rfl, rfl, rfl, rfl, rfl⟩
theorem find_jn (P : Program) (E : Env) (Q : KQ) (st : St) :
  (True) :=
  trivial
attribute [go_sem] find_vc find_2o find_7o find_11o find_9o find_12o find_3o find_0o
noncomputable def findB : Code := (Tryd.f33.body).getD .skip
theorem find_eq : trCode Tryd.prog 18 41000 findB = find.erase 41000 := by kernel_rfl
theorem find_body : Tryd.f33.body = some findB := by kernel_rfl
theorem find_n : Tryd.f33.ntmps = 18 := by kernel_rfl
theorem find_r : Tryd.f33.results.toList.map (trRes Tryd.prog) = [.tmp 4] := by kernel_rfl
theorem find_spec {h : HP} {a0 a1 : AV} {Post : HP → AV → List AV → Prop} (hp : ∀ (E : Env) (R : HP → AV → List AV → Prop), E.N ≤ 1000000 → PostTo Post R → vcW Tryd.prog E find (KQ.post [.tmp 4] 2 R) ⟨[(0, a0), (1, a1)], h⟩) : Eng.Spec Tryd.prog 33 h [a0, a1] Post := spec_wk (
  spec_of (c := find.erase 41000) (B := 41000) Tryd.func33 find_body (by rw [find_n, find_eq]) (by rw [find_n]; decide) (by rw [find_n]; exact (by decide : 2 ≤ 18)) (fun E hE hB hrd => by
    have hN : E.N ≤ 1000000 := by
      rw [hE, find_n]; decide
    rw [find_r, ← hB]
    exact awp_slots [(0, a0), (1, a1)] ⟨rfl, rfl, trivial⟩ (vcW_sound hN _ (hp E _ hN fin_self))))
/- cartulary/cartularyref08.Digits -/
def digits8_4o : List ROp := [.val 29 true 42029 (.mov (.t 0)),
   .val 30 true 42030 (.bin .quo (.t 29) (.c (.int .i64 10))),
   .val 32 true 42032 (.mov (.t 0)),
   .val 33 true 42033 (.bin .rem (.t 32) (.c (.int .i64 10))),
   .val 34 true 42034 (.mov (.t 0)),
   .val 35 true 42035 (.bin .rem (.t 34) (.c (.int .i64 10))),
   .val 36 true 42036 (.bin .add (.t 35) (.c (.int .i64 1))),
   .val 37 true 42037 (.slcS (.c (.str [48, 49, 50, 51, 52, 53, 54, 55, 56, 57])) (some (.t 33)) (some (.t 36))),
   .cal (some 31) true 42031 39 [(.t 30)],
   .v 38 (.bin .add (.t 31) (.t 37)),
   .v 2 (.mov (.t 38))]
def digits8_4 : AK := .seq (.reg digits8_4o [2]) .ret
def digits8_7o : List ROp := [.v 25 (.mov (.t 0)),
   .v 26 (.mov (.t 0)),
   .v 27 (.bin .add (.t 26) (.c (.int .i64 1))),
   .v 28 (.slcS (.c (.str [48, 49, 50, 51, 52, 53, 54, 55, 56, 57])) (some (.t 25)) (some (.t 27))),
   .v 2 (.mov (.t 28))]
def digits8_7 : AK := .seq (.reg digits8_7o [2]) .ret
def digits8_6 : AK := .cond (.t 24) digits8_7 .skip
def digits8_5o : List ROp := [.v 23 (.mov (.t 0)),
   .v 24 (.bin .lss (.t 23) (.c (.int .i64 10)))]
def digits8_5 : AK := .seq (.reg digits8_5o [0, 24]) digits8_6
def digits8_3 : AK := .seq digits8_5 digits8_4
def digits8_10o : List ROp := [.v 15 (.mov (.t 0)),
   .v 16 (.bin .quo (.t 15) (.c (.int .i64 10))),
   .cal (some 17) false 42017 39 [(.t 16)],
   .v 18 (.mov (.t 0)),
   .v 19 (.bin .rem (.t 18) (.c (.int .i64 10))),
   .v 20 (.un .neg (.t 19)),
   .cal (some 21) false 42021 39 [(.t 20)],
   .v 22 (.bin .add (.t 17) (.t 21)),
   .v 2 (.mov (.t 22))]
def digits8_10 : AK := .seq (.reg digits8_10o [2]) .ret
def digits8_9 : AK := .cond (.t 14) digits8_10 .skip
def digits8_8o : List ROp := [.v 13 (.mov (.t 0)),
   .v 14 (.bin .lss (.t 13) (.c (.int .i64 0)))]
def digits8_8 : AK := .seq (.reg digits8_8o [0, 14]) digits8_9
def digits8_2 : AK := .seq digits8_8 digits8_3
def digits8_13o : List ROp := [.v 9 (.mov (.t 0)),
   .v 10 (.un .neg (.t 9)),
   .cal (some 11) false 42011 39 [(.t 10)],
   .v 12 (.bin .add (.c (.str [45])) (.t 11)),
   .v 2 (.mov (.t 12))]
def digits8_13 : AK := .seq (.reg digits8_13o [2]) .ret
def digits8_12 : AK := .cond (.t 8) digits8_13 .skip
def digits8_11o : List ROp := [.v 3 (.mov (.t 0)),
   .v 4 (.bin .lss (.t 3) (.c (.int .i64 0))),
   .v 5 (.mov (.t 4)),
   .gval 6 5 true false 42006 (.mov (.t 0)),
   .gval 7 5 true false 42007 (.bin .gtr (.t 6) (.c (.int .i64 (-10)))),
   .v 8 (.pick (.t 5) (.t 7) (.c (.bool false)))]
def digits8_11 : AK := .seq (.reg digits8_11o [0, 8]) digits8_12
def digits8_1 : AK := .seq digits8_11 digits8_2
def digits8_0o : List ROp := [.v 2 (.mov (.c (.str [])))]
def digits8_0 : AK := .seq (.reg digits8_0o [0]) digits8_1
def digits8 : AK := digits8_0
theorem digits8_vc (P : Program) (E : Env) (Q : KQ) (st : St) :
  (vcW P E digits8_4 Q st = aopsW P digits8_4o st (KS.reg [2] (KQ.seq P E .ret Q))) ∧
  (vcW P E digits8_7 Q st = aopsW P digits8_7o st (KS.reg [2] (KQ.seq P E .ret Q))) ∧
  (vcW P E digits8_6 Q st = cndW P E (ev st (.t 24)) digits8_7 .skip Q st) ∧
  (vcW P E digits8_5 Q st = aopsW P digits8_5o st (KS.reg [0, 24] (KQ.seq P E digits8_6 Q))) ∧
  (vcW P E digits8_3 Q st = vcW P E digits8_5 (KQ.seq P E digits8_4 Q) st) ∧
  (vcW P E digits8_10 Q st = aopsW P digits8_10o st (KS.reg [2] (KQ.seq P E .ret Q))) ∧
  (vcW P E digits8_9 Q st = cndW P E (ev st (.t 14)) digits8_10 .skip Q st) ∧
  (vcW P E digits8_8 Q st = aopsW P digits8_8o st (KS.reg [0, 14] (KQ.seq P E digits8_9 Q))) ∧
  (vcW P E digits8_2 Q st = vcW P E digits8_8 (KQ.seq P E digits8_3 Q) st) ∧
  (vcW P E digits8_13 Q st = aopsW P digits8_13o st (KS.reg [2] (KQ.seq P E .ret Q))) ∧
  (vcW P E digits8_12 Q st = cndW P E (ev st (.t 8)) digits8_13 .skip Q st) ∧
  (vcW P E digits8_11 Q st = aopsW P digits8_11o st (KS.reg [0, 8] (KQ.seq P E digits8_12 Q))) ∧
  (vcW P E digits8_1 Q st = vcW P E digits8_11 (KQ.seq P E digits8_2 Q) st) ∧
  (vcW P E digits8_0 Q st = aopsW P digits8_0o st (KS.reg [0] (KQ.seq P E digits8_1 Q))) ∧
  (vcW P E digits8 Q st = vcW P E digits8_0 Q st) :=
  ⟨rfl, rfl, vcW_cond, rfl, rfl, rfl, vcW_cond, rfl, rfl, rfl, vcW_cond, rfl, rfl, rfl, rfl⟩
theorem digits8_jn (P : Program) (E : Env) (Q : KQ) (st : St) :
  (True) :=
  trivial
attribute [go_sem] digits8_vc digits8_4o digits8_7o digits8_5o digits8_10o digits8_8o digits8_13o digits8_11o digits8_0o
noncomputable def digits8B : Code := (Tryd.f39.body).getD .skip
theorem digits8_eq : trCode Tryd.prog 39 42000 digits8B = digits8.erase 42000 := by kernel_rfl
theorem digits8_body : Tryd.f39.body = some digits8B := by kernel_rfl
theorem digits8_n : Tryd.f39.ntmps = 39 := by kernel_rfl
theorem digits8_r : Tryd.f39.results.toList.map (trRes Tryd.prog) = [.tmp 2] := by kernel_rfl
theorem digits8_spec {h : HP} {a0 : AV} {Post : HP → AV → List AV → Prop} (hp : ∀ (E : Env) (R : HP → AV → List AV → Prop), E.N ≤ 1000000 → PostTo Post R → vcW Tryd.prog E digits8 (KQ.post [.tmp 2] 1 R) ⟨[(0, a0)], h⟩) : Eng.Spec Tryd.prog 39 h [a0] Post := spec_wk (
  spec_of (c := digits8.erase 42000) (B := 42000) Tryd.func39 digits8_body (by rw [digits8_n, digits8_eq]) (by rw [digits8_n]; decide) (by rw [digits8_n]; exact (by decide : 1 ≤ 39)) (fun E hE hB hrd => by
    have hN : E.N ≤ 1000000 := by
      rw [hE, digits8_n]; decide
    rw [digits8_r, ← hB]
    exact awp_slots [(0, a0)] ⟨rfl, trivial⟩ (vcW_sound hN _ (hp E _ hN fin_self))))
/- strings.Cut -/
def scut_1o : List ROp := [.v 7 (.mov (.t 0)),
   .v 8 (.mov (.t 1)),
   .cal (some 9) false 60009 73 [(.t 7), (.t 8)],
   .v 10 (.ext (.t 9) 0),
   .v 11 (.ext (.t 9) 1),
   .v 12 (.ext (.t 9) 2),
   .v 4 (.mov (.t 10)),
   .v 5 (.mov (.t 11)),
   .v 6 (.mov (.t 12))]
def scut_1 : AK := .seq (.reg scut_1o [4, 5, 6]) .ret
def scut_0o : List ROp := [.v 4 (.mov (.c (.str []))),
   .v 5 (.mov (.c (.str []))),
   .v 6 (.mov (.c (.bool false)))]
def scut_0 : AK := .seq (.reg scut_0o [0, 1]) scut_1
def scut : AK := scut_0
theorem scut_vc (P : Program) (E : Env) (Q : KQ) (st : St) :
  (vcW P E scut_1 Q st = aopsW P scut_1o st (KS.reg [4, 5, 6] (KQ.seq P E .ret Q))) ∧
  (vcW P E scut_0 Q st = aopsW P scut_0o st (KS.reg [0, 1] (KQ.seq P E scut_1 Q))) ∧
  (vcW P E scut Q st = vcW P E scut_0 Q st) :=
  ⟨rfl, rfl, rfl⟩
theorem scut_jn (P : Program) (E : Env) (Q : KQ) (st : St) :
  (True) :=
  trivial
attribute [go_sem] scut_vc scut_1o scut_0o
noncomputable def scutB : Code := (Tryd.f63.body).getD .skip
theorem scut_eq : trCode Tryd.prog 13 60000 scutB = scut.erase 60000 := by kernel_rfl
theorem scut_body : Tryd.f63.body = some scutB := by kernel_rfl
theorem scut_n : Tryd.f63.ntmps = 13 := by kernel_rfl
theorem scut_r : Tryd.f63.results.toList.map (trRes Tryd.prog) = [.tmp 4, .tmp 5, .tmp 6] := by kernel_rfl
theorem scut_spec {h : HP} {a0 a1 : AV} {Post : HP → AV → List AV → Prop} (hp : ∀ (E : Env) (R : HP → AV → List AV → Prop), E.N ≤ 1000000 → PostTo Post R → vcW Tryd.prog E scut (KQ.post [.tmp 4, .tmp 5, .tmp 6] 2 R) ⟨[(0, a0), (1, a1)], h⟩) : Eng.Spec Tryd.prog 63 h [a0, a1] Post := spec_wk (
  spec_of (c := scut.erase 60000) (B := 60000) Tryd.func63 scut_body (by rw [scut_n, scut_eq]) (by rw [scut_n]; decide) (by rw [scut_n]; exact (by decide : 2 ≤ 13)) (fun E hE hB hrd => by
    have hN : E.N ≤ 1000000 := by
      rw [hE, scut_n]; decide
    rw [scut_r, ← hB]
    exact awp_slots [(0, a0), (1, a1)] ⟨rfl, rfl, trivial⟩ (vcW_sound hN _ (hp E _ hN fin_self))))
/- internal/stringslite.Cut -/
def lcut_2o : List ROp := [.v 22 (.mov (.t 0)),
   .v 4 (.mov (.t 22)),
   .v 5 (.mov (.c (.str []))),
   .v 6 (.mov (.c (.bool false)))]
def lcut_2 : AK := .seq (.reg lcut_2o [4, 5, 6]) .ret
def lcut_6o : List ROp := [.val 13 true 61013 (.mov (.t 0)),
   .val 14 true 61014 (.mov (.t 7)),
   .val 15 true 61015 (.slcS (.t 13) none (some (.t 14))),
   .val 16 true 61016 (.mov (.t 0)),
   .val 17 true 61017 (.mov (.t 7)),
   .val 18 true 61018 (.mov (.t 1)),
   .val 19 true 61019 (.len true (.t 18)),
   .val 20 true 61020 (.bin .add (.t 17) (.t 19)),
   .val 21 true 61021 (.slcS (.t 16) (some (.t 20)) none),
   .val 4 true 61004 (.mov (.t 15)),
   .v 5 (.mov (.t 21)),
   .v 6 (.mov (.c (.bool true)))]
def lcut_6 : AK := .seq (.reg lcut_6o [4, 5, 6]) .ret
def lcut_5 : AK := .cond (.t 12) lcut_6 .skip
def lcut_4o : List ROp := [.v 11 (.mov (.t 7)),
   .v 12 (.bin .geq (.t 11) (.c (.int .i64 0)))]
def lcut_4 : AK := .seq (.reg lcut_4o [0, 1, 7, 12]) lcut_5
def lcut_3o : List ROp := [.v 8 (.mov (.t 0)),
   .v 9 (.mov (.t 1)),
   .cal (some 10) false 61010 83 [(.t 8), (.t 9)],
   .v 7 (.mov (.t 10))]
def lcut_3 : AK := .seq (.reg lcut_3o [0, 1, 7]) lcut_4
def lcut_1 : AK := .seq lcut_3 lcut_2
def lcut_0o : List ROp := [.v 4 (.mov (.c (.str []))),
   .v 5 (.mov (.c (.str []))),
   .v 6 (.mov (.c (.bool false)))]
def lcut_0 : AK := .seq (.reg lcut_0o [0, 1]) lcut_1
def lcut : AK := lcut_0
theorem lcut_vc (P : Program) (E : Env) (Q : KQ) (st : St) :
  (vcW P E lcut_2 Q st = aopsW P lcut_2o st (KS.reg [4, 5, 6] (KQ.seq P E .ret Q))) ∧
  (vcW P E lcut_6 Q st = aopsW P lcut_6o st (KS.reg [4, 5, 6] (KQ.seq P E .ret Q))) ∧
  (vcW P E lcut_5 Q st = cndW P E (ev st (.t 12)) lcut_6 .skip Q st) ∧
  (vcW P E lcut_4 Q st = aopsW P lcut_4o st (KS.reg [0, 1, 7, 12] (KQ.seq P E lcut_5 Q))) ∧
  (vcW P E lcut_3 Q st = aopsW P lcut_3o st (KS.reg [0, 1, 7] (KQ.seq P E lcut_4 Q))) ∧
  (vcW P E lcut_1 Q st = vcW P E lcut_3 (KQ.seq P E lcut_2 Q) st) ∧
  (vcW P E lcut_0 Q st = aopsW P lcut_0o st (KS.reg [0, 1] (KQ.seq P E lcut_1 Q))) ∧
  (vcW P E lcut Q st = vcW P E lcut_0 Q st) :=
  ⟨rfl, rfl, vcW_cond, rfl, rfl, rfl, rfl, rfl⟩
theorem lcut_jn (P : Program) (E : Env) (Q : KQ) (st : St) :
  (True) :=
  trivial
attribute [go_sem] lcut_vc lcut_2o lcut_6o lcut_4o lcut_3o lcut_0o
noncomputable def lcutB : Code := (Tryd.f73.body).getD .skip
theorem lcut_eq : trCode Tryd.prog 23 61000 lcutB = lcut.erase 61000 := by kernel_rfl
theorem lcut_body : Tryd.f73.body = some lcutB := by kernel_rfl
theorem lcut_n : Tryd.f73.ntmps = 23 := by kernel_rfl
theorem lcut_r : Tryd.f73.results.toList.map (trRes Tryd.prog) = [.tmp 4, .tmp 5, .tmp 6] := by kernel_rfl
theorem lcut_spec {h : HP} {a0 a1 : AV} {Post : HP → AV → List AV → Prop} (hp : ∀ (E : Env) (R : HP → AV → List AV → Prop), E.N ≤ 1000000 → PostTo Post R → vcW Tryd.prog E lcut (KQ.post [.tmp 4, .tmp 5, .tmp 6] 2 R) ⟨[(0, a0), (1, a1)], h⟩) : Eng.Spec Tryd.prog 73 h [a0, a1] Post := spec_wk (
  spec_of (c := lcut.erase 61000) (B := 61000) Tryd.func73 lcut_body (by rw [lcut_n, lcut_eq]) (by rw [lcut_n]; decide) (by rw [lcut_n]; exact (by decide : 2 ≤ 23)) (fun E hE hB hrd => by
    have hN : E.N ≤ 1000000 := by
      rw [hE, lcut_n]; decide
    rw [lcut_r, ← hB]
    exact awp_slots [(0, a0), (1, a1)] ⟨rfl, rfl, trivial⟩ (vcW_sound hN _ (hp E _ hN fin_self))))
/- strings.IndexRune -/
def irune_4o : List ROp := [.v 167 (.mov (.t 0)),
   .v 168 (.mov (.t 1)),
   .v 169 (.cvi .u8 (.t 168)),
   .cal (some 170) false 62170 69 [(.t 167), (.t 169)],
   .v 4 (.mov (.t 170))]
def irune_4 : AK := .seq (.reg irune_4o [4]) .ret
def irune_8o : List ROp := [.v 4 (.mov (.c (.int .i64 (-1))))]
def irune_8 : AK := .seq (.reg irune_8o [4]) .ret
def irune_17o : List ROp := [.v 182 (.mov (.t 5)),
   .v 4 (.mov (.t 182))]
def irune_17 : AK := .seq (.reg irune_17o [4]) .ret
def irune_16 : AK := .cond (.t 181) irune_17 .skip
def irune_15o : List ROp := [.v 180 (.mov (.t 6)),
   .v 181 (.bin .eql (.t 180) (.c (.int .i32 65533)))]
def irune_15 : AK := .seq (.reg irune_15o [5, 181]) irune_16
def irune_14o : List ROp := [.v 178 (.ext (.t 176) 1),
   .v 179 (.ext (.t 176) 2),
   .v 5 (.mov (.t 178)),
   .v 6 (.mov (.t 179))]
def irune_14 : AK := .seq (.reg irune_14o [5, 6]) irune_15
def irune_13 : AK := .block 10 irune_14
def irune_18 : AK := .cond (.t 177) .skip (.exit 9)
def irune_12 : AK := .seq irune_18 irune_13
def irune_11o : List ROp := [.v 176 (.bad),
   .v 177 (.ext (.t 176) 0)]
def irune_11 : AK := .seq (.reg irune_11o [176, 177]) irune_12
def irune_L0 : AK := .loop irune_11
def irune_10 : AK := .block 9 irune_L0
def irune_9o : List ROp := [.v 174 (.mov (.t 0)),
   .v 175 (.bad)]
def irune_9 : AK := .seq (.reg irune_9o []) irune_10
def irune_7 : AK := .seq irune_9 irune_8
def irune_21o : List ROp := [.v 4 (.mov (.c (.int .i64 (-1))))]
def irune_21 : AK := .seq (.reg irune_21o [4]) .ret
def irune_30o : List ROp := [.v 4 (.mov (.c (.int .i64 (-1))))]
def irune_30 : AK := .seq (.reg irune_30o [4]) .ret
def irune_35o : List ROp := [.v 109 (.mov (.t 9)),
   .v 110 (.mov (.t 13)),
   .v 111 (.bin .add (.t 109) (.t 110)),
   .v 112 (.mov (.t 8)),
   .v 113 (.bin .sub (.t 111) (.t 112)),
   .v 4 (.mov (.t 113))]
def irune_35 : AK := .seq (.reg irune_35o [4]) .ret
def irune_34 : AK := .cond (.t 108) irune_35 .skip
def irune_33o : List ROp := [.v 107 (.mov (.t 13)),
   .v 108 (.bin .geq (.t 107) (.c (.int .i64 0)))]
def irune_33 : AK := .seq (.reg irune_33o [8, 9, 13, 108]) irune_34
def irune_32o : List ROp := [.v 99 (.mov (.t 0)),
   .v 100 (.mov (.t 9)),
   .v 101 (.mov (.t 8)),
   .v 102 (.bin .sub (.t 100) (.t 101)),
   .v 103 (.slcS (.t 99) (some (.t 102)) none),
   .v 104 (.mov (.t 1)),
   .v 105 (.cvs (.t 104)),
   .v 106 (.bad),
   .v 13 (.mov (.t 106))]
def irune_32 : AK := .seq (.reg irune_32o [8, 9, 13]) irune_33
def irune_42o : List ROp := [.v 125 (.mov (.t 9)),
   .v 126 (.bin .add (.t 125) (.c (.int .i64 1))),
   .v 9 (.mov (.t 126))]
def irune_42 : AK := .reg irune_42o [0, 7, 8, 9, 14, 15]
def irune_47o : List ROp := [.v 157 (.mov (.t 9)),
   .v 158 (.mov (.t 8)),
   .v 159 (.bin .sub (.t 157) (.t 158)),
   .v 4 (.mov (.t 159))]
def irune_47 : AK := .seq (.reg irune_47o [4]) .ret
def irune_52o : List ROp := [.v 144 (.mov (.t 16)),
   .v 145 (.bin .add (.t 144) (.c (.int .i64 1))),
   .v 16 (.mov (.t 145))]
def irune_52 : AK := .reg irune_52o [0, 7, 8, 9, 14, 15, 16]
def irune_55 : AK := .cond (.t 156) (.exit 6) .skip
def irune_54o : List ROp := [.val 146 true 62146 (.mov (.t 0)),
   .val 147 true 62147 (.mov (.t 9)),
   .val 148 true 62148 (.mov (.t 16)),
   .val 149 true 62149 (.bin .sub (.t 147) (.t 148)),
   .val 150 true 62150 (.sidx (.t 146) (.t 149)),
   .val 151 true 62151 (.mov (.t 7)),
   .val 152 true 62152 (.mov (.t 8)),
   .val 153 true 62153 (.mov (.t 16)),
   .val 154 true 62154 (.bin .sub (.t 152) (.t 153)),
   .val 155 true 62155 (.sidx (.t 151) (.t 154)),
   .v 156 (.bin .neq (.t 150) (.t 155))]
def irune_54 : AK := .seq (.reg irune_54o [0, 7, 8, 9, 14, 15, 16, 156]) irune_55
def irune_53 : AK := .block 8 irune_54
def irune_51 : AK := .seq irune_53 irune_52
def irune_57 : AK := .cond (.t 143) .skip (.exit 7)
def irune_56o : List ROp := [.v 140 (.mov (.t 16)),
   .v 141 (.mov (.t 7)),
   .v 142 (.len true (.t 141)),
   .v 143 (.bin .lss (.t 140) (.t 142))]
def irune_56 : AK := .seq (.reg irune_56o [0, 7, 8, 9, 14, 15, 16, 143]) irune_57
def irune_50 : AK := .seq irune_56 irune_51
def irune_L2 : AK := .loop irune_50
def irune_49 : AK := .block 7 irune_L2
def irune_48o : List ROp := [.v 16 (.mov (.c (.int .i64 2)))]
def irune_48 : AK := .seq (.reg irune_48o [0, 7, 8, 9, 14, 15, 16]) irune_49
def irune_46 : AK := .seq irune_48 irune_47
def irune_45 : AK := .cond (.t 139) irune_46 .skip
def irune_44o : List ROp := [.v 127 (.mov (.t 0)),
   .v 128 (.mov (.t 9)),
   .v 129 (.sidx (.t 127) (.t 128)),
   .v 130 (.mov (.t 14)),
   .v 131 (.bin .eql (.t 129) (.t 130)),
   .v 132 (.mov (.t 131)),
   .gval 133 132 true false 62133 (.mov (.t 0)),
   .gval 134 132 true false 62134 (.mov (.t 9)),
   .gval 135 132 true false 62135 (.bin .sub (.t 134) (.c (.int .i64 1))),
   .gval 136 132 true false 62136 (.sidx (.t 133) (.t 135)),
   .gval 137 132 true false 62137 (.mov (.t 15)),
   .gval 138 132 true false 62138 (.bin .eql (.t 136) (.t 137)),
   .v 139 (.pick (.t 132) (.t 138) (.c (.bool false)))]
def irune_44 : AK := .seq (.reg irune_44o [0, 7, 8, 9, 14, 15, 139]) irune_45
def irune_43 : AK := .block 6 irune_44
def irune_41 : AK := .seq irune_43 irune_42
def irune_59 : AK := .cond (.t 124) .skip (.exit 5)
def irune_58o : List ROp := [.v 121 (.mov (.t 9)),
   .v 122 (.mov (.t 0)),
   .v 123 (.len true (.t 122)),
   .v 124 (.bin .lss (.t 121) (.t 123))]
def irune_58 : AK := .seq (.reg irune_58o [0, 7, 8, 9, 14, 15, 124]) irune_59
def irune_40 : AK := .seq irune_58 irune_41
def irune_L1 : AK := .loop irune_40
def irune_39 : AK := .block 5 irune_L1
def irune_38 : AK := .seq (.label 2) irune_39
def irune_37o : List ROp := [.v 117 (.mov (.t 7)),
   .v 118 (.mov (.t 8)),
   .v 119 (.bin .sub (.t 118) (.c (.int .i64 1))),
   .v 120 (.sidx (.t 117) (.t 119)),
   .v 15 (.mov (.t 120))]
def irune_37 : AK := .seq (.reg irune_37o [0, 7, 8, 9, 14, 15]) irune_38
def irune_36o : List ROp := [.v 114 (.mov (.t 7)),
   .v 115 (.mov (.t 8)),
   .v 116 (.sidx (.t 114) (.t 115)),
   .v 14 (.mov (.t 116))]
def irune_36 : AK := .seq (.reg irune_36o [0, 7, 8, 9, 14]) irune_37
def irune_S2 : AK := .scope irune_36
def irune_31 : AK := .cond (.c (.bool true)) irune_32 irune_S2
def irune_29 : AK := .seq irune_31 irune_30
def irune_28 : AK := .seq (.label 1) irune_29
def irune_60o : List ROp := [.v 4 (.mov (.c (.int .i64 (-1))))]
def irune_60 : AK := .seq (.reg irune_60o [4]) .ret
def irune_27 : AK := .seq irune_60 irune_28
def irune_71 : AK := .cond (.t 98) (.goto 1) .skip
def irune_70o : List ROp := [.v 72 (.mov (.c (.bool true))),
   .gval 73 72 true false 62073 (.mov (.t 10)),
   .gval 74 72 true false 62074 (.mov (.t 9)),
   .gcal 75 72 true false 62075 71 [(.t 74)],
   .gval 76 72 true false 62076 (.bin .gtr (.t 73) (.t 75)),
   .v 77 (.pick (.t 72) (.t 76) (.c (.bool false))),
   .v 78 (.mov (.t 77)),
   .gval 79 78 true false 62079 (.mov (.t 9)),
   .gval 80 78 true false 62080 (.mov (.t 0)),
   .gval 81 78 true false 62081 (.len true (.t 80)),
   .gval 82 78 true false 62082 (.bin .lss (.t 79) (.t 81)),
   .v 83 (.pick (.t 78) (.t 82) (.c (.bool false))),
   .v 84 (.mov (.t 83)),
   .gval 85 84 false false 62085 (.mov (.c (.bool false))),
   .gval 86 85 true false 62086 (.mov (.t 10)),
   .gval 87 85 true false 62087 (.mov (.t 9)),
   .gval 88 85 true false 62088 (.bin .shr (.t 87) (.c (.int .u64 4))),
   .gval 89 85 true false 62089 (.bin .add (.c (.int .i64 4)) (.t 88)),
   .gval 90 85 true false 62090 (.bin .geq (.t 86) (.t 89)),
   .gval 91 84 false false 62091 (.pick (.t 85) (.t 90) (.c (.bool false))),
   .gval 92 84 false false 62092 (.mov (.t 91)),
   .gval 93 92 true false 62093 (.mov (.t 9)),
   .gval 94 92 true false 62094 (.mov (.t 0)),
   .gval 95 92 true false 62095 (.len true (.t 94)),
   .gval 96 92 true false 62096 (.bin .lss (.t 93) (.t 95)),
   .gval 97 84 false false 62097 (.pick (.t 92) (.t 96) (.c (.bool false))),
   .v 98 (.pick (.t 84) (.c (.bool true)) (.t 97))]
def irune_70 : AK := .seq (.reg irune_70o [0, 1, 7, 8, 9, 10, 98]) irune_71
def irune_69o : List ROp := [.v 70 (.mov (.t 9)),
   .v 71 (.bin .add (.t 70) (.c (.int .i64 1))),
   .v 9 (.mov (.t 71))]
def irune_69 : AK := .seq (.reg irune_69o [0, 1, 7, 8, 9, 10]) irune_70
def irune_68o : List ROp := [.v 68 (.mov (.t 10)),
   .v 69 (.bin .add (.t 68) (.c (.int .i64 1))),
   .v 10 (.mov (.t 69))]
def irune_68 : AK := .seq (.reg irune_68o [0, 1, 7, 8, 9, 10]) irune_69
def irune_67 : AK := .seq (.label 0) irune_68
def irune_72o : List ROp := [.v 65 (.mov (.t 9)),
   .v 66 (.mov (.t 8)),
   .v 67 (.bin .sub (.t 65) (.t 66)),
   .v 4 (.mov (.t 67))]
def irune_72 : AK := .seq (.reg irune_72o [4]) .ret
def irune_66 : AK := .seq irune_72 irune_67
def irune_77o : List ROp := [.v 52 (.mov (.t 12)),
   .v 53 (.bin .add (.t 52) (.c (.int .i64 1))),
   .v 12 (.mov (.t 53))]
def irune_77 : AK := .reg irune_77o [0, 1, 7, 8, 9, 10, 12]
def irune_80 : AK := .cond (.t 64) (.goto 0) .skip
def irune_79o : List ROp := [.val 54 true 62054 (.mov (.t 0)),
   .val 55 true 62055 (.mov (.t 9)),
   .val 56 true 62056 (.mov (.t 12)),
   .val 57 true 62057 (.bin .sub (.t 55) (.t 56)),
   .val 58 true 62058 (.sidx (.t 54) (.t 57)),
   .val 59 true 62059 (.mov (.t 7)),
   .val 60 true 62060 (.mov (.t 8)),
   .val 61 true 62061 (.mov (.t 12)),
   .val 62 true 62062 (.bin .sub (.t 60) (.t 61)),
   .val 63 true 62063 (.sidx (.t 59) (.t 62)),
   .v 64 (.bin .neq (.t 58) (.t 63))]
def irune_79 : AK := .seq (.reg irune_79o [0, 1, 7, 8, 9, 10, 12, 64]) irune_80
def irune_78 : AK := .block 4 irune_79
def irune_76 : AK := .seq irune_78 irune_77
def irune_82 : AK := .cond (.t 51) .skip (.exit 3)
def irune_81o : List ROp := [.v 48 (.mov (.t 12)),
   .v 49 (.mov (.t 7)),
   .v 50 (.len true (.t 49)),
   .v 51 (.bin .lss (.t 48) (.t 50))]
def irune_81 : AK := .seq (.reg irune_81o [0, 1, 7, 8, 9, 10, 12, 51]) irune_82
def irune_75 : AK := .seq irune_81 irune_76
def irune_L4 : AK := .loop irune_75
def irune_74 : AK := .block 3 irune_L4
def irune_73o : List ROp := [.v 12 (.mov (.c (.int .i64 1)))]
def irune_73 : AK := .seq (.reg irune_73o [0, 1, 7, 8, 9, 10, 12]) irune_74
def irune_65 : AK := .seq irune_73 irune_66
def irune_87o : List ROp := [.v 44 (.mov (.t 9)),
   .v 45 (.mov (.t 11)),
   .v 46 (.bin .add (.t 45) (.c (.int .i64 1))),
   .v 47 (.bin .add (.t 44) (.t 46)),
   .v 9 (.mov (.t 47))]
def irune_87 : AK := .reg irune_87o [0, 1, 7, 8, 9, 10]
def irune_90o : List ROp := [.v 4 (.mov (.c (.int .i64 (-1))))]
def irune_90 : AK := .seq (.reg irune_90o [4]) .ret
def irune_89 : AK := .cond (.t 43) irune_90 .skip
def irune_88o : List ROp := [.v 42 (.mov (.t 11)),
   .v 43 (.bin .lss (.t 42) (.c (.int .i64 0)))]
def irune_88 : AK := .seq (.reg irune_88o [0, 1, 7, 8, 9, 10, 11, 43]) irune_89
def irune_86 : AK := .seq irune_88 irune_87
def irune_85o : List ROp := [.val 34 true 62034 (.mov (.t 0)),
   .val 35 true 62035 (.mov (.t 9)),
   .val 36 true 62036 (.bin .add (.t 35) (.c (.int .i64 1))),
   .val 37 true 62037 (.slcS (.t 34) (some (.t 36)) none),
   .val 38 true 62038 (.mov (.t 7)),
   .val 39 true 62039 (.mov (.t 8)),
   .val 40 true 62040 (.sidx (.t 38) (.t 39)),
   .cal (some 41) false 62041 69 [(.t 37), (.t 40)],
   .v 11 (.mov (.t 41))]
def irune_85 : AK := .seq (.reg irune_85o [0, 1, 7, 8, 9, 10, 11]) irune_86
def irune_84 : AK := .cond (.t 33) irune_85 .skip
def irune_83o : List ROp := [.val 27 true 62027 (.mov (.t 0)),
   .val 28 true 62028 (.mov (.t 9)),
   .val 29 true 62029 (.sidx (.t 27) (.t 28)),
   .val 30 true 62030 (.mov (.t 7)),
   .val 31 true 62031 (.mov (.t 8)),
   .val 32 true 62032 (.sidx (.t 30) (.t 31)),
   .v 33 (.bin .neq (.t 29) (.t 32))]
def irune_83 : AK := .seq (.reg irune_83o [0, 1, 7, 8, 9, 10, 33]) irune_84
def irune_64 : AK := .seq irune_83 (.mid irune_65)
def irune_S3 : AK := .scope irune_64
def irune_63 : AK := .block 2 irune_S3
def irune_92 : AK := .cond (.t 26) .skip (.exit 1)
def irune_91o : List ROp := [.v 23 (.mov (.t 9)),
   .v 24 (.mov (.t 0)),
   .v 25 (.len true (.t 24)),
   .v 26 (.bin .lss (.t 23) (.t 25))]
def irune_91 : AK := .seq (.reg irune_91o [0, 1, 7, 8, 9, 10, 26]) irune_92
def irune_62 : AK := .seq irune_91 irune_63
def irune_L3 : AK := .loop irune_62
def irune_61 : AK := .block 1 irune_L3
def irune_26 : AK := .seq irune_61 irune_27
def irune_25o : List ROp := [.v 10 (.mov (.c (.int .i64 0)))]
def irune_25 : AK := .seq (.reg irune_25o [0, 1, 7, 8, 9, 10]) irune_26
def irune_24o : List ROp := [.v 22 (.mov (.t 8)),
   .v 9 (.mov (.t 22))]
def irune_24 : AK := .seq (.reg irune_24o [0, 1, 7, 8, 9]) irune_25
def irune_23o : List ROp := [.v 19 (.mov (.t 7)),
   .v 20 (.len true (.t 19)),
   .v 21 (.bin .sub (.t 20) (.c (.int .i64 1))),
   .v 8 (.mov (.t 21))]
def irune_23 : AK := .seq (.reg irune_23o [0, 1, 7, 8]) irune_24
def irune_22o : List ROp := [.v 17 (.mov (.t 1)),
   .v 18 (.cvs (.t 17)),
   .v 7 (.mov (.t 18))]
def irune_22 : AK := .seq (.reg irune_22o [0, 1, 7]) irune_23
def irune_S : AK := .scope irune_22
def irune_20 : AK := .cond (.t 183) irune_21 irune_S
def irune_19o : List ROp := [.v 184 (.mov (.t 1)),
   .cal (some 185) false 62185 70 [(.t 184)],
   .v 186 (.un .not (.t 185)),
   .v 183 (.mov (.t 186))]
def irune_19 : AK := .seq (.reg irune_19o [0, 1, 183]) irune_20
def irune_6 : AK := .cond (.t 171) irune_7 irune_19
def irune_5o : List ROp := [.v 172 (.mov (.t 1)),
   .v 173 (.bin .eql (.t 172) (.c (.int .i32 65533))),
   .v 171 (.mov (.t 173))]
def irune_5 : AK := .seq (.reg irune_5o [0, 1, 171]) irune_6
def irune_3 : AK := .cond (.t 160) irune_4 irune_5
def irune_2o : List ROp := [.v 161 (.mov (.t 1)),
   .v 162 (.bin .leq (.c (.int .i32 0)) (.t 161)),
   .v 163 (.mov (.t 162)),
   .gval 164 163 true false 62164 (.mov (.t 1)),
   .gval 165 163 true false 62165 (.bin .lss (.t 164) (.c (.int .i32 128))),
   .v 166 (.pick (.t 163) (.t 165) (.c (.bool false))),
   .v 160 (.mov (.t 166))]
def irune_2 : AK := .seq (.reg irune_2o [0, 1, 160]) irune_3
def irune_1 : AK := .block 0 irune_2
def irune_0o : List ROp := [.v 4 (.mov (.c (.int .i64 0)))]
def irune_0 : AK := .seq (.reg irune_0o [0, 1]) irune_1
def irune : AK := irune_0
theorem irune_vc (P : Program) (E : Env) (Q : KQ) (st : St) :
  (vcW P E irune_4 Q st = aopsW P irune_4o st (KS.reg [4] (KQ.seq P E .ret Q))) ∧
  (vcW P E irune_8 Q st = aopsW P irune_8o st (KS.reg [4] (KQ.seq P E .ret Q))) ∧
  (vcW P E irune_17 Q st = aopsW P irune_17o st (KS.reg [4] (KQ.seq P E .ret Q))) ∧
  (vcW P E irune_16 Q st = cndW P E (ev st (.t 181)) irune_17 .skip Q st) ∧
  (vcW P E irune_15 Q st = aopsW P irune_15o st (KS.reg [5, 181] (KQ.seq P E irune_16 Q))) ∧
  (vcW P E irune_14 Q st = aopsW P irune_14o st (KS.reg [5, 6] (KQ.seq P E irune_15 Q))) ∧
  (vcW P E irune_13 Q st = vcW P E irune_14 (KQ.blk 10 Q) st) ∧
  (vcW P E irune_18 Q st = cndW P E (ev st (.t 177)) .skip (.exit 9) Q st) ∧
  (vcW P E irune_12 Q st = vcW P E irune_18 (KQ.seq P E irune_13 Q) st) ∧
  (vcW P E irune_11 Q st = aopsW P irune_11o st (KS.reg [176, 177] (KQ.seq P E irune_12 Q))) ∧
  (vcW P E irune_10 Q st = vcW P E irune_L0 (KQ.blk 9 Q) st) ∧
  (vcW P E irune_9 Q st = aopsW P irune_9o st (KS.reg [] (KQ.seq P E irune_10 Q))) ∧
  (vcW P E irune_7 Q st = vcW P E irune_9 (KQ.seq P E irune_8 Q) st) ∧
  (vcW P E irune_21 Q st = aopsW P irune_21o st (KS.reg [4] (KQ.seq P E .ret Q))) ∧
  (vcW P E irune_30 Q st = aopsW P irune_30o st (KS.reg [4] (KQ.seq P E .ret Q))) ∧
  (vcW P E irune_35 Q st = aopsW P irune_35o st (KS.reg [4] (KQ.seq P E .ret Q))) ∧
  (vcW P E irune_34 Q st = cndW P E (ev st (.t 108)) irune_35 .skip Q st) ∧
  (vcW P E irune_33 Q st = aopsW P irune_33o st (KS.reg [8, 9, 13, 108] (KQ.seq P E irune_34 Q))) ∧
  (vcW P E irune_32 Q st = aopsW P irune_32o st (KS.reg [8, 9, 13] (KQ.seq P E irune_33 Q))) ∧
  (vcW P E irune_42 Q st = aopsW P irune_42o st (KS.reg [0, 7, 8, 9, 14, 15] Q)) ∧
  (vcW P E irune_47 Q st = aopsW P irune_47o st (KS.reg [4] (KQ.seq P E .ret Q))) ∧
  (vcW P E irune_52 Q st = aopsW P irune_52o st (KS.reg [0, 7, 8, 9, 14, 15, 16] Q)) ∧
  (vcW P E irune_55 Q st = cndW P E (ev st (.t 156)) (.exit 6) .skip Q st) ∧
  (vcW P E irune_54 Q st = aopsW P irune_54o st (KS.reg [0, 7, 8, 9, 14, 15, 16, 156] (KQ.seq P E irune_55 Q))) ∧
  (vcW P E irune_53 Q st = vcW P E irune_54 (KQ.blk 8 Q) st) ∧
  (vcW P E irune_51 Q st = vcW P E irune_53 (KQ.seq P E irune_52 Q) st) ∧
  (vcW P E irune_57 Q st = cndW P E (ev st (.t 143)) .skip (.exit 7) Q st) ∧
  (vcW P E irune_56 Q st = aopsW P irune_56o st (KS.reg [0, 7, 8, 9, 14, 15, 16, 143] (KQ.seq P E irune_57 Q))) ∧
  (vcW P E irune_50 Q st = vcW P E irune_56 (KQ.seq P E irune_51 Q) st) ∧
  (vcW P E irune_49 Q st = vcW P E irune_L2 (KQ.blk 7 Q) st) ∧
  (vcW P E irune_48 Q st = aopsW P irune_48o st (KS.reg [0, 7, 8, 9, 14, 15, 16] (KQ.seq P E irune_49 Q))) ∧
  (vcW P E irune_46 Q st = vcW P E irune_48 (KQ.seq P E irune_47 Q) st) ∧
  (vcW P E irune_45 Q st = cndW P E (ev st (.t 139)) irune_46 .skip Q st) ∧
  (vcW P E irune_44 Q st = aopsW P irune_44o st (KS.reg [0, 7, 8, 9, 14, 15, 139] (KQ.seq P E irune_45 Q))) ∧
  (vcW P E irune_43 Q st = vcW P E irune_44 (KQ.blk 6 Q) st) ∧
  (vcW P E irune_41 Q st = vcW P E irune_43 (KQ.seq P E irune_42 Q) st) ∧
  (vcW P E irune_59 Q st = cndW P E (ev st (.t 124)) .skip (.exit 5) Q st) ∧
  (vcW P E irune_58 Q st = aopsW P irune_58o st (KS.reg [0, 7, 8, 9, 14, 15, 124] (KQ.seq P E irune_59 Q))) ∧
  (vcW P E irune_40 Q st = vcW P E irune_58 (KQ.seq P E irune_41 Q) st) ∧
  (vcW P E irune_39 Q st = vcW P E irune_L1 (KQ.blk 5 Q) st) ∧
  (vcW P E irune_38 Q st = vcW P E (.label 2) (KQ.seq P E irune_39 Q) st) ∧
  (vcW P E irune_37 Q st = aopsW P irune_37o st (KS.reg [0, 7, 8, 9, 14, 15] (KQ.seq P E irune_38 Q))) ∧
  (vcW P E irune_36 Q st = aopsW P irune_36o st (KS.reg [0, 7, 8, 9, 14] (KQ.seq P E irune_37 Q))) ∧
  (vcW P E irune_31 Q st = cndW P E (ev st (.c (.bool true))) irune_32 irune_S2 Q st) ∧
  (vcW P E irune_29 Q st = vcW P E irune_31 (KQ.seq P E irune_30 Q) st) ∧
  (vcW P E irune_28 Q st = vcW P E (.label 1) (KQ.seq P E irune_29 Q) st) ∧
  (vcW P E irune_60 Q st = aopsW P irune_60o st (KS.reg [4] (KQ.seq P E .ret Q))) ∧
  (vcW P E irune_27 Q st = vcW P E irune_60 (KQ.seq P E irune_28 Q) st) ∧
  (vcW P E irune_71 Q st = cndW P E (ev st (.t 98)) (.goto 1) .skip Q st) ∧
  (vcW P E irune_70 Q st = aopsW P irune_70o st (KS.reg [0, 1, 7, 8, 9, 10, 98] (KQ.seq P E irune_71 Q))) ∧
  (vcW P E irune_69 Q st = aopsW P irune_69o st (KS.reg [0, 1, 7, 8, 9, 10] (KQ.seq P E irune_70 Q))) ∧
  (vcW P E irune_68 Q st = aopsW P irune_68o st (KS.reg [0, 1, 7, 8, 9, 10] (KQ.seq P E irune_69 Q))) ∧
  (vcW P E irune_67 Q st = vcW P E (.label 0) (KQ.seq P E irune_68 Q) st) ∧
  (vcW P E irune_72 Q st = aopsW P irune_72o st (KS.reg [4] (KQ.seq P E .ret Q))) ∧
  (vcW P E irune_66 Q st = vcW P E irune_72 (KQ.seq P E irune_67 Q) st) ∧
  (vcW P E irune_77 Q st = aopsW P irune_77o st (KS.reg [0, 1, 7, 8, 9, 10, 12] Q)) ∧
  (vcW P E irune_80 Q st = cndW P E (ev st (.t 64)) (.goto 0) .skip Q st) ∧
  (vcW P E irune_79 Q st = aopsW P irune_79o st (KS.reg [0, 1, 7, 8, 9, 10, 12, 64] (KQ.seq P E irune_80 Q))) ∧
  (vcW P E irune_78 Q st = vcW P E irune_79 (KQ.blk 4 Q) st) ∧
  (vcW P E irune_76 Q st = vcW P E irune_78 (KQ.seq P E irune_77 Q) st) ∧
  (vcW P E irune_82 Q st = cndW P E (ev st (.t 51)) .skip (.exit 3) Q st) ∧
  (vcW P E irune_81 Q st = aopsW P irune_81o st (KS.reg [0, 1, 7, 8, 9, 10, 12, 51] (KQ.seq P E irune_82 Q))) ∧
  (vcW P E irune_75 Q st = vcW P E irune_81 (KQ.seq P E irune_76 Q) st) ∧
  (vcW P E irune_74 Q st = vcW P E irune_L4 (KQ.blk 3 Q) st) ∧
  (vcW P E irune_73 Q st = aopsW P irune_73o st (KS.reg [0, 1, 7, 8, 9, 10, 12] (KQ.seq P E irune_74 Q))) ∧
  (vcW P E irune_65 Q st = vcW P E irune_73 (KQ.seq P E irune_66 Q) st) ∧
  (vcW P E irune_87 Q st = aopsW P irune_87o st (KS.reg [0, 1, 7, 8, 9, 10] Q)) ∧
  (vcW P E irune_90 Q st = aopsW P irune_90o st (KS.reg [4] (KQ.seq P E .ret Q))) ∧
  (vcW P E irune_89 Q st = cndW P E (ev st (.t 43)) irune_90 .skip Q st) ∧
  (vcW P E irune_88 Q st = aopsW P irune_88o st (KS.reg [0, 1, 7, 8, 9, 10, 11, 43] (KQ.seq P E irune_89 Q))) ∧
  (vcW P E irune_86 Q st = vcW P E irune_88 (KQ.seq P E irune_87 Q) st) ∧
  (vcW P E irune_85 Q st = aopsW P irune_85o st (KS.reg [0, 1, 7, 8, 9, 10, 11] (KQ.seq P E irune_86 Q))) ∧
  (vcW P E irune_84 Q st = cndW P E (ev st (.t 33)) irune_85 .skip Q st) ∧
  (vcW P E irune_83 Q st = aopsW P irune_83o st (KS.reg [0, 1, 7, 8, 9, 10, 33] (KQ.seq P E irune_84 Q))) ∧
  (vcW P E irune_63 Q st = vcW P E irune_S3 (KQ.blk 2 Q) st) ∧
  (vcW P E irune_92 Q st = cndW P E (ev st (.t 26)) .skip (.exit 1) Q st) ∧
  (vcW P E irune_91 Q st = aopsW P irune_91o st (KS.reg [0, 1, 7, 8, 9, 10, 26] (KQ.seq P E irune_92 Q))) ∧
  (vcW P E irune_62 Q st = vcW P E irune_91 (KQ.seq P E irune_63 Q) st) ∧
  (vcW P E irune_61 Q st = vcW P E irune_L3 (KQ.blk 1 Q) st) ∧
  (vcW P E irune_26 Q st = vcW P E irune_61 (KQ.seq P E irune_27 Q) st) ∧
  (vcW P E irune_25 Q st = aopsW P irune_25o st (KS.reg [0, 1, 7, 8, 9, 10] (KQ.seq P E irune_26 Q))) ∧
  (vcW P E irune_24 Q st = aopsW P irune_24o st (KS.reg [0, 1, 7, 8, 9] (KQ.seq P E irune_25 Q))) ∧
  (vcW P E irune_23 Q st = aopsW P irune_23o st (KS.reg [0, 1, 7, 8] (KQ.seq P E irune_24 Q))) ∧
  (vcW P E irune_22 Q st = aopsW P irune_22o st (KS.reg [0, 1, 7] (KQ.seq P E irune_23 Q))) ∧
  (vcW P E irune_20 Q st = cndW P E (ev st (.t 183)) irune_21 irune_S Q st) ∧
  (vcW P E irune_19 Q st = aopsW P irune_19o st (KS.reg [0, 1, 183] (KQ.seq P E irune_20 Q))) ∧
  (vcW P E irune_6 Q st = cndW P E (ev st (.t 171)) irune_7 irune_19 Q st) ∧
  (vcW P E irune_5 Q st = aopsW P irune_5o st (KS.reg [0, 1, 171] (KQ.seq P E irune_6 Q))) ∧
  (vcW P E irune_3 Q st = cndW P E (ev st (.t 160)) irune_4 irune_5 Q st) ∧
  (vcW P E irune_2 Q st = aopsW P irune_2o st (KS.reg [0, 1, 160] (KQ.seq P E irune_3 Q))) ∧
  (vcW P E irune_1 Q st = vcW P E irune_2 (KQ.blk 0 Q) st) ∧
  (vcW P E irune_0 Q st = aopsW P irune_0o st (KS.reg [0, 1] (KQ.seq P E irune_1 Q))) ∧
  (vcW P E irune Q st = vcW P E irune_0 Q st) :=
  ⟨rfl, rfl, rfl, vcW_cond, rfl, rfl, rfl, vcW_cond, rfl, rfl, rfl, rfl, rfl, rfl, rfl, rfl, vcW_cond, rfl, rfl, rfl, rfl, rfl, vcW_cond, rfl, rfl, rfl, vcW_cond, rfl, rfl, rfl, rfl, rfl, vcW_cond, rfl, rfl, rfl, vcW_cond, rfl, rfl, rfl, rfl, rfl, rfl, vcW_cond, rfl, rfl, rfl, rfl, vcW_cond, rfl, rfl, rfl, rfl, rfl, rfl, rfl, vcW_cond, rfl, rfl, rfl, vcW_cond, rfl, rfl, rfl, rfl, rfl, rfl, rfl, vcW_cond, rfl, rfl, rfl, vcW_cond, rfl, rfl, vcW_cond, rfl, rfl, rfl, rfl, rfl, rfl, rfl, rfl, vcW_cond, rfl, vcW_cond, rfl, vcW_cond, rfl, rfl, rfl, rfl⟩
theorem irune_jn (P : Program) (E : Env) (Q : KQ) (st : St) :
  (vcW P E irune_64 Q st = vcW P E irune_83 (KQ.seq P E (.mid irune_65) Q) st) :=
  rfl
attribute [go_sem] irune_vc irune_4o irune_8o irune_17o irune_15o irune_14o irune_11o irune_9o irune_21o irune_30o irune_35o irune_33o irune_32o irune_42o irune_47o irune_52o irune_54o irune_56o irune_48o irune_44o irune_58o irune_37o irune_36o irune_60o irune_70o irune_69o irune_68o irune_72o irune_77o irune_79o irune_81o irune_73o irune_87o irune_90o irune_88o irune_85o irune_83o irune_91o irune_25o irune_24o irune_23o irune_22o irune_19o irune_5o irune_2o irune_0o
noncomputable def iruneB : Code := (Tryd.f59.body).getD .skip
theorem irune_eq : trCode Tryd.prog 187 62000 iruneB = irune.erase 62000 := by kernel_rfl
theorem irune_body : Tryd.f59.body = some iruneB := by kernel_rfl
theorem irune_n : Tryd.f59.ntmps = 187 := by kernel_rfl
theorem irune_r : Tryd.f59.results.toList.map (trRes Tryd.prog) = [.tmp 4] := by kernel_rfl
theorem irune_spec {h : HP} {a0 a1 : AV} {Post : HP → AV → List AV → Prop} (hp : ∀ (E : Env) (R : HP → AV → List AV → Prop), E.N ≤ 1000000 → PostTo Post R → vcW Tryd.prog E irune (KQ.post [.tmp 4] 2 R) ⟨[(0, a0), (1, a1)], h⟩) : Eng.Spec Tryd.prog 59 h [a0, a1] Post := spec_wk (
  spec_of (c := irune.erase 62000) (B := 62000) Tryd.func59 irune_body (by rw [irune_n, irune_eq]) (by rw [irune_n]; decide) (by rw [irune_n]; exact (by decide : 2 ≤ 187)) (fun E hE hB hrd => by
    have hN : E.N ≤ 1000000 := by
      rw [hE, irune_n]; decide
    rw [irune_r, ← hB]
    exact awp_slots [(0, a0), (1, a1)] ⟨rfl, rfl, trivial⟩ (vcW_sound hN _ (hp E _ hN fin_self))))
/- strings.ContainsAny -/
def containsany_1o : List ROp := [.v 5 (.mov (.t 0)),
   .v 6 (.mov (.t 1)),
   .cal (some 7) false 63007 49 [(.t 5), (.t 6)],
   .v 8 (.bin .geq (.t 7) (.c (.int .i64 0))),
   .v 4 (.mov (.t 8))]
def containsany_1 : AK := .seq (.reg containsany_1o [4]) .ret
def containsany_0o : List ROp := [.v 4 (.mov (.c (.bool false)))]
def containsany_0 : AK := .seq (.reg containsany_0o [0, 1]) containsany_1
def containsany : AK := containsany_0
theorem containsany_vc (P : Program) (E : Env) (Q : KQ) (st : St) :
  (vcW P E containsany_1 Q st = aopsW P containsany_1o st (KS.reg [4] (KQ.seq P E .ret Q))) ∧
  (vcW P E containsany_0 Q st = aopsW P containsany_0o st (KS.reg [0, 1] (KQ.seq P E containsany_1 Q))) ∧
  (vcW P E containsany Q st = vcW P E containsany_0 Q st) :=
  ⟨rfl, rfl, rfl⟩
theorem containsany_jn (P : Program) (E : Env) (Q : KQ) (st : St) :
  (True) :=
  trivial
attribute [go_sem] containsany_vc containsany_1o containsany_0o
noncomputable def containsanyB : Code := (Tryd.f32.body).getD .skip
theorem containsany_eq : trCode Tryd.prog 9 63000 containsanyB = containsany.erase 63000 := by kernel_rfl
theorem containsany_body : Tryd.f32.body = some containsanyB := by kernel_rfl
theorem containsany_n : Tryd.f32.ntmps = 9 := by kernel_rfl
theorem containsany_r : Tryd.f32.results.toList.map (trRes Tryd.prog) = [.tmp 4] := by kernel_rfl
theorem containsany_spec {h : HP} {a0 a1 : AV} {Post : HP → AV → List AV → Prop} (hp : ∀ (E : Env) (R : HP → AV → List AV → Prop), E.N ≤ 1000000 → PostTo Post R → vcW Tryd.prog E containsany (KQ.post [.tmp 4] 2 R) ⟨[(0, a0), (1, a1)], h⟩) : Eng.Spec Tryd.prog 32 h [a0, a1] Post := spec_wk (
  spec_of (c := containsany.erase 63000) (B := 63000) Tryd.func32 containsany_body (by rw [containsany_n, containsany_eq]) (by rw [containsany_n]; decide) (by rw [containsany_n]; exact (by decide : 2 ≤ 9)) (fun E hE hB hrd => by
    have hN : E.N ≤ 1000000 := by
      rw [hE, containsany_n]; decide
    rw [containsany_r, ← hB]
    exact awp_slots [(0, a0), (1, a1)] ⟨rfl, rfl, trivial⟩ (vcW_sound hN _ (hp E _ hN fin_self))))
end Go.Proofs.YtjpinndnicmokaaDoor.Cod
