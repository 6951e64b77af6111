/- Code of functions as the engine reads it: written by a program (code2.py). -/
import Derived.Test.YtlnplfjcnncakaaDoorEngX
import Derived.Test.YtlnplfjcnncakaaDoorProg
import Derived.KernelRfl
set_option linter.all false
namespace Go.Proofs.YtlnplfjcnncakaaDoor.Cod
open Eng
set_option maxRecDepth 100000
/- cartulary/object.Number -/
def number_3o : List ROp := [.v 28 (.mov (.t 4)),
   .v 2 (.mov (.t 28)),
   .v 3 (.mov (.c (.bool true)))]
def number_3 : AK := .seq (.reg number_3o [2, 3]) .ret
def number_6o : List ROp := [.v 2 (.mov (.c (.int .i64 0))),
   .v 3 (.mov (.c (.bool false)))]
def number_6 : AK := .seq (.reg number_6o [2, 3]) .ret
def number_5 : AK := .cond (.t 27) number_6 .skip
def number_4o : List ROp := [.v 11 (.mov (.t 5)),
   .v 12 (.inil true (.t 11)),
   .v 13 (.mov (.t 12)),
   .gval 14 13 false false 1014 (.mov (.t 4)),
   .gval 15 13 false false 1015 (.bin .lss (.t 14) (.c (.int .i64 0))),
   .v 16 (.pick (.t 13) (.c (.bool true)) (.t 15)),
   .v 17 (.mov (.t 16)),
   .gval 18 17 false false 1018 (.mov (.t 0)),
   .gval 19 17 false false 1019 (.len true (.t 18)),
   .gval 20 17 false false 1020 (.bin .gtr (.t 19) (.c (.int .i64 9))),
   .v 21 (.pick (.t 17) (.c (.bool true)) (.t 20)),
   .v 22 (.mov (.t 21)),
   .gval 23 22 false false 1023 (.mov (.t 4)),
   .gcal 24 22 false false 1024 24 [(.t 23)],
   .gval 25 22 false false 1025 (.mov (.t 0)),
   .gval 26 22 false false 1026 (.bin .neq (.t 24) (.t 25)),
   .v 27 (.pick (.t 22) (.c (.bool true)) (.t 26))]
def number_4 : AK := .seq (.reg number_4o [4, 27]) number_5
def number_2 : AK := .seq number_4 number_3
def number_1o : List ROp := [.v 7 (.mov (.t 0)),
   .cal (some 8) false 1008 23 [(.t 7)],
   .v 6 (.mov (.t 8)),
   .v 9 (.ext (.t 6) 0),
   .v 10 (.ext (.t 6) 1),
   .v 4 (.mov (.t 9)),
   .v 5 (.mov (.t 10))]
def number_1 : AK := .seq (.reg number_1o [0, 4, 5]) number_2
def number_0o : List ROp := [.v 2 (.mov (.c (.int .i64 0))),
   .v 3 (.mov (.c (.bool false)))]
def number_0 : AK := .seq (.reg number_0o [0]) number_1
def number : AK := number_0
theorem number_vc (P : Program) (E : Env) (Q : KQ) (st : St) :
  (vcW P E number_3 Q st = aopsW P number_3o st (KS.reg [2, 3] (KQ.seq P E .ret Q))) ∧
  (vcW P E number_6 Q st = aopsW P number_6o st (KS.reg [2, 3] (KQ.seq P E .ret Q))) ∧
  (vcW P E number_5 Q st = cndW P E (ev st (.t 27)) number_6 .skip Q st) ∧
  (vcW P E number_4 Q st = aopsW P number_4o st (KS.reg [4, 27] (KQ.seq P E number_5 Q))) ∧
  (vcW P E number_2 Q st = vcW P E number_4 (KQ.seq P E number_3 Q) st) ∧
  (vcW P E number_1 Q st = aopsW P number_1o st (KS.reg [0, 4, 5] (KQ.seq P E number_2 Q))) ∧
  (vcW P E number_0 Q st = aopsW P number_0o st (KS.reg [0] (KQ.seq P E number_1 Q))) ∧
  (vcW P E number Q st = vcW P E number_0 Q st) :=
  ⟨rfl, rfl, vcW_cond, rfl, rfl, rfl, rfl, rfl⟩
theorem number_jn (P : Program) (E : Env) (Q : KQ) (st : St) :
  (True) :=
  trivial
attribute [go_sem] number_vc number_3o number_6o number_4o number_1o number_0o
noncomputable def numberB : Code := (Tryd.f7.body).getD .skip
theorem number_eq : trCode Tryd.prog 29 1000 numberB = number.erase 1000 := by kernel_rfl
theorem number_body : Tryd.f7.body = some numberB := by kernel_rfl
theorem number_n : Tryd.f7.ntmps = 29 := by kernel_rfl
theorem number_r : Tryd.f7.results.toList.map (trRes Tryd.prog) = [.tmp 2, .tmp 3] := by kernel_rfl
theorem number_spec {h : HP} {a0 : AV} {Post : HP → AV → List AV → Prop} (hp : ∀ (E : Env) (R : HP → AV → List AV → Prop), E.N ≤ 1000000 → PostTo Post R → vcW Tryd.prog E number (KQ.post [.tmp 2, .tmp 3] 1 R) ⟨[(0, a0)], h⟩) : Eng.Spec Tryd.prog 7 h [a0] Post := spec_wk (
  spec_of (c := number.erase 1000) (B := 1000) Tryd.func7 number_body (by rw [number_n, number_eq]) (by rw [number_n]; decide) (by rw [number_n]; exact (by decide : 1 ≤ 29)) (fun E hE hB hrd => by
    have hN : E.N ≤ 1000000 := by
      rw [hE, number_n]; decide
    rw [number_r, ← hB]
    exact awp_slots [(0, a0)] ⟨rfl, trivial⟩ (vcW_sound hN _ (hp E _ hN fin_self))))
/- cartulary/object.Check -/
def check_3o : List ROp := [.v 2 (.mov (.c (.int .i64 0)))]
def check_3 : AK := .seq (.reg check_3o [2]) .ret
def check_6o : List ROp := [.v 2 (.mov (.c (.int .i64 2)))]
def check_6 : AK := .seq (.reg check_6o [2]) .ret
def check_5 : AK := .cond (.t 10) check_6 .skip
def check_4o : List ROp := [.v 7 (.fldA false 1 1 (.t 1)),
   .v 8 (.ld false 1 (.t 7)),
   .v 9 (.len true (.t 8)),
   .v 10 (.bin .gtr (.t 9) (.c (.int .i64 65000)))]
def check_4 : AK := .seq (.reg check_4o [10]) check_5
def check_2 : AK := .seq check_4 check_3
def check_9o : List ROp := [.v 2 (.mov (.c (.int .i64 10)))]
def check_9 : AK := .seq (.reg check_9o [2]) .ret
def check_8 : AK := .cond (.t 6) check_9 .skip
def check_7o : List ROp := [.v 3 (.fldA false 0 1 (.t 1)),
   .v 4 (.ld false 1 (.t 3)),
   .cal (some 5) false 2005 14 [(.t 4)],
   .v 6 (.bin .eql (.t 5) (.c (.str [])))]
def check_7 : AK := .seq (.reg check_7o [1, 6]) check_8
def check_1 : AK := .seq check_7 check_2
def check_0o : List ROp := [.eff 1 false 2001 (.box 2 (.t 0)),
   .v 2 (.mov (.c (.int .i64 0)))]
def check_0 : AK := .seq (.reg check_0o [1]) check_1
def check : AK := check_0
theorem check_vc (P : Program) (E : Env) (Q : KQ) (st : St) :
  (vcW P E check_3 Q st = aopsW P check_3o st (KS.reg [2] (KQ.seq P E .ret Q))) ∧
  (vcW P E check_6 Q st = aopsW P check_6o st (KS.reg [2] (KQ.seq P E .ret Q))) ∧
  (vcW P E check_5 Q st = cndW P E (ev st (.t 10)) check_6 .skip Q st) ∧
  (vcW P E check_4 Q st = aopsW P check_4o st (KS.reg [10] (KQ.seq P E check_5 Q))) ∧
  (vcW P E check_2 Q st = vcW P E check_4 (KQ.seq P E check_3 Q) st) ∧
  (vcW P E check_9 Q st = aopsW P check_9o st (KS.reg [2] (KQ.seq P E .ret Q))) ∧
  (vcW P E check_8 Q st = cndW P E (ev st (.t 6)) check_9 .skip Q st) ∧
  (vcW P E check_7 Q st = aopsW P check_7o st (KS.reg [1, 6] (KQ.seq P E check_8 Q))) ∧
  (vcW P E check_1 Q st = vcW P E check_7 (KQ.seq P E check_2 Q) st) ∧
  (vcW P E check_0 Q st = aopsW P check_0o st (KS.reg [1] (KQ.seq P E check_1 Q))) ∧
  (vcW P E check Q st = vcW P E check_0 Q st) :=
  ⟨rfl, rfl, vcW_cond, rfl, rfl, rfl, vcW_cond, rfl, rfl, rfl, rfl⟩
theorem check_jn (P : Program) (E : Env) (Q : KQ) (st : St) :
  (True) :=
  trivial
attribute [go_sem] check_vc check_3o check_6o check_4o check_9o check_7o check_0o
noncomputable def checkB : Code := (Tryd.f13.body).getD .skip
theorem check_eq : trCode Tryd.prog 11 2000 checkB = check.erase 2000 := by kernel_rfl
theorem check_body : Tryd.f13.body = some checkB := by kernel_rfl
theorem check_n : Tryd.f13.ntmps = 11 := by kernel_rfl
theorem check_r : Tryd.f13.results.toList.map (trRes Tryd.prog) = [.tmp 2] := by kernel_rfl
theorem check_spec {h : HP} {a0 : AV} {Post : HP → AV → List AV → Prop} (hp : ∀ (E : Env) (R : HP → AV → List AV → Prop), E.N ≤ 1000000 → PostTo Post R → vcW Tryd.prog E check (KQ.post [.tmp 2] 1 R) ⟨[(0, a0)], h⟩) : Eng.Spec Tryd.prog 13 h [a0] Post := spec_wk (
  spec_of (c := check.erase 2000) (B := 2000) Tryd.func13 check_body (by rw [check_n, check_eq]) (by rw [check_n]; decide) (by rw [check_n]; exact (by decide : 1 ≤ 11)) (fun E hE hB hrd => by
    have hN : E.N ≤ 1000000 := by
      rw [hE, check_n]; decide
    rw [check_r, ← hB]
    exact awp_slots [(0, a0)] ⟨rfl, trivial⟩ (vcW_sound hN _ (hp E _ hN fin_self))))
/- cartulary/object.Name -/
def oname_2o : List ROp := [.v 2 (.mov (.c (.str [])))]
def oname_2 : AK := .seq (.reg oname_2o [2]) .ret
def oname_7o : List ROp := [.v 2 (.mov (.c (.str [99, 111, 109, 109, 105, 116])))]
def oname_7 : AK := .seq (.reg oname_7o [2]) .ret
def oname_10o : List ROp := [.v 2 (.mov (.c (.str [116, 114, 101, 101])))]
def oname_10 : AK := .seq (.reg oname_10o [2]) .ret
def oname_13o : List ROp := [.v 2 (.mov (.c (.str [98, 108, 111, 98])))]
def oname_13 : AK := .seq (.reg oname_13o [2]) .ret
def oname_16o : List ROp := [.v 2 (.mov (.c (.str [116, 97, 103])))]
def oname_16 : AK := .seq (.reg oname_16o [2]) .ret
def oname_15 : AK := .cond (.t 10) oname_16 .skip
def oname_14o : List ROp := [.v 11 (.bin .eql (.t 3) (.c (.int .i64 4))),
   .v 10 (.mov (.t 11))]
def oname_14 : AK := .seq (.reg oname_14o [10]) oname_15
def oname_12 : AK := .cond (.t 8) oname_13 oname_14
def oname_11o : List ROp := [.v 9 (.bin .eql (.t 3) (.c (.int .i64 3))),
   .v 8 (.mov (.t 9))]
def oname_11 : AK := .seq (.reg oname_11o [3, 8]) oname_12
def oname_9 : AK := .cond (.t 6) oname_10 oname_11
def oname_8o : List ROp := [.v 7 (.bin .eql (.t 3) (.c (.int .i64 2))),
   .v 6 (.mov (.t 7))]
def oname_8 : AK := .seq (.reg oname_8o [3, 6]) oname_9
def oname_6 : AK := .cond (.t 4) oname_7 oname_8
def oname_5o : List ROp := [.v 5 (.bin .eql (.t 3) (.c (.int .i64 1))),
   .v 4 (.mov (.t 5))]
def oname_5 : AK := .seq (.reg oname_5o [3, 4]) oname_6
def oname_4 : AK := .block 0 oname_5
def oname_3o : List ROp := [.v 3 (.mov (.t 0))]
def oname_3 : AK := .seq (.reg oname_3o [3]) oname_4
def oname_1 : AK := .seq oname_3 oname_2
def oname_0o : List ROp := [.v 2 (.mov (.c (.str [])))]
def oname_0 : AK := .seq (.reg oname_0o [0]) oname_1
def oname : AK := oname_0
theorem oname_vc (P : Program) (E : Env) (Q : KQ) (st : St) :
  (vcW P E oname_2 Q st = aopsW P oname_2o st (KS.reg [2] (KQ.seq P E .ret Q))) ∧
  (vcW P E oname_7 Q st = aopsW P oname_7o st (KS.reg [2] (KQ.seq P E .ret Q))) ∧
  (vcW P E oname_10 Q st = aopsW P oname_10o st (KS.reg [2] (KQ.seq P E .ret Q))) ∧
  (vcW P E oname_13 Q st = aopsW P oname_13o st (KS.reg [2] (KQ.seq P E .ret Q))) ∧
  (vcW P E oname_16 Q st = aopsW P oname_16o st (KS.reg [2] (KQ.seq P E .ret Q))) ∧
  (vcW P E oname_15 Q st = cndW P E (ev st (.t 10)) oname_16 .skip Q st) ∧
  (vcW P E oname_14 Q st = aopsW P oname_14o st (KS.reg [10] (KQ.seq P E oname_15 Q))) ∧
  (vcW P E oname_12 Q st = cndW P E (ev st (.t 8)) oname_13 oname_14 Q st) ∧
  (vcW P E oname_11 Q st = aopsW P oname_11o st (KS.reg [3, 8] (KQ.seq P E oname_12 Q))) ∧
  (vcW P E oname_9 Q st = cndW P E (ev st (.t 6)) oname_10 oname_11 Q st) ∧
  (vcW P E oname_8 Q st = aopsW P oname_8o st (KS.reg [3, 6] (KQ.seq P E oname_9 Q))) ∧
  (vcW P E oname_6 Q st = cndW P E (ev st (.t 4)) oname_7 oname_8 Q st) ∧
  (vcW P E oname_5 Q st = aopsW P oname_5o st (KS.reg [3, 4] (KQ.seq P E oname_6 Q))) ∧
  (vcW P E oname_4 Q st = vcW P E oname_5 (KQ.blk 0 Q) st) ∧
  (vcW P E oname_3 Q st = aopsW P oname_3o st (KS.reg [3] (KQ.seq P E oname_4 Q))) ∧
  (vcW P E oname_1 Q st = vcW P E oname_3 (KQ.seq P E oname_2 Q) st) ∧
  (vcW P E oname_0 Q st = aopsW P oname_0o st (KS.reg [0] (KQ.seq P E oname_1 Q))) ∧
  (vcW P E oname Q st = vcW P E oname_0 Q st) :=
  ⟨rfl, rfl, rfl, rfl, rfl, vcW_cond, rfl, vcW_cond, rfl, vcW_cond, rfl, vcW_cond, rfl, rfl, rfl, rfl, rfl, rfl⟩
theorem oname_jn (P : Program) (E : Env) (Q : KQ) (st : St) :
  (True) :=
  trivial
attribute [go_sem] oname_vc oname_2o oname_7o oname_10o oname_13o oname_16o oname_14o oname_11o oname_8o oname_5o oname_3o oname_0o
noncomputable def onameB : Code := (Tryd.f14.body).getD .skip
theorem oname_eq : trCode Tryd.prog 12 3000 onameB = oname.erase 3000 := by kernel_rfl
theorem oname_body : Tryd.f14.body = some onameB := by kernel_rfl
theorem oname_n : Tryd.f14.ntmps = 12 := by kernel_rfl
theorem oname_r : Tryd.f14.results.toList.map (trRes Tryd.prog) = [.tmp 2] := by kernel_rfl
theorem oname_spec {h : HP} {a0 : AV} {Post : HP → AV → List AV → Prop} (hp : ∀ (E : Env) (R : HP → AV → List AV → Prop), E.N ≤ 1000000 → PostTo Post R → vcW Tryd.prog E oname (KQ.post [.tmp 2] 1 R) ⟨[(0, a0)], h⟩) : Eng.Spec Tryd.prog 14 h [a0] Post := spec_wk (
  spec_of (c := oname.erase 3000) (B := 3000) Tryd.func14 oname_body (by rw [oname_n, oname_eq]) (by rw [oname_n]; decide) (by rw [oname_n]; exact (by decide : 1 ≤ 12)) (fun E hE hB hrd => by
    have hN : E.N ≤ 1000000 := by
      rw [hE, oname_n]; decide
    rw [oname_r, ← hB]
    exact awp_slots [(0, a0)] ⟨rfl, trivial⟩ (vcW_sound hN _ (hp E _ hN fin_self))))
/- cartulary/object.Kind -/
def kind_2o : List ROp := [.v 2 (.mov (.c (.int .i64 0)))]
def kind_2 : AK := .seq (.reg kind_2o [2]) .ret
def kind_7o : List ROp := [.v 6 (.mov (.t 3)),
   .v 7 (.bin .add (.t 6) (.c (.int .i64 1))),
   .v 3 (.mov (.t 7))]
def kind_7 : AK := .reg kind_7o [0, 3]
def kind_11o : List ROp := [.v 12 (.mov (.t 3)),
   .v 2 (.mov (.t 12))]
def kind_11 : AK := .seq (.reg kind_11o [2]) .ret
def kind_10 : AK := .cond (.t 11) kind_11 .skip
def kind_9o : List ROp := [.v 8 (.mov (.t 3)),
   .cal (some 9) false 4009 14 [(.t 8)],
   .v 10 (.mov (.t 0)),
   .v 11 (.bin .eql (.t 9) (.t 10))]
def kind_9 : AK := .seq (.reg kind_9o [0, 3, 11]) kind_10
def kind_8 : AK := .block 1 kind_9
def kind_6 : AK := .seq kind_8 kind_7
def kind_13 : AK := .cond (.t 5) .skip (.exit 0)
def kind_12o : List ROp := [.v 4 (.mov (.t 3)),
   .v 5 (.bin .leq (.t 4) (.c (.int .i64 4)))]
def kind_12 : AK := .seq (.reg kind_12o [0, 3, 5]) kind_13
def kind_5 : AK := .seq kind_12 kind_6
def kind_L0 : AK := .loop kind_5
def kind_4 : AK := .block 0 kind_L0
def kind_3o : List ROp := [.v 3 (.mov (.c (.int .i64 1)))]
def kind_3 : AK := .seq (.reg kind_3o [0, 3]) kind_4
def kind_1 : AK := .seq kind_3 kind_2
def kind_0o : List ROp := [.v 2 (.mov (.c (.int .i64 0)))]
def kind_0 : AK := .seq (.reg kind_0o [0]) kind_1
def kind : AK := kind_0
theorem kind_vc (P : Program) (E : Env) (Q : KQ) (st : St) :
  (vcW P E kind_2 Q st = aopsW P kind_2o st (KS.reg [2] (KQ.seq P E .ret Q))) ∧
  (vcW P E kind_7 Q st = aopsW P kind_7o st (KS.reg [0, 3] Q)) ∧
  (vcW P E kind_11 Q st = aopsW P kind_11o st (KS.reg [2] (KQ.seq P E .ret Q))) ∧
  (vcW P E kind_10 Q st = cndW P E (ev st (.t 11)) kind_11 .skip Q st) ∧
  (vcW P E kind_9 Q st = aopsW P kind_9o st (KS.reg [0, 3, 11] (KQ.seq P E kind_10 Q))) ∧
  (vcW P E kind_8 Q st = vcW P E kind_9 (KQ.blk 1 Q) st) ∧
  (vcW P E kind_6 Q st = vcW P E kind_8 (KQ.seq P E kind_7 Q) st) ∧
  (vcW P E kind_13 Q st = cndW P E (ev st (.t 5)) .skip (.exit 0) Q st) ∧
  (vcW P E kind_12 Q st = aopsW P kind_12o st (KS.reg [0, 3, 5] (KQ.seq P E kind_13 Q))) ∧
  (vcW P E kind_5 Q st = vcW P E kind_12 (KQ.seq P E kind_6 Q) st) ∧
  (vcW P E kind_4 Q st = vcW P E kind_L0 (KQ.blk 0 Q) st) ∧
  (vcW P E kind_3 Q st = aopsW P kind_3o st (KS.reg [0, 3] (KQ.seq P E kind_4 Q))) ∧
  (vcW P E kind_1 Q st = vcW P E kind_3 (KQ.seq P E kind_2 Q) st) ∧
  (vcW P E kind_0 Q st = aopsW P kind_0o st (KS.reg [0] (KQ.seq P E kind_1 Q))) ∧
  (vcW P E kind Q st = vcW P E kind_0 Q st) :=
  ⟨rfl, rfl, rfl, vcW_cond, rfl, rfl, rfl, vcW_cond, rfl, rfl, rfl, rfl, rfl, rfl, rfl⟩
theorem kind_jn (P : Program) (E : Env) (Q : KQ) (st : St) :
  (True) :=
  trivial
attribute [go_sem] kind_vc kind_2o kind_7o kind_11o kind_9o kind_12o kind_3o kind_0o
noncomputable def kindB : Code := (Tryd.f21.body).getD .skip
theorem kind_eq : trCode Tryd.prog 13 4000 kindB = kind.erase 4000 := by kernel_rfl
theorem kind_body : Tryd.f21.body = some kindB := by kernel_rfl
theorem kind_n : Tryd.f21.ntmps = 13 := by kernel_rfl
theorem kind_r : Tryd.f21.results.toList.map (trRes Tryd.prog) = [.tmp 2] := by kernel_rfl
theorem kind_spec {h : HP} {a0 : AV} {Post : HP → AV → List AV → Prop} (hp : ∀ (E : Env) (R : HP → AV → List AV → Prop), E.N ≤ 1000000 → PostTo Post R → vcW Tryd.prog E kind (KQ.post [.tmp 2] 1 R) ⟨[(0, a0)], h⟩) : Eng.Spec Tryd.prog 21 h [a0] Post := spec_wk (
  spec_of (c := kind.erase 4000) (B := 4000) Tryd.func21 kind_body (by rw [kind_n, kind_eq]) (by rw [kind_n]; decide) (by rw [kind_n]; exact (by decide : 1 ≤ 13)) (fun E hE hB hrd => by
    have hN : E.N ≤ 1000000 := by
      rw [hE, kind_n]; decide
    rw [kind_r, ← hB]
    exact awp_slots [(0, a0)] ⟨rfl, trivial⟩ (vcW_sound hN _ (hp E _ hN fin_self))))
/- cartulary/object.Encode -/
def encode_2o : List ROp := [.val 10 true 5010 (.fldA false 0 1 (.t 1)),
   .val 11 true 5011 (.ld false 1 (.t 10)),
   .val 14 true 5014 (.fldA false 1 1 (.t 1)),
   .val 15 true 5015 (.ld false 1 (.t 14)),
   .val 16 true 5016 (.len true (.t 15)),
   .val 20 true 5020 (.fldA false 1 1 (.t 1)),
   .val 21 true 5021 (.ld false 1 (.t 20)),
   .cal (some 12) true 5012 14 [(.t 11)],
   .val 13 true 5013 (.bin .add (.t 12) (.c (.str [32]))),
   .cal (some 17) true 5017 24 [(.t 16)],
   .val 18 true 5018 (.bin .add (.t 13) (.t 17)),
   .val 19 true 5019 (.bin .add (.t 18) (.c (.str [0]))),
   .v 22 (.bin .add (.t 19) (.t 21)),
   .v 2 (.mov (.t 22)),
   .v 3 (.mov (.c (.int .i64 0)))]
def encode_2 : AK := .seq (.reg encode_2o [2, 3]) .ret
def encode_6o : List ROp := [.v 9 (.mov (.t 4)),
   .v 2 (.mov (.c (.str []))),
   .v 3 (.mov (.t 9))]
def encode_6 : AK := .seq (.reg encode_6o [2, 3]) .ret
def encode_5 : AK := .cond (.t 8) encode_6 .skip
def encode_4o : List ROp := [.v 7 (.mov (.t 4)),
   .v 8 (.bin .neq (.t 7) (.c (.int .i64 0)))]
def encode_4 : AK := .seq (.reg encode_4o [1, 4, 8]) encode_5
def encode_3o : List ROp := [.v 5 (.ld true 2 (.t 1)),
   .cal (some 6) false 5006 13 [(.t 5)],
   .v 4 (.mov (.t 6))]
def encode_3 : AK := .seq (.reg encode_3o [1, 4]) encode_4
def encode_1 : AK := .seq encode_3 encode_2
def encode_0o : List ROp := [.eff 1 false 5001 (.box 2 (.t 0)),
   .v 2 (.mov (.c (.str []))),
   .v 3 (.mov (.c (.int .i64 0)))]
def encode_0 : AK := .seq (.reg encode_0o [1]) encode_1
def encode : AK := encode_0
theorem encode_vc (P : Program) (E : Env) (Q : KQ) (st : St) :
  (vcW P E encode_2 Q st = aopsW P encode_2o st (KS.reg [2, 3] (KQ.seq P E .ret Q))) ∧
  (vcW P E encode_6 Q st = aopsW P encode_6o st (KS.reg [2, 3] (KQ.seq P E .ret Q))) ∧
  (vcW P E encode_5 Q st = cndW P E (ev st (.t 8)) encode_6 .skip Q st) ∧
  (vcW P E encode_4 Q st = aopsW P encode_4o st (KS.reg [1, 4, 8] (KQ.seq P E encode_5 Q))) ∧
  (vcW P E encode_3 Q st = aopsW P encode_3o st (KS.reg [1, 4] (KQ.seq P E encode_4 Q))) ∧
  (vcW P E encode_1 Q st = vcW P E encode_3 (KQ.seq P E encode_2 Q) st) ∧
  (vcW P E encode_0 Q st = aopsW P encode_0o st (KS.reg [1] (KQ.seq P E encode_1 Q))) ∧
  (vcW P E encode Q st = vcW P E encode_0 Q st) :=
  ⟨rfl, rfl, vcW_cond, rfl, rfl, rfl, rfl, rfl⟩
theorem encode_jn (P : Program) (E : Env) (Q : KQ) (st : St) :
  (True) :=
  trivial
attribute [go_sem] encode_vc encode_2o encode_6o encode_4o encode_3o encode_0o
noncomputable def encodeB : Code := (Tryd.f10.body).getD .skip
theorem encode_eq : trCode Tryd.prog 23 5000 encodeB = encode.erase 5000 := by kernel_rfl
theorem encode_body : Tryd.f10.body = some encodeB := by kernel_rfl
theorem encode_n : Tryd.f10.ntmps = 23 := by kernel_rfl
theorem encode_r : Tryd.f10.results.toList.map (trRes Tryd.prog) = [.tmp 2, .tmp 3] := by kernel_rfl
theorem encode_spec {h : HP} {a0 : AV} {Post : HP → AV → List AV → Prop} (hp : ∀ (E : Env) (R : HP → AV → List AV → Prop), E.N ≤ 1000000 → PostTo Post R → vcW Tryd.prog E encode (KQ.post [.tmp 2, .tmp 3] 1 R) ⟨[(0, a0)], h⟩) : Eng.Spec Tryd.prog 10 h [a0] Post := spec_wk (
  spec_of (c := encode.erase 5000) (B := 5000) Tryd.func10 encode_body (by rw [encode_n, encode_eq]) (by rw [encode_n]; decide) (by rw [encode_n]; exact (by decide : 1 ≤ 23)) (fun E hE hB hrd => by
    have hN : E.N ≤ 1000000 := by
      rw [hE, encode_n]; decide
    rw [encode_r, ← hB]
    exact awp_slots [(0, a0)] ⟨rfl, trivial⟩ (vcW_sound hN _ (hp E _ hN fin_self))))
/- cartulary/object.Decode -/
def decode_5o : List ROp := [.v 62 (.mov (.t 7)),
   .cal (some 63) false 6063 21 [(.t 62)],
   .v 64 (.mov (.t 5)),
   .v 65 (.bld [.int .i64 0, .str []] [(0, 1, (.t 63)), (1, 1, (.t 64))]),
   .effN false 6000 (.st 2 (.t 2) (.t 65)),
   .v 3 (.mov (.c (.int .i64 0)))]
def decode_5 : AK := .seq (.reg decode_5o [2, 3]) .ret
def decode_9o : List ROp := [.v 40 (.bld [.int .i64 0, .str []] []),
   .effN false 6000 (.st 2 (.t 2) (.t 40)),
   .v 3 (.mov (.c (.int .i64 3)))]
def decode_9 : AK := .seq (.reg decode_9o [2, 3]) .ret
def decode_12o : List ROp := [.v 45 (.bld [.int .i64 0, .str []] []),
   .effN false 6000 (.st 2 (.t 2) (.t 45)),
   .v 3 (.mov (.c (.int .i64 10)))]
def decode_12 : AK := .seq (.reg decode_12o [2, 3]) .ret
def decode_15o : List ROp := [.v 49 (.bld [.int .i64 0, .str []] []),
   .effN false 6000 (.st 2 (.t 2) (.t 49)),
   .v 3 (.mov (.c (.int .i64 2)))]
def decode_15 : AK := .seq (.reg decode_15o [2, 3]) .ret
def decode_18o : List ROp := [.v 55 (.bld [.int .i64 0, .str []] []),
   .effN false 6000 (.st 2 (.t 2) (.t 55)),
   .v 3 (.mov (.c (.int .i64 6)))]
def decode_18 : AK := .seq (.reg decode_18o [2, 3]) .ret
def decode_21o : List ROp := [.v 61 (.bld [.int .i64 0, .str []] []),
   .effN false 6000 (.st 2 (.t 2) (.t 61)),
   .v 3 (.mov (.c (.int .i64 3)))]
def decode_21 : AK := .seq (.reg decode_21o [2, 3]) .ret
def decode_20 : AK := .cond (.t 56) decode_21 .skip
def decode_19o : List ROp := [.v 57 (.mov (.t 5)),
   .v 58 (.len true (.t 57)),
   .v 59 (.mov (.t 10)),
   .v 60 (.bin .gtr (.t 58) (.t 59)),
   .v 56 (.mov (.t 60))]
def decode_19 : AK := .seq (.reg decode_19o [2, 5, 7, 56]) decode_20
def decode_17 : AK := .cond (.t 50) decode_18 decode_19
def decode_16o : List ROp := [.v 51 (.mov (.t 5)),
   .v 52 (.len true (.t 51)),
   .v 53 (.mov (.t 10)),
   .v 54 (.bin .lss (.t 52) (.t 53)),
   .v 50 (.mov (.t 54))]
def decode_16 : AK := .seq (.reg decode_16o [2, 5, 7, 10, 50]) decode_17
def decode_14 : AK := .cond (.t 46) decode_15 decode_16
def decode_13o : List ROp := [.v 47 (.mov (.t 10)),
   .v 48 (.bin .gtr (.t 47) (.c (.int .i64 65000))),
   .v 46 (.mov (.t 48))]
def decode_13 : AK := .seq (.reg decode_13o [2, 5, 7, 10, 46]) decode_14
def decode_11 : AK := .cond (.t 41) decode_12 decode_13
def decode_10o : List ROp := [.v 42 (.mov (.t 7)),
   .cal (some 43) false 6043 21 [(.t 42)],
   .v 44 (.bin .eql (.t 43) (.c (.int .i64 0))),
   .v 41 (.mov (.t 44))]
def decode_10 : AK := .seq (.reg decode_10o [2, 5, 7, 10, 41]) decode_11
def decode_8 : AK := .cond (.t 29) decode_9 decode_10
def decode_7o : List ROp := [.v 30 (.mov (.t 6)),
   .v 31 (.un .not (.t 30)),
   .v 32 (.mov (.t 31)),
   .gval 33 32 false false 6033 (.mov (.t 9)),
   .gval 34 32 false false 6034 (.un .not (.t 33)),
   .v 35 (.pick (.t 32) (.c (.bool true)) (.t 34)),
   .v 36 (.mov (.t 35)),
   .gval 37 36 false false 6037 (.mov (.t 11)),
   .gval 38 36 false false 6038 (.un .not (.t 37)),
   .v 39 (.pick (.t 36) (.c (.bool true)) (.t 38)),
   .v 29 (.mov (.t 39))]
def decode_7 : AK := .seq (.reg decode_7o [2, 5, 7, 10, 29]) decode_8
def decode_6 : AK := .block 0 decode_7
def decode_4 : AK := .seq decode_6 decode_5
def decode_3o : List ROp := [.v 25 (.mov (.t 8)),
   .cal (some 26) false 6026 7 [(.t 25)],
   .v 24 (.mov (.t 26)),
   .v 27 (.ext (.t 24) 0),
   .v 28 (.ext (.t 24) 1),
   .v 10 (.mov (.t 27)),
   .v 11 (.mov (.t 28))]
def decode_3 : AK := .seq (.reg decode_3o [2, 5, 6, 7, 9, 10, 11]) decode_4
def decode_2o : List ROp := [.v 19 (.mov (.t 4)),
   .cal (some 20) false 6020 27 [(.t 19), (.c (.str [32]))],
   .v 18 (.mov (.t 20)),
   .v 21 (.ext (.t 18) 0),
   .v 22 (.ext (.t 18) 1),
   .v 23 (.ext (.t 18) 2),
   .v 7 (.mov (.t 21)),
   .v 8 (.mov (.t 22)),
   .v 9 (.mov (.t 23))]
def decode_2 : AK := .seq (.reg decode_2o [2, 5, 6, 7, 8, 9]) decode_3
def decode_1o : List ROp := [.v 13 (.mov (.t 0)),
   .cal (some 14) false 6014 27 [(.t 13), (.c (.str [0]))],
   .v 12 (.mov (.t 14)),
   .v 15 (.ext (.t 12) 0),
   .v 16 (.ext (.t 12) 1),
   .v 17 (.ext (.t 12) 2),
   .v 4 (.mov (.t 15)),
   .v 5 (.mov (.t 16)),
   .v 6 (.mov (.t 17))]
def decode_1 : AK := .seq (.reg decode_1o [2, 4, 5, 6]) decode_2
def decode_0o : List ROp := [.eff 2 false 6002 (.alloc [.int .i64 0, .str []]),
   .v 3 (.mov (.c (.int .i64 0)))]
def decode_0 : AK := .seq (.reg decode_0o [0, 2]) decode_1
def decode : AK := decode_0
theorem decode_vc (P : Program) (E : Env) (Q : KQ) (st : St) :
  (vcW P E decode_5 Q st = aopsW P decode_5o st (KS.reg [2, 3] (KQ.seq P E .ret Q))) ∧
  (vcW P E decode_9 Q st = aopsW P decode_9o st (KS.reg [2, 3] (KQ.seq P E .ret Q))) ∧
  (vcW P E decode_12 Q st = aopsW P decode_12o st (KS.reg [2, 3] (KQ.seq P E .ret Q))) ∧
  (vcW P E decode_15 Q st = aopsW P decode_15o st (KS.reg [2, 3] (KQ.seq P E .ret Q))) ∧
  (vcW P E decode_18 Q st = aopsW P decode_18o st (KS.reg [2, 3] (KQ.seq P E .ret Q))) ∧
  (vcW P E decode_21 Q st = aopsW P decode_21o st (KS.reg [2, 3] (KQ.seq P E .ret Q))) ∧
  (vcW P E decode_20 Q st = cndW P E (ev st (.t 56)) decode_21 .skip Q st) ∧
  (vcW P E decode_19 Q st = aopsW P decode_19o st (KS.reg [2, 5, 7, 56] (KQ.seq P E decode_20 Q))) ∧
  (vcW P E decode_17 Q st = cndW P E (ev st (.t 50)) decode_18 decode_19 Q st) ∧
  (vcW P E decode_16 Q st = aopsW P decode_16o st (KS.reg [2, 5, 7, 10, 50] (KQ.seq P E decode_17 Q))) ∧
  (vcW P E decode_14 Q st = cndW P E (ev st (.t 46)) decode_15 decode_16 Q st) ∧
  (vcW P E decode_13 Q st = aopsW P decode_13o st (KS.reg [2, 5, 7, 10, 46] (KQ.seq P E decode_14 Q))) ∧
  (vcW P E decode_11 Q st = cndW P E (ev st (.t 41)) decode_12 decode_13 Q st) ∧
  (vcW P E decode_10 Q st = aopsW P decode_10o st (KS.reg [2, 5, 7, 10, 41] (KQ.seq P E decode_11 Q))) ∧
  (vcW P E decode_8 Q st = cndW P E (ev st (.t 29)) decode_9 decode_10 Q st) ∧
  (vcW P E decode_7 Q st = aopsW P decode_7o st (KS.reg [2, 5, 7, 10, 29] (KQ.seq P E decode_8 Q))) ∧
  (vcW P E decode_6 Q st = vcW P E decode_7 (KQ.blk 0 Q) st) ∧
  (vcW P E decode_4 Q st = vcW P E decode_6 (KQ.seq P E decode_5 Q) st) ∧
  (vcW P E decode_3 Q st = aopsW P decode_3o st (KS.reg [2, 5, 6, 7, 9, 10, 11] (KQ.seq P E decode_4 Q))) ∧
  (vcW P E decode_2 Q st = aopsW P decode_2o st (KS.reg [2, 5, 6, 7, 8, 9] (KQ.seq P E decode_3 Q))) ∧
  (vcW P E decode_1 Q st = aopsW P decode_1o st (KS.reg [2, 4, 5, 6] (KQ.seq P E decode_2 Q))) ∧
  (vcW P E decode_0 Q st = aopsW P decode_0o st (KS.reg [0, 2] (KQ.seq P E decode_1 Q))) ∧
  (vcW P E decode Q st = vcW P E decode_0 Q st) :=
  ⟨rfl, rfl, rfl, rfl, rfl, rfl, vcW_cond, rfl, vcW_cond, rfl, vcW_cond, rfl, vcW_cond, rfl, vcW_cond, rfl, rfl, rfl, rfl, rfl, rfl, rfl, rfl⟩
theorem decode_jn (P : Program) (E : Env) (Q : KQ) (st : St) :
  (True) :=
  trivial
attribute [go_sem] decode_vc decode_5o decode_9o decode_12o decode_15o decode_18o decode_21o decode_19o decode_16o decode_13o decode_10o decode_7o decode_3o decode_2o decode_1o decode_0o
noncomputable def decodeB : Code := (Tryd.f16.body).getD .skip
theorem decode_eq : trCode Tryd.prog 66 6000 decodeB = decode.erase 6000 := by kernel_rfl
theorem decode_body : Tryd.f16.body = some decodeB := by kernel_rfl
theorem decode_n : Tryd.f16.ntmps = 66 := by kernel_rfl
theorem decode_r : Tryd.f16.results.toList.map (trRes Tryd.prog) = [.cell 2 true 2, .tmp 3] := by kernel_rfl
theorem decode_spec {h : HP} {a0 : AV} {Post : HP → AV → List AV → Prop} (hp : ∀ (E : Env) (R : HP → AV → List AV → Prop), E.N ≤ 1000000 → PostTo Post R → vcW Tryd.prog E decode (KQ.post [.cell 2 true 2, .tmp 3] 1 R) ⟨[(0, a0)], h⟩) : Eng.Spec Tryd.prog 16 h [a0] Post := spec_wk (
  spec_of (c := decode.erase 6000) (B := 6000) Tryd.func16 decode_body (by rw [decode_n, decode_eq]) (by rw [decode_n]; decide) (by rw [decode_n]; exact (by decide : 1 ≤ 66)) (fun E hE hB hrd => by
    have hN : E.N ≤ 1000000 := by
      rw [hE, decode_n]; decide
    rw [decode_r, ← hB]
    exact awp_slots [(0, a0)] ⟨rfl, trivial⟩ (vcW_sound hN _ (hp E _ hN fin_self))))
/- cartulary/object.Id -/
def oid_3o : List ROp := [.v 14 (.mov (.t 4)),
   .cal (some 15) false 7015 26 [(.t 14)],
   .cal (some 16) false 7016 25 [(.t 15)],
   .v 2 (.mov (.t 16)),
   .v 3 (.mov (.c (.int .i64 0)))]
def oid_3 : AK := .seq (.reg oid_3o [2, 3]) .ret
def oid_6o : List ROp := [.v 13 (.mov (.t 5)),
   .v 2 (.mov (.c (.str []))),
   .v 3 (.mov (.t 13))]
def oid_6 : AK := .seq (.reg oid_6o [2, 3]) .ret
def oid_5 : AK := .cond (.t 12) oid_6 .skip
def oid_4o : List ROp := [.v 11 (.mov (.t 5)),
   .v 12 (.bin .neq (.t 11) (.c (.int .i64 0)))]
def oid_4 : AK := .seq (.reg oid_4o [4, 5, 12]) oid_5
def oid_2 : AK := .seq oid_4 oid_3
def oid_1o : List ROp := [.v 7 (.ld true 2 (.t 1)),
   .cal (some 8) false 7008 10 [(.t 7)],
   .v 6 (.mov (.t 8)),
   .v 9 (.ext (.t 6) 0),
   .v 10 (.ext (.t 6) 1),
   .v 4 (.mov (.t 9)),
   .v 5 (.mov (.t 10))]
def oid_1 : AK := .seq (.reg oid_1o [4, 5]) oid_2
def oid_0o : List ROp := [.eff 1 false 7001 (.box 2 (.t 0)),
   .v 2 (.mov (.c (.str []))),
   .v 3 (.mov (.c (.int .i64 0)))]
def oid_0 : AK := .seq (.reg oid_0o [1]) oid_1
def oid : AK := oid_0
theorem oid_vc (P : Program) (E : Env) (Q : KQ) (st : St) :
  (vcW P E oid_3 Q st = aopsW P oid_3o st (KS.reg [2, 3] (KQ.seq P E .ret Q))) ∧
  (vcW P E oid_6 Q st = aopsW P oid_6o st (KS.reg [2, 3] (KQ.seq P E .ret Q))) ∧
  (vcW P E oid_5 Q st = cndW P E (ev st (.t 12)) oid_6 .skip Q st) ∧
  (vcW P E oid_4 Q st = aopsW P oid_4o st (KS.reg [4, 5, 12] (KQ.seq P E oid_5 Q))) ∧
  (vcW P E oid_2 Q st = vcW P E oid_4 (KQ.seq P E oid_3 Q) st) ∧
  (vcW P E oid_1 Q st = aopsW P oid_1o st (KS.reg [4, 5] (KQ.seq P E oid_2 Q))) ∧
  (vcW P E oid_0 Q st = aopsW P oid_0o st (KS.reg [1] (KQ.seq P E oid_1 Q))) ∧
  (vcW P E oid Q st = vcW P E oid_0 Q st) :=
  ⟨rfl, rfl, vcW_cond, rfl, rfl, rfl, rfl, rfl⟩
theorem oid_jn (P : Program) (E : Env) (Q : KQ) (st : St) :
  (True) :=
  trivial
attribute [go_sem] oid_vc oid_3o oid_6o oid_4o oid_1o oid_0o
noncomputable def oidB : Code := (Tryd.f11.body).getD .skip
theorem oid_eq : trCode Tryd.prog 17 7000 oidB = oid.erase 7000 := by kernel_rfl
theorem oid_body : Tryd.f11.body = some oidB := by kernel_rfl
theorem oid_n : Tryd.f11.ntmps = 17 := by kernel_rfl
theorem oid_r : Tryd.f11.results.toList.map (trRes Tryd.prog) = [.tmp 2, .tmp 3] := by kernel_rfl
theorem oid_spec {h : HP} {a0 : AV} {Post : HP → AV → List AV → Prop} (hp : ∀ (E : Env) (R : HP → AV → List AV → Prop), E.N ≤ 1000000 → PostTo Post R → vcW Tryd.prog E oid (KQ.post [.tmp 2, .tmp 3] 1 R) ⟨[(0, a0)], h⟩) : Eng.Spec Tryd.prog 11 h [a0] Post := spec_wk (
  spec_of (c := oid.erase 7000) (B := 7000) Tryd.func11 oid_body (by rw [oid_n, oid_eq]) (by rw [oid_n]; decide) (by rw [oid_n]; exact (by decide : 1 ≤ 17)) (fun E hE hB hrd => by
    have hN : E.N ≤ 1000000 := by
      rw [hE, oid_n]; decide
    rw [oid_r, ← hB]
    exact awp_slots [(0, a0)] ⟨rfl, trivial⟩ (vcW_sound hN _ (hp E _ hN fin_self))))
/- cartulary/cartularyref08.Name -/
def rname_2o : List ROp := [.eff 9 false 8009 (.bsl 1 [(.c (.str [99, 111, 109, 109, 105, 116])), (.c (.str [116, 114, 101, 101])), (.c (.str [98, 108, 111, 98])), (.c (.str [116, 97, 103]))]),
   .v 10 (.mov (.t 0)),
   .v 11 (.bin .sub (.t 10) (.c (.int .i64 1))),
   .v 12 (.idxA 1 (.t 9) (.t 11)),
   .v 13 (.ld false 1 (.t 12)),
   .v 2 (.mov (.t 13))]
def rname_2 : AK := .seq (.reg rname_2o [2]) .ret
def rname_5o : List ROp := [.v 2 (.mov (.c (.str [])))]
def rname_5 : AK := .seq (.reg rname_5o [2]) .ret
def rname_4 : AK := .cond (.t 8) rname_5 .skip
def rname_3o : List ROp := [.v 3 (.mov (.t 0)),
   .v 4 (.bin .lss (.t 3) (.c (.int .i64 1))),
   .v 5 (.mov (.t 4)),
   .gval 6 5 false false 8006 (.mov (.t 0)),
   .gval 7 5 false false 8007 (.bin .gtr (.t 6) (.c (.int .i64 4))),
   .v 8 (.pick (.t 5) (.c (.bool true)) (.t 7))]
def rname_3 : AK := .seq (.reg rname_3o [0, 8]) rname_4
def rname_1 : AK := .seq rname_3 rname_2
def rname_0o : List ROp := [.v 2 (.mov (.c (.str [])))]
def rname_0 : AK := .seq (.reg rname_0o [0]) rname_1
def rname : AK := rname_0
theorem rname_vc (P : Program) (E : Env) (Q : KQ) (st : St) :
  (vcW P E rname_2 Q st = aopsW P rname_2o st (KS.reg [2] (KQ.seq P E .ret Q))) ∧
  (vcW P E rname_5 Q st = aopsW P rname_5o st (KS.reg [2] (KQ.seq P E .ret Q))) ∧
  (vcW P E rname_4 Q st = cndW P E (ev st (.t 8)) rname_5 .skip Q st) ∧
  (vcW P E rname_3 Q st = aopsW P rname_3o st (KS.reg [0, 8] (KQ.seq P E rname_4 Q))) ∧
  (vcW P E rname_1 Q st = vcW P E rname_3 (KQ.seq P E rname_2 Q) st) ∧
  (vcW P E rname_0 Q st = aopsW P rname_0o st (KS.reg [0] (KQ.seq P E rname_1 Q))) ∧
  (vcW P E rname Q st = vcW P E rname_0 Q st) :=
  ⟨rfl, rfl, vcW_cond, rfl, rfl, rfl, rfl⟩
theorem rname_jn (P : Program) (E : Env) (Q : KQ) (st : St) :
  (True) :=
  trivial
attribute [go_sem] rname_vc rname_2o rname_5o rname_3o rname_0o
noncomputable def rnameB : Code := (Tryd.f15.body).getD .skip
theorem rname_eq : trCode Tryd.prog 14 8000 rnameB = rname.erase 8000 := by kernel_rfl
theorem rname_body : Tryd.f15.body = some rnameB := by kernel_rfl
theorem rname_n : Tryd.f15.ntmps = 14 := by kernel_rfl
theorem rname_r : Tryd.f15.results.toList.map (trRes Tryd.prog) = [.tmp 2] := by kernel_rfl
theorem rname_spec {h : HP} {a0 : AV} {Post : HP → AV → List AV → Prop} (hp : ∀ (E : Env) (R : HP → AV → List AV → Prop), E.N ≤ 1000000 → PostTo Post R → vcW Tryd.prog E rname (KQ.post [.tmp 2] 1 R) ⟨[(0, a0)], h⟩) : Eng.Spec Tryd.prog 15 h [a0] Post := spec_wk (
  spec_of (c := rname.erase 8000) (B := 8000) Tryd.func15 rname_body (by rw [rname_n, rname_eq]) (by rw [rname_n]; decide) (by rw [rname_n]; exact (by decide : 1 ≤ 14)) (fun E hE hB hrd => by
    have hN : E.N ≤ 1000000 := by
      rw [hE, rname_n]; decide
    rw [rname_r, ← hB]
    exact awp_slots [(0, a0)] ⟨rfl, trivial⟩ (vcW_sound hN _ (hp E _ hN fin_self))))
/- cartulary/cartularyref08.Kind -/
def rkind_2o : List ROp := [.v 2 (.mov (.c (.int .i64 0)))]
def rkind_2 : AK := .seq (.reg rkind_2o [2]) .ret
def rkind_7o : List ROp := [.v 6 (.mov (.t 3)),
   .v 7 (.bin .add (.t 6) (.c (.int .i64 1))),
   .v 3 (.mov (.t 7))]
def rkind_7 : AK := .reg rkind_7o [0, 3]
def rkind_11o : List ROp := [.v 12 (.mov (.t 3)),
   .v 2 (.mov (.t 12))]
def rkind_11 : AK := .seq (.reg rkind_11o [2]) .ret
def rkind_10 : AK := .cond (.t 11) rkind_11 .skip
def rkind_9o : List ROp := [.v 8 (.mov (.t 3)),
   .cal (some 9) false 9009 15 [(.t 8)],
   .v 10 (.mov (.t 0)),
   .v 11 (.bin .eql (.t 9) (.t 10))]
def rkind_9 : AK := .seq (.reg rkind_9o [0, 3, 11]) rkind_10
def rkind_8 : AK := .block 1 rkind_9
def rkind_6 : AK := .seq rkind_8 rkind_7
def rkind_13 : AK := .cond (.t 5) .skip (.exit 0)
def rkind_12o : List ROp := [.v 4 (.mov (.t 3)),
   .v 5 (.bin .leq (.t 4) (.c (.int .i64 4)))]
def rkind_12 : AK := .seq (.reg rkind_12o [0, 3, 5]) rkind_13
def rkind_5 : AK := .seq rkind_12 rkind_6
def rkind_L0 : AK := .loop rkind_5
def rkind_4 : AK := .block 0 rkind_L0
def rkind_3o : List ROp := [.v 3 (.mov (.c (.int .i64 1)))]
def rkind_3 : AK := .seq (.reg rkind_3o [0, 3]) rkind_4
def rkind_1 : AK := .seq rkind_3 rkind_2
def rkind_0o : List ROp := [.v 2 (.mov (.c (.int .i64 0)))]
def rkind_0 : AK := .seq (.reg rkind_0o [0]) rkind_1
def rkind : AK := rkind_0
theorem rkind_vc (P : Program) (E : Env) (Q : KQ) (st : St) :
  (vcW P E rkind_2 Q st = aopsW P rkind_2o st (KS.reg [2] (KQ.seq P E .ret Q))) ∧
  (vcW P E rkind_7 Q st = aopsW P rkind_7o st (KS.reg [0, 3] Q)) ∧
  (vcW P E rkind_11 Q st = aopsW P rkind_11o st (KS.reg [2] (KQ.seq P E .ret Q))) ∧
  (vcW P E rkind_10 Q st = cndW P E (ev st (.t 11)) rkind_11 .skip Q st) ∧
  (vcW P E rkind_9 Q st = aopsW P rkind_9o st (KS.reg [0, 3, 11] (KQ.seq P E rkind_10 Q))) ∧
  (vcW P E rkind_8 Q st = vcW P E rkind_9 (KQ.blk 1 Q) st) ∧
  (vcW P E rkind_6 Q st = vcW P E rkind_8 (KQ.seq P E rkind_7 Q) st) ∧
  (vcW P E rkind_13 Q st = cndW P E (ev st (.t 5)) .skip (.exit 0) Q st) ∧
  (vcW P E rkind_12 Q st = aopsW P rkind_12o st (KS.reg [0, 3, 5] (KQ.seq P E rkind_13 Q))) ∧
  (vcW P E rkind_5 Q st = vcW P E rkind_12 (KQ.seq P E rkind_6 Q) st) ∧
  (vcW P E rkind_4 Q st = vcW P E rkind_L0 (KQ.blk 0 Q) st) ∧
  (vcW P E rkind_3 Q st = aopsW P rkind_3o st (KS.reg [0, 3] (KQ.seq P E rkind_4 Q))) ∧
  (vcW P E rkind_1 Q st = vcW P E rkind_3 (KQ.seq P E rkind_2 Q) st) ∧
  (vcW P E rkind_0 Q st = aopsW P rkind_0o st (KS.reg [0] (KQ.seq P E rkind_1 Q))) ∧
  (vcW P E rkind Q st = vcW P E rkind_0 Q st) :=
  ⟨rfl, rfl, rfl, vcW_cond, rfl, rfl, rfl, vcW_cond, rfl, rfl, rfl, rfl, rfl, rfl, rfl⟩
theorem rkind_jn (P : Program) (E : Env) (Q : KQ) (st : St) :
  (True) :=
  trivial
attribute [go_sem] rkind_vc rkind_2o rkind_7o rkind_11o rkind_9o rkind_12o rkind_3o rkind_0o
noncomputable def rkindB : Code := (Tryd.f22.body).getD .skip
theorem rkind_eq : trCode Tryd.prog 13 9000 rkindB = rkind.erase 9000 := by kernel_rfl
theorem rkind_body : Tryd.f22.body = some rkindB := by kernel_rfl
theorem rkind_n : Tryd.f22.ntmps = 13 := by kernel_rfl
theorem rkind_r : Tryd.f22.results.toList.map (trRes Tryd.prog) = [.tmp 2] := by kernel_rfl
theorem rkind_spec {h : HP} {a0 : AV} {Post : HP → AV → List AV → Prop} (hp : ∀ (E : Env) (R : HP → AV → List AV → Prop), E.N ≤ 1000000 → PostTo Post R → vcW Tryd.prog E rkind (KQ.post [.tmp 2] 1 R) ⟨[(0, a0)], h⟩) : Eng.Spec Tryd.prog 22 h [a0] Post := spec_wk (
  spec_of (c := rkind.erase 9000) (B := 9000) Tryd.func22 rkind_body (by rw [rkind_n, rkind_eq]) (by rw [rkind_n]; decide) (by rw [rkind_n]; exact (by decide : 1 ≤ 13)) (fun E hE hB hrd => by
    have hN : E.N ≤ 1000000 := by
      rw [hE, rkind_n]; decide
    rw [rkind_r, ← hB]
    exact awp_slots [(0, a0)] ⟨rfl, trivial⟩ (vcW_sound hN _ (hp E _ hN fin_self))))
/- cartulary/cartularyref08.Number -/
def rnumber_4o : List ROp := [.v 47 (.mov (.t 3)),
   .v 2 (.mov (.t 47))]
def rnumber_4 : AK := .seq (.reg rnumber_4o [2]) .ret
def rnumber_9o : List ROp := [.v 27 (.mov (.t 4)),
   .v 28 (.bin .add (.t 27) (.c (.int .i64 1))),
   .v 4 (.mov (.t 28))]
def rnumber_9 : AK := .reg rnumber_9o [0, 3, 4]
def rnumber_12o : List ROp := [.v 39 (.mov (.t 3)),
   .v 40 (.bin .mul (.c (.int .i64 10)) (.t 39)),
   .v 41 (.mov (.t 0)),
   .v 42 (.mov (.t 4)),
   .v 43 (.sidx (.t 41) (.t 42)),
   .v 44 (.bin .sub (.t 43) (.c (.int .u8 48))),
   .v 45 (.cvi .i64 (.t 44)),
   .v 46 (.bin .add (.t 40) (.t 45)),
   .v 3 (.mov (.t 46))]
def rnumber_12 : AK := .reg rnumber_12o [0, 3, 4]
def rnumber_15o : List ROp := [.v 2 (.mov (.c (.int .i64 (-1))))]
def rnumber_15 : AK := .seq (.reg rnumber_15o [2]) .ret
def rnumber_14 : AK := .cond (.t 38) rnumber_15 .skip
def rnumber_13o : List ROp := [.v 29 (.mov (.t 0)),
   .v 30 (.mov (.t 4)),
   .v 31 (.sidx (.t 29) (.t 30)),
   .v 32 (.bin .lss (.t 31) (.c (.int .u8 48))),
   .v 33 (.mov (.t 32)),
   .gval 34 33 false false 10034 (.mov (.t 0)),
   .gval 35 33 false false 10035 (.mov (.t 4)),
   .gval 36 33 false false 10036 (.sidx (.t 34) (.t 35)),
   .gval 37 33 false false 10037 (.bin .gtr (.t 36) (.c (.int .u8 57))),
   .v 38 (.pick (.t 33) (.c (.bool true)) (.t 37))]
def rnumber_13 : AK := .seq (.reg rnumber_13o [0, 3, 4, 38]) rnumber_14
def rnumber_11 : AK := .seq rnumber_13 rnumber_12
def rnumber_10 : AK := .block 1 rnumber_11
def rnumber_8 : AK := .seq rnumber_10 rnumber_9
def rnumber_17 : AK := .cond (.t 26) .skip (.exit 0)
def rnumber_16o : List ROp := [.v 23 (.mov (.t 4)),
   .v 24 (.mov (.t 0)),
   .v 25 (.len true (.t 24)),
   .v 26 (.bin .lss (.t 23) (.t 25))]
def rnumber_16 : AK := .seq (.reg rnumber_16o [0, 3, 4, 26]) rnumber_17
def rnumber_7 : AK := .seq rnumber_16 rnumber_8
def rnumber_L0 : AK := .loop rnumber_7
def rnumber_6 : AK := .block 0 rnumber_L0
def rnumber_5o : List ROp := [.v 4 (.mov (.c (.int .i64 0)))]
def rnumber_5 : AK := .seq (.reg rnumber_5o [0, 3, 4]) rnumber_6
def rnumber_3 : AK := .seq rnumber_5 rnumber_4
def rnumber_2o : List ROp := [.v 3 (.mov (.c (.int .i64 0)))]
def rnumber_2 : AK := .seq (.reg rnumber_2o [0, 3]) rnumber_3
def rnumber_20o : List ROp := [.v 2 (.mov (.c (.int .i64 (-1))))]
def rnumber_20 : AK := .seq (.reg rnumber_20o [2]) .ret
def rnumber_19 : AK := .cond (.t 22) rnumber_20 .skip
def rnumber_18o : List ROp := [.v 5 (.mov (.t 0)),
   .v 6 (.len true (.t 5)),
   .v 7 (.bin .lss (.t 6) (.c (.int .i64 1))),
   .v 8 (.mov (.t 7)),
   .gval 9 8 false false 10009 (.mov (.t 0)),
   .gval 10 8 false false 10010 (.len true (.t 9)),
   .gval 11 8 false false 10011 (.bin .gtr (.t 10) (.c (.int .i64 9))),
   .v 12 (.pick (.t 8) (.c (.bool true)) (.t 11)),
   .v 13 (.mov (.t 12)),
   .gval 14 13 false false 10014 (.mov (.t 0)),
   .gval 15 13 false false 10015 (.sidx (.t 14) (.c (.int .i64 0))),
   .gval 16 13 false false 10016 (.bin .eql (.t 15) (.c (.int .u8 48))),
   .gval 17 13 false false 10017 (.mov (.t 16)),
   .gval 18 17 true false 10018 (.mov (.t 0)),
   .gval 19 17 true false 10019 (.len true (.t 18)),
   .gval 20 17 true false 10020 (.bin .gtr (.t 19) (.c (.int .i64 1))),
   .gval 21 13 false false 10021 (.pick (.t 17) (.t 20) (.c (.bool false))),
   .v 22 (.pick (.t 13) (.c (.bool true)) (.t 21))]
def rnumber_18 : AK := .seq (.reg rnumber_18o [0, 22]) rnumber_19
def rnumber_1 : AK := .seq rnumber_18 rnumber_2
def rnumber_0o : List ROp := [.v 2 (.mov (.c (.int .i64 0)))]
def rnumber_0 : AK := .seq (.reg rnumber_0o [0]) rnumber_1
def rnumber : AK := rnumber_0
theorem rnumber_vc (P : Program) (E : Env) (Q : KQ) (st : St) :
  (vcW P E rnumber_4 Q st = aopsW P rnumber_4o st (KS.reg [2] (KQ.seq P E .ret Q))) ∧
  (vcW P E rnumber_9 Q st = aopsW P rnumber_9o st (KS.reg [0, 3, 4] Q)) ∧
  (vcW P E rnumber_12 Q st = aopsW P rnumber_12o st (KS.reg [0, 3, 4] Q)) ∧
  (vcW P E rnumber_15 Q st = aopsW P rnumber_15o st (KS.reg [2] (KQ.seq P E .ret Q))) ∧
  (vcW P E rnumber_14 Q st = cndW P E (ev st (.t 38)) rnumber_15 .skip Q st) ∧
  (vcW P E rnumber_13 Q st = aopsW P rnumber_13o st (KS.reg [0, 3, 4, 38] (KQ.seq P E rnumber_14 Q))) ∧
  (vcW P E rnumber_11 Q st = vcW P E rnumber_13 (KQ.seq P E rnumber_12 Q) st) ∧
  (vcW P E rnumber_10 Q st = vcW P E rnumber_11 (KQ.blk 1 Q) st) ∧
  (vcW P E rnumber_8 Q st = vcW P E rnumber_10 (KQ.seq P E rnumber_9 Q) st) ∧
  (vcW P E rnumber_17 Q st = cndW P E (ev st (.t 26)) .skip (.exit 0) Q st) ∧
  (vcW P E rnumber_16 Q st = aopsW P rnumber_16o st (KS.reg [0, 3, 4, 26] (KQ.seq P E rnumber_17 Q))) ∧
  (vcW P E rnumber_7 Q st = vcW P E rnumber_16 (KQ.seq P E rnumber_8 Q) st) ∧
  (vcW P E rnumber_6 Q st = vcW P E rnumber_L0 (KQ.blk 0 Q) st) ∧
  (vcW P E rnumber_5 Q st = aopsW P rnumber_5o st (KS.reg [0, 3, 4] (KQ.seq P E rnumber_6 Q))) ∧
  (vcW P E rnumber_3 Q st = vcW P E rnumber_5 (KQ.seq P E rnumber_4 Q) st) ∧
  (vcW P E rnumber_2 Q st = aopsW P rnumber_2o st (KS.reg [0, 3] (KQ.seq P E rnumber_3 Q))) ∧
  (vcW P E rnumber_20 Q st = aopsW P rnumber_20o st (KS.reg [2] (KQ.seq P E .ret Q))) ∧
  (vcW P E rnumber_19 Q st = cndW P E (ev st (.t 22)) rnumber_20 .skip Q st) ∧
  (vcW P E rnumber_18 Q st = aopsW P rnumber_18o st (KS.reg [0, 22] (KQ.seq P E rnumber_19 Q))) ∧
  (vcW P E rnumber_1 Q st = vcW P E rnumber_18 (KQ.seq P E rnumber_2 Q) st) ∧
  (vcW P E rnumber_0 Q st = aopsW P rnumber_0o st (KS.reg [0] (KQ.seq P E rnumber_1 Q))) ∧
  (vcW P E rnumber Q st = vcW P E rnumber_0 Q st) :=
  ⟨rfl, rfl, rfl, rfl, vcW_cond, rfl, rfl, rfl, rfl, vcW_cond, rfl, rfl, rfl, rfl, rfl, rfl, rfl, vcW_cond, rfl, rfl, rfl, rfl⟩
theorem rnumber_jn (P : Program) (E : Env) (Q : KQ) (st : St) :
  (True) :=
  trivial
attribute [go_sem] rnumber_vc rnumber_4o rnumber_9o rnumber_12o rnumber_15o rnumber_13o rnumber_16o rnumber_5o rnumber_2o rnumber_20o rnumber_18o rnumber_0o
noncomputable def rnumberB : Code := (Tryd.f20.body).getD .skip
theorem rnumber_eq : trCode Tryd.prog 48 10000 rnumberB = rnumber.erase 10000 := by kernel_rfl
theorem rnumber_body : Tryd.f20.body = some rnumberB := by kernel_rfl
theorem rnumber_n : Tryd.f20.ntmps = 48 := by kernel_rfl
theorem rnumber_r : Tryd.f20.results.toList.map (trRes Tryd.prog) = [.tmp 2] := by kernel_rfl
theorem rnumber_spec {h : HP} {a0 : AV} {Post : HP → AV → List AV → Prop} (hp : ∀ (E : Env) (R : HP → AV → List AV → Prop), E.N ≤ 1000000 → PostTo Post R → vcW Tryd.prog E rnumber (KQ.post [.tmp 2] 1 R) ⟨[(0, a0)], h⟩) : Eng.Spec Tryd.prog 20 h [a0] Post := spec_wk (
  spec_of (c := rnumber.erase 10000) (B := 10000) Tryd.func20 rnumber_body (by rw [rnumber_n, rnumber_eq]) (by rw [rnumber_n]; decide) (by rw [rnumber_n]; exact (by decide : 1 ≤ 48)) (fun E hE hB hrd => by
    have hN : E.N ≤ 1000000 := by
      rw [hE, rnumber_n]; decide
    rw [rnumber_r, ← hB]
    exact awp_slots [(0, a0)] ⟨rfl, trivial⟩ (vcW_sound hN _ (hp E _ hN fin_self))))
/- cartulary/cartularyref08.Check -/
def rcheck_3o : List ROp := [.v 2 (.mov (.c (.int .i64 0)))]
def rcheck_3 : AK := .seq (.reg rcheck_3o [2]) .ret
def rcheck_6o : List ROp := [.v 2 (.mov (.c (.int .i64 2)))]
def rcheck_6 : AK := .seq (.reg rcheck_6o [2]) .ret
def rcheck_5 : AK := .cond (.t 10) rcheck_6 .skip
def rcheck_4o : List ROp := [.v 7 (.fldA false 1 1 (.t 1)),
   .v 8 (.ld false 1 (.t 7)),
   .v 9 (.len true (.t 8)),
   .v 10 (.bin .gtr (.t 9) (.c (.int .i64 65000)))]
def rcheck_4 : AK := .seq (.reg rcheck_4o [10]) rcheck_5
def rcheck_2 : AK := .seq rcheck_4 rcheck_3
def rcheck_9o : List ROp := [.v 2 (.mov (.c (.int .i64 10)))]
def rcheck_9 : AK := .seq (.reg rcheck_9o [2]) .ret
def rcheck_8 : AK := .cond (.t 6) rcheck_9 .skip
def rcheck_7o : List ROp := [.v 3 (.fldA false 0 1 (.t 1)),
   .v 4 (.ld false 1 (.t 3)),
   .cal (some 5) false 11005 15 [(.t 4)],
   .v 6 (.bin .eql (.t 5) (.c (.str [])))]
def rcheck_7 : AK := .seq (.reg rcheck_7o [1, 6]) rcheck_8
def rcheck_1 : AK := .seq rcheck_7 rcheck_2
def rcheck_0o : List ROp := [.eff 1 false 11001 (.box 2 (.t 0)),
   .v 2 (.mov (.c (.int .i64 0)))]
def rcheck_0 : AK := .seq (.reg rcheck_0o [1]) rcheck_1
def rcheck : AK := rcheck_0
theorem rcheck_vc (P : Program) (E : Env) (Q : KQ) (st : St) :
  (vcW P E rcheck_3 Q st = aopsW P rcheck_3o st (KS.reg [2] (KQ.seq P E .ret Q))) ∧
  (vcW P E rcheck_6 Q st = aopsW P rcheck_6o st (KS.reg [2] (KQ.seq P E .ret Q))) ∧
  (vcW P E rcheck_5 Q st = cndW P E (ev st (.t 10)) rcheck_6 .skip Q st) ∧
  (vcW P E rcheck_4 Q st = aopsW P rcheck_4o st (KS.reg [10] (KQ.seq P E rcheck_5 Q))) ∧
  (vcW P E rcheck_2 Q st = vcW P E rcheck_4 (KQ.seq P E rcheck_3 Q) st) ∧
  (vcW P E rcheck_9 Q st = aopsW P rcheck_9o st (KS.reg [2] (KQ.seq P E .ret Q))) ∧
  (vcW P E rcheck_8 Q st = cndW P E (ev st (.t 6)) rcheck_9 .skip Q st) ∧
  (vcW P E rcheck_7 Q st = aopsW P rcheck_7o st (KS.reg [1, 6] (KQ.seq P E rcheck_8 Q))) ∧
  (vcW P E rcheck_1 Q st = vcW P E rcheck_7 (KQ.seq P E rcheck_2 Q) st) ∧
  (vcW P E rcheck_0 Q st = aopsW P rcheck_0o st (KS.reg [1] (KQ.seq P E rcheck_1 Q))) ∧
  (vcW P E rcheck Q st = vcW P E rcheck_0 Q st) :=
  ⟨rfl, rfl, vcW_cond, rfl, rfl, rfl, vcW_cond, rfl, rfl, rfl, rfl⟩
theorem rcheck_jn (P : Program) (E : Env) (Q : KQ) (st : St) :
  (True) :=
  trivial
attribute [go_sem] rcheck_vc rcheck_3o rcheck_6o rcheck_4o rcheck_9o rcheck_7o rcheck_0o
noncomputable def rcheckB : Code := (Tryd.f12.body).getD .skip
theorem rcheck_eq : trCode Tryd.prog 11 11000 rcheckB = rcheck.erase 11000 := by kernel_rfl
theorem rcheck_body : Tryd.f12.body = some rcheckB := by kernel_rfl
theorem rcheck_n : Tryd.f12.ntmps = 11 := by kernel_rfl
theorem rcheck_r : Tryd.f12.results.toList.map (trRes Tryd.prog) = [.tmp 2] := by kernel_rfl
theorem rcheck_spec {h : HP} {a0 : AV} {Post : HP → AV → List AV → Prop} (hp : ∀ (E : Env) (R : HP → AV → List AV → Prop), E.N ≤ 1000000 → PostTo Post R → vcW Tryd.prog E rcheck (KQ.post [.tmp 2] 1 R) ⟨[(0, a0)], h⟩) : Eng.Spec Tryd.prog 12 h [a0] Post := spec_wk (
  spec_of (c := rcheck.erase 11000) (B := 11000) Tryd.func12 rcheck_body (by rw [rcheck_n, rcheck_eq]) (by rw [rcheck_n]; decide) (by rw [rcheck_n]; exact (by decide : 1 ≤ 11)) (fun E hE hB hrd => by
    have hN : E.N ≤ 1000000 := by
      rw [hE, rcheck_n]; decide
    rw [rcheck_r, ← hB]
    exact awp_slots [(0, a0)] ⟨rfl, trivial⟩ (vcW_sound hN _ (hp E _ hN fin_self))))
/- cartulary/cartularyref08.Text -/
def rtext_1o : List ROp := [.val 3 true 12003 (.fldA false 0 1 (.t 1)),
   .val 4 true 12004 (.ld false 1 (.t 3)),
   .val 7 true 12007 (.fldA false 1 1 (.t 1)),
   .val 8 true 12008 (.ld false 1 (.t 7)),
   .val 9 true 12009 (.len true (.t 8)),
   .val 13 true 12013 (.fldA false 1 1 (.t 1)),
   .val 14 true 12014 (.ld false 1 (.t 13)),
   .cal (some 5) true 12005 15 [(.t 4)],
   .val 6 true 12006 (.bin .add (.t 5) (.c (.str [32]))),
   .cal (some 10) true 12010 8 [(.t 9)],
   .val 11 true 12011 (.bin .add (.t 6) (.t 10)),
   .val 12 true 12012 (.bin .add (.t 11) (.c (.str [0]))),
   .v 15 (.bin .add (.t 12) (.t 14)),
   .v 2 (.mov (.t 15))]
def rtext_1 : AK := .seq (.reg rtext_1o [2]) .ret
def rtext_0o : List ROp := [.eff 1 false 12001 (.box 2 (.t 0)),
   .v 2 (.mov (.c (.str [])))]
def rtext_0 : AK := .seq (.reg rtext_0o [1]) rtext_1
def rtext : AK := rtext_0
theorem rtext_vc (P : Program) (E : Env) (Q : KQ) (st : St) :
  (vcW P E rtext_1 Q st = aopsW P rtext_1o st (KS.reg [2] (KQ.seq P E .ret Q))) ∧
  (vcW P E rtext_0 Q st = aopsW P rtext_0o st (KS.reg [1] (KQ.seq P E rtext_1 Q))) ∧
  (vcW P E rtext Q st = vcW P E rtext_0 Q st) :=
  ⟨rfl, rfl, rfl⟩
theorem rtext_jn (P : Program) (E : Env) (Q : KQ) (st : St) :
  (True) :=
  trivial
attribute [go_sem] rtext_vc rtext_1o rtext_0o
noncomputable def rtextB : Code := (Tryd.f17.body).getD .skip
theorem rtext_eq : trCode Tryd.prog 16 12000 rtextB = rtext.erase 12000 := by kernel_rfl
theorem rtext_body : Tryd.f17.body = some rtextB := by kernel_rfl
theorem rtext_n : Tryd.f17.ntmps = 16 := by kernel_rfl
theorem rtext_r : Tryd.f17.results.toList.map (trRes Tryd.prog) = [.tmp 2] := by kernel_rfl
theorem rtext_spec {h : HP} {a0 : AV} {Post : HP → AV → List AV → Prop} (hp : ∀ (E : Env) (R : HP → AV → List AV → Prop), E.N ≤ 1000000 → PostTo Post R → vcW Tryd.prog E rtext (KQ.post [.tmp 2] 1 R) ⟨[(0, a0)], h⟩) : Eng.Spec Tryd.prog 17 h [a0] Post := spec_wk (
  spec_of (c := rtext.erase 12000) (B := 12000) Tryd.func17 rtext_body (by rw [rtext_n, rtext_eq]) (by rw [rtext_n]; decide) (by rw [rtext_n]; exact (by decide : 1 ≤ 16)) (fun E hE hB hrd => by
    have hN : E.N ≤ 1000000 := by
      rw [hE, rtext_n]; decide
    rw [rtext_r, ← hB]
    exact awp_slots [(0, a0)] ⟨rfl, trivial⟩ (vcW_sound hN _ (hp E _ hN fin_self))))
/- cartulary/cartularyref08.Id -/
def rid_1o : List ROp := [.v 3 (.ld true 2 (.t 1)),
   .cal (some 4) false 13004 17 [(.t 3)],
   .cal (some 5) false 13005 29 [(.t 4)],
   .cal (some 6) false 13006 28 [(.t 5)],
   .v 2 (.mov (.t 6))]
def rid_1 : AK := .seq (.reg rid_1o [2]) .ret
def rid_0o : List ROp := [.eff 1 false 13001 (.box 2 (.t 0)),
   .v 2 (.mov (.c (.str [])))]
def rid_0 : AK := .seq (.reg rid_0o [1]) rid_1
def rid : AK := rid_0
theorem rid_vc (P : Program) (E : Env) (Q : KQ) (st : St) :
  (vcW P E rid_1 Q st = aopsW P rid_1o st (KS.reg [2] (KQ.seq P E .ret Q))) ∧
  (vcW P E rid_0 Q st = aopsW P rid_0o st (KS.reg [1] (KQ.seq P E rid_1 Q))) ∧
  (vcW P E rid Q st = vcW P E rid_0 Q st) :=
  ⟨rfl, rfl, rfl⟩
theorem rid_jn (P : Program) (E : Env) (Q : KQ) (st : St) :
  (True) :=
  trivial
attribute [go_sem] rid_vc rid_1o rid_0o
noncomputable def ridB : Code := (Tryd.f18.body).getD .skip
theorem rid_eq : trCode Tryd.prog 7 13000 ridB = rid.erase 13000 := by kernel_rfl
theorem rid_body : Tryd.f18.body = some ridB := by kernel_rfl
theorem rid_n : Tryd.f18.ntmps = 7 := by kernel_rfl
theorem rid_r : Tryd.f18.results.toList.map (trRes Tryd.prog) = [.tmp 2] := by kernel_rfl
theorem rid_spec {h : HP} {a0 : AV} {Post : HP → AV → List AV → Prop} (hp : ∀ (E : Env) (R : HP → AV → List AV → Prop), E.N ≤ 1000000 → PostTo Post R → vcW Tryd.prog E rid (KQ.post [.tmp 2] 1 R) ⟨[(0, a0)], h⟩) : Eng.Spec Tryd.prog 18 h [a0] Post := spec_wk (
  spec_of (c := rid.erase 13000) (B := 13000) Tryd.func18 rid_body (by rw [rid_n, rid_eq]) (by rw [rid_n]; decide) (by rw [rid_n]; exact (by decide : 1 ≤ 7)) (fun E hE hB hrd => by
    have hN : E.N ≤ 1000000 := by
      rw [hE, rid_n]; decide
    rw [rid_r, ← hB]
    exact awp_slots [(0, a0)] ⟨rfl, trivial⟩ (vcW_sound hN _ (hp E _ hN fin_self))))
/- cartulary/cartularyref08.Decode -/
def rdecode_8o : List ROp := [.v 62 (.mov (.t 0)),
   .v 63 (.mov (.t 5)),
   .v 64 (.slcS (.t 62) none (some (.t 63))),
   .cal (some 65) false 14065 22 [(.t 64)],
   .v 66 (.mov (.t 7)),
   .v 67 (.bld [.int .i64 0, .str []] [(0, 1, (.t 65)), (1, 1, (.t 66))]),
   .effN false 14000 (.st 2 (.t 2) (.t 67)),
   .v 3 (.mov (.c (.int .i64 0)))]
def rdecode_8 : AK := .seq (.reg rdecode_8o [2, 3]) .ret
def rdecode_12o : List ROp := [.v 45 (.bld [.int .i64 0, .str []] []),
   .effN false 14000 (.st 2 (.t 2) (.t 45)),
   .v 3 (.mov (.c (.int .i64 10)))]
def rdecode_12 : AK := .seq (.reg rdecode_12o [2, 3]) .ret
def rdecode_15o : List ROp := [.v 49 (.bld [.int .i64 0, .str []] []),
   .effN false 14000 (.st 2 (.t 2) (.t 49)),
   .v 3 (.mov (.c (.int .i64 2)))]
def rdecode_15 : AK := .seq (.reg rdecode_15o [2, 3]) .ret
def rdecode_18o : List ROp := [.v 55 (.bld [.int .i64 0, .str []] []),
   .effN false 14000 (.st 2 (.t 2) (.t 55)),
   .v 3 (.mov (.c (.int .i64 6)))]
def rdecode_18 : AK := .seq (.reg rdecode_18o [2, 3]) .ret
def rdecode_21o : List ROp := [.v 61 (.bld [.int .i64 0, .str []] []),
   .effN false 14000 (.st 2 (.t 2) (.t 61)),
   .v 3 (.mov (.c (.int .i64 3)))]
def rdecode_21 : AK := .seq (.reg rdecode_21o [2, 3]) .ret
def rdecode_20 : AK := .cond (.t 56) rdecode_21 .skip
def rdecode_19o : List ROp := [.v 57 (.mov (.t 7)),
   .v 58 (.len true (.t 57)),
   .v 59 (.mov (.t 6)),
   .v 60 (.bin .gtr (.t 58) (.t 59)),
   .v 56 (.mov (.t 60))]
def rdecode_19 : AK := .seq (.reg rdecode_19o [0, 2, 5, 7, 56]) rdecode_20
def rdecode_17 : AK := .cond (.t 50) rdecode_18 rdecode_19
def rdecode_16o : List ROp := [.v 51 (.mov (.t 7)),
   .v 52 (.len true (.t 51)),
   .v 53 (.mov (.t 6)),
   .v 54 (.bin .lss (.t 52) (.t 53)),
   .v 50 (.mov (.t 54))]
def rdecode_16 : AK := .seq (.reg rdecode_16o [0, 2, 5, 6, 7, 50]) rdecode_17
def rdecode_14 : AK := .cond (.t 46) rdecode_15 rdecode_16
def rdecode_13o : List ROp := [.v 47 (.mov (.t 6)),
   .v 48 (.bin .gtr (.t 47) (.c (.int .i64 65000))),
   .v 46 (.mov (.t 48))]
def rdecode_13 : AK := .seq (.reg rdecode_13o [0, 2, 5, 6, 7, 46]) rdecode_14
def rdecode_11 : AK := .cond (.t 39) rdecode_12 rdecode_13
def rdecode_10o : List ROp := [.v 40 (.mov (.t 0)),
   .v 41 (.mov (.t 5)),
   .v 42 (.slcS (.t 40) none (some (.t 41))),
   .cal (some 43) false 14043 22 [(.t 42)],
   .v 44 (.bin .eql (.t 43) (.c (.int .i64 0))),
   .v 39 (.mov (.t 44))]
def rdecode_10 : AK := .seq (.reg rdecode_10o [0, 2, 5, 6, 7, 39]) rdecode_11
def rdecode_9 : AK := .block 0 rdecode_10
def rdecode_7 : AK := .seq rdecode_9 rdecode_8
def rdecode_6o : List ROp := [.v 35 (.mov (.t 0)),
   .v 36 (.mov (.t 4)),
   .v 37 (.bin .add (.t 36) (.c (.int .i64 1))),
   .v 38 (.slcS (.t 35) (some (.t 37)) none),
   .v 7 (.mov (.t 38))]
def rdecode_6 : AK := .seq (.reg rdecode_6o [0, 2, 5, 6, 7]) rdecode_7
def rdecode_5o : List ROp := [.v 29 (.mov (.t 0)),
   .v 30 (.mov (.t 5)),
   .v 31 (.bin .add (.t 30) (.c (.int .i64 1))),
   .v 32 (.mov (.t 4)),
   .v 33 (.slcS (.t 29) (some (.t 31)) (some (.t 32))),
   .cal (some 34) false 14034 20 [(.t 33)],
   .v 6 (.mov (.t 34))]
def rdecode_5 : AK := .seq (.reg rdecode_5o [0, 2, 4, 5, 6]) rdecode_6
def rdecode_24o : List ROp := [.v 28 (.bld [.int .i64 0, .str []] []),
   .effN false 14000 (.st 2 (.t 2) (.t 28)),
   .v 3 (.mov (.c (.int .i64 3)))]
def rdecode_24 : AK := .seq (.reg rdecode_24o [2, 3]) .ret
def rdecode_23 : AK := .cond (.t 27) rdecode_24 .skip
def rdecode_22o : List ROp := [.v 17 (.mov (.t 5)),
   .v 18 (.bin .lss (.t 17) (.c (.int .i64 0))),
   .v 19 (.mov (.t 18)),
   .gval 20 19 false false 14020 (.mov (.t 0)),
   .gval 21 19 false false 14021 (.mov (.t 5)),
   .gval 22 19 false false 14022 (.bin .add (.t 21) (.c (.int .i64 1))),
   .gval 23 19 false false 14023 (.mov (.t 4)),
   .gval 24 19 false false 14024 (.slcS (.t 20) (some (.t 22)) (some (.t 23))),
   .gcal 25 19 false false 14025 20 [(.t 24)],
   .gval 26 19 false false 14026 (.bin .lss (.t 25) (.c (.int .i64 0))),
   .v 27 (.pick (.t 19) (.c (.bool true)) (.t 26))]
def rdecode_22 : AK := .seq (.reg rdecode_22o [0, 2, 4, 5, 27]) rdecode_23
def rdecode_4 : AK := .seq rdecode_22 rdecode_5
def rdecode_3o : List ROp := [.v 13 (.mov (.t 0)),
   .v 14 (.mov (.t 4)),
   .v 15 (.slcS (.t 13) none (some (.t 14))),
   .cal (some 16) false 14016 30 [(.t 15), (.c (.int .u8 32))],
   .v 5 (.mov (.t 16))]
def rdecode_3 : AK := .seq (.reg rdecode_3o [0, 2, 4, 5]) rdecode_4
def rdecode_27o : List ROp := [.v 12 (.bld [.int .i64 0, .str []] []),
   .effN false 14000 (.st 2 (.t 2) (.t 12)),
   .v 3 (.mov (.c (.int .i64 3)))]
def rdecode_27 : AK := .seq (.reg rdecode_27o [2, 3]) .ret
def rdecode_26 : AK := .cond (.t 11) rdecode_27 .skip
def rdecode_25o : List ROp := [.v 10 (.mov (.t 4)),
   .v 11 (.bin .lss (.t 10) (.c (.int .i64 0)))]
def rdecode_25 : AK := .seq (.reg rdecode_25o [0, 2, 4, 11]) rdecode_26
def rdecode_2 : AK := .seq rdecode_25 rdecode_3
def rdecode_1o : List ROp := [.v 8 (.mov (.t 0)),
   .cal (some 9) false 14009 30 [(.t 8), (.c (.int .u8 0))],
   .v 4 (.mov (.t 9))]
def rdecode_1 : AK := .seq (.reg rdecode_1o [0, 2, 4]) rdecode_2
def rdecode_0o : List ROp := [.eff 2 false 14002 (.alloc [.int .i64 0, .str []]),
   .v 3 (.mov (.c (.int .i64 0)))]
def rdecode_0 : AK := .seq (.reg rdecode_0o [0, 2]) rdecode_1
def rdecode : AK := rdecode_0
theorem rdecode_vc (P : Program) (E : Env) (Q : KQ) (st : St) :
  (vcW P E rdecode_8 Q st = aopsW P rdecode_8o st (KS.reg [2, 3] (KQ.seq P E .ret Q))) ∧
  (vcW P E rdecode_12 Q st = aopsW P rdecode_12o st (KS.reg [2, 3] (KQ.seq P E .ret Q))) ∧
  (vcW P E rdecode_15 Q st = aopsW P rdecode_15o st (KS.reg [2, 3] (KQ.seq P E .ret Q))) ∧
  (vcW P E rdecode_18 Q st = aopsW P rdecode_18o st (KS.reg [2, 3] (KQ.seq P E .ret Q))) ∧
  (vcW P E rdecode_21 Q st = aopsW P rdecode_21o st (KS.reg [2, 3] (KQ.seq P E .ret Q))) ∧
  (vcW P E rdecode_20 Q st = cndW P E (ev st (.t 56)) rdecode_21 .skip Q st) ∧
  (vcW P E rdecode_19 Q st = aopsW P rdecode_19o st (KS.reg [0, 2, 5, 7, 56] (KQ.seq P E rdecode_20 Q))) ∧
  (vcW P E rdecode_17 Q st = cndW P E (ev st (.t 50)) rdecode_18 rdecode_19 Q st) ∧
  (vcW P E rdecode_16 Q st = aopsW P rdecode_16o st (KS.reg [0, 2, 5, 6, 7, 50] (KQ.seq P E rdecode_17 Q))) ∧
  (vcW P E rdecode_14 Q st = cndW P E (ev st (.t 46)) rdecode_15 rdecode_16 Q st) ∧
  (vcW P E rdecode_13 Q st = aopsW P rdecode_13o st (KS.reg [0, 2, 5, 6, 7, 46] (KQ.seq P E rdecode_14 Q))) ∧
  (vcW P E rdecode_11 Q st = cndW P E (ev st (.t 39)) rdecode_12 rdecode_13 Q st) ∧
  (vcW P E rdecode_10 Q st = aopsW P rdecode_10o st (KS.reg [0, 2, 5, 6, 7, 39] (KQ.seq P E rdecode_11 Q))) ∧
  (vcW P E rdecode_9 Q st = vcW P E rdecode_10 (KQ.blk 0 Q) st) ∧
  (vcW P E rdecode_7 Q st = vcW P E rdecode_9 (KQ.seq P E rdecode_8 Q) st) ∧
  (vcW P E rdecode_6 Q st = aopsW P rdecode_6o st (KS.reg [0, 2, 5, 6, 7] (KQ.seq P E rdecode_7 Q))) ∧
  (vcW P E rdecode_5 Q st = aopsW P rdecode_5o st (KS.reg [0, 2, 4, 5, 6] (KQ.seq P E rdecode_6 Q))) ∧
  (vcW P E rdecode_24 Q st = aopsW P rdecode_24o st (KS.reg [2, 3] (KQ.seq P E .ret Q))) ∧
  (vcW P E rdecode_23 Q st = cndW P E (ev st (.t 27)) rdecode_24 .skip Q st) ∧
  (vcW P E rdecode_22 Q st = aopsW P rdecode_22o st (KS.reg [0, 2, 4, 5, 27] (KQ.seq P E rdecode_23 Q))) ∧
  (vcW P E rdecode_4 Q st = vcW P E rdecode_22 (KQ.seq P E rdecode_5 Q) st) ∧
  (vcW P E rdecode_3 Q st = aopsW P rdecode_3o st (KS.reg [0, 2, 4, 5] (KQ.seq P E rdecode_4 Q))) ∧
  (vcW P E rdecode_27 Q st = aopsW P rdecode_27o st (KS.reg [2, 3] (KQ.seq P E .ret Q))) ∧
  (vcW P E rdecode_26 Q st = cndW P E (ev st (.t 11)) rdecode_27 .skip Q st) ∧
  (vcW P E rdecode_25 Q st = aopsW P rdecode_25o st (KS.reg [0, 2, 4, 11] (KQ.seq P E rdecode_26 Q))) ∧
  (vcW P E rdecode_2 Q st = vcW P E rdecode_25 (KQ.seq P E rdecode_3 Q) st) ∧
  (vcW P E rdecode_1 Q st = aopsW P rdecode_1o st (KS.reg [0, 2, 4] (KQ.seq P E rdecode_2 Q))) ∧
  (vcW P E rdecode_0 Q st = aopsW P rdecode_0o st (KS.reg [0, 2] (KQ.seq P E rdecode_1 Q))) ∧
  (vcW P E rdecode Q st = vcW P E rdecode_0 Q st) :=
  ⟨rfl, rfl, rfl, rfl, rfl, vcW_cond, rfl, vcW_cond, rfl, vcW_cond, rfl, vcW_cond, rfl, rfl, rfl, rfl, rfl, rfl, vcW_cond, rfl, rfl, rfl, rfl, vcW_cond, rfl, rfl, rfl, rfl, rfl⟩
theorem rdecode_jn (P : Program) (E : Env) (Q : KQ) (st : St) :
  (True) :=
  trivial
attribute [go_sem] rdecode_vc rdecode_8o rdecode_12o rdecode_15o rdecode_18o rdecode_21o rdecode_19o rdecode_16o rdecode_13o rdecode_10o rdecode_6o rdecode_5o rdecode_24o rdecode_22o rdecode_3o rdecode_27o rdecode_25o rdecode_1o rdecode_0o
noncomputable def rdecodeB : Code := (Tryd.f19.body).getD .skip
theorem rdecode_eq : trCode Tryd.prog 68 14000 rdecodeB = rdecode.erase 14000 := by kernel_rfl
theorem rdecode_body : Tryd.f19.body = some rdecodeB := by kernel_rfl
theorem rdecode_n : Tryd.f19.ntmps = 68 := by kernel_rfl
theorem rdecode_r : Tryd.f19.results.toList.map (trRes Tryd.prog) = [.cell 2 true 2, .tmp 3] := by kernel_rfl
theorem rdecode_spec {h : HP} {a0 : AV} {Post : HP → AV → List AV → Prop} (hp : ∀ (E : Env) (R : HP → AV → List AV → Prop), E.N ≤ 1000000 → PostTo Post R → vcW Tryd.prog E rdecode (KQ.post [.cell 2 true 2, .tmp 3] 1 R) ⟨[(0, a0)], h⟩) : Eng.Spec Tryd.prog 19 h [a0] Post := spec_wk (
  spec_of (c := rdecode.erase 14000) (B := 14000) Tryd.func19 rdecode_body (by rw [rdecode_n, rdecode_eq]) (by rw [rdecode_n]; decide) (by rw [rdecode_n]; exact (by decide : 1 ≤ 68)) (fun E hE hB hrd => by
    have hN : E.N ≤ 1000000 := by
      rw [hE, rdecode_n]; decide
    rw [rdecode_r, ← hB]
    exact awp_slots [(0, a0)] ⟨rfl, trivial⟩ (vcW_sound hN _ (hp E _ hN fin_self))))
/- cartulary/cartularyref08.Find -/
def find_2o : List ROp := [.v 4 (.mov (.c (.int .i64 (-1))))]
def find_2 : AK := .seq (.reg find_2o [4]) .ret
def find_7o : List ROp := [.v 10 (.mov (.t 5)),
   .v 11 (.bin .add (.t 10) (.c (.int .i64 1))),
   .v 5 (.mov (.t 11))]
def find_7 : AK := .reg find_7o [0, 1, 5]
def find_11o : List ROp := [.v 17 (.mov (.t 5)),
   .v 4 (.mov (.t 17))]
def find_11 : AK := .seq (.reg find_11o [4]) .ret
def find_10 : AK := .cond (.t 16) find_11 .skip
def find_9o : List ROp := [.v 12 (.mov (.t 0)),
   .v 13 (.mov (.t 5)),
   .v 14 (.sidx (.t 12) (.t 13)),
   .v 15 (.mov (.t 1)),
   .v 16 (.bin .eql (.t 14) (.t 15))]
def find_9 : AK := .seq (.reg find_9o [0, 1, 5, 16]) find_10
def find_8 : AK := .block 1 find_9
def find_6 : AK := .seq find_8 find_7
def find_13 : AK := .cond (.t 9) .skip (.exit 0)
def find_12o : List ROp := [.v 6 (.mov (.t 5)),
   .v 7 (.mov (.t 0)),
   .v 8 (.len true (.t 7)),
   .v 9 (.bin .lss (.t 6) (.t 8))]
def find_12 : AK := .seq (.reg find_12o [0, 1, 5, 9]) find_13
def find_5 : AK := .seq find_12 find_6
def find_L0 : AK := .loop find_5
def find_4 : AK := .block 0 find_L0
def find_3o : List ROp := [.v 5 (.mov (.c (.int .i64 0)))]
def find_3 : AK := .seq (.reg find_3o [0, 1, 5]) find_4
def find_1 : AK := .seq find_3 find_2
def find_0o : List ROp := [.v 4 (.mov (.c (.int .i64 0)))]
def find_0 : AK := .seq (.reg find_0o [0, 1]) find_1
def find : AK := find_0
theorem find_vc (P : Program) (E : Env) (Q : KQ) (st : St) :
  (vcW P E find_2 Q st = aopsW P find_2o st (KS.reg [4] (KQ.seq P E .ret Q))) ∧
  (vcW P E find_7 Q st = aopsW P find_7o st (KS.reg [0, 1, 5] Q)) ∧
  (vcW P E find_11 Q st = aopsW P find_11o st (KS.reg [4] (KQ.seq P E .ret Q))) ∧
  (vcW P E find_10 Q st = cndW P E (ev st (.t 16)) find_11 .skip Q st) ∧
  (vcW P E find_9 Q st = aopsW P find_9o st (KS.reg [0, 1, 5, 16] (KQ.seq P E find_10 Q))) ∧
  (vcW P E find_8 Q st = vcW P E find_9 (KQ.blk 1 Q) st) ∧
  (vcW P E find_6 Q st = vcW P E find_8 (KQ.seq P E find_7 Q) st) ∧
  (vcW P E find_13 Q st = cndW P E (ev st (.t 9)) .skip (.exit 0) Q st) ∧
  (vcW P E find_12 Q st = aopsW P find_12o st (KS.reg [0, 1, 5, 9] (KQ.seq P E find_13 Q))) ∧
  (vcW P E find_5 Q st = vcW P E find_12 (KQ.seq P E find_6 Q) st) ∧
  (vcW P E find_4 Q st = vcW P E find_L0 (KQ.blk 0 Q) st) ∧
  (vcW P E find_3 Q st = aopsW P find_3o st (KS.reg [0, 1, 5] (KQ.seq P E find_4 Q))) ∧
  (vcW P E find_1 Q st = vcW P E find_3 (KQ.seq P E find_2 Q) st) ∧
  (vcW P E find_0 Q st = aopsW P find_0o st (KS.reg [0, 1] (KQ.seq P E find_1 Q))) ∧
  (vcW P E find Q st = vcW P E find_0 Q st) :=
  ⟨rfl, rfl, rfl, vcW_cond, rfl, rfl, rfl, vcW_cond, rfl, rfl, rfl, rfl, rfl, rfl, rfl⟩
theorem find_jn (P : Program) (E : Env) (Q : KQ) (st : St) :
  (True) :=
  trivial
attribute [go_sem] find_vc find_2o find_7o find_11o find_9o find_12o find_3o find_0o
noncomputable def findB : Code := (Tryd.f30.body).getD .skip
theorem find_eq : trCode Tryd.prog 18 15000 findB = find.erase 15000 := by kernel_rfl
theorem find_body : Tryd.f30.body = some findB := by kernel_rfl
theorem find_n : Tryd.f30.ntmps = 18 := by kernel_rfl
theorem find_r : Tryd.f30.results.toList.map (trRes Tryd.prog) = [.tmp 4] := by kernel_rfl
theorem find_spec {h : HP} {a0 a1 : AV} {Post : HP → AV → List AV → Prop} (hp : ∀ (E : Env) (R : HP → AV → List AV → Prop), E.N ≤ 1000000 → PostTo Post R → vcW Tryd.prog E find (KQ.post [.tmp 4] 2 R) ⟨[(0, a0), (1, a1)], h⟩) : Eng.Spec Tryd.prog 30 h [a0, a1] Post := spec_wk (
  spec_of (c := find.erase 15000) (B := 15000) Tryd.func30 find_body (by rw [find_n, find_eq]) (by rw [find_n]; decide) (by rw [find_n]; exact (by decide : 2 ≤ 18)) (fun E hE hB hrd => by
    have hN : E.N ≤ 1000000 := by
      rw [hE, find_n]; decide
    rw [find_r, ← hB]
    exact awp_slots [(0, a0), (1, a1)] ⟨rfl, rfl, trivial⟩ (vcW_sound hN _ (hp E _ hN fin_self))))
/- cartulary/cartularyref08.Digits -/
def digits8_4o : List ROp := [.val 29 true 16029 (.mov (.t 0)),
   .val 30 true 16030 (.bin .quo (.t 29) (.c (.int .i64 10))),
   .val 32 true 16032 (.mov (.t 0)),
   .val 33 true 16033 (.bin .rem (.t 32) (.c (.int .i64 10))),
   .val 34 true 16034 (.mov (.t 0)),
   .val 35 true 16035 (.bin .rem (.t 34) (.c (.int .i64 10))),
   .val 36 true 16036 (.bin .add (.t 35) (.c (.int .i64 1))),
   .val 37 true 16037 (.slcS (.c (.str [48, 49, 50, 51, 52, 53, 54, 55, 56, 57])) (some (.t 33)) (some (.t 36))),
   .cal (some 31) true 16031 8 [(.t 30)],
   .v 38 (.bin .add (.t 31) (.t 37)),
   .v 2 (.mov (.t 38))]
def digits8_4 : AK := .seq (.reg digits8_4o [2]) .ret
def digits8_7o : List ROp := [.v 25 (.mov (.t 0)),
   .v 26 (.mov (.t 0)),
   .v 27 (.bin .add (.t 26) (.c (.int .i64 1))),
   .v 28 (.slcS (.c (.str [48, 49, 50, 51, 52, 53, 54, 55, 56, 57])) (some (.t 25)) (some (.t 27))),
   .v 2 (.mov (.t 28))]
def digits8_7 : AK := .seq (.reg digits8_7o [2]) .ret
def digits8_6 : AK := .cond (.t 24) digits8_7 .skip
def digits8_5o : List ROp := [.v 23 (.mov (.t 0)),
   .v 24 (.bin .lss (.t 23) (.c (.int .i64 10)))]
def digits8_5 : AK := .seq (.reg digits8_5o [0, 24]) digits8_6
def digits8_3 : AK := .seq digits8_5 digits8_4
def digits8_10o : List ROp := [.v 15 (.mov (.t 0)),
   .v 16 (.bin .quo (.t 15) (.c (.int .i64 10))),
   .cal (some 17) false 16017 8 [(.t 16)],
   .v 18 (.mov (.t 0)),
   .v 19 (.bin .rem (.t 18) (.c (.int .i64 10))),
   .v 20 (.un .neg (.t 19)),
   .cal (some 21) false 16021 8 [(.t 20)],
   .v 22 (.bin .add (.t 17) (.t 21)),
   .v 2 (.mov (.t 22))]
def digits8_10 : AK := .seq (.reg digits8_10o [2]) .ret
def digits8_9 : AK := .cond (.t 14) digits8_10 .skip
def digits8_8o : List ROp := [.v 13 (.mov (.t 0)),
   .v 14 (.bin .lss (.t 13) (.c (.int .i64 0)))]
def digits8_8 : AK := .seq (.reg digits8_8o [0, 14]) digits8_9
def digits8_2 : AK := .seq digits8_8 digits8_3
def digits8_13o : List ROp := [.v 9 (.mov (.t 0)),
   .v 10 (.un .neg (.t 9)),
   .cal (some 11) false 16011 8 [(.t 10)],
   .v 12 (.bin .add (.c (.str [45])) (.t 11)),
   .v 2 (.mov (.t 12))]
def digits8_13 : AK := .seq (.reg digits8_13o [2]) .ret
def digits8_12 : AK := .cond (.t 8) digits8_13 .skip
def digits8_11o : List ROp := [.v 3 (.mov (.t 0)),
   .v 4 (.bin .lss (.t 3) (.c (.int .i64 0))),
   .v 5 (.mov (.t 4)),
   .gval 6 5 true false 16006 (.mov (.t 0)),
   .gval 7 5 true false 16007 (.bin .gtr (.t 6) (.c (.int .i64 (-10)))),
   .v 8 (.pick (.t 5) (.t 7) (.c (.bool false)))]
def digits8_11 : AK := .seq (.reg digits8_11o [0, 8]) digits8_12
def digits8_1 : AK := .seq digits8_11 digits8_2
def digits8_0o : List ROp := [.v 2 (.mov (.c (.str [])))]
def digits8_0 : AK := .seq (.reg digits8_0o [0]) digits8_1
def digits8 : AK := digits8_0
theorem digits8_vc (P : Program) (E : Env) (Q : KQ) (st : St) :
  (vcW P E digits8_4 Q st = aopsW P digits8_4o st (KS.reg [2] (KQ.seq P E .ret Q))) ∧
  (vcW P E digits8_7 Q st = aopsW P digits8_7o st (KS.reg [2] (KQ.seq P E .ret Q))) ∧
  (vcW P E digits8_6 Q st = cndW P E (ev st (.t 24)) digits8_7 .skip Q st) ∧
  (vcW P E digits8_5 Q st = aopsW P digits8_5o st (KS.reg [0, 24] (KQ.seq P E digits8_6 Q))) ∧
  (vcW P E digits8_3 Q st = vcW P E digits8_5 (KQ.seq P E digits8_4 Q) st) ∧
  (vcW P E digits8_10 Q st = aopsW P digits8_10o st (KS.reg [2] (KQ.seq P E .ret Q))) ∧
  (vcW P E digits8_9 Q st = cndW P E (ev st (.t 14)) digits8_10 .skip Q st) ∧
  (vcW P E digits8_8 Q st = aopsW P digits8_8o st (KS.reg [0, 14] (KQ.seq P E digits8_9 Q))) ∧
  (vcW P E digits8_2 Q st = vcW P E digits8_8 (KQ.seq P E digits8_3 Q) st) ∧
  (vcW P E digits8_13 Q st = aopsW P digits8_13o st (KS.reg [2] (KQ.seq P E .ret Q))) ∧
  (vcW P E digits8_12 Q st = cndW P E (ev st (.t 8)) digits8_13 .skip Q st) ∧
  (vcW P E digits8_11 Q st = aopsW P digits8_11o st (KS.reg [0, 8] (KQ.seq P E digits8_12 Q))) ∧
  (vcW P E digits8_1 Q st = vcW P E digits8_11 (KQ.seq P E digits8_2 Q) st) ∧
  (vcW P E digits8_0 Q st = aopsW P digits8_0o st (KS.reg [0] (KQ.seq P E digits8_1 Q))) ∧
  (vcW P E digits8 Q st = vcW P E digits8_0 Q st) :=
  ⟨rfl, rfl, vcW_cond, rfl, rfl, rfl, vcW_cond, rfl, rfl, rfl, vcW_cond, rfl, rfl, rfl, rfl⟩
theorem digits8_jn (P : Program) (E : Env) (Q : KQ) (st : St) :
  (True) :=
  trivial
attribute [go_sem] digits8_vc digits8_4o digits8_7o digits8_5o digits8_10o digits8_8o digits8_13o digits8_11o digits8_0o
noncomputable def digits8B : Code := (Tryd.f8.body).getD .skip
theorem digits8_eq : trCode Tryd.prog 39 16000 digits8B = digits8.erase 16000 := by kernel_rfl
theorem digits8_body : Tryd.f8.body = some digits8B := by kernel_rfl
theorem digits8_n : Tryd.f8.ntmps = 39 := by kernel_rfl
theorem digits8_r : Tryd.f8.results.toList.map (trRes Tryd.prog) = [.tmp 2] := by kernel_rfl
theorem digits8_spec {h : HP} {a0 : AV} {Post : HP → AV → List AV → Prop} (hp : ∀ (E : Env) (R : HP → AV → List AV → Prop), E.N ≤ 1000000 → PostTo Post R → vcW Tryd.prog E digits8 (KQ.post [.tmp 2] 1 R) ⟨[(0, a0)], h⟩) : Eng.Spec Tryd.prog 8 h [a0] Post := spec_wk (
  spec_of (c := digits8.erase 16000) (B := 16000) Tryd.func8 digits8_body (by rw [digits8_n, digits8_eq]) (by rw [digits8_n]; decide) (by rw [digits8_n]; exact (by decide : 1 ≤ 39)) (fun E hE hB hrd => by
    have hN : E.N ≤ 1000000 := by
      rw [hE, digits8_n]; decide
    rw [digits8_r, ← hB]
    exact awp_slots [(0, a0)] ⟨rfl, trivial⟩ (vcW_sound hN _ (hp E _ hN fin_self))))
/- cartulary/cartularylaw08.awake -/
def awake_2o : List ROp := [.v 8 (.mov (.t 2)),
   .v 9 (.bin .eql (.t 8) (.c (.int .i64 0))),
   .v 10 (.mov (.t 9)),
   .gval 11 10 true false 20011 (.mov (.t 1)),
   .gval 12 10 true false 20012 (.bin .eql (.t 11) (.c (.str [101, 54, 57, 100, 101, 50, 57, 98, 98, 50, 100, 49, 100, 54, 52, 51, 52, 98, 56, 98, 50, 57, 97, 101, 55, 55, 53, 97, 100, 56, 99, 50, 101, 52, 56, 99, 53, 51, 57, 49]))),
   .v 13 (.pick (.t 10) (.t 12) (.c (.bool false))),
   .v 0 (.mov (.t 13))]
def awake_2 : AK := .seq (.reg awake_2o [0]) .ret
def awake_1o : List ROp := [.v 4 (.bld [.int .i64 0, .str []] [(0, 1, (.c (.int .i64 3)))]),
   .cal (some 5) false 20005 11 [(.t 4)],
   .v 3 (.mov (.t 5)),
   .v 6 (.ext (.t 3) 0),
   .v 7 (.ext (.t 3) 1),
   .v 1 (.mov (.t 6)),
   .v 2 (.mov (.t 7))]
def awake_1 : AK := .seq (.reg awake_1o [1, 2]) awake_2
def awake_0o : List ROp := [.v 0 (.mov (.c (.bool false)))]
def awake_0 : AK := .seq (.reg awake_0o []) awake_1
def awake : AK := awake_0
theorem awake_vc (P : Program) (E : Env) (Q : KQ) (st : St) :
  (vcW P E awake_2 Q st = aopsW P awake_2o st (KS.reg [0] (KQ.seq P E .ret Q))) ∧
  (vcW P E awake_1 Q st = aopsW P awake_1o st (KS.reg [1, 2] (KQ.seq P E awake_2 Q))) ∧
  (vcW P E awake_0 Q st = aopsW P awake_0o st (KS.reg [] (KQ.seq P E awake_1 Q))) ∧
  (vcW P E awake Q st = vcW P E awake_0 Q st) :=
  ⟨rfl, rfl, rfl, rfl⟩
theorem awake_jn (P : Program) (E : Env) (Q : KQ) (st : St) :
  (True) :=
  trivial
attribute [go_sem] awake_vc awake_2o awake_1o awake_0o
noncomputable def awakeB : Code := (Tryd.f9.body).getD .skip
theorem awake_eq : trCode Tryd.prog 14 20000 awakeB = awake.erase 20000 := by kernel_rfl
theorem awake_body : Tryd.f9.body = some awakeB := by kernel_rfl
theorem awake_n : Tryd.f9.ntmps = 14 := by kernel_rfl
theorem awake_r : Tryd.f9.results.toList.map (trRes Tryd.prog) = [.tmp 0] := by kernel_rfl
theorem awake_spec {h : HP} {Post : HP → AV → List AV → Prop} (hp : ∀ (E : Env) (R : HP → AV → List AV → Prop), E.N ≤ 1000000 → PostTo Post R → vcW Tryd.prog E awake (KQ.post [.tmp 0] 0 R) ⟨[], h⟩) : Eng.Spec Tryd.prog 9 h [] Post := spec_wk (
  spec_of (c := awake.erase 20000) (B := 20000) Tryd.func9 awake_body (by rw [awake_n, awake_eq]) (by rw [awake_n]; decide) (by rw [awake_n]; exact (by decide : 0 ≤ 14)) (fun E hE hB hrd => by
    have hN : E.N ≤ 1000000 := by
      rw [hE, awake_n]; decide
    rw [awake_r, ← hB]
    exact awp_slots [] trivial (vcW_sound hN _ (hp E _ hN fin_self))))
/- cartulary/cartularylaw08.ObjectNumbers -/
def lnumbers_3o : List ROp := [.cal (some 20) false 21020 9 [],
   .v 21 (.mov (.t 20)),
   .gval 22 21 true false 21022 (.mov (.t 6)),
   .gval 23 21 true false 21023 (.mov (.t 0)),
   .gval 24 21 true false 21024 (.bin .geq (.t 23) (.c (.int .i64 0))),
   .gval 25 21 true false 21025 (.mov (.t 24)),
   .gval 26 25 true false 21026 (.mov (.t 0)),
   .gval 27 25 true false 21027 (.bin .leq (.t 26) (.c (.int .i64 999999999))),
   .gval 28 21 true false 21028 (.pick (.t 25) (.t 27) (.c (.bool false))),
   .gval 29 21 true false 21029 (.beq false (.t 22) (.t 28)),
   .v 30 (.pick (.t 21) (.t 29) (.c (.bool false))),
   .v 31 (.mov (.t 30)),
   .gval 32 31 true false 21032 (.mov (.t 6)),
   .gval 33 31 true false 21033 (.un .not (.t 32)),
   .gval 34 31 true false 21034 (.mov (.t 33)),
   .gval 35 34 false false 21035 (.mov (.t 5)),
   .gval 36 34 false false 21036 (.mov (.t 0)),
   .gval 37 34 false false 21037 (.bin .eql (.t 35) (.t 36)),
   .gval 38 31 true false 21038 (.pick (.t 34) (.c (.bool true)) (.t 37)),
   .v 39 (.pick (.t 31) (.t 38) (.c (.bool false))),
   .v 40 (.mov (.t 39)),
   .gval 41 40 true false 21041 (.mov (.t 6)),
   .gval 42 40 true false 21042 (.mov (.t 41)),
   .gval 43 42 false false 21043 (.mov (.t 5)),
   .gval 44 42 false false 21044 (.bin .eql (.t 43) (.c (.int .i64 0))),
   .gval 45 40 true false 21045 (.pick (.t 42) (.c (.bool true)) (.t 44)),
   .v 46 (.pick (.t 40) (.t 45) (.c (.bool false))),
   .v 47 (.mov (.t 46)),
   .gval 48 47 true false 21048 (.mov (.t 8)),
   .gval 49 47 true false 21049 (.un .not (.t 48)),
   .gval 50 47 true false 21050 (.mov (.t 49)),
   .gval 51 50 false false 21051 (.mov (.t 7)),
   .gcal 52 50 false false 21052 8 [(.t 51)],
   .gval 53 50 false false 21053 (.mov (.t 1)),
   .gval 54 50 false false 21054 (.bin .eql (.t 52) (.t 53)),
   .gval 55 47 true false 21055 (.pick (.t 50) (.c (.bool true)) (.t 54)),
   .v 56 (.pick (.t 47) (.t 55) (.c (.bool false))),
   .v 57 (.mov (.t 56)),
   .gval 58 57 true false 21058 (.mov (.t 8)),
   .gval 59 57 true false 21059 (.mov (.t 58)),
   .gval 60 59 false false 21060 (.mov (.t 7)),
   .gval 61 59 false false 21061 (.bin .eql (.t 60) (.c (.int .i64 0))),
   .gval 62 57 true false 21062 (.pick (.t 59) (.c (.bool true)) (.t 61)),
   .v 63 (.pick (.t 57) (.t 62) (.c (.bool false))),
   .v 4 (.mov (.t 63))]
def lnumbers_3 : AK := .seq (.reg lnumbers_3o [4]) .ret
def lnumbers_2o : List ROp := [.v 16 (.mov (.t 1)),
   .cal (some 17) false 21017 7 [(.t 16)],
   .v 15 (.mov (.t 17)),
   .v 18 (.ext (.t 15) 0),
   .v 19 (.ext (.t 15) 1),
   .v 7 (.mov (.t 18)),
   .v 8 (.mov (.t 19))]
def lnumbers_2 : AK := .seq (.reg lnumbers_2o [0, 1, 5, 6, 7, 8]) lnumbers_3
def lnumbers_1o : List ROp := [.v 10 (.mov (.t 0)),
   .cal (some 11) false 21011 8 [(.t 10)],
   .cal (some 12) false 21012 7 [(.t 11)],
   .v 9 (.mov (.t 12)),
   .v 13 (.ext (.t 9) 0),
   .v 14 (.ext (.t 9) 1),
   .v 5 (.mov (.t 13)),
   .v 6 (.mov (.t 14))]
def lnumbers_1 : AK := .seq (.reg lnumbers_1o [0, 1, 5, 6]) lnumbers_2
def lnumbers_0o : List ROp := [.v 4 (.mov (.c (.bool false)))]
def lnumbers_0 : AK := .seq (.reg lnumbers_0o [0, 1]) lnumbers_1
def lnumbers : AK := lnumbers_0
theorem lnumbers_vc (P : Program) (E : Env) (Q : KQ) (st : St) :
  (vcW P E lnumbers_3 Q st = aopsW P lnumbers_3o st (KS.reg [4] (KQ.seq P E .ret Q))) ∧
  (vcW P E lnumbers_2 Q st = aopsW P lnumbers_2o st (KS.reg [0, 1, 5, 6, 7, 8] (KQ.seq P E lnumbers_3 Q))) ∧
  (vcW P E lnumbers_1 Q st = aopsW P lnumbers_1o st (KS.reg [0, 1, 5, 6] (KQ.seq P E lnumbers_2 Q))) ∧
  (vcW P E lnumbers_0 Q st = aopsW P lnumbers_0o st (KS.reg [0, 1] (KQ.seq P E lnumbers_1 Q))) ∧
  (vcW P E lnumbers Q st = vcW P E lnumbers_0 Q st) :=
  ⟨rfl, rfl, rfl, rfl, rfl⟩
theorem lnumbers_jn (P : Program) (E : Env) (Q : KQ) (st : St) :
  (True) :=
  trivial
attribute [go_sem] lnumbers_vc lnumbers_3o lnumbers_2o lnumbers_1o lnumbers_0o
noncomputable def lnumbersB : Code := (Tryd.f3.body).getD .skip
theorem lnumbers_eq : trCode Tryd.prog 64 21000 lnumbersB = lnumbers.erase 21000 := by kernel_rfl
theorem lnumbers_body : Tryd.f3.body = some lnumbersB := by kernel_rfl
theorem lnumbers_n : Tryd.f3.ntmps = 64 := by kernel_rfl
theorem lnumbers_r : Tryd.f3.results.toList.map (trRes Tryd.prog) = [.tmp 4] := by kernel_rfl
theorem lnumbers_spec {h : HP} {a0 a1 : AV} {Post : HP → AV → List AV → Prop} (hp : ∀ (E : Env) (R : HP → AV → List AV → Prop), E.N ≤ 1000000 → PostTo Post R → vcW Tryd.prog E lnumbers (KQ.post [.tmp 4] 2 R) ⟨[(0, a0), (1, a1)], h⟩) : Eng.Spec Tryd.prog 3 h [a0, a1] Post := spec_wk (
  spec_of (c := lnumbers.erase 21000) (B := 21000) Tryd.func3 lnumbers_body (by rw [lnumbers_n, lnumbers_eq]) (by rw [lnumbers_n]; decide) (by rw [lnumbers_n]; exact (by decide : 2 ≤ 64)) (fun E hE hB hrd => by
    have hN : E.N ≤ 1000000 := by
      rw [hE, lnumbers_n]; decide
    rw [lnumbers_r, ← hB]
    exact awp_slots [(0, a0), (1, a1)] ⟨rfl, rfl, trivial⟩ (vcW_sound hN _ (hp E _ hN fin_self))))
/- cartulary/cartularylaw08.ObjectTexts -/
def ltexts_7o : List ROp := [.v 62 (.mov (.t 3)),
   .v 63 (.ld true 2 (.t 1)),
   .cal (some 64) false 22064 17 [(.t 63)],
   .v 65 (.bin .eql (.t 62) (.t 64)),
   .v 66 (.mov (.t 65)),
   .gval 67 66 true false 22067 (.fldA false 1 1 (.t 1)),
   .gval 68 66 true false 22068 (.ld false 1 (.t 67)),
   .gval 69 66 true false 22069 (.len true (.t 68)),
   .gval 70 66 true false 22070 (.bin .gtr (.t 69) (.c (.int .i64 1000))),
   .gval 71 66 true false 22071 (.mov (.t 70)),
   .gval 72 71 false false 22072 (.mov (.t 5)),
   .gval 73 71 false false 22073 (.ld true 2 (.t 1)),
   .gcal 74 71 false false 22074 18 [(.t 73)],
   .gval 75 71 false false 22075 (.bin .eql (.t 72) (.t 74)),
   .gval 76 66 true false 22076 (.pick (.t 71) (.c (.bool true)) (.t 75)),
   .v 77 (.pick (.t 66) (.t 76) (.c (.bool false))),
   .v 78 (.mov (.t 77)),
   .gval 79 78 true false 22079 (.mov (.t 9)),
   .gval 80 78 true false 22080 (.bin .eql (.t 79) (.c (.int .i64 0))),
   .v 81 (.pick (.t 78) (.t 80) (.c (.bool false))),
   .v 82 (.mov (.t 81)),
   .gval 83 82 true false 22083 (.ld true 2 (.t 8)),
   .gval 84 82 true false 22084 (.ld true 2 (.t 1)),
   .gval 85 82 true false 22085 (.aeq false [1, 2] (.t 83) (.t 84)),
   .v 86 (.pick (.t 82) (.t 85) (.c (.bool false))),
   .v 2 (.mov (.t 86))]
def ltexts_7 : AK := .seq (.reg ltexts_7o [2]) .ret
def ltexts_6o : List ROp := [.v 58 (.mov (.t 3)),
   .cal (some 59) false 22059 16 [(.t 58)],
   .v 57 (.mov (.t 59)),
   .v 60 (.ext (.t 57) 0),
   .v 61 (.ext (.t 57) 1),
   .eff 8 false 22008 (.alloc [.int .i64 0, .str []]),
   .effN false 22000 (.st 2 (.t 8) (.t 60)),
   .v 9 (.mov (.t 61))]
def ltexts_6 : AK := .seq (.reg ltexts_6o [1, 3, 5, 8, 9]) ltexts_7
def ltexts_10o : List ROp := [.v 51 (.mov (.t 3)),
   .v 52 (.bin .eql (.t 51) (.c (.str []))),
   .v 53 (.mov (.t 52)),
   .gval 54 53 true false 22054 (.mov (.t 5)),
   .gval 55 53 true false 22055 (.bin .eql (.t 54) (.c (.str []))),
   .v 56 (.pick (.t 53) (.t 55) (.c (.bool false))),
   .v 2 (.mov (.t 56))]
def ltexts_10 : AK := .seq (.reg ltexts_10o [2]) .ret
def ltexts_9 : AK := .cond (.t 50) ltexts_10 .skip
def ltexts_8o : List ROp := [.v 49 (.mov (.t 7)),
   .v 50 (.bin .neq (.t 49) (.c (.int .i64 0)))]
def ltexts_8 : AK := .seq (.reg ltexts_8o [1, 3, 5, 50]) ltexts_9
def ltexts_5 : AK := .seq ltexts_8 ltexts_6
def ltexts_13o : List ROp := [.v 2 (.mov (.c (.bool false)))]
def ltexts_13 : AK := .seq (.reg ltexts_13o [2]) .ret
def ltexts_12 : AK := .cond (.t 48) ltexts_13 .skip
def ltexts_11o : List ROp := [.cal (some 22) false 22022 9 [],
   .v 23 (.un .not (.t 22)),
   .v 24 (.mov (.t 23)),
   .gval 25 24 false false 22025 (.mov (.t 4)),
   .gval 26 24 false false 22026 (.mov (.t 7)),
   .gval 27 24 false false 22027 (.bin .neq (.t 25) (.t 26)),
   .v 28 (.pick (.t 24) (.c (.bool true)) (.t 27)),
   .v 29 (.mov (.t 28)),
   .gval 30 29 false false 22030 (.mov (.t 6)),
   .gval 31 29 false false 22031 (.mov (.t 7)),
   .gval 32 29 false false 22032 (.bin .neq (.t 30) (.t 31)),
   .v 33 (.pick (.t 29) (.c (.bool true)) (.t 32)),
   .v 34 (.mov (.t 33)),
   .gval 35 34 false false 22035 (.ld true 2 (.t 1)),
   .gval 37 34 false true 22037 (.mov (.t 7)),
   .gcal 36 34 false false 22036 13 [(.t 35)],
   .gval 38 34 false false 22038 (.bin .neq (.t 36) (.t 37)),
   .v 39 (.pick (.t 34) (.c (.bool true)) (.t 38)),
   .v 40 (.mov (.t 39)),
   .gval 41 40 false true 22041 (.fldA false 0 1 (.t 1)),
   .gval 42 40 false true 22042 (.ld false 1 (.t 41)),
   .gval 44 40 false true 22044 (.fldA false 0 1 (.t 1)),
   .gval 45 40 false true 22045 (.ld false 1 (.t 44)),
   .gcal 43 40 false true 22043 14 [(.t 42)],
   .gcal 46 40 false false 22046 15 [(.t 45)],
   .gval 47 40 false false 22047 (.bin .neq (.t 43) (.t 46)),
   .v 48 (.pick (.t 40) (.c (.bool true)) (.t 47))]
def ltexts_11 : AK := .seq (.reg ltexts_11o [1, 3, 5, 7, 48]) ltexts_12
def ltexts_4 : AK := .seq ltexts_11 ltexts_5
def ltexts_3o : List ROp := [.v 20 (.ld true 2 (.t 1)),
   .cal (some 21) false 22021 12 [(.t 20)],
   .v 7 (.mov (.t 21))]
def ltexts_3 : AK := .seq (.reg ltexts_3o [1, 3, 4, 5, 6, 7]) ltexts_4
def ltexts_2o : List ROp := [.v 16 (.ld true 2 (.t 1)),
   .cal (some 17) false 22017 11 [(.t 16)],
   .v 15 (.mov (.t 17)),
   .v 18 (.ext (.t 15) 0),
   .v 19 (.ext (.t 15) 1),
   .v 5 (.mov (.t 18)),
   .v 6 (.mov (.t 19))]
def ltexts_2 : AK := .seq (.reg ltexts_2o [1, 3, 4, 5, 6]) ltexts_3
def ltexts_1o : List ROp := [.v 11 (.ld true 2 (.t 1)),
   .cal (some 12) false 22012 10 [(.t 11)],
   .v 10 (.mov (.t 12)),
   .v 13 (.ext (.t 10) 0),
   .v 14 (.ext (.t 10) 1),
   .v 3 (.mov (.t 13)),
   .v 4 (.mov (.t 14))]
def ltexts_1 : AK := .seq (.reg ltexts_1o [1, 3, 4]) ltexts_2
def ltexts_0o : List ROp := [.eff 1 false 22001 (.box 2 (.t 0)),
   .v 2 (.mov (.c (.bool false)))]
def ltexts_0 : AK := .seq (.reg ltexts_0o [1]) ltexts_1
def ltexts : AK := ltexts_0
theorem ltexts_vc (P : Program) (E : Env) (Q : KQ) (st : St) :
  (vcW P E ltexts_7 Q st = aopsW P ltexts_7o st (KS.reg [2] (KQ.seq P E .ret Q))) ∧
  (vcW P E ltexts_6 Q st = aopsW P ltexts_6o st (KS.reg [1, 3, 5, 8, 9] (KQ.seq P E ltexts_7 Q))) ∧
  (vcW P E ltexts_10 Q st = aopsW P ltexts_10o st (KS.reg [2] (KQ.seq P E .ret Q))) ∧
  (vcW P E ltexts_9 Q st = cndW P E (ev st (.t 50)) ltexts_10 .skip Q st) ∧
  (vcW P E ltexts_8 Q st = aopsW P ltexts_8o st (KS.reg [1, 3, 5, 50] (KQ.seq P E ltexts_9 Q))) ∧
  (vcW P E ltexts_5 Q st = vcW P E ltexts_8 (KQ.seq P E ltexts_6 Q) st) ∧
  (vcW P E ltexts_13 Q st = aopsW P ltexts_13o st (KS.reg [2] (KQ.seq P E .ret Q))) ∧
  (vcW P E ltexts_12 Q st = cndW P E (ev st (.t 48)) ltexts_13 .skip Q st) ∧
  (vcW P E ltexts_11 Q st = aopsW P ltexts_11o st (KS.reg [1, 3, 5, 7, 48] (KQ.seq P E ltexts_12 Q))) ∧
  (vcW P E ltexts_4 Q st = vcW P E ltexts_11 (KQ.seq P E ltexts_5 Q) st) ∧
  (vcW P E ltexts_3 Q st = aopsW P ltexts_3o st (KS.reg [1, 3, 4, 5, 6, 7] (KQ.seq P E ltexts_4 Q))) ∧
  (vcW P E ltexts_2 Q st = aopsW P ltexts_2o st (KS.reg [1, 3, 4, 5, 6] (KQ.seq P E ltexts_3 Q))) ∧
  (vcW P E ltexts_1 Q st = aopsW P ltexts_1o st (KS.reg [1, 3, 4] (KQ.seq P E ltexts_2 Q))) ∧
  (vcW P E ltexts_0 Q st = aopsW P ltexts_0o st (KS.reg [1] (KQ.seq P E ltexts_1 Q))) ∧
  (vcW P E ltexts Q st = vcW P E ltexts_0 Q st) :=
  ⟨rfl, rfl, rfl, vcW_cond, rfl, rfl, rfl, vcW_cond, rfl, rfl, rfl, rfl, rfl, rfl, rfl⟩
theorem ltexts_jn (P : Program) (E : Env) (Q : KQ) (st : St) :
  (True) :=
  trivial
attribute [go_sem] ltexts_vc ltexts_7o ltexts_6o ltexts_10o ltexts_8o ltexts_13o ltexts_11o ltexts_3o ltexts_2o ltexts_1o ltexts_0o
noncomputable def ltextsB : Code := (Tryd.f4.body).getD .skip
theorem ltexts_eq : trCode Tryd.prog 87 22000 ltextsB = ltexts.erase 22000 := by kernel_rfl
theorem ltexts_body : Tryd.f4.body = some ltextsB := by kernel_rfl
theorem ltexts_n : Tryd.f4.ntmps = 87 := by kernel_rfl
theorem ltexts_r : Tryd.f4.results.toList.map (trRes Tryd.prog) = [.tmp 2] := by kernel_rfl
theorem ltexts_spec {h : HP} {a0 : AV} {Post : HP → AV → List AV → Prop} (hp : ∀ (E : Env) (R : HP → AV → List AV → Prop), E.N ≤ 1000000 → PostTo Post R → vcW Tryd.prog E ltexts (KQ.post [.tmp 2] 1 R) ⟨[(0, a0)], h⟩) : Eng.Spec Tryd.prog 4 h [a0] Post := spec_wk (
  spec_of (c := ltexts.erase 22000) (B := 22000) Tryd.func4 ltexts_body (by rw [ltexts_n, ltexts_eq]) (by rw [ltexts_n]; decide) (by rw [ltexts_n]; exact (by decide : 1 ≤ 87)) (fun E hE hB hrd => by
    have hN : E.N ≤ 1000000 := by
      rw [hE, ltexts_n]; decide
    rw [ltexts_r, ← hB]
    exact awp_slots [(0, a0)] ⟨rfl, trivial⟩ (vcW_sound hN _ (hp E _ hN fin_self))))
/- cartulary/cartularylaw08.ObjectReads -/
def lreads_5o : List ROp := [.cal (some 29) false 23029 9 [],
   .v 30 (.mov (.t 29)),
   .gval 31 30 true false 23031 (.ld true 2 (.t 5)),
   .gval 32 30 true false 23032 (.ld true 2 (.t 7)),
   .gval 33 30 true false 23033 (.aeq false [1, 2] (.t 31) (.t 32)),
   .v 34 (.pick (.t 30) (.t 33) (.c (.bool false))),
   .v 35 (.mov (.t 34)),
   .gval 36 35 true false 23036 (.mov (.t 6)),
   .gval 37 35 true false 23037 (.mov (.t 8)),
   .gval 38 35 true false 23038 (.bin .eql (.t 36) (.t 37)),
   .v 39 (.pick (.t 35) (.t 38) (.c (.bool false))),
   .v 40 (.mov (.t 39)),
   .gval 41 40 true false 23041 (.mov (.t 1)),
   .gcal 42 40 true false 23042 21 [(.t 41)],
   .gval 43 40 true false 23043 (.mov (.t 1)),
   .gcal 44 40 true false 23044 22 [(.t 43)],
   .gval 45 40 true false 23045 (.bin .eql (.t 42) (.t 44)),
   .v 46 (.pick (.t 40) (.t 45) (.c (.bool false))),
   .v 47 (.mov (.t 46)),
   .gval 48 47 true false 23048 (.mov (.t 10)),
   .gval 49 47 true false 23049 (.mov (.t 11)),
   .gval 50 47 true false 23050 (.bin .geq (.t 49) (.c (.int .i64 0))),
   .gval 51 47 true false 23051 (.beq false (.t 48) (.t 50)),
   .v 52 (.pick (.t 47) (.t 51) (.c (.bool false))),
   .v 53 (.mov (.t 52)),
   .gval 54 53 true false 23054 (.mov (.t 9)),
   .gval 55 53 true false 23055 (.mov (.t 11)),
   .gval 56 53 true false 23056 (.mm true (.t 55) (.c (.int .i64 0))),
   .gval 57 53 true false 23057 (.bin .eql (.t 54) (.t 56)),
   .v 58 (.pick (.t 53) (.t 57) (.c (.bool false))),
   .v 4 (.mov (.t 58))]
def lreads_5 : AK := .seq (.reg lreads_5o [4]) .ret
def lreads_4o : List ROp := [.v 27 (.mov (.t 1)),
   .cal (some 28) false 23028 20 [(.t 27)],
   .v 11 (.mov (.t 28))]
def lreads_4 : AK := .seq (.reg lreads_4o [1, 5, 6, 7, 8, 9, 10, 11]) lreads_5
def lreads_3o : List ROp := [.v 23 (.mov (.t 1)),
   .cal (some 24) false 23024 7 [(.t 23)],
   .v 22 (.mov (.t 24)),
   .v 25 (.ext (.t 22) 0),
   .v 26 (.ext (.t 22) 1),
   .v 9 (.mov (.t 25)),
   .v 10 (.mov (.t 26))]
def lreads_3 : AK := .seq (.reg lreads_3o [1, 5, 6, 7, 8, 9, 10]) lreads_4
def lreads_2o : List ROp := [.v 18 (.mov (.t 0)),
   .cal (some 19) false 23019 19 [(.t 18)],
   .v 17 (.mov (.t 19)),
   .v 20 (.ext (.t 17) 0),
   .v 21 (.ext (.t 17) 1),
   .eff 7 false 23007 (.alloc [.int .i64 0, .str []]),
   .effN false 23000 (.st 2 (.t 7) (.t 20)),
   .v 8 (.mov (.t 21))]
def lreads_2 : AK := .seq (.reg lreads_2o [1, 5, 6, 7, 8]) lreads_3
def lreads_1o : List ROp := [.v 13 (.mov (.t 0)),
   .cal (some 14) false 23014 16 [(.t 13)],
   .v 12 (.mov (.t 14)),
   .v 15 (.ext (.t 12) 0),
   .v 16 (.ext (.t 12) 1),
   .eff 5 false 23005 (.alloc [.int .i64 0, .str []]),
   .effN false 23000 (.st 2 (.t 5) (.t 15)),
   .v 6 (.mov (.t 16))]
def lreads_1 : AK := .seq (.reg lreads_1o [0, 1, 5, 6]) lreads_2
def lreads_0o : List ROp := [.v 4 (.mov (.c (.bool false)))]
def lreads_0 : AK := .seq (.reg lreads_0o [0, 1]) lreads_1
def lreads : AK := lreads_0
theorem lreads_vc (P : Program) (E : Env) (Q : KQ) (st : St) :
  (vcW P E lreads_5 Q st = aopsW P lreads_5o st (KS.reg [4] (KQ.seq P E .ret Q))) ∧
  (vcW P E lreads_4 Q st = aopsW P lreads_4o st (KS.reg [1, 5, 6, 7, 8, 9, 10, 11] (KQ.seq P E lreads_5 Q))) ∧
  (vcW P E lreads_3 Q st = aopsW P lreads_3o st (KS.reg [1, 5, 6, 7, 8, 9, 10] (KQ.seq P E lreads_4 Q))) ∧
  (vcW P E lreads_2 Q st = aopsW P lreads_2o st (KS.reg [1, 5, 6, 7, 8] (KQ.seq P E lreads_3 Q))) ∧
  (vcW P E lreads_1 Q st = aopsW P lreads_1o st (KS.reg [0, 1, 5, 6] (KQ.seq P E lreads_2 Q))) ∧
  (vcW P E lreads_0 Q st = aopsW P lreads_0o st (KS.reg [0, 1] (KQ.seq P E lreads_1 Q))) ∧
  (vcW P E lreads Q st = vcW P E lreads_0 Q st) :=
  ⟨rfl, rfl, rfl, rfl, rfl, rfl, rfl⟩
theorem lreads_jn (P : Program) (E : Env) (Q : KQ) (st : St) :
  (True) :=
  trivial
attribute [go_sem] lreads_vc lreads_5o lreads_4o lreads_3o lreads_2o lreads_1o lreads_0o
noncomputable def lreadsB : Code := (Tryd.f5.body).getD .skip
theorem lreads_eq : trCode Tryd.prog 59 23000 lreadsB = lreads.erase 23000 := by kernel_rfl
theorem lreads_body : Tryd.f5.body = some lreadsB := by kernel_rfl
theorem lreads_n : Tryd.f5.ntmps = 59 := by kernel_rfl
theorem lreads_r : Tryd.f5.results.toList.map (trRes Tryd.prog) = [.tmp 4] := by kernel_rfl
theorem lreads_spec {h : HP} {a0 a1 : AV} {Post : HP → AV → List AV → Prop} (hp : ∀ (E : Env) (R : HP → AV → List AV → Prop), E.N ≤ 1000000 → PostTo Post R → vcW Tryd.prog E lreads (KQ.post [.tmp 4] 2 R) ⟨[(0, a0), (1, a1)], h⟩) : Eng.Spec Tryd.prog 5 h [a0, a1] Post := spec_wk (
  spec_of (c := lreads.erase 23000) (B := 23000) Tryd.func5 lreads_body (by rw [lreads_n, lreads_eq]) (by rw [lreads_n]; decide) (by rw [lreads_n]; exact (by decide : 2 ≤ 59)) (fun E hE hB hrd => by
    have hN : E.N ≤ 1000000 := by
      rw [hE, lreads_n]; decide
    rw [lreads_r, ← hB]
    exact awp_slots [(0, a0), (1, a1)] ⟨rfl, rfl, trivial⟩ (vcW_sound hN _ (hp E _ hN fin_self))))
/- cartulary/cartularylaw08.ObjectApart -/
def lapart_7o : List ROp := [.cal (some 58) false 24058 9 [],
   .v 59 (.mov (.t 58)),
   .gval 60 59 true false 24060 (.mov (.t 14)),
   .gval 61 59 true false 24061 (.bin .eql (.t 60) (.c (.int .i64 0))),
   .v 62 (.pick (.t 59) (.t 61) (.c (.bool false))),
   .v 63 (.mov (.t 62)),
   .gval 64 63 true false 24064 (.mov (.t 13)),
   .gval 65 63 true false 24065 (.mov (.t 2)),
   .gval 66 63 true false 24066 (.bin .eql (.t 64) (.t 65)),
   .v 67 (.pick (.t 63) (.t 66) (.c (.bool false))),
   .v 6 (.mov (.t 67))]
def lapart_7 : AK := .seq (.reg lapart_7o [6]) .ret
def lapart_6o : List ROp := [.v 54 (.ld true 2 (.t 11)),
   .cal (some 55) false 24055 10 [(.t 54)],
   .v 53 (.mov (.t 55)),
   .v 56 (.ext (.t 53) 0),
   .v 57 (.ext (.t 53) 1),
   .v 13 (.mov (.t 56)),
   .v 14 (.mov (.t 57))]
def lapart_6 : AK := .seq (.reg lapart_6o [2, 13, 14]) lapart_7
def lapart_10o : List ROp := [.cal (some 47) false 24047 9 [],
   .v 48 (.mov (.t 47)),
   .gval 49 48 true false 24049 (.ld true 2 (.t 11)),
   .gval 50 48 true false 24050 (.bld [.int .i64 0, .str []] []),
   .gval 51 48 true false 24051 (.aeq false [1, 2] (.t 49) (.t 50)),
   .v 52 (.pick (.t 48) (.t 51) (.c (.bool false))),
   .v 6 (.mov (.t 52))]
def lapart_10 : AK := .seq (.reg lapart_10o [6]) .ret
def lapart_9 : AK := .cond (.t 46) lapart_10 .skip
def lapart_8o : List ROp := [.v 45 (.mov (.t 12)),
   .v 46 (.bin .neq (.t 45) (.c (.int .i64 0)))]
def lapart_8 : AK := .seq (.reg lapart_8o [2, 11, 46]) lapart_9
def lapart_5 : AK := .seq lapart_8 lapart_6
def lapart_4o : List ROp := [.v 41 (.mov (.t 2)),
   .cal (some 42) false 24042 16 [(.t 41)],
   .v 40 (.mov (.t 42)),
   .v 43 (.ext (.t 40) 0),
   .v 44 (.ext (.t 40) 1),
   .eff 11 false 24011 (.alloc [.int .i64 0, .str []]),
   .effN false 24000 (.st 2 (.t 11) (.t 43)),
   .v 12 (.mov (.t 44))]
def lapart_4 : AK := .seq (.reg lapart_4o [2, 11, 12]) lapart_5
def lapart_13o : List ROp := [.v 6 (.mov (.c (.bool false)))]
def lapart_13 : AK := .seq (.reg lapart_13o [6]) .ret
def lapart_12 : AK := .cond (.t 39) lapart_13 .skip
def lapart_11o : List ROp := [.v 25 (.mov (.t 8)),
   .v 26 (.bin .eql (.t 25) (.c (.int .i64 0))),
   .v 27 (.mov (.t 26)),
   .gval 28 27 true false 24028 (.mov (.t 10)),
   .gval 29 27 true false 24029 (.bin .eql (.t 28) (.c (.int .i64 0))),
   .v 30 (.pick (.t 27) (.t 29) (.c (.bool false))),
   .v 31 (.mov (.t 30)),
   .gval 32 31 true false 24032 (.mov (.t 7)),
   .gval 33 31 true false 24033 (.mov (.t 9)),
   .gval 34 31 true false 24034 (.bin .eql (.t 32) (.t 33)),
   .gval 35 31 true false 24035 (.ld true 2 (.t 3)),
   .gval 36 31 true false 24036 (.ld true 2 (.t 4)),
   .gval 37 31 true false 24037 (.aeq false [1, 2] (.t 35) (.t 36)),
   .gval 38 31 true false 24038 (.beq true (.t 34) (.t 37)),
   .v 39 (.pick (.t 31) (.t 38) (.c (.bool false)))]
def lapart_11 : AK := .seq (.reg lapart_11o [2, 39]) lapart_12
def lapart_3 : AK := .seq lapart_11 lapart_4
def lapart_2o : List ROp := [.v 21 (.ld true 2 (.t 4)),
   .cal (some 22) false 24022 10 [(.t 21)],
   .v 20 (.mov (.t 22)),
   .v 23 (.ext (.t 20) 0),
   .v 24 (.ext (.t 20) 1),
   .v 9 (.mov (.t 23)),
   .v 10 (.mov (.t 24))]
def lapart_2 : AK := .seq (.reg lapart_2o [2, 3, 4, 7, 8, 9, 10]) lapart_3
def lapart_1o : List ROp := [.v 16 (.ld true 2 (.t 3)),
   .cal (some 17) false 24017 10 [(.t 16)],
   .v 15 (.mov (.t 17)),
   .v 18 (.ext (.t 15) 0),
   .v 19 (.ext (.t 15) 1),
   .v 7 (.mov (.t 18)),
   .v 8 (.mov (.t 19))]
def lapart_1 : AK := .seq (.reg lapart_1o [2, 3, 4, 7, 8]) lapart_2
def lapart_0o : List ROp := [.eff 3 false 24003 (.box 2 (.t 0)),
   .eff 4 false 24004 (.box 2 (.t 1)),
   .v 6 (.mov (.c (.bool false)))]
def lapart_0 : AK := .seq (.reg lapart_0o [2, 3, 4]) lapart_1
def lapart : AK := lapart_0
theorem lapart_vc (P : Program) (E : Env) (Q : KQ) (st : St) :
  (vcW P E lapart_7 Q st = aopsW P lapart_7o st (KS.reg [6] (KQ.seq P E .ret Q))) ∧
  (vcW P E lapart_6 Q st = aopsW P lapart_6o st (KS.reg [2, 13, 14] (KQ.seq P E lapart_7 Q))) ∧
  (vcW P E lapart_10 Q st = aopsW P lapart_10o st (KS.reg [6] (KQ.seq P E .ret Q))) ∧
  (vcW P E lapart_9 Q st = cndW P E (ev st (.t 46)) lapart_10 .skip Q st) ∧
  (vcW P E lapart_8 Q st = aopsW P lapart_8o st (KS.reg [2, 11, 46] (KQ.seq P E lapart_9 Q))) ∧
  (vcW P E lapart_5 Q st = vcW P E lapart_8 (KQ.seq P E lapart_6 Q) st) ∧
  (vcW P E lapart_4 Q st = aopsW P lapart_4o st (KS.reg [2, 11, 12] (KQ.seq P E lapart_5 Q))) ∧
  (vcW P E lapart_13 Q st = aopsW P lapart_13o st (KS.reg [6] (KQ.seq P E .ret Q))) ∧
  (vcW P E lapart_12 Q st = cndW P E (ev st (.t 39)) lapart_13 .skip Q st) ∧
  (vcW P E lapart_11 Q st = aopsW P lapart_11o st (KS.reg [2, 39] (KQ.seq P E lapart_12 Q))) ∧
  (vcW P E lapart_3 Q st = vcW P E lapart_11 (KQ.seq P E lapart_4 Q) st) ∧
  (vcW P E lapart_2 Q st = aopsW P lapart_2o st (KS.reg [2, 3, 4, 7, 8, 9, 10] (KQ.seq P E lapart_3 Q))) ∧
  (vcW P E lapart_1 Q st = aopsW P lapart_1o st (KS.reg [2, 3, 4, 7, 8] (KQ.seq P E lapart_2 Q))) ∧
  (vcW P E lapart_0 Q st = aopsW P lapart_0o st (KS.reg [2, 3, 4] (KQ.seq P E lapart_1 Q))) ∧
  (vcW P E lapart Q st = vcW P E lapart_0 Q st) :=
  ⟨rfl, rfl, rfl, vcW_cond, rfl, rfl, rfl, rfl, vcW_cond, rfl, rfl, rfl, rfl, rfl, rfl⟩
theorem lapart_jn (P : Program) (E : Env) (Q : KQ) (st : St) :
  (True) :=
  trivial
attribute [go_sem] lapart_vc lapart_7o lapart_6o lapart_10o lapart_8o lapart_4o lapart_13o lapart_11o lapart_2o lapart_1o lapart_0o
noncomputable def lapartB : Code := (Tryd.f6.body).getD .skip
theorem lapart_eq : trCode Tryd.prog 68 24000 lapartB = lapart.erase 24000 := by kernel_rfl
theorem lapart_body : Tryd.f6.body = some lapartB := by kernel_rfl
theorem lapart_n : Tryd.f6.ntmps = 68 := by kernel_rfl
theorem lapart_r : Tryd.f6.results.toList.map (trRes Tryd.prog) = [.tmp 6] := by kernel_rfl
theorem lapart_spec {h : HP} {a0 a1 a2 : AV} {Post : HP → AV → List AV → Prop} (hp : ∀ (E : Env) (R : HP → AV → List AV → Prop), E.N ≤ 1000000 → PostTo Post R → vcW Tryd.prog E lapart (KQ.post [.tmp 6] 3 R) ⟨[(0, a0), (1, a1), (2, a2)], h⟩) : Eng.Spec Tryd.prog 6 h [a0, a1, a2] Post := spec_wk (
  spec_of (c := lapart.erase 24000) (B := 24000) Tryd.func6 lapart_body (by rw [lapart_n, lapart_eq]) (by rw [lapart_n]; decide) (by rw [lapart_n]; exact (by decide : 3 ≤ 68)) (fun E hE hB hrd => by
    have hN : E.N ≤ 1000000 := by
      rw [hE, lapart_n]; decide
    rw [lapart_r, ← hB]
    exact awp_slots [(0, a0), (1, a1), (2, a2)] ⟨rfl, rfl, rfl, trivial⟩ (vcW_sound hN _ (hp E _ hN fin_self))))
/- strings.Cut -/
def scut_1o : List ROp := [.v 7 (.mov (.t 0)),
   .v 8 (.mov (.t 1)),
   .cal (some 9) false 30009 36 [(.t 7), (.t 8)],
   .v 10 (.ext (.t 9) 0),
   .v 11 (.ext (.t 9) 1),
   .v 12 (.ext (.t 9) 2),
   .v 4 (.mov (.t 10)),
   .v 5 (.mov (.t 11)),
   .v 6 (.mov (.t 12))]
def scut_1 : AK := .seq (.reg scut_1o [4, 5, 6]) .ret
def scut_0o : List ROp := [.v 4 (.mov (.c (.str []))),
   .v 5 (.mov (.c (.str []))),
   .v 6 (.mov (.c (.bool false)))]
def scut_0 : AK := .seq (.reg scut_0o [0, 1]) scut_1
def scut : AK := scut_0
theorem scut_vc (P : Program) (E : Env) (Q : KQ) (st : St) :
  (vcW P E scut_1 Q st = aopsW P scut_1o st (KS.reg [4, 5, 6] (KQ.seq P E .ret Q))) ∧
  (vcW P E scut_0 Q st = aopsW P scut_0o st (KS.reg [0, 1] (KQ.seq P E scut_1 Q))) ∧
  (vcW P E scut Q st = vcW P E scut_0 Q st) :=
  ⟨rfl, rfl, rfl⟩
theorem scut_jn (P : Program) (E : Env) (Q : KQ) (st : St) :
  (True) :=
  trivial
attribute [go_sem] scut_vc scut_1o scut_0o
noncomputable def scutB : Code := (Tryd.f27.body).getD .skip
theorem scut_eq : trCode Tryd.prog 13 30000 scutB = scut.erase 30000 := by kernel_rfl
theorem scut_body : Tryd.f27.body = some scutB := by kernel_rfl
theorem scut_n : Tryd.f27.ntmps = 13 := by kernel_rfl
theorem scut_r : Tryd.f27.results.toList.map (trRes Tryd.prog) = [.tmp 4, .tmp 5, .tmp 6] := by kernel_rfl
theorem scut_spec {h : HP} {a0 a1 : AV} {Post : HP → AV → List AV → Prop} (hp : ∀ (E : Env) (R : HP → AV → List AV → Prop), E.N ≤ 1000000 → PostTo Post R → vcW Tryd.prog E scut (KQ.post [.tmp 4, .tmp 5, .tmp 6] 2 R) ⟨[(0, a0), (1, a1)], h⟩) : Eng.Spec Tryd.prog 27 h [a0, a1] Post := spec_wk (
  spec_of (c := scut.erase 30000) (B := 30000) Tryd.func27 scut_body (by rw [scut_n, scut_eq]) (by rw [scut_n]; decide) (by rw [scut_n]; exact (by decide : 2 ≤ 13)) (fun E hE hB hrd => by
    have hN : E.N ≤ 1000000 := by
      rw [hE, scut_n]; decide
    rw [scut_r, ← hB]
    exact awp_slots [(0, a0), (1, a1)] ⟨rfl, rfl, trivial⟩ (vcW_sound hN _ (hp E _ hN fin_self))))
/- internal/stringslite.Cut -/
def lcut_2o : List ROp := [.v 22 (.mov (.t 0)),
   .v 4 (.mov (.t 22)),
   .v 5 (.mov (.c (.str []))),
   .v 6 (.mov (.c (.bool false)))]
def lcut_2 : AK := .seq (.reg lcut_2o [4, 5, 6]) .ret
def lcut_6o : List ROp := [.val 13 true 31013 (.mov (.t 0)),
   .val 14 true 31014 (.mov (.t 7)),
   .val 15 true 31015 (.slcS (.t 13) none (some (.t 14))),
   .val 16 true 31016 (.mov (.t 0)),
   .val 17 true 31017 (.mov (.t 7)),
   .val 18 true 31018 (.mov (.t 1)),
   .val 19 true 31019 (.len true (.t 18)),
   .val 20 true 31020 (.bin .add (.t 17) (.t 19)),
   .val 21 true 31021 (.slcS (.t 16) (some (.t 20)) none),
   .val 4 true 31004 (.mov (.t 15)),
   .v 5 (.mov (.t 21)),
   .v 6 (.mov (.c (.bool true)))]
def lcut_6 : AK := .seq (.reg lcut_6o [4, 5, 6]) .ret
def lcut_5 : AK := .cond (.t 12) lcut_6 .skip
def lcut_4o : List ROp := [.v 11 (.mov (.t 7)),
   .v 12 (.bin .geq (.t 11) (.c (.int .i64 0)))]
def lcut_4 : AK := .seq (.reg lcut_4o [0, 1, 7, 12]) lcut_5
def lcut_3o : List ROp := [.v 8 (.mov (.t 0)),
   .v 9 (.mov (.t 1)),
   .cal (some 10) false 31010 51 [(.t 8), (.t 9)],
   .v 7 (.mov (.t 10))]
def lcut_3 : AK := .seq (.reg lcut_3o [0, 1, 7]) lcut_4
def lcut_1 : AK := .seq lcut_3 lcut_2
def lcut_0o : List ROp := [.v 4 (.mov (.c (.str []))),
   .v 5 (.mov (.c (.str []))),
   .v 6 (.mov (.c (.bool false)))]
def lcut_0 : AK := .seq (.reg lcut_0o [0, 1]) lcut_1
def lcut : AK := lcut_0
theorem lcut_vc (P : Program) (E : Env) (Q : KQ) (st : St) :
  (vcW P E lcut_2 Q st = aopsW P lcut_2o st (KS.reg [4, 5, 6] (KQ.seq P E .ret Q))) ∧
  (vcW P E lcut_6 Q st = aopsW P lcut_6o st (KS.reg [4, 5, 6] (KQ.seq P E .ret Q))) ∧
  (vcW P E lcut_5 Q st = cndW P E (ev st (.t 12)) lcut_6 .skip Q st) ∧
  (vcW P E lcut_4 Q st = aopsW P lcut_4o st (KS.reg [0, 1, 7, 12] (KQ.seq P E lcut_5 Q))) ∧
  (vcW P E lcut_3 Q st = aopsW P lcut_3o st (KS.reg [0, 1, 7] (KQ.seq P E lcut_4 Q))) ∧
  (vcW P E lcut_1 Q st = vcW P E lcut_3 (KQ.seq P E lcut_2 Q) st) ∧
  (vcW P E lcut_0 Q st = aopsW P lcut_0o st (KS.reg [0, 1] (KQ.seq P E lcut_1 Q))) ∧
  (vcW P E lcut Q st = vcW P E lcut_0 Q st) :=
  ⟨rfl, rfl, vcW_cond, rfl, rfl, rfl, rfl, rfl⟩
theorem lcut_jn (P : Program) (E : Env) (Q : KQ) (st : St) :
  (True) :=
  trivial
attribute [go_sem] lcut_vc lcut_2o lcut_6o lcut_4o lcut_3o lcut_0o
noncomputable def lcutB : Code := (Tryd.f36.body).getD .skip
theorem lcut_eq : trCode Tryd.prog 23 31000 lcutB = lcut.erase 31000 := by kernel_rfl
theorem lcut_body : Tryd.f36.body = some lcutB := by kernel_rfl
theorem lcut_n : Tryd.f36.ntmps = 23 := by kernel_rfl
theorem lcut_r : Tryd.f36.results.toList.map (trRes Tryd.prog) = [.tmp 4, .tmp 5, .tmp 6] := by kernel_rfl
theorem lcut_spec {h : HP} {a0 a1 : AV} {Post : HP → AV → List AV → Prop} (hp : ∀ (E : Env) (R : HP → AV → List AV → Prop), E.N ≤ 1000000 → PostTo Post R → vcW Tryd.prog E lcut (KQ.post [.tmp 4, .tmp 5, .tmp 6] 2 R) ⟨[(0, a0), (1, a1)], h⟩) : Eng.Spec Tryd.prog 36 h [a0, a1] Post := spec_wk (
  spec_of (c := lcut.erase 31000) (B := 31000) Tryd.func36 lcut_body (by rw [lcut_n, lcut_eq]) (by rw [lcut_n]; decide) (by rw [lcut_n]; exact (by decide : 2 ≤ 23)) (fun E hE hB hrd => by
    have hN : E.N ≤ 1000000 := by
      rw [hE, lcut_n]; decide
    rw [lcut_r, ← hB]
    exact awp_slots [(0, a0), (1, a1)] ⟨rfl, rfl, trivial⟩ (vcW_sound hN _ (hp E _ hN fin_self))))
end Go.Proofs.YtlnplfjcnncakaaDoor.Cod
