/- Code of functions as the engine reads it: written by a program (code2.py). -/
import Derived.Test.YtkeleoneecofhaaDoorEngZ
import Derived.Test.YtkeleoneecofhaaDoorProg
import Derived.KernelRfl
set_option linter.all false
namespace Go.Proofs.YtkeleoneecofhaaDoor.Cod
open Eng
set_option maxRecDepth 100000
/- (cartulary/graph.lanes).find -/
def find_2o : List ROp := [.v 4 (.mov (.c (.int .i64 (-1))))]
def find_2 : AK := .seq (.reg find_2o [4]) .ret
def find_8o : List ROp := [.v 18 (.bin .add (.t 9) (.c (.int .i64 1))),
   .v 9 (.mov (.t 18))]
def find_8 : AK := .reg find_8o [1, 7, 8, 9]
def find_13o : List ROp := [.v 17 (.mov (.t 5)),
   .v 4 (.mov (.t 17))]
def find_13 : AK := .seq (.reg find_13o [4]) .ret
def find_12 : AK := .cond (.t 16) find_13 .skip
def find_11o : List ROp := [.v 14 (.mov (.t 6)),
   .v 15 (.mov (.t 1)),
   .v 16 (.bin .eql (.t 14) (.t 15))]
def find_11 : AK := .seq (.reg find_11o [1, 5, 7, 8, 9, 16]) find_12
def find_10o : List ROp := [.v 11 (.mov (.t 9)),
   .v 12 (.idxA 1 (.t 7) (.t 9)),
   .v 13 (.ld false 1 (.t 12)),
   .v 5 (.mov (.t 11)),
   .v 6 (.mov (.t 13))]
def find_10 : AK := .seq (.reg find_10o [1, 5, 6, 7, 8, 9]) find_11
def find_9 : AK := .block 1 find_10
def find_7 : AK := .seq find_9 find_8
def find_14 : AK := .cond (.t 10) .skip (.exit 0)
def find_6 : AK := .seq find_14 find_7
def find_5o : List ROp := [.v 10 (.bin .lss (.t 9) (.t 8))]
def find_5 : AK := .seq (.reg find_5o [1, 7, 8, 9, 10]) find_6
def find_L0 : AK := .loop find_5
def find_4 : AK := .block 0 find_L0
def find_3o : List ROp := [.v 7 (.mov (.t 0)),
   .v 8 (.len false (.t 7)),
   .v 9 (.mov (.c (.int .i64 0)))]
def find_3 : AK := .seq (.reg find_3o [1, 7, 8, 9]) find_4
def find_1 : AK := .seq find_3 find_2
def find_0o : List ROp := [.v 4 (.mov (.c (.int .i64 0)))]
def find_0 : AK := .seq (.reg find_0o [0, 1]) find_1
def find : AK := find_0
theorem find_vc (P : Program) (E : Env) (Q : KQ) (st : St) :
  (vcW P E find_2 Q st = aopsW P find_2o st (KS.reg [4] (KQ.seq P E .ret Q))) ∧
  (vcW P E find_8 Q st = aopsW P find_8o st (KS.reg [1, 7, 8, 9] Q)) ∧
  (vcW P E find_13 Q st = aopsW P find_13o st (KS.reg [4] (KQ.seq P E .ret Q))) ∧
  (vcW P E find_12 Q st = cndW P E (ev st (.t 16)) find_13 .skip Q st) ∧
  (vcW P E find_11 Q st = aopsW P find_11o st (KS.reg [1, 5, 7, 8, 9, 16] (KQ.seq P E find_12 Q))) ∧
  (vcW P E find_10 Q st = aopsW P find_10o st (KS.reg [1, 5, 6, 7, 8, 9] (KQ.seq P E find_11 Q))) ∧
  (vcW P E find_9 Q st = vcW P E find_10 (KQ.blk 1 Q) st) ∧
  (vcW P E find_7 Q st = vcW P E find_9 (KQ.seq P E find_8 Q) st) ∧
  (vcW P E find_14 Q st = cndW P E (ev st (.t 10)) .skip (.exit 0) Q st) ∧
  (vcW P E find_6 Q st = vcW P E find_14 (KQ.seq P E find_7 Q) st) ∧
  (vcW P E find_5 Q st = aopsW P find_5o st (KS.reg [1, 7, 8, 9, 10] (KQ.seq P E find_6 Q))) ∧
  (vcW P E find_4 Q st = vcW P E find_L0 (KQ.blk 0 Q) st) ∧
  (vcW P E find_3 Q st = aopsW P find_3o st (KS.reg [1, 7, 8, 9] (KQ.seq P E find_4 Q))) ∧
  (vcW P E find_1 Q st = vcW P E find_3 (KQ.seq P E find_2 Q) st) ∧
  (vcW P E find_0 Q st = aopsW P find_0o st (KS.reg [0, 1] (KQ.seq P E find_1 Q))) ∧
  (vcW P E find Q st = vcW P E find_0 Q st) :=
  ⟨rfl, rfl, rfl, vcW_cond, rfl, rfl, rfl, rfl, vcW_cond, rfl, rfl, rfl, rfl, rfl, rfl, rfl⟩
theorem find_jn (P : Program) (E : Env) (Q : KQ) (st : St) :
  (True) :=
  trivial
attribute [go_sem] find_vc find_2o find_8o find_13o find_11o find_10o find_5o find_3o find_0o
noncomputable def findB : Code := (Tryd.f18.body).getD .skip
theorem find_eq : trCode Tryd.prog 19 1000 findB = find.erase 1000 := by kernel_rfl
theorem find_body : Tryd.f18.body = some findB := by kernel_rfl
theorem find_n : Tryd.f18.ntmps = 19 := by kernel_rfl
theorem find_r : Tryd.f18.results.toList = [.tmp 4] := by kernel_rfl
theorem find_spec {h : HP} {a0 a1 : AV} {Post : HP → AV → List AV → Prop} (hp : ∀ (E : Env) (R : HP → AV → List AV → Prop), E.N ≤ 1000000 → PostTo Post R → vcW Tryd.prog E find (KQ.post [.tmp 4] 2 R) ⟨[(0, a0), (1, a1)], h⟩) : Eng.Spec Tryd.prog 18 h [a0, a1] Post := spec_wk (
  spec_of (c := find.erase 1000) (B := 1000) Tryd.func18 find_body (by rw [find_n, find_eq]) (by rw [find_n]; decide) (by rw [find_n]; exact (by decide : 2 ≤ 19)) (fun E hE hB => by
    have hN : E.N ≤ 1000000 := by
      rw [hE, find_n]; decide
    rw [find_r, ← hB]
    exact awp_slots [(0, a0), (1, a1)] ⟨rfl, rfl, trivial⟩ (vcW_sound hN _ (hp E _ hN fin_self))))
/- (*cartulary/graph.lanes).take -/
def take_5o : List ROp := [.v 36 (.mov (.t 5)),
   .v 4 (.mov (.t 36))]
def take_5 : AK := .seq (.reg take_5o [4, 2000000, 2000001]) .ret
def take_4o : List ROp := [.v 30 (.mov (.t 0)),
   .v 31 (.nilc (.t 30)),
   .v 32 (.ld false 1 (.t 31)),
   .v 33 (.mov (.t 5)),
   .v 34 (.mov (.t 1)),
   .v 35 (.idxA 1 (.t 32) (.t 33)),
   .effN false 2000 (.st 1 (.t 35) (.t 34))]
def take_4 : AK := .seq (.reg take_4o [5, 2000000, 2000001]) take_5
def take_9o : List ROp := [.v 23 (.mov (.t 0)),
   .v 24 (.mov (.t 0)),
   .v 25 (.nilc (.t 24)),
   .v 26 (.ld false 1 (.t 25)),
   .eff 27 false 2027 (.bsl 1 [(.c (.int .i64 (-1)))]),
   .eff 28 false 2028 (.app 1 8 (.t 26) (.t 27)),
   .v 29 (.nilc (.t 23)),
   .effN false 2000 (.st 1 (.t 29) (.t 28))]
def take_9 : AK := .reg take_9o [0, 1, 5, 2000000, 2000001]
def take_8o : List ROp := [.v 19 (.mov (.t 0)),
   .v 20 (.nilc (.t 19)),
   .v 21 (.ld false 1 (.t 20)),
   .v 22 (.len false (.t 21)),
   .v 5 (.mov (.t 22))]
def take_8 : AK := .seq (.reg take_8o [0, 1, 5, 2000000, 2000001]) take_9
def take_7 : AK := .cond (.t 18) take_8 .skip
def take_6o : List ROp := [.v 17 (.mov (.t 5)),
   .v 18 (.bin .lss (.t 17) (.c (.int .i64 0)))]
def take_6 : AK := .seq (.reg take_6o [0, 1, 5, 18, 2000000, 2000001]) take_7
def take_3 : AK := .seq take_6 (.mid take_4)
def take_12o : List ROp := [.v 13 (.mov (.t 0)),
   .v 14 (.nilc (.t 13)),
   .v 15 (.ld false 1 (.t 14)),
   .cal (some 16) false 2016 18 [(.t 15), (.c (.int .i64 (-1)))],
   .v 5 (.mov (.t 16))]
def take_12 : AK := .reg take_12o [0, 1, 5, 2000000, 2000001]
def take_11 : AK := .cond (.t 12) take_12 .skip
def take_10o : List ROp := [.v 11 (.mov (.t 5)),
   .v 12 (.bin .lss (.t 11) (.c (.int .i64 0)))]
def take_10 : AK := .seq (.reg take_10o [0, 1, 5, 12, 2000000, 2000001]) take_11
def take_2 : AK := .seq take_10 (.mid take_3)
def take_1o : List ROp := [.v 6 (.mov (.t 0)),
   .v 7 (.nilc (.t 6)),
   .v 8 (.ld false 1 (.t 7)),
   .v 9 (.mov (.t 1)),
   .cal (some 10) false 2010 18 [(.t 8), (.t 9)],
   .v 5 (.mov (.t 10))]
def take_1 : AK := .seq (.reg take_1o [0, 1, 5, 2000000, 2000001]) take_2
def take_0o : List ROp := [.v 4 (.mov (.c (.int .i64 0)))]
def take_0 : AK := .seq (.reg take_0o [0, 1, 2000000, 2000001]) take_1
def take : AK := take_0
theorem take_vc (P : Program) (E : Env) (Q : KQ) (st : St) :
  (vcW P E take_5 Q st = aopsW P take_5o st (KS.reg [4, 2000000, 2000001] (KQ.seq P E .ret Q))) ∧
  (vcW P E take_4 Q st = aopsW P take_4o st (KS.reg [5, 2000000, 2000001] (KQ.seq P E take_5 Q))) ∧
  (vcW P E take_9 Q st = aopsW P take_9o st (KS.reg [0, 1, 5, 2000000, 2000001] Q)) ∧
  (vcW P E take_8 Q st = aopsW P take_8o st (KS.reg [0, 1, 5, 2000000, 2000001] (KQ.seq P E take_9 Q))) ∧
  (vcW P E take_7 Q st = cndW P E (ev st (.t 18)) take_8 .skip Q st) ∧
  (vcW P E take_6 Q st = aopsW P take_6o st (KS.reg [0, 1, 5, 18, 2000000, 2000001] (KQ.seq P E take_7 Q))) ∧
  (vcW P E take_12 Q st = aopsW P take_12o st (KS.reg [0, 1, 5, 2000000, 2000001] Q)) ∧
  (vcW P E take_11 Q st = cndW P E (ev st (.t 12)) take_12 .skip Q st) ∧
  (vcW P E take_10 Q st = aopsW P take_10o st (KS.reg [0, 1, 5, 12, 2000000, 2000001] (KQ.seq P E take_11 Q))) ∧
  (vcW P E take_1 Q st = aopsW P take_1o st (KS.reg [0, 1, 5, 2000000, 2000001] (KQ.seq P E take_2 Q))) ∧
  (vcW P E take_0 Q st = aopsW P take_0o st (KS.reg [0, 1, 2000000, 2000001] (KQ.seq P E take_1 Q))) ∧
  (vcW P E take Q st = vcW P E take_0 Q st) :=
  ⟨rfl, rfl, rfl, rfl, vcW_cond, rfl, rfl, vcW_cond, rfl, rfl, rfl, rfl⟩
theorem take_jn (P : Program) (E : Env) (Q : KQ) (st : St) :
  (vcW P E take_3 Q st = vcW P E take_6 (KQ.seq P E (.mid take_4) Q) st) ∧
  (vcW P E take_2 Q st = vcW P E take_10 (KQ.seq P E (.mid take_3) Q) st) :=
  ⟨rfl, rfl⟩
attribute [go_sem] take_vc take_5o take_4o take_9o take_8o take_6o take_12o take_10o take_1o take_0o
noncomputable def takeB : Code := (Tryd.f17.body).getD .skip
theorem take_eq : trCode Tryd.prog 37 2000 takeB = take.erase 2000 := by kernel_rfl
theorem take_body : Tryd.f17.body = some takeB := by kernel_rfl
theorem take_n : Tryd.f17.ntmps = 37 := by kernel_rfl
theorem take_r : Tryd.f17.results.toList = [.tmp 4] := by kernel_rfl
theorem take_spec {h : HP} {a0 a1 : AV} {Post : HP → AV → List AV → Prop} (hp : ∀ (E : Env) (R : HP → AV → List AV → Prop), E.N ≤ 1000000 → PostTo Post R → vcW Tryd.prog E take (KQ.post [.tmp 4] 2 R) ⟨[(0, a0), (1, a1), (2000000, a0), (2000001, a1)], h⟩) : Eng.Spec Tryd.prog 17 h [a0, a1] Post := spec_wk (
  spec_of (c := take.erase 2000) (B := 2000) Tryd.func17 take_body (by rw [take_n, take_eq]) (by rw [take_n]; decide) (by rw [take_n]; exact (by decide : 2 ≤ 37)) (fun E hE hB => by
    have hN : E.N ≤ 1000000 := by
      rw [hE, take_n]; decide
    rw [take_r, ← hB]
    exact awp_slots [(0, a0), (1, a1), (2000000, a0), (2000001, a1)] ⟨rfl, rfl, rfl, rfl, trivial⟩ (vcW_sound hN _ (hp E _ hN fin_self))))
/- cartulary/cartularyref18.find -/
def rfind_2o : List ROp := [.v 4 (.mov (.c (.int .i64 (-1))))]
def rfind_2 : AK := .seq (.reg rfind_2o [4]) .ret
def rfind_8o : List ROp := [.v 18 (.bin .add (.t 9) (.c (.int .i64 1))),
   .v 9 (.mov (.t 18))]
def rfind_8 : AK := .reg rfind_8o [1, 7, 8, 9]
def rfind_13o : List ROp := [.v 17 (.mov (.t 5)),
   .v 4 (.mov (.t 17))]
def rfind_13 : AK := .seq (.reg rfind_13o [4]) .ret
def rfind_12 : AK := .cond (.t 16) rfind_13 .skip
def rfind_11o : List ROp := [.v 14 (.mov (.t 6)),
   .v 15 (.mov (.t 1)),
   .v 16 (.bin .eql (.t 14) (.t 15))]
def rfind_11 : AK := .seq (.reg rfind_11o [1, 5, 7, 8, 9, 16]) rfind_12
def rfind_10o : List ROp := [.v 11 (.mov (.t 9)),
   .v 12 (.idxA 1 (.t 7) (.t 9)),
   .v 13 (.ld false 1 (.t 12)),
   .v 5 (.mov (.t 11)),
   .v 6 (.mov (.t 13))]
def rfind_10 : AK := .seq (.reg rfind_10o [1, 5, 6, 7, 8, 9]) rfind_11
def rfind_9 : AK := .block 1 rfind_10
def rfind_7 : AK := .seq rfind_9 rfind_8
def rfind_14 : AK := .cond (.t 10) .skip (.exit 0)
def rfind_6 : AK := .seq rfind_14 rfind_7
def rfind_5o : List ROp := [.v 10 (.bin .lss (.t 9) (.t 8))]
def rfind_5 : AK := .seq (.reg rfind_5o [1, 7, 8, 9, 10]) rfind_6
def rfind_L0 : AK := .loop rfind_5
def rfind_4 : AK := .block 0 rfind_L0
def rfind_3o : List ROp := [.v 7 (.mov (.t 0)),
   .v 8 (.len false (.t 7)),
   .v 9 (.mov (.c (.int .i64 0)))]
def rfind_3 : AK := .seq (.reg rfind_3o [1, 7, 8, 9]) rfind_4
def rfind_1 : AK := .seq rfind_3 rfind_2
def rfind_0o : List ROp := [.v 4 (.mov (.c (.int .i64 0)))]
def rfind_0 : AK := .seq (.reg rfind_0o [0, 1]) rfind_1
def rfind : AK := rfind_0
theorem rfind_vc (P : Program) (E : Env) (Q : KQ) (st : St) :
  (vcW P E rfind_2 Q st = aopsW P rfind_2o st (KS.reg [4] (KQ.seq P E .ret Q))) ∧
  (vcW P E rfind_8 Q st = aopsW P rfind_8o st (KS.reg [1, 7, 8, 9] Q)) ∧
  (vcW P E rfind_13 Q st = aopsW P rfind_13o st (KS.reg [4] (KQ.seq P E .ret Q))) ∧
  (vcW P E rfind_12 Q st = cndW P E (ev st (.t 16)) rfind_13 .skip Q st) ∧
  (vcW P E rfind_11 Q st = aopsW P rfind_11o st (KS.reg [1, 5, 7, 8, 9, 16] (KQ.seq P E rfind_12 Q))) ∧
  (vcW P E rfind_10 Q st = aopsW P rfind_10o st (KS.reg [1, 5, 6, 7, 8, 9] (KQ.seq P E rfind_11 Q))) ∧
  (vcW P E rfind_9 Q st = vcW P E rfind_10 (KQ.blk 1 Q) st) ∧
  (vcW P E rfind_7 Q st = vcW P E rfind_9 (KQ.seq P E rfind_8 Q) st) ∧
  (vcW P E rfind_14 Q st = cndW P E (ev st (.t 10)) .skip (.exit 0) Q st) ∧
  (vcW P E rfind_6 Q st = vcW P E rfind_14 (KQ.seq P E rfind_7 Q) st) ∧
  (vcW P E rfind_5 Q st = aopsW P rfind_5o st (KS.reg [1, 7, 8, 9, 10] (KQ.seq P E rfind_6 Q))) ∧
  (vcW P E rfind_4 Q st = vcW P E rfind_L0 (KQ.blk 0 Q) st) ∧
  (vcW P E rfind_3 Q st = aopsW P rfind_3o st (KS.reg [1, 7, 8, 9] (KQ.seq P E rfind_4 Q))) ∧
  (vcW P E rfind_1 Q st = vcW P E rfind_3 (KQ.seq P E rfind_2 Q) st) ∧
  (vcW P E rfind_0 Q st = aopsW P rfind_0o st (KS.reg [0, 1] (KQ.seq P E rfind_1 Q))) ∧
  (vcW P E rfind Q st = vcW P E rfind_0 Q st) :=
  ⟨rfl, rfl, rfl, vcW_cond, rfl, rfl, rfl, rfl, vcW_cond, rfl, rfl, rfl, rfl, rfl, rfl, rfl⟩
theorem rfind_jn (P : Program) (E : Env) (Q : KQ) (st : St) :
  (True) :=
  trivial
attribute [go_sem] rfind_vc rfind_2o rfind_8o rfind_13o rfind_11o rfind_10o rfind_5o rfind_3o rfind_0o
noncomputable def rfindB : Code := (Tryd.f20.body).getD .skip
theorem rfind_eq : trCode Tryd.prog 19 3000 rfindB = rfind.erase 3000 := by kernel_rfl
theorem rfind_body : Tryd.f20.body = some rfindB := by kernel_rfl
theorem rfind_n : Tryd.f20.ntmps = 19 := by kernel_rfl
theorem rfind_r : Tryd.f20.results.toList = [.tmp 4] := by kernel_rfl
theorem rfind_spec {h : HP} {a0 a1 : AV} {Post : HP → AV → List AV → Prop} (hp : ∀ (E : Env) (R : HP → AV → List AV → Prop), E.N ≤ 1000000 → PostTo Post R → vcW Tryd.prog E rfind (KQ.post [.tmp 4] 2 R) ⟨[(0, a0), (1, a1)], h⟩) : Eng.Spec Tryd.prog 20 h [a0, a1] Post := spec_wk (
  spec_of (c := rfind.erase 3000) (B := 3000) Tryd.func20 rfind_body (by rw [rfind_n, rfind_eq]) (by rw [rfind_n]; decide) (by rw [rfind_n]; exact (by decide : 2 ≤ 19)) (fun E hE hB => by
    have hN : E.N ≤ 1000000 := by
      rw [hE, rfind_n]; decide
    rw [rfind_r, ← hB]
    exact awp_slots [(0, a0), (1, a1)] ⟨rfl, rfl, trivial⟩ (vcW_sound hN _ (hp E _ hN fin_self))))
/- cartulary/cartularyref18.take -/
def rtake_6o : List ROp := [.v 29 (.mov (.t 0)),
   .v 30 (.mov (.t 6)),
   .v 4 (.mov (.t 29)),
   .v 5 (.mov (.t 30))]
def rtake_6 : AK := .seq (.reg rtake_6o [4, 5]) .ret
def rtake_5o : List ROp := [.v 25 (.mov (.t 0)),
   .v 26 (.mov (.t 6)),
   .v 27 (.mov (.t 1)),
   .v 28 (.idxA 1 (.t 25) (.t 26)),
   .effN false 4000 (.st 1 (.t 28) (.t 27))]
def rtake_5 : AK := .seq (.reg rtake_5o [0, 6]) rtake_6
def rtake_10o : List ROp := [.v 21 (.mov (.t 0)),
   .v 22 (.mov (.t 1)),
   .eff 23 false 4023 (.bsl 1 [(.t 22)]),
   .eff 24 false 4024 (.app 1 8 (.t 21) (.t 23)),
   .v 0 (.mov (.t 24))]
def rtake_10 : AK := .reg rtake_10o [0, 1, 6]
def rtake_9o : List ROp := [.v 19 (.mov (.t 0)),
   .v 20 (.len false (.t 19)),
   .v 6 (.mov (.t 20))]
def rtake_9 : AK := .seq (.reg rtake_9o [0, 1, 6]) rtake_10
def rtake_8 : AK := .cond (.t 18) rtake_9 .skip
def rtake_7o : List ROp := [.v 17 (.mov (.t 6)),
   .v 18 (.bin .lss (.t 17) (.c (.int .i64 0)))]
def rtake_7 : AK := .seq (.reg rtake_7o [0, 1, 6, 18]) rtake_8
def rtake_4 : AK := .seq rtake_7 (.mid rtake_5)
def rtake_3o : List ROp := [.eff 14 false 4014 (.bsl 1 []),
   .v 15 (.mov (.t 0)),
   .eff 16 false 4016 (.app 1 8 (.t 14) (.t 15)),
   .v 0 (.mov (.t 16))]
def rtake_3 : AK := .seq (.reg rtake_3o [0, 1, 6]) rtake_4
def rtake_13o : List ROp := [.v 12 (.mov (.t 0)),
   .cal (some 13) false 4013 20 [(.t 12), (.c (.int .i64 (-1)))],
   .v 6 (.mov (.t 13))]
def rtake_13 : AK := .reg rtake_13o [0, 1, 6]
def rtake_12 : AK := .cond (.t 11) rtake_13 .skip
def rtake_11o : List ROp := [.v 10 (.mov (.t 6)),
   .v 11 (.bin .lss (.t 10) (.c (.int .i64 0)))]
def rtake_11 : AK := .seq (.reg rtake_11o [0, 1, 6, 11]) rtake_12
def rtake_2 : AK := .seq rtake_11 (.mid rtake_3)
def rtake_1o : List ROp := [.v 7 (.mov (.t 0)),
   .v 8 (.mov (.t 1)),
   .cal (some 9) false 4009 20 [(.t 7), (.t 8)],
   .v 6 (.mov (.t 9))]
def rtake_1 : AK := .seq (.reg rtake_1o [0, 1, 6]) rtake_2
def rtake_0o : List ROp := [.v 4 (.mov (.c (.nilsl))),
   .v 5 (.mov (.c (.int .i64 0)))]
def rtake_0 : AK := .seq (.reg rtake_0o [0, 1]) rtake_1
def rtake : AK := rtake_0
theorem rtake_vc (P : Program) (E : Env) (Q : KQ) (st : St) :
  (vcW P E rtake_6 Q st = aopsW P rtake_6o st (KS.reg [4, 5] (KQ.seq P E .ret Q))) ∧
  (vcW P E rtake_5 Q st = aopsW P rtake_5o st (KS.reg [0, 6] (KQ.seq P E rtake_6 Q))) ∧
  (vcW P E rtake_10 Q st = aopsW P rtake_10o st (KS.reg [0, 1, 6] Q)) ∧
  (vcW P E rtake_9 Q st = aopsW P rtake_9o st (KS.reg [0, 1, 6] (KQ.seq P E rtake_10 Q))) ∧
  (vcW P E rtake_8 Q st = cndW P E (ev st (.t 18)) rtake_9 .skip Q st) ∧
  (vcW P E rtake_7 Q st = aopsW P rtake_7o st (KS.reg [0, 1, 6, 18] (KQ.seq P E rtake_8 Q))) ∧
  (vcW P E rtake_3 Q st = aopsW P rtake_3o st (KS.reg [0, 1, 6] (KQ.seq P E rtake_4 Q))) ∧
  (vcW P E rtake_13 Q st = aopsW P rtake_13o st (KS.reg [0, 1, 6] Q)) ∧
  (vcW P E rtake_12 Q st = cndW P E (ev st (.t 11)) rtake_13 .skip Q st) ∧
  (vcW P E rtake_11 Q st = aopsW P rtake_11o st (KS.reg [0, 1, 6, 11] (KQ.seq P E rtake_12 Q))) ∧
  (vcW P E rtake_1 Q st = aopsW P rtake_1o st (KS.reg [0, 1, 6] (KQ.seq P E rtake_2 Q))) ∧
  (vcW P E rtake_0 Q st = aopsW P rtake_0o st (KS.reg [0, 1] (KQ.seq P E rtake_1 Q))) ∧
  (vcW P E rtake Q st = vcW P E rtake_0 Q st) :=
  ⟨rfl, rfl, rfl, rfl, vcW_cond, rfl, rfl, rfl, vcW_cond, rfl, rfl, rfl, rfl⟩
theorem rtake_jn (P : Program) (E : Env) (Q : KQ) (st : St) :
  (vcW P E rtake_4 Q st = vcW P E rtake_7 (KQ.seq P E (.mid rtake_5) Q) st) ∧
  (vcW P E rtake_2 Q st = vcW P E rtake_11 (KQ.seq P E (.mid rtake_3) Q) st) :=
  ⟨rfl, rfl⟩
attribute [go_sem] rtake_vc rtake_6o rtake_5o rtake_10o rtake_9o rtake_7o rtake_3o rtake_13o rtake_11o rtake_1o rtake_0o
noncomputable def rtakeB : Code := (Tryd.f19.body).getD .skip
theorem rtake_eq : trCode Tryd.prog 31 4000 rtakeB = rtake.erase 4000 := by kernel_rfl
theorem rtake_body : Tryd.f19.body = some rtakeB := by kernel_rfl
theorem rtake_n : Tryd.f19.ntmps = 31 := by kernel_rfl
theorem rtake_r : Tryd.f19.results.toList = [.tmp 4, .tmp 5] := by kernel_rfl
theorem rtake_spec {h : HP} {a0 a1 : AV} {Post : HP → AV → List AV → Prop} (hp : ∀ (E : Env) (R : HP → AV → List AV → Prop), E.N ≤ 1000000 → PostTo Post R → vcW Tryd.prog E rtake (KQ.post [.tmp 4, .tmp 5] 2 R) ⟨[(0, a0), (1, a1)], h⟩) : Eng.Spec Tryd.prog 19 h [a0, a1] Post := spec_wk (
  spec_of (c := rtake.erase 4000) (B := 4000) Tryd.func19 rtake_body (by rw [rtake_n, rtake_eq]) (by rw [rtake_n]; decide) (by rw [rtake_n]; exact (by decide : 2 ≤ 31)) (fun E hE hB => by
    have hN : E.N ≤ 1000000 := by
      rw [hE, rtake_n]; decide
    rw [rtake_r, ← hB]
    exact awp_slots [(0, a0), (1, a1)] ⟨rfl, rfl, trivial⟩ (vcW_sound hN _ (hp E _ hN fin_self))))
/- cartulary/graph.Check -/
def gcheck_3o : List ROp := [.v 2 (.mov (.c (.int .i64 0)))]
def gcheck_3 : AK := .seq (.reg gcheck_3o [2]) .ret
def gcheck_9o : List ROp := [.v 48 (.bin .add (.t 14) (.c (.int .i64 1))),
   .v 14 (.mov (.t 48))]
def gcheck_9 : AK := .reg gcheck_9o [0, 12, 13, 14]
def gcheck_17o : List ROp := [.v 47 (.bin .add (.t 21) (.c (.int .i64 1))),
   .v 21 (.mov (.t 47))]
def gcheck_17 : AK := .reg gcheck_17o [0, 3, 4, 12, 13, 14, 19, 20, 21]
def gcheck_26o : List ROp := [.v 46 (.bin .add (.t 39) (.c (.int .i64 1))),
   .v 39 (.mov (.t 46))]
def gcheck_26 : AK := .reg gcheck_26o [0, 3, 4, 6, 12, 13, 14, 19, 20, 21, 37, 38, 39]
def gcheck_31o : List ROp := [.v 2 (.mov (.c (.int .i64 4)))]
def gcheck_31 : AK := .seq (.reg gcheck_31o [2]) .ret
def gcheck_30 : AK := .cond (.t 45) gcheck_31 .skip
def gcheck_29o : List ROp := [.v 43 (.mov (.t 6)),
   .v 44 (.mov (.t 8)),
   .v 45 (.bin .eql (.t 43) (.t 44))]
def gcheck_29 : AK := .seq (.reg gcheck_29o [0, 3, 4, 6, 12, 13, 14, 19, 20, 21, 37, 38, 39, 45]) gcheck_30
def gcheck_28o : List ROp := [.v 41 (.idxA 1 (.t 37) (.t 39)),
   .v 42 (.ld false 1 (.t 41)),
   .v 8 (.mov (.t 42))]
def gcheck_28 : AK := .seq (.reg gcheck_28o [0, 3, 4, 6, 8, 12, 13, 14, 19, 20, 21, 37, 38, 39]) gcheck_29
def gcheck_27 : AK := .block 5 gcheck_28
def gcheck_25 : AK := .seq gcheck_27 gcheck_26
def gcheck_32 : AK := .cond (.t 40) .skip (.exit 4)
def gcheck_24 : AK := .seq gcheck_32 gcheck_25
def gcheck_23o : List ROp := [.v 40 (.bin .lss (.t 39) (.t 38))]
def gcheck_23 : AK := .seq (.reg gcheck_23o [0, 3, 4, 6, 12, 13, 14, 19, 20, 21, 37, 38, 39, 40]) gcheck_24
def gcheck_L2 : AK := .loop gcheck_23
def gcheck_22 : AK := .block 4 gcheck_L2
def gcheck_21o : List ROp := [.v 35 (.mov (.t 4)),
   .v 36 (.mov (.t 5)),
   .v 37 (.slcA 1 (.t 35) none (some (.t 36))),
   .v 38 (.len false (.t 37)),
   .v 39 (.mov (.c (.int .i64 0)))]
def gcheck_21 : AK := .seq (.reg gcheck_21o [0, 3, 4, 6, 12, 13, 14, 19, 20, 21, 37, 38, 39]) gcheck_22
def gcheck_35o : List ROp := [.v 2 (.mov (.c (.int .i64 4)))]
def gcheck_35 : AK := .seq (.reg gcheck_35o [2]) .ret
def gcheck_34 : AK := .cond (.t 34) gcheck_35 .skip
def gcheck_33o : List ROp := [.v 26 (.mov (.t 6)),
   .v 27 (.mov (.t 3)),
   .v 28 (.bin .leq (.t 26) (.t 27)),
   .v 29 (.mov (.t 28)),
   .gval 30 29 false false 5030 (.mov (.t 6)),
   .gval 31 29 false false 5031 (.mov (.t 0)),
   .gval 32 29 false false 5032 (.len false (.t 31)),
   .gval 33 29 false false 5033 (.bin .geq (.t 30) (.t 32)),
   .v 34 (.pick (.t 29) (.c (.bool true)) (.t 33))]
def gcheck_33 : AK := .seq (.reg gcheck_33o [0, 3, 4, 5, 6, 12, 13, 14, 19, 20, 21, 34]) gcheck_34
def gcheck_20 : AK := .seq gcheck_33 gcheck_21
def gcheck_19o : List ROp := [.v 23 (.mov (.t 21)),
   .v 24 (.idxA 1 (.t 19) (.t 21)),
   .v 25 (.ld false 1 (.t 24)),
   .v 5 (.mov (.t 23)),
   .v 6 (.mov (.t 25))]
def gcheck_19 : AK := .seq (.reg gcheck_19o [0, 3, 4, 5, 6, 12, 13, 14, 19, 20, 21]) gcheck_20
def gcheck_18 : AK := .block 3 gcheck_19
def gcheck_16 : AK := .seq gcheck_18 gcheck_17
def gcheck_36 : AK := .cond (.t 22) .skip (.exit 2)
def gcheck_15 : AK := .seq gcheck_36 gcheck_16
def gcheck_14o : List ROp := [.v 22 (.bin .lss (.t 21) (.t 20))]
def gcheck_14 : AK := .seq (.reg gcheck_14o [0, 3, 4, 12, 13, 14, 19, 20, 21, 22]) gcheck_15
def gcheck_L1 : AK := .loop gcheck_14
def gcheck_13 : AK := .block 2 gcheck_L1
def gcheck_12o : List ROp := [.v 19 (.mov (.t 4)),
   .v 20 (.len false (.t 19)),
   .v 21 (.mov (.c (.int .i64 0)))]
def gcheck_12 : AK := .seq (.reg gcheck_12o [0, 3, 4, 12, 13, 14, 19, 20, 21]) gcheck_13
def gcheck_11o : List ROp := [.v 16 (.mov (.t 14)),
   .v 17 (.idxA 1 (.t 12) (.t 14)),
   .v 18 (.ld false 1 (.t 17)),
   .v 3 (.mov (.t 16)),
   .v 4 (.mov (.t 18))]
def gcheck_11 : AK := .seq (.reg gcheck_11o [0, 3, 4, 12, 13, 14]) gcheck_12
def gcheck_10 : AK := .block 1 gcheck_11
def gcheck_8 : AK := .seq gcheck_10 gcheck_9
def gcheck_37 : AK := .cond (.t 15) .skip (.exit 0)
def gcheck_7 : AK := .seq gcheck_37 gcheck_8
def gcheck_6o : List ROp := [.v 15 (.bin .lss (.t 14) (.t 13))]
def gcheck_6 : AK := .seq (.reg gcheck_6o [0, 12, 13, 14, 15]) gcheck_7
def gcheck_L0 : AK := .loop gcheck_6
def gcheck_5 : AK := .block 0 gcheck_L0
def gcheck_4o : List ROp := [.v 12 (.mov (.t 0)),
   .v 13 (.len false (.t 12)),
   .v 14 (.mov (.c (.int .i64 0)))]
def gcheck_4 : AK := .seq (.reg gcheck_4o [0, 12, 13, 14]) gcheck_5
def gcheck_2 : AK := .seq gcheck_4 gcheck_3
def gcheck_40o : List ROp := [.v 2 (.mov (.c (.int .i64 2)))]
def gcheck_40 : AK := .seq (.reg gcheck_40o [2]) .ret
def gcheck_39 : AK := .cond (.t 11) gcheck_40 .skip
def gcheck_38o : List ROp := [.v 9 (.mov (.t 0)),
   .v 10 (.len false (.t 9)),
   .v 11 (.bin .gtr (.t 10) (.c (.int .i64 200)))]
def gcheck_38 : AK := .seq (.reg gcheck_38o [0, 11]) gcheck_39
def gcheck_1 : AK := .seq gcheck_38 gcheck_2
def gcheck_0o : List ROp := [.v 2 (.mov (.c (.int .i64 0)))]
def gcheck_0 : AK := .seq (.reg gcheck_0o [0]) gcheck_1
def gcheck : AK := gcheck_0
theorem gcheck_vc (P : Program) (E : Env) (Q : KQ) (st : St) :
  (vcW P E gcheck_3 Q st = aopsW P gcheck_3o st (KS.reg [2] (KQ.seq P E .ret Q))) ∧
  (vcW P E gcheck_9 Q st = aopsW P gcheck_9o st (KS.reg [0, 12, 13, 14] Q)) ∧
  (vcW P E gcheck_17 Q st = aopsW P gcheck_17o st (KS.reg [0, 3, 4, 12, 13, 14, 19, 20, 21] Q)) ∧
  (vcW P E gcheck_26 Q st = aopsW P gcheck_26o st (KS.reg [0, 3, 4, 6, 12, 13, 14, 19, 20, 21, 37, 38, 39] Q)) ∧
  (vcW P E gcheck_31 Q st = aopsW P gcheck_31o st (KS.reg [2] (KQ.seq P E .ret Q))) ∧
  (vcW P E gcheck_30 Q st = cndW P E (ev st (.t 45)) gcheck_31 .skip Q st) ∧
  (vcW P E gcheck_29 Q st = aopsW P gcheck_29o st (KS.reg [0, 3, 4, 6, 12, 13, 14, 19, 20, 21, 37, 38, 39, 45] (KQ.seq P E gcheck_30 Q))) ∧
  (vcW P E gcheck_28 Q st = aopsW P gcheck_28o st (KS.reg [0, 3, 4, 6, 8, 12, 13, 14, 19, 20, 21, 37, 38, 39] (KQ.seq P E gcheck_29 Q))) ∧
  (vcW P E gcheck_27 Q st = vcW P E gcheck_28 (KQ.blk 5 Q) st) ∧
  (vcW P E gcheck_25 Q st = vcW P E gcheck_27 (KQ.seq P E gcheck_26 Q) st) ∧
  (vcW P E gcheck_32 Q st = cndW P E (ev st (.t 40)) .skip (.exit 4) Q st) ∧
  (vcW P E gcheck_24 Q st = vcW P E gcheck_32 (KQ.seq P E gcheck_25 Q) st) ∧
  (vcW P E gcheck_23 Q st = aopsW P gcheck_23o st (KS.reg [0, 3, 4, 6, 12, 13, 14, 19, 20, 21, 37, 38, 39, 40] (KQ.seq P E gcheck_24 Q))) ∧
  (vcW P E gcheck_22 Q st = vcW P E gcheck_L2 (KQ.blk 4 Q) st) ∧
  (vcW P E gcheck_21 Q st = aopsW P gcheck_21o st (KS.reg [0, 3, 4, 6, 12, 13, 14, 19, 20, 21, 37, 38, 39] (KQ.seq P E gcheck_22 Q))) ∧
  (vcW P E gcheck_35 Q st = aopsW P gcheck_35o st (KS.reg [2] (KQ.seq P E .ret Q))) ∧
  (vcW P E gcheck_34 Q st = cndW P E (ev st (.t 34)) gcheck_35 .skip Q st) ∧
  (vcW P E gcheck_33 Q st = aopsW P gcheck_33o st (KS.reg [0, 3, 4, 5, 6, 12, 13, 14, 19, 20, 21, 34] (KQ.seq P E gcheck_34 Q))) ∧
  (vcW P E gcheck_20 Q st = vcW P E gcheck_33 (KQ.seq P E gcheck_21 Q) st) ∧
  (vcW P E gcheck_19 Q st = aopsW P gcheck_19o st (KS.reg [0, 3, 4, 5, 6, 12, 13, 14, 19, 20, 21] (KQ.seq P E gcheck_20 Q))) ∧
  (vcW P E gcheck_18 Q st = vcW P E gcheck_19 (KQ.blk 3 Q) st) ∧
  (vcW P E gcheck_16 Q st = vcW P E gcheck_18 (KQ.seq P E gcheck_17 Q) st) ∧
  (vcW P E gcheck_36 Q st = cndW P E (ev st (.t 22)) .skip (.exit 2) Q st) ∧
  (vcW P E gcheck_15 Q st = vcW P E gcheck_36 (KQ.seq P E gcheck_16 Q) st) ∧
  (vcW P E gcheck_14 Q st = aopsW P gcheck_14o st (KS.reg [0, 3, 4, 12, 13, 14, 19, 20, 21, 22] (KQ.seq P E gcheck_15 Q))) ∧
  (vcW P E gcheck_13 Q st = vcW P E gcheck_L1 (KQ.blk 2 Q) st) ∧
  (vcW P E gcheck_12 Q st = aopsW P gcheck_12o st (KS.reg [0, 3, 4, 12, 13, 14, 19, 20, 21] (KQ.seq P E gcheck_13 Q))) ∧
  (vcW P E gcheck_11 Q st = aopsW P gcheck_11o st (KS.reg [0, 3, 4, 12, 13, 14] (KQ.seq P E gcheck_12 Q))) ∧
  (vcW P E gcheck_10 Q st = vcW P E gcheck_11 (KQ.blk 1 Q) st) ∧
  (vcW P E gcheck_8 Q st = vcW P E gcheck_10 (KQ.seq P E gcheck_9 Q) st) ∧
  (vcW P E gcheck_37 Q st = cndW P E (ev st (.t 15)) .skip (.exit 0) Q st) ∧
  (vcW P E gcheck_7 Q st = vcW P E gcheck_37 (KQ.seq P E gcheck_8 Q) st) ∧
  (vcW P E gcheck_6 Q st = aopsW P gcheck_6o st (KS.reg [0, 12, 13, 14, 15] (KQ.seq P E gcheck_7 Q))) ∧
  (vcW P E gcheck_5 Q st = vcW P E gcheck_L0 (KQ.blk 0 Q) st) ∧
  (vcW P E gcheck_4 Q st = aopsW P gcheck_4o st (KS.reg [0, 12, 13, 14] (KQ.seq P E gcheck_5 Q))) ∧
  (vcW P E gcheck_2 Q st = vcW P E gcheck_4 (KQ.seq P E gcheck_3 Q) st) ∧
  (vcW P E gcheck_40 Q st = aopsW P gcheck_40o st (KS.reg [2] (KQ.seq P E .ret Q))) ∧
  (vcW P E gcheck_39 Q st = cndW P E (ev st (.t 11)) gcheck_40 .skip Q st) ∧
  (vcW P E gcheck_38 Q st = aopsW P gcheck_38o st (KS.reg [0, 11] (KQ.seq P E gcheck_39 Q))) ∧
  (vcW P E gcheck_1 Q st = vcW P E gcheck_38 (KQ.seq P E gcheck_2 Q) st) ∧
  (vcW P E gcheck_0 Q st = aopsW P gcheck_0o st (KS.reg [0] (KQ.seq P E gcheck_1 Q))) ∧
  (vcW P E gcheck Q st = vcW P E gcheck_0 Q st) :=
  ⟨rfl, rfl, rfl, rfl, rfl, vcW_cond, rfl, rfl, rfl, rfl, vcW_cond, rfl, rfl, rfl, rfl, rfl, vcW_cond, rfl, rfl, rfl, rfl, rfl, vcW_cond, rfl, rfl, rfl, rfl, rfl, rfl, rfl, vcW_cond, rfl, rfl, rfl, rfl, rfl, rfl, vcW_cond, rfl, rfl, rfl, rfl⟩
theorem gcheck_jn (P : Program) (E : Env) (Q : KQ) (st : St) :
  (True) :=
  trivial
attribute [go_sem] gcheck_vc gcheck_3o gcheck_9o gcheck_17o gcheck_26o gcheck_31o gcheck_29o gcheck_28o gcheck_23o gcheck_21o gcheck_35o gcheck_33o gcheck_19o gcheck_14o gcheck_12o gcheck_11o gcheck_6o gcheck_4o gcheck_40o gcheck_38o gcheck_0o
noncomputable def gcheckB : Code := (Tryd.f13.body).getD .skip
theorem gcheck_eq : trCode Tryd.prog 49 5000 gcheckB = gcheck.erase 5000 := by kernel_rfl
theorem gcheck_body : Tryd.f13.body = some gcheckB := by kernel_rfl
theorem gcheck_n : Tryd.f13.ntmps = 49 := by kernel_rfl
theorem gcheck_r : Tryd.f13.results.toList = [.tmp 2] := by kernel_rfl
theorem gcheck_spec {h : HP} {a0 : AV} {Post : HP → AV → List AV → Prop} (hp : ∀ (E : Env) (R : HP → AV → List AV → Prop), E.N ≤ 1000000 → PostTo Post R → vcW Tryd.prog E gcheck (KQ.post [.tmp 2] 1 R) ⟨[(0, a0)], h⟩) : Eng.Spec Tryd.prog 13 h [a0] Post := spec_wk (
  spec_of (c := gcheck.erase 5000) (B := 5000) Tryd.func13 gcheck_body (by rw [gcheck_n, gcheck_eq]) (by rw [gcheck_n]; decide) (by rw [gcheck_n]; exact (by decide : 1 ≤ 49)) (fun E hE hB => by
    have hN : E.N ≤ 1000000 := by
      rw [hE, gcheck_n]; decide
    rw [gcheck_r, ← hB]
    exact awp_slots [(0, a0)] ⟨rfl, trivial⟩ (vcW_sound hN _ (hp E _ hN fin_self))))
/- cartulary/graph.Places -/
def gplaces_6o : List ROp := [.v 83 (.mov (.t 6)),
   .v 84 (.mov (.t 7)),
   .v 2 (.mov (.t 83)),
   .v 3 (.mov (.t 84)),
   .v 4 (.mov (.c (.int .i64 0)))]
def gplaces_6 : AK := .seq (.reg gplaces_6o [2, 3, 4]) .ret
def gplaces_12o : List ROp := [.v 82 (.bin .add (.t 22) (.c (.int .i64 1))),
   .v 22 (.mov (.t 82))]
def gplaces_12 : AK := .reg gplaces_12o [6, 7, 8, 20, 21, 22]
def gplaces_20o : List ROp := [.v 77 (.mov (.t 7)),
   .v 78 (.ld false 1 (.t 8)),
   .eff 79 false 6079 (.app 1 8 (.c (.nilsl)) (.t 78)),
   .eff 80 false 6080 (.bsl 1 [(.t 79)]),
   .eff 81 false 6081 (.app 1 24 (.t 77) (.t 80)),
   .v 7 (.mov (.t 81))]
def gplaces_20 : AK := .reg gplaces_20o [6, 7, 8, 20, 21, 22]
def gplaces_23o : List ROp := [.v 2 (.mov (.c (.nilsl))),
   .v 3 (.mov (.c (.nilsl))),
   .v 4 (.mov (.c (.int .i64 2)))]
def gplaces_23 : AK := .seq (.reg gplaces_23o [2, 3, 4]) .ret
def gplaces_22 : AK := .cond (.t 76) gplaces_23 .skip
def gplaces_21o : List ROp := [.v 74 (.ld false 1 (.t 8)),
   .v 75 (.len false (.t 74)),
   .v 76 (.bin .gtr (.t 75) (.c (.int .i64 40)))]
def gplaces_21 : AK := .seq (.reg gplaces_21o [6, 7, 8, 20, 21, 22, 76]) gplaces_22
def gplaces_19 : AK := .seq gplaces_21 gplaces_20
def gplaces_29o : List ROp := [.v 73 (.bin .add (.t 54) (.c (.int .i64 1))),
   .v 54 (.mov (.t 73))]
def gplaces_29 : AK := .reg gplaces_29o [6, 7, 8, 11, 20, 21, 22, 52, 53, 54]
def gplaces_34o : List ROp := [.v 67 (.ld false 1 (.t 8)),
   .v 68 (.mov (.t 11)),
   .v 69 (.mov (.t 14)),
   .v 70 (.idxA 1 (.t 67) (.t 68)),
   .effN false 6000 (.st 1 (.t 70) (.t 69))]
def gplaces_34 : AK := .reg gplaces_34o [6, 7, 8, 11, 20, 21, 22, 52, 53, 54]
def gplaces_35o : List ROp := [.v 71 (.mov (.t 14)),
   .cal (some 72) false 6072 17 [(.t 8), (.t 71)]]
def gplaces_35 : AK := .reg gplaces_35o [6, 7, 8, 11, 20, 21, 22, 52, 53, 54]
def gplaces_33 : AK := .cond (.t 66) gplaces_34 gplaces_35
def gplaces_32o : List ROp := [.v 59 (.mov (.t 13)),
   .v 60 (.bin .eql (.t 59) (.c (.int .i64 0))),
   .v 61 (.mov (.t 60)),
   .gval 62 61 true false 6062 (.ld false 1 (.t 8)),
   .gval 63 61 true false 6063 (.mov (.t 14)),
   .gcal 64 61 true false 6064 18 [(.t 62), (.t 63)],
   .gval 65 61 true false 6065 (.bin .lss (.t 64) (.c (.int .i64 0))),
   .v 66 (.pick (.t 61) (.t 65) (.c (.bool false)))]
def gplaces_32 : AK := .seq (.reg gplaces_32o [6, 7, 8, 11, 14, 20, 21, 22, 52, 53, 54, 66]) gplaces_33
def gplaces_31o : List ROp := [.v 56 (.mov (.t 54)),
   .v 57 (.idxA 1 (.t 52) (.t 54)),
   .v 58 (.ld false 1 (.t 57)),
   .v 13 (.mov (.t 56)),
   .v 14 (.mov (.t 58))]
def gplaces_31 : AK := .seq (.reg gplaces_31o [6, 7, 8, 11, 13, 14, 20, 21, 22, 52, 53, 54]) gplaces_32
def gplaces_30 : AK := .block 5 gplaces_31
def gplaces_28 : AK := .seq gplaces_30 gplaces_29
def gplaces_36 : AK := .cond (.t 55) .skip (.exit 4)
def gplaces_27 : AK := .seq gplaces_36 gplaces_28
def gplaces_26o : List ROp := [.v 55 (.bin .lss (.t 54) (.t 53))]
def gplaces_26 : AK := .seq (.reg gplaces_26o [6, 7, 8, 11, 20, 21, 22, 52, 53, 54, 55]) gplaces_27
def gplaces_L1 : AK := .loop gplaces_26
def gplaces_25 : AK := .block 4 gplaces_L1
def gplaces_24o : List ROp := [.v 52 (.mov (.t 10)),
   .v 53 (.len false (.t 52)),
   .v 54 (.mov (.c (.int .i64 0)))]
def gplaces_24 : AK := .seq (.reg gplaces_24o [6, 7, 8, 11, 20, 21, 22, 52, 53, 54]) gplaces_25
def gplaces_18 : AK := .seq gplaces_24 gplaces_19
def gplaces_42o : List ROp := [.v 51 (.bin .add (.t 39) (.c (.int .i64 1))),
   .v 39 (.mov (.t 51))]
def gplaces_42 : AK := .reg gplaces_42o [6, 7, 8, 9, 10, 11, 20, 21, 22, 38, 39]
def gplaces_47o : List ROp := [.v 48 (.ld false 1 (.t 8)),
   .v 49 (.mov (.t 12)),
   .v 50 (.idxA 1 (.t 48) (.t 49)),
   .effN false 6000 (.st 1 (.t 50) (.c (.int .i64 (-1))))]
def gplaces_47 : AK := .reg gplaces_47o [6, 7, 8, 9, 10, 11, 20, 21, 22, 38, 39]
def gplaces_46 : AK := .cond (.t 47) gplaces_47 .skip
def gplaces_45o : List ROp := [.v 42 (.ld false 1 (.t 8)),
   .v 43 (.mov (.t 12)),
   .v 44 (.idxA 1 (.t 42) (.t 43)),
   .v 45 (.ld false 1 (.t 44)),
   .v 46 (.mov (.t 9)),
   .v 47 (.bin .eql (.t 45) (.t 46))]
def gplaces_45 : AK := .seq (.reg gplaces_45o [6, 7, 8, 9, 10, 11, 12, 20, 21, 22, 38, 39, 47]) gplaces_46
def gplaces_44o : List ROp := [.v 41 (.mov (.t 39)),
   .v 12 (.mov (.t 41))]
def gplaces_44 : AK := .seq (.reg gplaces_44o [6, 7, 8, 9, 10, 11, 12, 20, 21, 22, 38, 39]) gplaces_45
def gplaces_43 : AK := .block 3 gplaces_44
def gplaces_41 : AK := .seq gplaces_43 gplaces_42
def gplaces_48 : AK := .cond (.t 40) .skip (.exit 2)
def gplaces_40 : AK := .seq gplaces_48 gplaces_41
def gplaces_39o : List ROp := [.v 40 (.bin .lss (.t 39) (.t 38))]
def gplaces_39 : AK := .seq (.reg gplaces_39o [6, 7, 8, 9, 10, 11, 20, 21, 22, 38, 39, 40]) gplaces_40
def gplaces_L2 : AK := .loop gplaces_39
def gplaces_38 : AK := .block 2 gplaces_L2
def gplaces_37o : List ROp := [.v 37 (.ld false 1 (.t 8)),
   .v 38 (.len false (.t 37)),
   .v 39 (.mov (.c (.int .i64 0)))]
def gplaces_37 : AK := .seq (.reg gplaces_37o [6, 7, 8, 9, 10, 11, 20, 21, 22, 38, 39]) gplaces_38
def gplaces_17 : AK := .seq gplaces_37 gplaces_18
def gplaces_16o : List ROp := [.v 29 (.mov (.t 6)),
   .v 30 (.mov (.t 11)),
   .v 31 (.cif .f64 (.t 30)),
   .v 32 (.mov (.t 9)),
   .v 33 (.cif .f64 (.t 32)),
   .v 34 (.cplx (.t 31) (.t 33)),
   .eff 35 false 6035 (.bsl 1 [(.t 34)]),
   .eff 36 false 6036 (.app 1 16 (.t 29) (.t 35)),
   .v 6 (.mov (.t 36))]
def gplaces_16 : AK := .seq (.reg gplaces_16o [6, 7, 8, 9, 10, 11, 20, 21, 22]) gplaces_17
def gplaces_15o : List ROp := [.v 27 (.mov (.t 9)),
   .cal (some 28) false 6028 17 [(.t 8), (.t 27)],
   .v 11 (.mov (.t 28))]
def gplaces_15 : AK := .seq (.reg gplaces_15o [6, 7, 8, 9, 10, 11, 20, 21, 22]) gplaces_16
def gplaces_14o : List ROp := [.v 24 (.mov (.t 22)),
   .v 25 (.idxA 1 (.t 20) (.t 22)),
   .v 26 (.ld false 1 (.t 25)),
   .v 9 (.mov (.t 24)),
   .v 10 (.mov (.t 26))]
def gplaces_14 : AK := .seq (.reg gplaces_14o [6, 7, 8, 9, 10, 20, 21, 22]) gplaces_15
def gplaces_13 : AK := .block 1 gplaces_14
def gplaces_11 : AK := .seq gplaces_13 gplaces_12
def gplaces_49 : AK := .cond (.t 23) .skip (.exit 0)
def gplaces_10 : AK := .seq gplaces_49 gplaces_11
def gplaces_9o : List ROp := [.v 23 (.bin .lss (.t 22) (.t 21))]
def gplaces_9 : AK := .seq (.reg gplaces_9o [6, 7, 8, 20, 21, 22, 23]) gplaces_10
def gplaces_L0 : AK := .loop gplaces_9
def gplaces_8 : AK := .block 0 gplaces_L0
def gplaces_7o : List ROp := [.v 20 (.mov (.t 0)),
   .v 21 (.len false (.t 20)),
   .v 22 (.mov (.c (.int .i64 0)))]
def gplaces_7 : AK := .seq (.reg gplaces_7o [6, 7, 8, 20, 21, 22]) gplaces_8
def gplaces_5 : AK := .seq gplaces_7 gplaces_6
def gplaces_4o : List ROp := [.eff 8 false 6008 (.alloc [.nilsl])]
def gplaces_4 : AK := .seq (.reg gplaces_4o [0, 6, 7, 8]) gplaces_5
def gplaces_3o : List ROp := [.v 7 (.mov (.c (.nilsl)))]
def gplaces_3 : AK := .seq (.reg gplaces_3o [0, 6, 7]) gplaces_4
def gplaces_2o : List ROp := [.v 6 (.mov (.c (.nilsl)))]
def gplaces_2 : AK := .seq (.reg gplaces_2o [0, 6]) gplaces_3
def gplaces_53o : List ROp := [.v 19 (.mov (.t 5)),
   .v 2 (.mov (.c (.nilsl))),
   .v 3 (.mov (.c (.nilsl))),
   .v 4 (.mov (.t 19))]
def gplaces_53 : AK := .seq (.reg gplaces_53o [2, 3, 4]) .ret
def gplaces_52 : AK := .cond (.t 18) gplaces_53 .skip
def gplaces_51o : List ROp := [.v 17 (.mov (.t 5)),
   .v 18 (.bin .neq (.t 17) (.c (.int .i64 0)))]
def gplaces_51 : AK := .seq (.reg gplaces_51o [0, 5, 18]) gplaces_52
def gplaces_50o : List ROp := [.v 15 (.mov (.t 0)),
   .cal (some 16) false 6016 13 [(.t 15)],
   .v 5 (.mov (.t 16))]
def gplaces_50 : AK := .seq (.reg gplaces_50o [0, 5]) gplaces_51
def gplaces_1 : AK := .seq gplaces_50 gplaces_2
def gplaces_0o : List ROp := [.v 2 (.mov (.c (.nilsl))),
   .v 3 (.mov (.c (.nilsl))),
   .v 4 (.mov (.c (.int .i64 0)))]
def gplaces_0 : AK := .seq (.reg gplaces_0o [0]) gplaces_1
def gplaces : AK := gplaces_0
theorem gplaces_vc (P : Program) (E : Env) (Q : KQ) (st : St) :
  (vcW P E gplaces_6 Q st = aopsW P gplaces_6o st (KS.reg [2, 3, 4] (KQ.seq P E .ret Q))) ∧
  (vcW P E gplaces_12 Q st = aopsW P gplaces_12o st (KS.reg [6, 7, 8, 20, 21, 22] Q)) ∧
  (vcW P E gplaces_20 Q st = aopsW P gplaces_20o st (KS.reg [6, 7, 8, 20, 21, 22] Q)) ∧
  (vcW P E gplaces_23 Q st = aopsW P gplaces_23o st (KS.reg [2, 3, 4] (KQ.seq P E .ret Q))) ∧
  (vcW P E gplaces_22 Q st = cndW P E (ev st (.t 76)) gplaces_23 .skip Q st) ∧
  (vcW P E gplaces_21 Q st = aopsW P gplaces_21o st (KS.reg [6, 7, 8, 20, 21, 22, 76] (KQ.seq P E gplaces_22 Q))) ∧
  (vcW P E gplaces_19 Q st = vcW P E gplaces_21 (KQ.seq P E gplaces_20 Q) st) ∧
  (vcW P E gplaces_29 Q st = aopsW P gplaces_29o st (KS.reg [6, 7, 8, 11, 20, 21, 22, 52, 53, 54] Q)) ∧
  (vcW P E gplaces_34 Q st = aopsW P gplaces_34o st (KS.reg [6, 7, 8, 11, 20, 21, 22, 52, 53, 54] Q)) ∧
  (vcW P E gplaces_35 Q st = aopsW P gplaces_35o st (KS.reg [6, 7, 8, 11, 20, 21, 22, 52, 53, 54] Q)) ∧
  (vcW P E gplaces_33 Q st = cndW P E (ev st (.t 66)) gplaces_34 gplaces_35 Q st) ∧
  (vcW P E gplaces_32 Q st = aopsW P gplaces_32o st (KS.reg [6, 7, 8, 11, 14, 20, 21, 22, 52, 53, 54, 66] (KQ.seq P E gplaces_33 Q))) ∧
  (vcW P E gplaces_31 Q st = aopsW P gplaces_31o st (KS.reg [6, 7, 8, 11, 13, 14, 20, 21, 22, 52, 53, 54] (KQ.seq P E gplaces_32 Q))) ∧
  (vcW P E gplaces_30 Q st = vcW P E gplaces_31 (KQ.blk 5 Q) st) ∧
  (vcW P E gplaces_28 Q st = vcW P E gplaces_30 (KQ.seq P E gplaces_29 Q) st) ∧
  (vcW P E gplaces_36 Q st = cndW P E (ev st (.t 55)) .skip (.exit 4) Q st) ∧
  (vcW P E gplaces_27 Q st = vcW P E gplaces_36 (KQ.seq P E gplaces_28 Q) st) ∧
  (vcW P E gplaces_26 Q st = aopsW P gplaces_26o st (KS.reg [6, 7, 8, 11, 20, 21, 22, 52, 53, 54, 55] (KQ.seq P E gplaces_27 Q))) ∧
  (vcW P E gplaces_25 Q st = vcW P E gplaces_L1 (KQ.blk 4 Q) st) ∧
  (vcW P E gplaces_24 Q st = aopsW P gplaces_24o st (KS.reg [6, 7, 8, 11, 20, 21, 22, 52, 53, 54] (KQ.seq P E gplaces_25 Q))) ∧
  (vcW P E gplaces_18 Q st = vcW P E gplaces_24 (KQ.seq P E gplaces_19 Q) st) ∧
  (vcW P E gplaces_42 Q st = aopsW P gplaces_42o st (KS.reg [6, 7, 8, 9, 10, 11, 20, 21, 22, 38, 39] Q)) ∧
  (vcW P E gplaces_47 Q st = aopsW P gplaces_47o st (KS.reg [6, 7, 8, 9, 10, 11, 20, 21, 22, 38, 39] Q)) ∧
  (vcW P E gplaces_46 Q st = cndW P E (ev st (.t 47)) gplaces_47 .skip Q st) ∧
  (vcW P E gplaces_45 Q st = aopsW P gplaces_45o st (KS.reg [6, 7, 8, 9, 10, 11, 12, 20, 21, 22, 38, 39, 47] (KQ.seq P E gplaces_46 Q))) ∧
  (vcW P E gplaces_44 Q st = aopsW P gplaces_44o st (KS.reg [6, 7, 8, 9, 10, 11, 12, 20, 21, 22, 38, 39] (KQ.seq P E gplaces_45 Q))) ∧
  (vcW P E gplaces_43 Q st = vcW P E gplaces_44 (KQ.blk 3 Q) st) ∧
  (vcW P E gplaces_41 Q st = vcW P E gplaces_43 (KQ.seq P E gplaces_42 Q) st) ∧
  (vcW P E gplaces_48 Q st = cndW P E (ev st (.t 40)) .skip (.exit 2) Q st) ∧
  (vcW P E gplaces_40 Q st = vcW P E gplaces_48 (KQ.seq P E gplaces_41 Q) st) ∧
  (vcW P E gplaces_39 Q st = aopsW P gplaces_39o st (KS.reg [6, 7, 8, 9, 10, 11, 20, 21, 22, 38, 39, 40] (KQ.seq P E gplaces_40 Q))) ∧
  (vcW P E gplaces_38 Q st = vcW P E gplaces_L2 (KQ.blk 2 Q) st) ∧
  (vcW P E gplaces_37 Q st = aopsW P gplaces_37o st (KS.reg [6, 7, 8, 9, 10, 11, 20, 21, 22, 38, 39] (KQ.seq P E gplaces_38 Q))) ∧
  (vcW P E gplaces_17 Q st = vcW P E gplaces_37 (KQ.seq P E gplaces_18 Q) st) ∧
  (vcW P E gplaces_16 Q st = aopsW P gplaces_16o st (KS.reg [6, 7, 8, 9, 10, 11, 20, 21, 22] (KQ.seq P E gplaces_17 Q))) ∧
  (vcW P E gplaces_15 Q st = aopsW P gplaces_15o st (KS.reg [6, 7, 8, 9, 10, 11, 20, 21, 22] (KQ.seq P E gplaces_16 Q))) ∧
  (vcW P E gplaces_14 Q st = aopsW P gplaces_14o st (KS.reg [6, 7, 8, 9, 10, 20, 21, 22] (KQ.seq P E gplaces_15 Q))) ∧
  (vcW P E gplaces_13 Q st = vcW P E gplaces_14 (KQ.blk 1 Q) st) ∧
  (vcW P E gplaces_11 Q st = vcW P E gplaces_13 (KQ.seq P E gplaces_12 Q) st) ∧
  (vcW P E gplaces_49 Q st = cndW P E (ev st (.t 23)) .skip (.exit 0) Q st) ∧
  (vcW P E gplaces_10 Q st = vcW P E gplaces_49 (KQ.seq P E gplaces_11 Q) st) ∧
  (vcW P E gplaces_9 Q st = aopsW P gplaces_9o st (KS.reg [6, 7, 8, 20, 21, 22, 23] (KQ.seq P E gplaces_10 Q))) ∧
  (vcW P E gplaces_8 Q st = vcW P E gplaces_L0 (KQ.blk 0 Q) st) ∧
  (vcW P E gplaces_7 Q st = aopsW P gplaces_7o st (KS.reg [6, 7, 8, 20, 21, 22] (KQ.seq P E gplaces_8 Q))) ∧
  (vcW P E gplaces_5 Q st = vcW P E gplaces_7 (KQ.seq P E gplaces_6 Q) st) ∧
  (vcW P E gplaces_4 Q st = aopsW P gplaces_4o st (KS.reg [0, 6, 7, 8] (KQ.seq P E gplaces_5 Q))) ∧
  (vcW P E gplaces_3 Q st = aopsW P gplaces_3o st (KS.reg [0, 6, 7] (KQ.seq P E gplaces_4 Q))) ∧
  (vcW P E gplaces_2 Q st = aopsW P gplaces_2o st (KS.reg [0, 6] (KQ.seq P E gplaces_3 Q))) ∧
  (vcW P E gplaces_53 Q st = aopsW P gplaces_53o st (KS.reg [2, 3, 4] (KQ.seq P E .ret Q))) ∧
  (vcW P E gplaces_52 Q st = cndW P E (ev st (.t 18)) gplaces_53 .skip Q st) ∧
  (vcW P E gplaces_51 Q st = aopsW P gplaces_51o st (KS.reg [0, 5, 18] (KQ.seq P E gplaces_52 Q))) ∧
  (vcW P E gplaces_50 Q st = aopsW P gplaces_50o st (KS.reg [0, 5] (KQ.seq P E gplaces_51 Q))) ∧
  (vcW P E gplaces_1 Q st = vcW P E gplaces_50 (KQ.seq P E gplaces_2 Q) st) ∧
  (vcW P E gplaces_0 Q st = aopsW P gplaces_0o st (KS.reg [0] (KQ.seq P E gplaces_1 Q))) ∧
  (vcW P E gplaces Q st = vcW P E gplaces_0 Q st) :=
  ⟨rfl, rfl, rfl, rfl, vcW_cond, rfl, rfl, rfl, rfl, rfl, vcW_cond, rfl, rfl, rfl, rfl, vcW_cond, rfl, rfl, rfl, rfl, rfl, rfl, rfl, vcW_cond, rfl, rfl, rfl, rfl, vcW_cond, rfl, rfl, rfl, rfl, rfl, rfl, rfl, rfl, rfl, rfl, vcW_cond, rfl, rfl, rfl, rfl, rfl, rfl, rfl, rfl, rfl, vcW_cond, rfl, rfl, rfl, rfl, rfl⟩
theorem gplaces_jn (P : Program) (E : Env) (Q : KQ) (st : St) :
  (True) :=
  trivial
attribute [go_sem] gplaces_vc gplaces_6o gplaces_12o gplaces_20o gplaces_23o gplaces_21o gplaces_29o gplaces_34o gplaces_35o gplaces_32o gplaces_31o gplaces_26o gplaces_24o gplaces_42o gplaces_47o gplaces_45o gplaces_44o gplaces_39o gplaces_37o gplaces_16o gplaces_15o gplaces_14o gplaces_9o gplaces_7o gplaces_4o gplaces_3o gplaces_2o gplaces_53o gplaces_51o gplaces_50o gplaces_0o
noncomputable def gplacesB : Code := (Tryd.f8.body).getD .skip
theorem gplaces_eq : trCode Tryd.prog 85 6000 gplacesB = gplaces.erase 6000 := by kernel_rfl
theorem gplaces_body : Tryd.f8.body = some gplacesB := by kernel_rfl
theorem gplaces_n : Tryd.f8.ntmps = 85 := by kernel_rfl
theorem gplaces_r : Tryd.f8.results.toList = [.tmp 2, .tmp 3, .tmp 4] := by kernel_rfl
theorem gplaces_spec {h : HP} {a0 : AV} {Post : HP → AV → List AV → Prop} (hp : ∀ (E : Env) (R : HP → AV → List AV → Prop), E.N ≤ 1000000 → PostTo Post R → vcW Tryd.prog E gplaces (KQ.post [.tmp 2, .tmp 3, .tmp 4] 1 R) ⟨[(0, a0)], h⟩) : Eng.Spec Tryd.prog 8 h [a0] Post := spec_wk (
  spec_of (c := gplaces.erase 6000) (B := 6000) Tryd.func8 gplaces_body (by rw [gplaces_n, gplaces_eq]) (by rw [gplaces_n]; decide) (by rw [gplaces_n]; exact (by decide : 1 ≤ 85)) (fun E hE hB => by
    have hN : E.N ≤ 1000000 := by
      rw [hE, gplaces_n]; decide
    rw [gplaces_r, ← hB]
    exact awp_slots [(0, a0)] ⟨rfl, trivial⟩ (vcW_sound hN _ (hp E _ hN fin_self))))
/- cartulary/cartularyref18.Check -/
def rcheck_3o : List ROp := [.v 2 (.mov (.c (.int .i64 0)))]
def rcheck_3 : AK := .seq (.reg rcheck_3o [2]) .ret
def rcheck_9o : List ROp := [.v 46 (.bin .add (.t 13) (.c (.int .i64 1))),
   .v 13 (.mov (.t 46))]
def rcheck_9 : AK := .reg rcheck_9o [0, 11, 12, 13]
def rcheck_17o : List ROp := [.v 45 (.bin .add (.t 20) (.c (.int .i64 1))),
   .v 20 (.mov (.t 45))]
def rcheck_17 : AK := .reg rcheck_17o [0, 3, 4, 11, 12, 13, 18, 19, 20]
def rcheck_25o : List ROp := [.v 37 (.mov (.t 7)),
   .v 38 (.bin .add (.t 37) (.c (.int .i64 1))),
   .v 7 (.mov (.t 38))]
def rcheck_25 : AK := .reg rcheck_25o [0, 3, 4, 5, 6, 7, 11, 12, 13, 18, 19, 20]
def rcheck_29o : List ROp := [.v 2 (.mov (.c (.int .i64 4)))]
def rcheck_29 : AK := .seq (.reg rcheck_29o [2]) .ret
def rcheck_28 : AK := .cond (.t 44) rcheck_29 .skip
def rcheck_27o : List ROp := [.v 39 (.mov (.t 4)),
   .v 40 (.mov (.t 7)),
   .v 41 (.idxA 1 (.t 39) (.t 40)),
   .v 42 (.ld false 1 (.t 41)),
   .v 43 (.mov (.t 6)),
   .v 44 (.bin .eql (.t 42) (.t 43))]
def rcheck_27 : AK := .seq (.reg rcheck_27o [0, 3, 4, 5, 6, 7, 11, 12, 13, 18, 19, 20, 44]) rcheck_28
def rcheck_26 : AK := .block 5 rcheck_27
def rcheck_24 : AK := .seq rcheck_26 rcheck_25
def rcheck_31 : AK := .cond (.t 36) .skip (.exit 4)
def rcheck_30o : List ROp := [.v 34 (.mov (.t 7)),
   .v 35 (.mov (.t 5)),
   .v 36 (.bin .lss (.t 34) (.t 35))]
def rcheck_30 : AK := .seq (.reg rcheck_30o [0, 3, 4, 5, 6, 7, 11, 12, 13, 18, 19, 20, 36]) rcheck_31
def rcheck_23 : AK := .seq rcheck_30 rcheck_24
def rcheck_L2 : AK := .loop rcheck_23
def rcheck_22 : AK := .block 4 rcheck_L2
def rcheck_21o : List ROp := [.v 7 (.mov (.c (.int .i64 0)))]
def rcheck_21 : AK := .seq (.reg rcheck_21o [0, 3, 4, 5, 6, 7, 11, 12, 13, 18, 19, 20]) rcheck_22
def rcheck_34o : List ROp := [.v 2 (.mov (.c (.int .i64 4)))]
def rcheck_34 : AK := .seq (.reg rcheck_34o [2]) .ret
def rcheck_33 : AK := .cond (.t 33) rcheck_34 .skip
def rcheck_32o : List ROp := [.v 25 (.mov (.t 6)),
   .v 26 (.mov (.t 3)),
   .v 27 (.bin .leq (.t 25) (.t 26)),
   .v 28 (.mov (.t 27)),
   .gval 29 28 false false 7029 (.mov (.t 6)),
   .gval 30 28 false false 7030 (.mov (.t 0)),
   .gval 31 28 false false 7031 (.len false (.t 30)),
   .gval 32 28 false false 7032 (.bin .geq (.t 29) (.t 31)),
   .v 33 (.pick (.t 28) (.c (.bool true)) (.t 32))]
def rcheck_32 : AK := .seq (.reg rcheck_32o [0, 3, 4, 5, 6, 11, 12, 13, 18, 19, 20, 33]) rcheck_33
def rcheck_20 : AK := .seq rcheck_32 rcheck_21
def rcheck_19o : List ROp := [.v 22 (.mov (.t 20)),
   .v 23 (.idxA 1 (.t 18) (.t 20)),
   .v 24 (.ld false 1 (.t 23)),
   .v 5 (.mov (.t 22)),
   .v 6 (.mov (.t 24))]
def rcheck_19 : AK := .seq (.reg rcheck_19o [0, 3, 4, 5, 6, 11, 12, 13, 18, 19, 20]) rcheck_20
def rcheck_18 : AK := .block 3 rcheck_19
def rcheck_16 : AK := .seq rcheck_18 rcheck_17
def rcheck_35 : AK := .cond (.t 21) .skip (.exit 2)
def rcheck_15 : AK := .seq rcheck_35 rcheck_16
def rcheck_14o : List ROp := [.v 21 (.bin .lss (.t 20) (.t 19))]
def rcheck_14 : AK := .seq (.reg rcheck_14o [0, 3, 4, 11, 12, 13, 18, 19, 20, 21]) rcheck_15
def rcheck_L1 : AK := .loop rcheck_14
def rcheck_13 : AK := .block 2 rcheck_L1
def rcheck_12o : List ROp := [.v 18 (.mov (.t 4)),
   .v 19 (.len false (.t 18)),
   .v 20 (.mov (.c (.int .i64 0)))]
def rcheck_12 : AK := .seq (.reg rcheck_12o [0, 3, 4, 11, 12, 13, 18, 19, 20]) rcheck_13
def rcheck_11o : List ROp := [.v 15 (.mov (.t 13)),
   .v 16 (.idxA 1 (.t 11) (.t 13)),
   .v 17 (.ld false 1 (.t 16)),
   .v 3 (.mov (.t 15)),
   .v 4 (.mov (.t 17))]
def rcheck_11 : AK := .seq (.reg rcheck_11o [0, 3, 4, 11, 12, 13]) rcheck_12
def rcheck_10 : AK := .block 1 rcheck_11
def rcheck_8 : AK := .seq rcheck_10 rcheck_9
def rcheck_36 : AK := .cond (.t 14) .skip (.exit 0)
def rcheck_7 : AK := .seq rcheck_36 rcheck_8
def rcheck_6o : List ROp := [.v 14 (.bin .lss (.t 13) (.t 12))]
def rcheck_6 : AK := .seq (.reg rcheck_6o [0, 11, 12, 13, 14]) rcheck_7
def rcheck_L0 : AK := .loop rcheck_6
def rcheck_5 : AK := .block 0 rcheck_L0
def rcheck_4o : List ROp := [.v 11 (.mov (.t 0)),
   .v 12 (.len false (.t 11)),
   .v 13 (.mov (.c (.int .i64 0)))]
def rcheck_4 : AK := .seq (.reg rcheck_4o [0, 11, 12, 13]) rcheck_5
def rcheck_2 : AK := .seq rcheck_4 rcheck_3
def rcheck_39o : List ROp := [.v 2 (.mov (.c (.int .i64 2)))]
def rcheck_39 : AK := .seq (.reg rcheck_39o [2]) .ret
def rcheck_38 : AK := .cond (.t 10) rcheck_39 .skip
def rcheck_37o : List ROp := [.v 8 (.mov (.t 0)),
   .v 9 (.len false (.t 8)),
   .v 10 (.bin .gtr (.t 9) (.c (.int .i64 200)))]
def rcheck_37 : AK := .seq (.reg rcheck_37o [0, 10]) rcheck_38
def rcheck_1 : AK := .seq rcheck_37 rcheck_2
def rcheck_0o : List ROp := [.v 2 (.mov (.c (.int .i64 0)))]
def rcheck_0 : AK := .seq (.reg rcheck_0o [0]) rcheck_1
def rcheck : AK := rcheck_0
theorem rcheck_vc (P : Program) (E : Env) (Q : KQ) (st : St) :
  (vcW P E rcheck_3 Q st = aopsW P rcheck_3o st (KS.reg [2] (KQ.seq P E .ret Q))) ∧
  (vcW P E rcheck_9 Q st = aopsW P rcheck_9o st (KS.reg [0, 11, 12, 13] Q)) ∧
  (vcW P E rcheck_17 Q st = aopsW P rcheck_17o st (KS.reg [0, 3, 4, 11, 12, 13, 18, 19, 20] Q)) ∧
  (vcW P E rcheck_25 Q st = aopsW P rcheck_25o st (KS.reg [0, 3, 4, 5, 6, 7, 11, 12, 13, 18, 19, 20] Q)) ∧
  (vcW P E rcheck_29 Q st = aopsW P rcheck_29o st (KS.reg [2] (KQ.seq P E .ret Q))) ∧
  (vcW P E rcheck_28 Q st = cndW P E (ev st (.t 44)) rcheck_29 .skip Q st) ∧
  (vcW P E rcheck_27 Q st = aopsW P rcheck_27o st (KS.reg [0, 3, 4, 5, 6, 7, 11, 12, 13, 18, 19, 20, 44] (KQ.seq P E rcheck_28 Q))) ∧
  (vcW P E rcheck_26 Q st = vcW P E rcheck_27 (KQ.blk 5 Q) st) ∧
  (vcW P E rcheck_24 Q st = vcW P E rcheck_26 (KQ.seq P E rcheck_25 Q) st) ∧
  (vcW P E rcheck_31 Q st = cndW P E (ev st (.t 36)) .skip (.exit 4) Q st) ∧
  (vcW P E rcheck_30 Q st = aopsW P rcheck_30o st (KS.reg [0, 3, 4, 5, 6, 7, 11, 12, 13, 18, 19, 20, 36] (KQ.seq P E rcheck_31 Q))) ∧
  (vcW P E rcheck_23 Q st = vcW P E rcheck_30 (KQ.seq P E rcheck_24 Q) st) ∧
  (vcW P E rcheck_22 Q st = vcW P E rcheck_L2 (KQ.blk 4 Q) st) ∧
  (vcW P E rcheck_21 Q st = aopsW P rcheck_21o st (KS.reg [0, 3, 4, 5, 6, 7, 11, 12, 13, 18, 19, 20] (KQ.seq P E rcheck_22 Q))) ∧
  (vcW P E rcheck_34 Q st = aopsW P rcheck_34o st (KS.reg [2] (KQ.seq P E .ret Q))) ∧
  (vcW P E rcheck_33 Q st = cndW P E (ev st (.t 33)) rcheck_34 .skip Q st) ∧
  (vcW P E rcheck_32 Q st = aopsW P rcheck_32o st (KS.reg [0, 3, 4, 5, 6, 11, 12, 13, 18, 19, 20, 33] (KQ.seq P E rcheck_33 Q))) ∧
  (vcW P E rcheck_20 Q st = vcW P E rcheck_32 (KQ.seq P E rcheck_21 Q) st) ∧
  (vcW P E rcheck_19 Q st = aopsW P rcheck_19o st (KS.reg [0, 3, 4, 5, 6, 11, 12, 13, 18, 19, 20] (KQ.seq P E rcheck_20 Q))) ∧
  (vcW P E rcheck_18 Q st = vcW P E rcheck_19 (KQ.blk 3 Q) st) ∧
  (vcW P E rcheck_16 Q st = vcW P E rcheck_18 (KQ.seq P E rcheck_17 Q) st) ∧
  (vcW P E rcheck_35 Q st = cndW P E (ev st (.t 21)) .skip (.exit 2) Q st) ∧
  (vcW P E rcheck_15 Q st = vcW P E rcheck_35 (KQ.seq P E rcheck_16 Q) st) ∧
  (vcW P E rcheck_14 Q st = aopsW P rcheck_14o st (KS.reg [0, 3, 4, 11, 12, 13, 18, 19, 20, 21] (KQ.seq P E rcheck_15 Q))) ∧
  (vcW P E rcheck_13 Q st = vcW P E rcheck_L1 (KQ.blk 2 Q) st) ∧
  (vcW P E rcheck_12 Q st = aopsW P rcheck_12o st (KS.reg [0, 3, 4, 11, 12, 13, 18, 19, 20] (KQ.seq P E rcheck_13 Q))) ∧
  (vcW P E rcheck_11 Q st = aopsW P rcheck_11o st (KS.reg [0, 3, 4, 11, 12, 13] (KQ.seq P E rcheck_12 Q))) ∧
  (vcW P E rcheck_10 Q st = vcW P E rcheck_11 (KQ.blk 1 Q) st) ∧
  (vcW P E rcheck_8 Q st = vcW P E rcheck_10 (KQ.seq P E rcheck_9 Q) st) ∧
  (vcW P E rcheck_36 Q st = cndW P E (ev st (.t 14)) .skip (.exit 0) Q st) ∧
  (vcW P E rcheck_7 Q st = vcW P E rcheck_36 (KQ.seq P E rcheck_8 Q) st) ∧
  (vcW P E rcheck_6 Q st = aopsW P rcheck_6o st (KS.reg [0, 11, 12, 13, 14] (KQ.seq P E rcheck_7 Q))) ∧
  (vcW P E rcheck_5 Q st = vcW P E rcheck_L0 (KQ.blk 0 Q) st) ∧
  (vcW P E rcheck_4 Q st = aopsW P rcheck_4o st (KS.reg [0, 11, 12, 13] (KQ.seq P E rcheck_5 Q))) ∧
  (vcW P E rcheck_2 Q st = vcW P E rcheck_4 (KQ.seq P E rcheck_3 Q) st) ∧
  (vcW P E rcheck_39 Q st = aopsW P rcheck_39o st (KS.reg [2] (KQ.seq P E .ret Q))) ∧
  (vcW P E rcheck_38 Q st = cndW P E (ev st (.t 10)) rcheck_39 .skip Q st) ∧
  (vcW P E rcheck_37 Q st = aopsW P rcheck_37o st (KS.reg [0, 10] (KQ.seq P E rcheck_38 Q))) ∧
  (vcW P E rcheck_1 Q st = vcW P E rcheck_37 (KQ.seq P E rcheck_2 Q) st) ∧
  (vcW P E rcheck_0 Q st = aopsW P rcheck_0o st (KS.reg [0] (KQ.seq P E rcheck_1 Q))) ∧
  (vcW P E rcheck Q st = vcW P E rcheck_0 Q st) :=
  ⟨rfl, rfl, rfl, rfl, rfl, vcW_cond, rfl, rfl, rfl, vcW_cond, rfl, rfl, rfl, rfl, rfl, vcW_cond, rfl, rfl, rfl, rfl, rfl, vcW_cond, rfl, rfl, rfl, rfl, rfl, rfl, rfl, vcW_cond, rfl, rfl, rfl, rfl, rfl, rfl, vcW_cond, rfl, rfl, rfl, rfl⟩
theorem rcheck_jn (P : Program) (E : Env) (Q : KQ) (st : St) :
  (True) :=
  trivial
attribute [go_sem] rcheck_vc rcheck_3o rcheck_9o rcheck_17o rcheck_25o rcheck_29o rcheck_27o rcheck_30o rcheck_21o rcheck_34o rcheck_32o rcheck_19o rcheck_14o rcheck_12o rcheck_11o rcheck_6o rcheck_4o rcheck_39o rcheck_37o rcheck_0o
noncomputable def rcheckB : Code := (Tryd.f14.body).getD .skip
theorem rcheck_eq : trCode Tryd.prog 47 7000 rcheckB = rcheck.erase 7000 := by kernel_rfl
theorem rcheck_body : Tryd.f14.body = some rcheckB := by kernel_rfl
theorem rcheck_n : Tryd.f14.ntmps = 47 := by kernel_rfl
theorem rcheck_r : Tryd.f14.results.toList = [.tmp 2] := by kernel_rfl
theorem rcheck_spec {h : HP} {a0 : AV} {Post : HP → AV → List AV → Prop} (hp : ∀ (E : Env) (R : HP → AV → List AV → Prop), E.N ≤ 1000000 → PostTo Post R → vcW Tryd.prog E rcheck (KQ.post [.tmp 2] 1 R) ⟨[(0, a0)], h⟩) : Eng.Spec Tryd.prog 14 h [a0] Post := spec_wk (
  spec_of (c := rcheck.erase 7000) (B := 7000) Tryd.func14 rcheck_body (by rw [rcheck_n, rcheck_eq]) (by rw [rcheck_n]; decide) (by rw [rcheck_n]; exact (by decide : 1 ≤ 47)) (fun E hE hB => by
    have hN : E.N ≤ 1000000 := by
      rw [hE, rcheck_n]; decide
    rw [rcheck_r, ← hB]
    exact awp_slots [(0, a0)] ⟨rfl, trivial⟩ (vcW_sound hN _ (hp E _ hN fin_self))))
/- cartulary/cartularyref18.Places -/
def rplaces_5o : List ROp := [.v 94 (.mov (.t 6)),
   .v 95 (.mov (.t 7)),
   .v 2 (.mov (.t 94)),
   .v 3 (.mov (.t 95)),
   .v 4 (.mov (.c (.int .i64 0)))]
def rplaces_5 : AK := .seq (.reg rplaces_5o [2, 3, 4]) .ret
def rplaces_11o : List ROp := [.v 93 (.bin .add (.t 27) (.c (.int .i64 1))),
   .v 27 (.mov (.t 93))]
def rplaces_11 : AK := .reg rplaces_11o [6, 7, 8, 25, 26, 27]
def rplaces_22o : List ROp := [.v 87 (.mov (.t 7)),
   .eff 88 false 9088 (.bsl 1 []),
   .v 89 (.mov (.t 8)),
   .eff 90 false 9090 (.app 1 8 (.t 88) (.t 89)),
   .eff 91 false 9091 (.bsl 1 [(.t 90)]),
   .eff 92 false 9092 (.app 1 24 (.t 87) (.t 91)),
   .v 7 (.mov (.t 92))]
def rplaces_22 : AK := .reg rplaces_22o [6, 7, 8, 25, 26, 27]
def rplaces_25o : List ROp := [.v 2 (.mov (.c (.nilsl))),
   .v 3 (.mov (.c (.nilsl))),
   .v 4 (.mov (.c (.int .i64 2)))]
def rplaces_25 : AK := .seq (.reg rplaces_25o [2, 3, 4]) .ret
def rplaces_24 : AK := .cond (.t 86) rplaces_25 .skip
def rplaces_23o : List ROp := [.v 84 (.mov (.t 8)),
   .v 85 (.len false (.t 84)),
   .v 86 (.bin .gtr (.t 85) (.c (.int .i64 40)))]
def rplaces_23 : AK := .seq (.reg rplaces_23o [6, 7, 8, 25, 26, 27, 86]) rplaces_24
def rplaces_21 : AK := .seq rplaces_23 rplaces_22
def rplaces_31o : List ROp := [.v 83 (.bin .add (.t 60) (.c (.int .i64 1))),
   .v 60 (.mov (.t 83))]
def rplaces_31 : AK := .reg rplaces_31o [6, 7, 8, 11, 25, 26, 27, 58, 59, 60]
def rplaces_35o : List ROp := [.v 78 (.mov (.t 8)),
   .v 79 (.mov (.t 16)),
   .cal (some 80) false 9080 19 [(.t 78), (.t 79)],
   .v 77 (.mov (.t 80)),
   .v 81 (.ext (.t 77) 0),
   .v 82 (.ext (.t 77) 1),
   .v 8 (.mov (.t 81))]
def rplaces_35 : AK := .reg rplaces_35o [6, 7, 8, 11, 25, 26, 27, 58, 59, 60]
def rplaces_38o : List ROp := [.v 73 (.mov (.t 8)),
   .v 74 (.mov (.t 11)),
   .v 75 (.mov (.t 16)),
   .v 76 (.idxA 1 (.t 73) (.t 74)),
   .effN false 9000 (.st 1 (.t 76) (.t 75))]
def rplaces_38 : AK := .seq (.reg rplaces_38o [6, 7, 8, 11, 25, 26, 27, 58, 59, 60]) (.exit 5)
def rplaces_37 : AK := .cond (.t 72) rplaces_38 .skip
def rplaces_36o : List ROp := [.v 65 (.mov (.t 15)),
   .v 66 (.bin .eql (.t 65) (.c (.int .i64 0))),
   .v 67 (.mov (.t 66)),
   .gval 68 67 true false 9068 (.mov (.t 8)),
   .gval 69 67 true false 9069 (.mov (.t 16)),
   .gcal 70 67 true false 9070 20 [(.t 68), (.t 69)],
   .gval 71 67 true false 9071 (.bin .lss (.t 70) (.c (.int .i64 0))),
   .v 72 (.pick (.t 67) (.t 71) (.c (.bool false)))]
def rplaces_36 : AK := .seq (.reg rplaces_36o [6, 7, 8, 11, 16, 25, 26, 27, 58, 59, 60, 72]) rplaces_37
def rplaces_34 : AK := .seq rplaces_36 rplaces_35
def rplaces_33o : List ROp := [.v 62 (.mov (.t 60)),
   .v 63 (.idxA 1 (.t 58) (.t 60)),
   .v 64 (.ld false 1 (.t 63)),
   .v 15 (.mov (.t 62)),
   .v 16 (.mov (.t 64))]
def rplaces_33 : AK := .seq (.reg rplaces_33o [6, 7, 8, 11, 15, 16, 25, 26, 27, 58, 59, 60]) rplaces_34
def rplaces_32 : AK := .block 5 rplaces_33
def rplaces_30 : AK := .seq rplaces_32 rplaces_31
def rplaces_39 : AK := .cond (.t 61) .skip (.exit 4)
def rplaces_29 : AK := .seq rplaces_39 rplaces_30
def rplaces_28o : List ROp := [.v 61 (.bin .lss (.t 60) (.t 59))]
def rplaces_28 : AK := .seq (.reg rplaces_28o [6, 7, 8, 11, 25, 26, 27, 58, 59, 60, 61]) rplaces_29
def rplaces_L1 : AK := .loop rplaces_28
def rplaces_27 : AK := .block 4 rplaces_L1
def rplaces_26o : List ROp := [.v 58 (.mov (.t 10)),
   .v 59 (.len false (.t 58)),
   .v 60 (.mov (.c (.int .i64 0)))]
def rplaces_26 : AK := .seq (.reg rplaces_26o [6, 7, 8, 11, 25, 26, 27, 58, 59, 60]) rplaces_27
def rplaces_20 : AK := .seq rplaces_26 rplaces_21
def rplaces_19o : List ROp := [.v 57 (.mov (.t 12)),
   .v 8 (.mov (.t 57))]
def rplaces_19 : AK := .seq (.reg rplaces_19o [6, 7, 8, 10, 11, 25, 26, 27]) rplaces_20
def rplaces_45o : List ROp := [.v 56 (.bin .add (.t 45) (.c (.int .i64 1))),
   .v 45 (.mov (.t 56))]
def rplaces_45 : AK := .reg rplaces_45o [6, 7, 9, 10, 11, 12, 25, 26, 27, 43, 44, 45]
def rplaces_49o : List ROp := [.v 52 (.mov (.t 12)),
   .v 53 (.mov (.t 14)),
   .eff 54 false 9054 (.bsl 1 [(.t 53)]),
   .eff 55 false 9055 (.app 1 8 (.t 52) (.t 54)),
   .v 12 (.mov (.t 55))]
def rplaces_49 : AK := .reg rplaces_49o [6, 7, 9, 10, 11, 12, 25, 26, 27, 43, 44, 45]
def rplaces_52o : List ROp := [.v 14 (.mov (.c (.int .i64 (-1))))]
def rplaces_52 : AK := .reg rplaces_52o [6, 7, 9, 10, 11, 12, 14, 25, 26, 27, 43, 44, 45]
def rplaces_51 : AK := .cond (.t 51) rplaces_52 .skip
def rplaces_50o : List ROp := [.v 49 (.mov (.t 14)),
   .v 50 (.mov (.t 9)),
   .v 51 (.bin .eql (.t 49) (.t 50))]
def rplaces_50 : AK := .seq (.reg rplaces_50o [6, 7, 9, 10, 11, 12, 14, 25, 26, 27, 43, 44, 45, 51]) rplaces_51
def rplaces_48 : AK := .seq rplaces_50 rplaces_49
def rplaces_47o : List ROp := [.v 47 (.idxA 1 (.t 43) (.t 45)),
   .v 48 (.ld false 1 (.t 47)),
   .v 14 (.mov (.t 48))]
def rplaces_47 : AK := .seq (.reg rplaces_47o [6, 7, 9, 10, 11, 12, 14, 25, 26, 27, 43, 44, 45]) rplaces_48
def rplaces_46 : AK := .block 3 rplaces_47
def rplaces_44 : AK := .seq rplaces_46 rplaces_45
def rplaces_53 : AK := .cond (.t 46) .skip (.exit 2)
def rplaces_43 : AK := .seq rplaces_53 rplaces_44
def rplaces_42o : List ROp := [.v 46 (.bin .lss (.t 45) (.t 44))]
def rplaces_42 : AK := .seq (.reg rplaces_42o [6, 7, 9, 10, 11, 12, 25, 26, 27, 43, 44, 45, 46]) rplaces_43
def rplaces_L2 : AK := .loop rplaces_42
def rplaces_41 : AK := .block 2 rplaces_L2
def rplaces_40o : List ROp := [.v 43 (.mov (.t 8)),
   .v 44 (.len false (.t 43)),
   .v 45 (.mov (.c (.int .i64 0)))]
def rplaces_40 : AK := .seq (.reg rplaces_40o [6, 7, 9, 10, 11, 12, 25, 26, 27, 43, 44, 45]) rplaces_41
def rplaces_18 : AK := .seq rplaces_40 rplaces_19
def rplaces_17o : List ROp := [.eff 42 false 9042 (.bsl 1 []),
   .v 12 (.mov (.t 42))]
def rplaces_17 : AK := .seq (.reg rplaces_17o [6, 7, 8, 9, 10, 11, 12, 25, 26, 27]) rplaces_18
def rplaces_16o : List ROp := [.v 38 (.mov (.t 6)),
   .v 39 (.mov (.t 11)),
   .eff 40 false 9040 (.bsl 1 [(.t 39)]),
   .eff 41 false 9041 (.app 1 8 (.t 38) (.t 40)),
   .v 6 (.mov (.t 41))]
def rplaces_16 : AK := .seq (.reg rplaces_16o [6, 7, 8, 9, 10, 11, 25, 26, 27]) rplaces_17
def rplaces_15o : List ROp := [.v 33 (.mov (.t 8)),
   .v 34 (.mov (.t 9)),
   .cal (some 35) false 9035 19 [(.t 33), (.t 34)],
   .v 32 (.mov (.t 35)),
   .v 36 (.ext (.t 32) 0),
   .v 37 (.ext (.t 32) 1),
   .v 8 (.mov (.t 36)),
   .v 11 (.mov (.t 37))]
def rplaces_15 : AK := .seq (.reg rplaces_15o [6, 7, 8, 9, 10, 11, 25, 26, 27]) rplaces_16
def rplaces_14o : List ROp := [.v 11 (.mov (.c (.int .i64 0)))]
def rplaces_14 : AK := .seq (.reg rplaces_14o [6, 7, 8, 9, 10, 25, 26, 27]) rplaces_15
def rplaces_13o : List ROp := [.v 29 (.mov (.t 27)),
   .v 30 (.idxA 1 (.t 25) (.t 27)),
   .v 31 (.ld false 1 (.t 30)),
   .v 9 (.mov (.t 29)),
   .v 10 (.mov (.t 31))]
def rplaces_13 : AK := .seq (.reg rplaces_13o [6, 7, 8, 9, 10, 25, 26, 27]) rplaces_14
def rplaces_12 : AK := .block 1 rplaces_13
def rplaces_10 : AK := .seq rplaces_12 rplaces_11
def rplaces_54 : AK := .cond (.t 28) .skip (.exit 0)
def rplaces_9 : AK := .seq rplaces_54 rplaces_10
def rplaces_8o : List ROp := [.v 28 (.bin .lss (.t 27) (.t 26))]
def rplaces_8 : AK := .seq (.reg rplaces_8o [6, 7, 8, 25, 26, 27, 28]) rplaces_9
def rplaces_L0 : AK := .loop rplaces_8
def rplaces_7 : AK := .block 0 rplaces_L0
def rplaces_6o : List ROp := [.v 25 (.mov (.t 0)),
   .v 26 (.len false (.t 25)),
   .v 27 (.mov (.c (.int .i64 0)))]
def rplaces_6 : AK := .seq (.reg rplaces_6o [6, 7, 8, 25, 26, 27]) rplaces_7
def rplaces_4 : AK := .seq rplaces_6 rplaces_5
def rplaces_3o : List ROp := [.eff 24 false 9024 (.bsl 1 []),
   .v 8 (.mov (.t 24))]
def rplaces_3 : AK := .seq (.reg rplaces_3o [0, 6, 7, 8]) rplaces_4
def rplaces_2o : List ROp := [.eff 22 false 9022 (.bsl 1 []),
   .eff 23 false 9023 (.bsl 1 []),
   .v 6 (.mov (.t 22)),
   .v 7 (.mov (.t 23))]
def rplaces_2 : AK := .seq (.reg rplaces_2o [0, 6, 7]) rplaces_3
def rplaces_58o : List ROp := [.v 21 (.mov (.t 5)),
   .v 2 (.mov (.c (.nilsl))),
   .v 3 (.mov (.c (.nilsl))),
   .v 4 (.mov (.t 21))]
def rplaces_58 : AK := .seq (.reg rplaces_58o [2, 3, 4]) .ret
def rplaces_57 : AK := .cond (.t 20) rplaces_58 .skip
def rplaces_56o : List ROp := [.v 19 (.mov (.t 5)),
   .v 20 (.bin .neq (.t 19) (.c (.int .i64 0)))]
def rplaces_56 : AK := .seq (.reg rplaces_56o [0, 5, 20]) rplaces_57
def rplaces_55o : List ROp := [.v 17 (.mov (.t 0)),
   .cal (some 18) false 9018 14 [(.t 17)],
   .v 5 (.mov (.t 18))]
def rplaces_55 : AK := .seq (.reg rplaces_55o [0, 5]) rplaces_56
def rplaces_1 : AK := .seq rplaces_55 rplaces_2
def rplaces_0o : List ROp := [.v 2 (.mov (.c (.nilsl))),
   .v 3 (.mov (.c (.nilsl))),
   .v 4 (.mov (.c (.int .i64 0)))]
def rplaces_0 : AK := .seq (.reg rplaces_0o [0]) rplaces_1
def rplaces : AK := rplaces_0
theorem rplaces_vc (P : Program) (E : Env) (Q : KQ) (st : St) :
  (vcW P E rplaces_5 Q st = aopsW P rplaces_5o st (KS.reg [2, 3, 4] (KQ.seq P E .ret Q))) ∧
  (vcW P E rplaces_11 Q st = aopsW P rplaces_11o st (KS.reg [6, 7, 8, 25, 26, 27] Q)) ∧
  (vcW P E rplaces_22 Q st = aopsW P rplaces_22o st (KS.reg [6, 7, 8, 25, 26, 27] Q)) ∧
  (vcW P E rplaces_25 Q st = aopsW P rplaces_25o st (KS.reg [2, 3, 4] (KQ.seq P E .ret Q))) ∧
  (vcW P E rplaces_24 Q st = cndW P E (ev st (.t 86)) rplaces_25 .skip Q st) ∧
  (vcW P E rplaces_23 Q st = aopsW P rplaces_23o st (KS.reg [6, 7, 8, 25, 26, 27, 86] (KQ.seq P E rplaces_24 Q))) ∧
  (vcW P E rplaces_21 Q st = vcW P E rplaces_23 (KQ.seq P E rplaces_22 Q) st) ∧
  (vcW P E rplaces_31 Q st = aopsW P rplaces_31o st (KS.reg [6, 7, 8, 11, 25, 26, 27, 58, 59, 60] Q)) ∧
  (vcW P E rplaces_35 Q st = aopsW P rplaces_35o st (KS.reg [6, 7, 8, 11, 25, 26, 27, 58, 59, 60] Q)) ∧
  (vcW P E rplaces_38 Q st = aopsW P rplaces_38o st (KS.reg [6, 7, 8, 11, 25, 26, 27, 58, 59, 60] (KQ.seq P E (.exit 5) Q))) ∧
  (vcW P E rplaces_37 Q st = cndW P E (ev st (.t 72)) rplaces_38 .skip Q st) ∧
  (vcW P E rplaces_36 Q st = aopsW P rplaces_36o st (KS.reg [6, 7, 8, 11, 16, 25, 26, 27, 58, 59, 60, 72] (KQ.seq P E rplaces_37 Q))) ∧
  (vcW P E rplaces_34 Q st = vcW P E rplaces_36 (KQ.seq P E rplaces_35 Q) st) ∧
  (vcW P E rplaces_33 Q st = aopsW P rplaces_33o st (KS.reg [6, 7, 8, 11, 15, 16, 25, 26, 27, 58, 59, 60] (KQ.seq P E rplaces_34 Q))) ∧
  (vcW P E rplaces_32 Q st = vcW P E rplaces_33 (KQ.blk 5 Q) st) ∧
  (vcW P E rplaces_30 Q st = vcW P E rplaces_32 (KQ.seq P E rplaces_31 Q) st) ∧
  (vcW P E rplaces_39 Q st = cndW P E (ev st (.t 61)) .skip (.exit 4) Q st) ∧
  (vcW P E rplaces_29 Q st = vcW P E rplaces_39 (KQ.seq P E rplaces_30 Q) st) ∧
  (vcW P E rplaces_28 Q st = aopsW P rplaces_28o st (KS.reg [6, 7, 8, 11, 25, 26, 27, 58, 59, 60, 61] (KQ.seq P E rplaces_29 Q))) ∧
  (vcW P E rplaces_27 Q st = vcW P E rplaces_L1 (KQ.blk 4 Q) st) ∧
  (vcW P E rplaces_26 Q st = aopsW P rplaces_26o st (KS.reg [6, 7, 8, 11, 25, 26, 27, 58, 59, 60] (KQ.seq P E rplaces_27 Q))) ∧
  (vcW P E rplaces_20 Q st = vcW P E rplaces_26 (KQ.seq P E rplaces_21 Q) st) ∧
  (vcW P E rplaces_19 Q st = aopsW P rplaces_19o st (KS.reg [6, 7, 8, 10, 11, 25, 26, 27] (KQ.seq P E rplaces_20 Q))) ∧
  (vcW P E rplaces_45 Q st = aopsW P rplaces_45o st (KS.reg [6, 7, 9, 10, 11, 12, 25, 26, 27, 43, 44, 45] Q)) ∧
  (vcW P E rplaces_49 Q st = aopsW P rplaces_49o st (KS.reg [6, 7, 9, 10, 11, 12, 25, 26, 27, 43, 44, 45] Q)) ∧
  (vcW P E rplaces_52 Q st = aopsW P rplaces_52o st (KS.reg [6, 7, 9, 10, 11, 12, 14, 25, 26, 27, 43, 44, 45] Q)) ∧
  (vcW P E rplaces_51 Q st = cndW P E (ev st (.t 51)) rplaces_52 .skip Q st) ∧
  (vcW P E rplaces_50 Q st = aopsW P rplaces_50o st (KS.reg [6, 7, 9, 10, 11, 12, 14, 25, 26, 27, 43, 44, 45, 51] (KQ.seq P E rplaces_51 Q))) ∧
  (vcW P E rplaces_48 Q st = vcW P E rplaces_50 (KQ.seq P E rplaces_49 Q) st) ∧
  (vcW P E rplaces_47 Q st = aopsW P rplaces_47o st (KS.reg [6, 7, 9, 10, 11, 12, 14, 25, 26, 27, 43, 44, 45] (KQ.seq P E rplaces_48 Q))) ∧
  (vcW P E rplaces_46 Q st = vcW P E rplaces_47 (KQ.blk 3 Q) st) ∧
  (vcW P E rplaces_44 Q st = vcW P E rplaces_46 (KQ.seq P E rplaces_45 Q) st) ∧
  (vcW P E rplaces_53 Q st = cndW P E (ev st (.t 46)) .skip (.exit 2) Q st) ∧
  (vcW P E rplaces_43 Q st = vcW P E rplaces_53 (KQ.seq P E rplaces_44 Q) st) ∧
  (vcW P E rplaces_42 Q st = aopsW P rplaces_42o st (KS.reg [6, 7, 9, 10, 11, 12, 25, 26, 27, 43, 44, 45, 46] (KQ.seq P E rplaces_43 Q))) ∧
  (vcW P E rplaces_41 Q st = vcW P E rplaces_L2 (KQ.blk 2 Q) st) ∧
  (vcW P E rplaces_40 Q st = aopsW P rplaces_40o st (KS.reg [6, 7, 9, 10, 11, 12, 25, 26, 27, 43, 44, 45] (KQ.seq P E rplaces_41 Q))) ∧
  (vcW P E rplaces_18 Q st = vcW P E rplaces_40 (KQ.seq P E rplaces_19 Q) st) ∧
  (vcW P E rplaces_17 Q st = aopsW P rplaces_17o st (KS.reg [6, 7, 8, 9, 10, 11, 12, 25, 26, 27] (KQ.seq P E rplaces_18 Q))) ∧
  (vcW P E rplaces_16 Q st = aopsW P rplaces_16o st (KS.reg [6, 7, 8, 9, 10, 11, 25, 26, 27] (KQ.seq P E rplaces_17 Q))) ∧
  (vcW P E rplaces_15 Q st = aopsW P rplaces_15o st (KS.reg [6, 7, 8, 9, 10, 11, 25, 26, 27] (KQ.seq P E rplaces_16 Q))) ∧
  (vcW P E rplaces_14 Q st = aopsW P rplaces_14o st (KS.reg [6, 7, 8, 9, 10, 25, 26, 27] (KQ.seq P E rplaces_15 Q))) ∧
  (vcW P E rplaces_13 Q st = aopsW P rplaces_13o st (KS.reg [6, 7, 8, 9, 10, 25, 26, 27] (KQ.seq P E rplaces_14 Q))) ∧
  (vcW P E rplaces_12 Q st = vcW P E rplaces_13 (KQ.blk 1 Q) st) ∧
  (vcW P E rplaces_10 Q st = vcW P E rplaces_12 (KQ.seq P E rplaces_11 Q) st) ∧
  (vcW P E rplaces_54 Q st = cndW P E (ev st (.t 28)) .skip (.exit 0) Q st) ∧
  (vcW P E rplaces_9 Q st = vcW P E rplaces_54 (KQ.seq P E rplaces_10 Q) st) ∧
  (vcW P E rplaces_8 Q st = aopsW P rplaces_8o st (KS.reg [6, 7, 8, 25, 26, 27, 28] (KQ.seq P E rplaces_9 Q))) ∧
  (vcW P E rplaces_7 Q st = vcW P E rplaces_L0 (KQ.blk 0 Q) st) ∧
  (vcW P E rplaces_6 Q st = aopsW P rplaces_6o st (KS.reg [6, 7, 8, 25, 26, 27] (KQ.seq P E rplaces_7 Q))) ∧
  (vcW P E rplaces_4 Q st = vcW P E rplaces_6 (KQ.seq P E rplaces_5 Q) st) ∧
  (vcW P E rplaces_3 Q st = aopsW P rplaces_3o st (KS.reg [0, 6, 7, 8] (KQ.seq P E rplaces_4 Q))) ∧
  (vcW P E rplaces_2 Q st = aopsW P rplaces_2o st (KS.reg [0, 6, 7] (KQ.seq P E rplaces_3 Q))) ∧
  (vcW P E rplaces_58 Q st = aopsW P rplaces_58o st (KS.reg [2, 3, 4] (KQ.seq P E .ret Q))) ∧
  (vcW P E rplaces_57 Q st = cndW P E (ev st (.t 20)) rplaces_58 .skip Q st) ∧
  (vcW P E rplaces_56 Q st = aopsW P rplaces_56o st (KS.reg [0, 5, 20] (KQ.seq P E rplaces_57 Q))) ∧
  (vcW P E rplaces_55 Q st = aopsW P rplaces_55o st (KS.reg [0, 5] (KQ.seq P E rplaces_56 Q))) ∧
  (vcW P E rplaces_1 Q st = vcW P E rplaces_55 (KQ.seq P E rplaces_2 Q) st) ∧
  (vcW P E rplaces_0 Q st = aopsW P rplaces_0o st (KS.reg [0] (KQ.seq P E rplaces_1 Q))) ∧
  (vcW P E rplaces Q st = vcW P E rplaces_0 Q st) :=
  ⟨rfl, rfl, rfl, rfl, vcW_cond, rfl, rfl, rfl, rfl, rfl, vcW_cond, rfl, rfl, rfl, rfl, rfl, vcW_cond, rfl, rfl, rfl, rfl, rfl, rfl, rfl, rfl, rfl, vcW_cond, rfl, rfl, rfl, rfl, rfl, vcW_cond, rfl, rfl, rfl, rfl, rfl, rfl, rfl, rfl, rfl, rfl, rfl, rfl, vcW_cond, rfl, rfl, rfl, rfl, rfl, rfl, rfl, rfl, vcW_cond, rfl, rfl, rfl, rfl, rfl⟩
theorem rplaces_jn (P : Program) (E : Env) (Q : KQ) (st : St) :
  (True) :=
  trivial
attribute [go_sem] rplaces_vc rplaces_5o rplaces_11o rplaces_22o rplaces_25o rplaces_23o rplaces_31o rplaces_35o rplaces_38o rplaces_36o rplaces_33o rplaces_28o rplaces_26o rplaces_19o rplaces_45o rplaces_49o rplaces_52o rplaces_50o rplaces_47o rplaces_42o rplaces_40o rplaces_17o rplaces_16o rplaces_15o rplaces_14o rplaces_13o rplaces_8o rplaces_6o rplaces_3o rplaces_2o rplaces_58o rplaces_56o rplaces_55o rplaces_0o
noncomputable def rplacesB : Code := (Tryd.f9.body).getD .skip
theorem rplaces_eq : trCode Tryd.prog 96 9000 rplacesB = rplaces.erase 9000 := by kernel_rfl
theorem rplaces_body : Tryd.f9.body = some rplacesB := by kernel_rfl
theorem rplaces_n : Tryd.f9.ntmps = 96 := by kernel_rfl
theorem rplaces_r : Tryd.f9.results.toList = [.tmp 2, .tmp 3, .tmp 4] := by kernel_rfl
theorem rplaces_spec {h : HP} {a0 : AV} {Post : HP → AV → List AV → Prop} (hp : ∀ (E : Env) (R : HP → AV → List AV → Prop), E.N ≤ 1000000 → PostTo Post R → vcW Tryd.prog E rplaces (KQ.post [.tmp 2, .tmp 3, .tmp 4] 1 R) ⟨[(0, a0)], h⟩) : Eng.Spec Tryd.prog 9 h [a0] Post := spec_wk (
  spec_of (c := rplaces.erase 9000) (B := 9000) Tryd.func9 rplaces_body (by rw [rplaces_n, rplaces_eq]) (by rw [rplaces_n]; decide) (by rw [rplaces_n]; exact (by decide : 1 ≤ 96)) (fun E hE hB => by
    have hN : E.N ≤ 1000000 := by
      rw [hE, rplaces_n]; decide
    rw [rplaces_r, ← hB]
    exact awp_slots [(0, a0)] ⟨rfl, trivial⟩ (vcW_sound hN _ (hp E _ hN fin_self))))
/- cartulary/graph.Picture -/
def gpicture_6o : List ROp := [.v 69 (.mov (.t 7)),
   .v 2 (.mov (.t 69)),
   .v 3 (.mov (.c (.int .i64 0)))]
def gpicture_6 : AK := .seq (.reg gpicture_6o [2, 3]) .ret
def gpicture_12o : List ROp := [.v 68 (.bin .add (.t 25) (.c (.int .i64 1))),
   .v 25 (.mov (.t 68))]
def gpicture_12 : AK := .reg gpicture_12o [5, 7, 8, 23, 24, 25]
def gpicture_19o : List ROp := [.v 64 (.mov (.t 5)),
   .v 65 (.mov (.t 9)),
   .v 66 (.idxA 1 (.t 64) (.t 65)),
   .v 67 (.ld false 1 (.t 66)),
   .v 8 (.mov (.t 67))]
def gpicture_19 : AK := .reg gpicture_19o [5, 7, 8, 23, 24, 25]
def gpicture_18o : List ROp := [.v 58 (.mov (.t 7)),
   .v 59 (.mov (.t 11)),
   .v 60 (.bts (.t 59)),
   .cal (some 61) false 10061 22 [(.t 60), (.c (.str [32]))],
   .eff 62 false 10062 (.bsl 1 [(.t 61)]),
   .eff 63 false 10063 (.app 1 16 (.t 58) (.t 62)),
   .v 7 (.mov (.t 63))]
def gpicture_18 : AK := .seq (.reg gpicture_18o [5, 7, 9, 23, 24, 25]) gpicture_19
def gpicture_17o : List ROp := [.v 53 (.mov (.t 11)),
   .v 54 (.mov (.t 10)),
   .v 55 (.re (.t 54)),
   .v 56 (.cfi .i64 (.t 55)),
   .v 57 (.idxA 1 (.t 53) (.t 56)),
   .effN false 10000 (.st 1 (.t 57) (.c (.int .u8 42)))]
def gpicture_17 : AK := .seq (.reg gpicture_17o [5, 7, 9, 11, 23, 24, 25]) gpicture_18
def gpicture_25o : List ROp := [.v 52 (.bin .add (.t 41) (.c (.int .i64 1))),
   .v 41 (.mov (.t 52))]
def gpicture_25 : AK := .reg gpicture_25o [5, 7, 9, 10, 11, 23, 24, 25, 39, 40, 41]
def gpicture_30o : List ROp := [.v 49 (.mov (.t 11)),
   .v 50 (.mov (.t 12)),
   .v 51 (.idxA 1 (.t 49) (.t 50)),
   .effN false 10000 (.st 1 (.t 51) (.c (.int .u8 124)))]
def gpicture_30 : AK := .reg gpicture_30o [5, 7, 9, 10, 11, 23, 24, 25, 39, 40, 41]
def gpicture_29 : AK := .cond (.t 48) gpicture_30 .skip
def gpicture_28o : List ROp := [.v 46 (.mov (.t 13)),
   .v 47 (.mov (.t 9)),
   .v 48 (.bin .gtr (.t 46) (.t 47))]
def gpicture_28 : AK := .seq (.reg gpicture_28o [5, 7, 9, 10, 11, 12, 23, 24, 25, 39, 40, 41, 48]) gpicture_29
def gpicture_27o : List ROp := [.v 43 (.mov (.t 41)),
   .v 44 (.idxA 1 (.t 39) (.t 41)),
   .v 45 (.ld false 1 (.t 44)),
   .v 12 (.mov (.t 43)),
   .v 13 (.mov (.t 45))]
def gpicture_27 : AK := .seq (.reg gpicture_27o [5, 7, 9, 10, 11, 12, 13, 23, 24, 25, 39, 40, 41]) gpicture_28
def gpicture_26 : AK := .block 3 gpicture_27
def gpicture_24 : AK := .seq gpicture_26 gpicture_25
def gpicture_31 : AK := .cond (.t 42) .skip (.exit 2)
def gpicture_23 : AK := .seq gpicture_31 gpicture_24
def gpicture_22o : List ROp := [.v 42 (.bin .lss (.t 41) (.t 40))]
def gpicture_22 : AK := .seq (.reg gpicture_22o [5, 7, 9, 10, 11, 23, 24, 25, 39, 40, 41, 42]) gpicture_23
def gpicture_L1 : AK := .loop gpicture_22
def gpicture_21 : AK := .block 2 gpicture_L1
def gpicture_20o : List ROp := [.v 39 (.mov (.t 8)),
   .v 40 (.len false (.t 39)),
   .v 41 (.mov (.c (.int .i64 0)))]
def gpicture_20 : AK := .seq (.reg gpicture_20o [5, 7, 9, 10, 11, 23, 24, 25, 39, 40, 41]) gpicture_21
def gpicture_16 : AK := .seq gpicture_20 gpicture_17
def gpicture_15o : List ROp := [.v 30 (.mov (.t 8)),
   .v 31 (.len false (.t 30)),
   .v 32 (.mov (.t 10)),
   .v 33 (.re (.t 32)),
   .v 34 (.cfi .i64 (.t 33)),
   .v 35 (.bin .add (.t 34) (.c (.int .i64 1))),
   .v 36 (.mm true (.t 31) (.t 35)),
   .cal (some 37) false 10037 21 [(.c (.str [32])), (.t 36)],
   .eff 38 false 10038 (.stb (.t 37)),
   .v 11 (.mov (.t 38))]
def gpicture_15 : AK := .seq (.reg gpicture_15o [5, 7, 8, 9, 10, 11, 23, 24, 25]) gpicture_16
def gpicture_14o : List ROp := [.v 27 (.mov (.t 25)),
   .v 28 (.idxA 1 (.t 23) (.t 25)),
   .v 29 (.ld false 1 (.t 28)),
   .v 9 (.mov (.t 27)),
   .v 10 (.mov (.t 29))]
def gpicture_14 : AK := .seq (.reg gpicture_14o [5, 7, 8, 9, 10, 23, 24, 25]) gpicture_15
def gpicture_13 : AK := .block 1 gpicture_14
def gpicture_11 : AK := .seq gpicture_13 gpicture_12
def gpicture_32 : AK := .cond (.t 26) .skip (.exit 0)
def gpicture_10 : AK := .seq gpicture_32 gpicture_11
def gpicture_9o : List ROp := [.v 26 (.bin .lss (.t 25) (.t 24))]
def gpicture_9 : AK := .seq (.reg gpicture_9o [5, 7, 8, 23, 24, 25, 26]) gpicture_10
def gpicture_L0 : AK := .loop gpicture_9
def gpicture_8 : AK := .block 0 gpicture_L0
def gpicture_7o : List ROp := [.v 23 (.mov (.t 4)),
   .v 24 (.len false (.t 23)),
   .v 25 (.mov (.c (.int .i64 0)))]
def gpicture_7 : AK := .seq (.reg gpicture_7o [5, 7, 8, 23, 24, 25]) gpicture_8
def gpicture_5 : AK := .seq gpicture_7 gpicture_6
def gpicture_4o : List ROp := [.v 8 (.mov (.c (.nilsl)))]
def gpicture_4 : AK := .seq (.reg gpicture_4o [4, 5, 7, 8]) gpicture_5
def gpicture_3o : List ROp := [.v 7 (.mov (.c (.nilsl)))]
def gpicture_3 : AK := .seq (.reg gpicture_3o [4, 5, 7]) gpicture_4
def gpicture_35o : List ROp := [.v 22 (.mov (.t 6)),
   .v 2 (.mov (.c (.nilsl))),
   .v 3 (.mov (.t 22))]
def gpicture_35 : AK := .seq (.reg gpicture_35o [2, 3]) .ret
def gpicture_34 : AK := .cond (.t 21) gpicture_35 .skip
def gpicture_33o : List ROp := [.v 20 (.mov (.t 6)),
   .v 21 (.bin .neq (.t 20) (.c (.int .i64 0)))]
def gpicture_33 : AK := .seq (.reg gpicture_33o [4, 5, 6, 21]) gpicture_34
def gpicture_2 : AK := .seq gpicture_33 gpicture_3
def gpicture_1o : List ROp := [.v 15 (.mov (.t 0)),
   .cal (some 16) false 10016 8 [(.t 15)],
   .v 14 (.mov (.t 16)),
   .v 17 (.ext (.t 14) 0),
   .v 18 (.ext (.t 14) 1),
   .v 19 (.ext (.t 14) 2),
   .v 4 (.mov (.t 17)),
   .v 5 (.mov (.t 18)),
   .v 6 (.mov (.t 19))]
def gpicture_1 : AK := .seq (.reg gpicture_1o [4, 5, 6]) gpicture_2
def gpicture_0o : List ROp := [.v 2 (.mov (.c (.nilsl))),
   .v 3 (.mov (.c (.int .i64 0)))]
def gpicture_0 : AK := .seq (.reg gpicture_0o [0]) gpicture_1
def gpicture : AK := gpicture_0
theorem gpicture_vc (P : Program) (E : Env) (Q : KQ) (st : St) :
  (vcW P E gpicture_6 Q st = aopsW P gpicture_6o st (KS.reg [2, 3] (KQ.seq P E .ret Q))) ∧
  (vcW P E gpicture_12 Q st = aopsW P gpicture_12o st (KS.reg [5, 7, 8, 23, 24, 25] Q)) ∧
  (vcW P E gpicture_19 Q st = aopsW P gpicture_19o st (KS.reg [5, 7, 8, 23, 24, 25] Q)) ∧
  (vcW P E gpicture_18 Q st = aopsW P gpicture_18o st (KS.reg [5, 7, 9, 23, 24, 25] (KQ.seq P E gpicture_19 Q))) ∧
  (vcW P E gpicture_17 Q st = aopsW P gpicture_17o st (KS.reg [5, 7, 9, 11, 23, 24, 25] (KQ.seq P E gpicture_18 Q))) ∧
  (vcW P E gpicture_25 Q st = aopsW P gpicture_25o st (KS.reg [5, 7, 9, 10, 11, 23, 24, 25, 39, 40, 41] Q)) ∧
  (vcW P E gpicture_30 Q st = aopsW P gpicture_30o st (KS.reg [5, 7, 9, 10, 11, 23, 24, 25, 39, 40, 41] Q)) ∧
  (vcW P E gpicture_29 Q st = cndW P E (ev st (.t 48)) gpicture_30 .skip Q st) ∧
  (vcW P E gpicture_28 Q st = aopsW P gpicture_28o st (KS.reg [5, 7, 9, 10, 11, 12, 23, 24, 25, 39, 40, 41, 48] (KQ.seq P E gpicture_29 Q))) ∧
  (vcW P E gpicture_27 Q st = aopsW P gpicture_27o st (KS.reg [5, 7, 9, 10, 11, 12, 13, 23, 24, 25, 39, 40, 41] (KQ.seq P E gpicture_28 Q))) ∧
  (vcW P E gpicture_26 Q st = vcW P E gpicture_27 (KQ.blk 3 Q) st) ∧
  (vcW P E gpicture_24 Q st = vcW P E gpicture_26 (KQ.seq P E gpicture_25 Q) st) ∧
  (vcW P E gpicture_31 Q st = cndW P E (ev st (.t 42)) .skip (.exit 2) Q st) ∧
  (vcW P E gpicture_23 Q st = vcW P E gpicture_31 (KQ.seq P E gpicture_24 Q) st) ∧
  (vcW P E gpicture_22 Q st = aopsW P gpicture_22o st (KS.reg [5, 7, 9, 10, 11, 23, 24, 25, 39, 40, 41, 42] (KQ.seq P E gpicture_23 Q))) ∧
  (vcW P E gpicture_21 Q st = vcW P E gpicture_L1 (KQ.blk 2 Q) st) ∧
  (vcW P E gpicture_20 Q st = aopsW P gpicture_20o st (KS.reg [5, 7, 9, 10, 11, 23, 24, 25, 39, 40, 41] (KQ.seq P E gpicture_21 Q))) ∧
  (vcW P E gpicture_16 Q st = vcW P E gpicture_20 (KQ.seq P E gpicture_17 Q) st) ∧
  (vcW P E gpicture_15 Q st = aopsW P gpicture_15o st (KS.reg [5, 7, 8, 9, 10, 11, 23, 24, 25] (KQ.seq P E gpicture_16 Q))) ∧
  (vcW P E gpicture_14 Q st = aopsW P gpicture_14o st (KS.reg [5, 7, 8, 9, 10, 23, 24, 25] (KQ.seq P E gpicture_15 Q))) ∧
  (vcW P E gpicture_13 Q st = vcW P E gpicture_14 (KQ.blk 1 Q) st) ∧
  (vcW P E gpicture_11 Q st = vcW P E gpicture_13 (KQ.seq P E gpicture_12 Q) st) ∧
  (vcW P E gpicture_32 Q st = cndW P E (ev st (.t 26)) .skip (.exit 0) Q st) ∧
  (vcW P E gpicture_10 Q st = vcW P E gpicture_32 (KQ.seq P E gpicture_11 Q) st) ∧
  (vcW P E gpicture_9 Q st = aopsW P gpicture_9o st (KS.reg [5, 7, 8, 23, 24, 25, 26] (KQ.seq P E gpicture_10 Q))) ∧
  (vcW P E gpicture_8 Q st = vcW P E gpicture_L0 (KQ.blk 0 Q) st) ∧
  (vcW P E gpicture_7 Q st = aopsW P gpicture_7o st (KS.reg [5, 7, 8, 23, 24, 25] (KQ.seq P E gpicture_8 Q))) ∧
  (vcW P E gpicture_5 Q st = vcW P E gpicture_7 (KQ.seq P E gpicture_6 Q) st) ∧
  (vcW P E gpicture_4 Q st = aopsW P gpicture_4o st (KS.reg [4, 5, 7, 8] (KQ.seq P E gpicture_5 Q))) ∧
  (vcW P E gpicture_3 Q st = aopsW P gpicture_3o st (KS.reg [4, 5, 7] (KQ.seq P E gpicture_4 Q))) ∧
  (vcW P E gpicture_35 Q st = aopsW P gpicture_35o st (KS.reg [2, 3] (KQ.seq P E .ret Q))) ∧
  (vcW P E gpicture_34 Q st = cndW P E (ev st (.t 21)) gpicture_35 .skip Q st) ∧
  (vcW P E gpicture_33 Q st = aopsW P gpicture_33o st (KS.reg [4, 5, 6, 21] (KQ.seq P E gpicture_34 Q))) ∧
  (vcW P E gpicture_2 Q st = vcW P E gpicture_33 (KQ.seq P E gpicture_3 Q) st) ∧
  (vcW P E gpicture_1 Q st = aopsW P gpicture_1o st (KS.reg [4, 5, 6] (KQ.seq P E gpicture_2 Q))) ∧
  (vcW P E gpicture_0 Q st = aopsW P gpicture_0o st (KS.reg [0] (KQ.seq P E gpicture_1 Q))) ∧
  (vcW P E gpicture Q st = vcW P E gpicture_0 Q st) :=
  ⟨rfl, rfl, rfl, rfl, rfl, rfl, rfl, vcW_cond, rfl, rfl, rfl, rfl, vcW_cond, rfl, rfl, rfl, rfl, rfl, rfl, rfl, rfl, rfl, vcW_cond, rfl, rfl, rfl, rfl, rfl, rfl, rfl, rfl, vcW_cond, rfl, rfl, rfl, rfl, rfl⟩
theorem gpicture_jn (P : Program) (E : Env) (Q : KQ) (st : St) :
  (True) :=
  trivial
attribute [go_sem] gpicture_vc gpicture_6o gpicture_12o gpicture_19o gpicture_18o gpicture_17o gpicture_25o gpicture_30o gpicture_28o gpicture_27o gpicture_22o gpicture_20o gpicture_15o gpicture_14o gpicture_9o gpicture_7o gpicture_4o gpicture_3o gpicture_35o gpicture_33o gpicture_1o gpicture_0o
noncomputable def gpictureB : Code := (Tryd.f10.body).getD .skip
theorem gpicture_eq : trCode Tryd.prog 70 10000 gpictureB = gpicture.erase 10000 := by kernel_rfl
theorem gpicture_body : Tryd.f10.body = some gpictureB := by kernel_rfl
theorem gpicture_n : Tryd.f10.ntmps = 70 := by kernel_rfl
theorem gpicture_r : Tryd.f10.results.toList = [.tmp 2, .tmp 3] := by kernel_rfl
theorem gpicture_spec {h : HP} {a0 : AV} {Post : HP → AV → List AV → Prop} (hp : ∀ (E : Env) (R : HP → AV → List AV → Prop), E.N ≤ 1000000 → PostTo Post R → vcW Tryd.prog E gpicture (KQ.post [.tmp 2, .tmp 3] 1 R) ⟨[(0, a0)], h⟩) : Eng.Spec Tryd.prog 10 h [a0] Post := spec_wk (
  spec_of (c := gpicture.erase 10000) (B := 10000) Tryd.func10 gpicture_body (by rw [gpicture_n, gpicture_eq]) (by rw [gpicture_n]; decide) (by rw [gpicture_n]; exact (by decide : 1 ≤ 70)) (fun E hE hB => by
    have hN : E.N ≤ 1000000 := by
      rw [hE, gpicture_n]; decide
    rw [gpicture_r, ← hB]
    exact awp_slots [(0, a0)] ⟨rfl, trivial⟩ (vcW_sound hN _ (hp E _ hN fin_self))))
/- cartulary/cartularyref18.Picture -/
def rpicture_5o : List ROp := [.v 85 (.mov (.t 7)),
   .v 2 (.mov (.t 85)),
   .v 3 (.mov (.c (.int .i64 0)))]
def rpicture_5 : AK := .seq (.reg rpicture_5o [2, 3]) .ret
def rpicture_11o : List ROp := [.v 84 (.bin .add (.t 25) (.c (.int .i64 1))),
   .v 25 (.mov (.t 84))]
def rpicture_11 : AK := .reg rpicture_11o [5, 7, 23, 24, 25]
def rpicture_17o : List ROp := [.v 80 (.mov (.t 7)),
   .v 81 (.mov (.t 10)),
   .eff 82 false 11082 (.bsl 1 [(.t 81)]),
   .eff 83 false 11083 (.app 1 16 (.t 80) (.t 82)),
   .v 7 (.mov (.t 83))]
def rpicture_17 : AK := .reg rpicture_17o [5, 7, 23, 24, 25]
def rpicture_21o : List ROp := [.v 75 (.mov (.t 10)),
   .v 76 (.mov (.t 10)),
   .v 77 (.len true (.t 76)),
   .v 78 (.bin .sub (.t 77) (.c (.int .i64 1))),
   .v 79 (.slcS (.t 75) none (some (.t 78))),
   .v 10 (.mov (.t 79))]
def rpicture_21 : AK := .reg rpicture_21o [5, 7, 10, 23, 24, 25]
def rpicture_20 : AK := .block 5 rpicture_21
def rpicture_23 : AK := .cond (.t 74) .skip (.exit 4)
def rpicture_22o : List ROp := [.v 64 (.mov (.t 10)),
   .v 65 (.len true (.t 64)),
   .v 66 (.bin .gtr (.t 65) (.c (.int .i64 0))),
   .v 67 (.mov (.t 66)),
   .gval 68 67 true false 11068 (.mov (.t 10)),
   .gval 69 67 true false 11069 (.mov (.t 10)),
   .gval 70 67 true false 11070 (.len true (.t 69)),
   .gval 71 67 true false 11071 (.bin .sub (.t 70) (.c (.int .i64 1))),
   .gval 72 67 true false 11072 (.sidx (.t 68) (.t 71)),
   .gval 73 67 true false 11073 (.bin .eql (.t 72) (.c (.int .u8 32))),
   .v 74 (.pick (.t 67) (.t 73) (.c (.bool false)))]
def rpicture_22 : AK := .seq (.reg rpicture_22o [5, 7, 10, 23, 24, 25, 74]) rpicture_23
def rpicture_19 : AK := .seq rpicture_22 rpicture_20
def rpicture_L1 : AK := .loop rpicture_19
def rpicture_18 : AK := .block 4 rpicture_L1
def rpicture_16 : AK := .seq rpicture_18 rpicture_17
def rpicture_28o : List ROp := [.v 32 (.mov (.t 11)),
   .v 33 (.bin .add (.t 32) (.c (.int .i64 1))),
   .v 11 (.mov (.t 33))]
def rpicture_28 : AK := .reg rpicture_28o [5, 7, 8, 9, 10, 11, 23, 24, 25]
def rpicture_33o : List ROp := [.v 61 (.mov (.t 10)),
   .v 62 (.mov (.t 12)),
   .v 63 (.bin .add (.t 61) (.t 62)),
   .v 10 (.mov (.t 63))]
def rpicture_33 : AK := .reg rpicture_33o [5, 7, 8, 9, 10, 11, 23, 24, 25]
def rpicture_36o : List ROp := [.v 12 (.mov (.c (.str [42])))]
def rpicture_36 : AK := .reg rpicture_36o [5, 7, 8, 9, 10, 11, 12, 23, 24, 25]
def rpicture_35 : AK := .cond (.t 60) rpicture_36 .skip
def rpicture_34o : List ROp := [.v 58 (.mov (.t 11)),
   .v 59 (.mov (.t 9)),
   .v 60 (.bin .eql (.t 58) (.t 59))]
def rpicture_34 : AK := .seq (.reg rpicture_34o [5, 7, 8, 9, 10, 11, 12, 23, 24, 25, 60]) rpicture_35
def rpicture_32 : AK := .seq rpicture_34 rpicture_33
def rpicture_39o : List ROp := [.v 12 (.mov (.c (.str [124])))]
def rpicture_39 : AK := .reg rpicture_39o [5, 7, 8, 9, 10, 11, 12, 23, 24, 25]
def rpicture_38 : AK := .cond (.t 57) rpicture_39 .skip
def rpicture_37o : List ROp := [.v 34 (.mov (.t 8)),
   .v 35 (.bin .gtr (.t 34) (.c (.int .i64 0))),
   .v 36 (.mov (.t 35)),
   .gval 37 36 true false 11037 (.mov (.t 11)),
   .gval 38 36 true false 11038 (.mov (.t 5)),
   .gval 39 36 true false 11039 (.mov (.t 8)),
   .gval 40 36 true false 11040 (.bin .sub (.t 39) (.c (.int .i64 1))),
   .gval 41 36 true false 11041 (.idxA 1 (.t 38) (.t 40)),
   .gval 42 36 true false 11042 (.ld false 1 (.t 41)),
   .gval 43 36 true false 11043 (.len false (.t 42)),
   .gval 44 36 true false 11044 (.bin .lss (.t 37) (.t 43)),
   .v 45 (.pick (.t 36) (.t 44) (.c (.bool false))),
   .v 46 (.mov (.t 45)),
   .gval 47 46 true false 11047 (.mov (.t 5)),
   .gval 48 46 true false 11048 (.mov (.t 8)),
   .gval 49 46 true false 11049 (.bin .sub (.t 48) (.c (.int .i64 1))),
   .gval 50 46 true false 11050 (.idxA 1 (.t 47) (.t 49)),
   .gval 51 46 true false 11051 (.ld false 1 (.t 50)),
   .gval 52 46 true false 11052 (.mov (.t 11)),
   .gval 53 46 true false 11053 (.idxA 1 (.t 51) (.t 52)),
   .gval 54 46 true false 11054 (.ld false 1 (.t 53)),
   .gval 55 46 true false 11055 (.mov (.t 8)),
   .gval 56 46 true false 11056 (.bin .gtr (.t 54) (.t 55)),
   .v 57 (.pick (.t 46) (.t 56) (.c (.bool false)))]
def rpicture_37 : AK := .seq (.reg rpicture_37o [5, 7, 8, 9, 10, 11, 12, 23, 24, 25, 57]) rpicture_38
def rpicture_31 : AK := .seq rpicture_37 (.mid rpicture_32)
def rpicture_30o : List ROp := [.v 12 (.mov (.c (.str [32])))]
def rpicture_30 : AK := .seq (.reg rpicture_30o [5, 7, 8, 9, 10, 11, 12, 23, 24, 25]) rpicture_31
def rpicture_29 : AK := .block 3 rpicture_30
def rpicture_27 : AK := .seq rpicture_29 rpicture_28
def rpicture_41 : AK := .cond (.t 31) .skip (.exit 2)
def rpicture_40o : List ROp := [.v 30 (.mov (.t 11)),
   .v 31 (.bin .lss (.t 30) (.c (.int .i64 41)))]
def rpicture_40 : AK := .seq (.reg rpicture_40o [5, 7, 8, 9, 10, 11, 23, 24, 25, 31]) rpicture_41
def rpicture_26 : AK := .seq rpicture_40 rpicture_27
def rpicture_L2 : AK := .loop rpicture_26
def rpicture_25 : AK := .block 2 rpicture_L2
def rpicture_24o : List ROp := [.v 11 (.mov (.c (.int .i64 0)))]
def rpicture_24 : AK := .seq (.reg rpicture_24o [5, 7, 8, 9, 10, 11, 23, 24, 25]) rpicture_25
def rpicture_15 : AK := .seq rpicture_24 rpicture_16
def rpicture_14o : List ROp := [.v 10 (.mov (.c (.str [])))]
def rpicture_14 : AK := .seq (.reg rpicture_14o [5, 7, 8, 9, 10, 23, 24, 25]) rpicture_15
def rpicture_13o : List ROp := [.v 27 (.mov (.t 25)),
   .v 28 (.idxA 1 (.t 23) (.t 25)),
   .v 29 (.ld false 1 (.t 28)),
   .v 8 (.mov (.t 27)),
   .v 9 (.mov (.t 29))]
def rpicture_13 : AK := .seq (.reg rpicture_13o [5, 7, 8, 9, 23, 24, 25]) rpicture_14
def rpicture_12 : AK := .block 1 rpicture_13
def rpicture_10 : AK := .seq rpicture_12 rpicture_11
def rpicture_42 : AK := .cond (.t 26) .skip (.exit 0)
def rpicture_9 : AK := .seq rpicture_42 rpicture_10
def rpicture_8o : List ROp := [.v 26 (.bin .lss (.t 25) (.t 24))]
def rpicture_8 : AK := .seq (.reg rpicture_8o [5, 7, 23, 24, 25, 26]) rpicture_9
def rpicture_L0 : AK := .loop rpicture_8
def rpicture_7 : AK := .block 0 rpicture_L0
def rpicture_6o : List ROp := [.v 23 (.mov (.t 4)),
   .v 24 (.len false (.t 23)),
   .v 25 (.mov (.c (.int .i64 0)))]
def rpicture_6 : AK := .seq (.reg rpicture_6o [5, 7, 23, 24, 25]) rpicture_7
def rpicture_4 : AK := .seq rpicture_6 rpicture_5
def rpicture_3o : List ROp := [.eff 22 false 11022 (.bsl 1 []),
   .v 7 (.mov (.t 22))]
def rpicture_3 : AK := .seq (.reg rpicture_3o [4, 5, 7]) rpicture_4
def rpicture_45o : List ROp := [.v 21 (.mov (.t 6)),
   .v 2 (.mov (.c (.nilsl))),
   .v 3 (.mov (.t 21))]
def rpicture_45 : AK := .seq (.reg rpicture_45o [2, 3]) .ret
def rpicture_44 : AK := .cond (.t 20) rpicture_45 .skip
def rpicture_43o : List ROp := [.v 19 (.mov (.t 6)),
   .v 20 (.bin .neq (.t 19) (.c (.int .i64 0)))]
def rpicture_43 : AK := .seq (.reg rpicture_43o [4, 5, 6, 20]) rpicture_44
def rpicture_2 : AK := .seq rpicture_43 rpicture_3
def rpicture_1o : List ROp := [.v 14 (.mov (.t 0)),
   .cal (some 15) false 11015 9 [(.t 14)],
   .v 13 (.mov (.t 15)),
   .v 16 (.ext (.t 13) 0),
   .v 17 (.ext (.t 13) 1),
   .v 18 (.ext (.t 13) 2),
   .v 4 (.mov (.t 16)),
   .v 5 (.mov (.t 17)),
   .v 6 (.mov (.t 18))]
def rpicture_1 : AK := .seq (.reg rpicture_1o [4, 5, 6]) rpicture_2
def rpicture_0o : List ROp := [.v 2 (.mov (.c (.nilsl))),
   .v 3 (.mov (.c (.int .i64 0)))]
def rpicture_0 : AK := .seq (.reg rpicture_0o [0]) rpicture_1
def rpicture : AK := rpicture_0
theorem rpicture_vc (P : Program) (E : Env) (Q : KQ) (st : St) :
  (vcW P E rpicture_5 Q st = aopsW P rpicture_5o st (KS.reg [2, 3] (KQ.seq P E .ret Q))) ∧
  (vcW P E rpicture_11 Q st = aopsW P rpicture_11o st (KS.reg [5, 7, 23, 24, 25] Q)) ∧
  (vcW P E rpicture_17 Q st = aopsW P rpicture_17o st (KS.reg [5, 7, 23, 24, 25] Q)) ∧
  (vcW P E rpicture_21 Q st = aopsW P rpicture_21o st (KS.reg [5, 7, 10, 23, 24, 25] Q)) ∧
  (vcW P E rpicture_20 Q st = vcW P E rpicture_21 (KQ.blk 5 Q) st) ∧
  (vcW P E rpicture_23 Q st = cndW P E (ev st (.t 74)) .skip (.exit 4) Q st) ∧
  (vcW P E rpicture_22 Q st = aopsW P rpicture_22o st (KS.reg [5, 7, 10, 23, 24, 25, 74] (KQ.seq P E rpicture_23 Q))) ∧
  (vcW P E rpicture_19 Q st = vcW P E rpicture_22 (KQ.seq P E rpicture_20 Q) st) ∧
  (vcW P E rpicture_18 Q st = vcW P E rpicture_L1 (KQ.blk 4 Q) st) ∧
  (vcW P E rpicture_16 Q st = vcW P E rpicture_18 (KQ.seq P E rpicture_17 Q) st) ∧
  (vcW P E rpicture_28 Q st = aopsW P rpicture_28o st (KS.reg [5, 7, 8, 9, 10, 11, 23, 24, 25] Q)) ∧
  (vcW P E rpicture_33 Q st = aopsW P rpicture_33o st (KS.reg [5, 7, 8, 9, 10, 11, 23, 24, 25] Q)) ∧
  (vcW P E rpicture_36 Q st = aopsW P rpicture_36o st (KS.reg [5, 7, 8, 9, 10, 11, 12, 23, 24, 25] Q)) ∧
  (vcW P E rpicture_35 Q st = cndW P E (ev st (.t 60)) rpicture_36 .skip Q st) ∧
  (vcW P E rpicture_34 Q st = aopsW P rpicture_34o st (KS.reg [5, 7, 8, 9, 10, 11, 12, 23, 24, 25, 60] (KQ.seq P E rpicture_35 Q))) ∧
  (vcW P E rpicture_32 Q st = vcW P E rpicture_34 (KQ.seq P E rpicture_33 Q) st) ∧
  (vcW P E rpicture_39 Q st = aopsW P rpicture_39o st (KS.reg [5, 7, 8, 9, 10, 11, 12, 23, 24, 25] Q)) ∧
  (vcW P E rpicture_38 Q st = cndW P E (ev st (.t 57)) rpicture_39 .skip Q st) ∧
  (vcW P E rpicture_37 Q st = aopsW P rpicture_37o st (KS.reg [5, 7, 8, 9, 10, 11, 12, 23, 24, 25, 57] (KQ.seq P E rpicture_38 Q))) ∧
  (vcW P E rpicture_30 Q st = aopsW P rpicture_30o st (KS.reg [5, 7, 8, 9, 10, 11, 12, 23, 24, 25] (KQ.seq P E rpicture_31 Q))) ∧
  (vcW P E rpicture_29 Q st = vcW P E rpicture_30 (KQ.blk 3 Q) st) ∧
  (vcW P E rpicture_27 Q st = vcW P E rpicture_29 (KQ.seq P E rpicture_28 Q) st) ∧
  (vcW P E rpicture_41 Q st = cndW P E (ev st (.t 31)) .skip (.exit 2) Q st) ∧
  (vcW P E rpicture_40 Q st = aopsW P rpicture_40o st (KS.reg [5, 7, 8, 9, 10, 11, 23, 24, 25, 31] (KQ.seq P E rpicture_41 Q))) ∧
  (vcW P E rpicture_26 Q st = vcW P E rpicture_40 (KQ.seq P E rpicture_27 Q) st) ∧
  (vcW P E rpicture_25 Q st = vcW P E rpicture_L2 (KQ.blk 2 Q) st) ∧
  (vcW P E rpicture_24 Q st = aopsW P rpicture_24o st (KS.reg [5, 7, 8, 9, 10, 11, 23, 24, 25] (KQ.seq P E rpicture_25 Q))) ∧
  (vcW P E rpicture_15 Q st = vcW P E rpicture_24 (KQ.seq P E rpicture_16 Q) st) ∧
  (vcW P E rpicture_14 Q st = aopsW P rpicture_14o st (KS.reg [5, 7, 8, 9, 10, 23, 24, 25] (KQ.seq P E rpicture_15 Q))) ∧
  (vcW P E rpicture_13 Q st = aopsW P rpicture_13o st (KS.reg [5, 7, 8, 9, 23, 24, 25] (KQ.seq P E rpicture_14 Q))) ∧
  (vcW P E rpicture_12 Q st = vcW P E rpicture_13 (KQ.blk 1 Q) st) ∧
  (vcW P E rpicture_10 Q st = vcW P E rpicture_12 (KQ.seq P E rpicture_11 Q) st) ∧
  (vcW P E rpicture_42 Q st = cndW P E (ev st (.t 26)) .skip (.exit 0) Q st) ∧
  (vcW P E rpicture_9 Q st = vcW P E rpicture_42 (KQ.seq P E rpicture_10 Q) st) ∧
  (vcW P E rpicture_8 Q st = aopsW P rpicture_8o st (KS.reg [5, 7, 23, 24, 25, 26] (KQ.seq P E rpicture_9 Q))) ∧
  (vcW P E rpicture_7 Q st = vcW P E rpicture_L0 (KQ.blk 0 Q) st) ∧
  (vcW P E rpicture_6 Q st = aopsW P rpicture_6o st (KS.reg [5, 7, 23, 24, 25] (KQ.seq P E rpicture_7 Q))) ∧
  (vcW P E rpicture_4 Q st = vcW P E rpicture_6 (KQ.seq P E rpicture_5 Q) st) ∧
  (vcW P E rpicture_3 Q st = aopsW P rpicture_3o st (KS.reg [4, 5, 7] (KQ.seq P E rpicture_4 Q))) ∧
  (vcW P E rpicture_45 Q st = aopsW P rpicture_45o st (KS.reg [2, 3] (KQ.seq P E .ret Q))) ∧
  (vcW P E rpicture_44 Q st = cndW P E (ev st (.t 20)) rpicture_45 .skip Q st) ∧
  (vcW P E rpicture_43 Q st = aopsW P rpicture_43o st (KS.reg [4, 5, 6, 20] (KQ.seq P E rpicture_44 Q))) ∧
  (vcW P E rpicture_2 Q st = vcW P E rpicture_43 (KQ.seq P E rpicture_3 Q) st) ∧
  (vcW P E rpicture_1 Q st = aopsW P rpicture_1o st (KS.reg [4, 5, 6] (KQ.seq P E rpicture_2 Q))) ∧
  (vcW P E rpicture_0 Q st = aopsW P rpicture_0o st (KS.reg [0] (KQ.seq P E rpicture_1 Q))) ∧
  (vcW P E rpicture Q st = vcW P E rpicture_0 Q st) :=
  ⟨rfl, rfl, rfl, rfl, rfl, vcW_cond, rfl, rfl, rfl, rfl, rfl, rfl, rfl, vcW_cond, rfl, rfl, rfl, vcW_cond, rfl, rfl, rfl, rfl, vcW_cond, rfl, rfl, rfl, rfl, rfl, rfl, rfl, rfl, rfl, vcW_cond, rfl, rfl, rfl, rfl, rfl, rfl, rfl, vcW_cond, rfl, rfl, rfl, rfl, rfl⟩
theorem rpicture_jn (P : Program) (E : Env) (Q : KQ) (st : St) :
  (vcW P E rpicture_31 Q st = vcW P E rpicture_37 (KQ.seq P E (.mid rpicture_32) Q) st) :=
  rfl
attribute [go_sem] rpicture_vc rpicture_5o rpicture_11o rpicture_17o rpicture_21o rpicture_22o rpicture_28o rpicture_33o rpicture_36o rpicture_34o rpicture_39o rpicture_37o rpicture_30o rpicture_40o rpicture_24o rpicture_14o rpicture_13o rpicture_8o rpicture_6o rpicture_3o rpicture_45o rpicture_43o rpicture_1o rpicture_0o
noncomputable def rpictureB : Code := (Tryd.f11.body).getD .skip
theorem rpicture_eq : trCode Tryd.prog 86 11000 rpictureB = rpicture.erase 11000 := by kernel_rfl
theorem rpicture_body : Tryd.f11.body = some rpictureB := by kernel_rfl
theorem rpicture_n : Tryd.f11.ntmps = 86 := by kernel_rfl
theorem rpicture_r : Tryd.f11.results.toList = [.tmp 2, .tmp 3] := by kernel_rfl
theorem rpicture_spec {h : HP} {a0 : AV} {Post : HP → AV → List AV → Prop} (hp : ∀ (E : Env) (R : HP → AV → List AV → Prop), E.N ≤ 1000000 → PostTo Post R → vcW Tryd.prog E rpicture (KQ.post [.tmp 2, .tmp 3] 1 R) ⟨[(0, a0)], h⟩) : Eng.Spec Tryd.prog 11 h [a0] Post := spec_wk (
  spec_of (c := rpicture.erase 11000) (B := 11000) Tryd.func11 rpicture_body (by rw [rpicture_n, rpicture_eq]) (by rw [rpicture_n]; decide) (by rw [rpicture_n]; exact (by decide : 1 ≤ 86)) (fun E hE hB => by
    have hN : E.N ≤ 1000000 := by
      rw [hE, rpicture_n]; decide
    rw [rpicture_r, ← hB]
    exact awp_slots [(0, a0)] ⟨rfl, trivial⟩ (vcW_sound hN _ (hp E _ hN fin_self))))
/- cartulary/cartularyref07.Same -/
def same_3o : List ROp := [.v 4 (.mov (.c (.bool true)))]
def same_3 : AK := .seq (.reg same_3o [4]) .ret
def same_9o : List ROp := [.v 25 (.bin .add (.t 13) (.c (.int .i64 1))),
   .v 13 (.mov (.t 25))]
def same_9 : AK := .reg same_9o [0, 1, 12, 13]
def same_14o : List ROp := [.v 4 (.mov (.c (.bool false)))]
def same_14 : AK := .seq (.reg same_14o [4]) .ret
def same_13 : AK := .cond (.t 24) same_14 .skip
def same_12o : List ROp := [.val 16 true 12016 (.mov (.t 0)),
   .val 17 true 12017 (.mov (.t 5)),
   .val 18 true 12018 (.idxA 1 (.t 16) (.t 17)),
   .val 19 true 12019 (.ld false 1 (.t 18)),
   .val 20 true 12020 (.mov (.t 1)),
   .val 21 true 12021 (.mov (.t 5)),
   .val 22 true 12022 (.idxA 1 (.t 20) (.t 21)),
   .val 23 true 12023 (.ld false 1 (.t 22)),
   .val 24 true 12024 (.bin .neq (.t 19) (.t 23))]
def same_12 : AK := .seq (.reg same_12o [0, 1, 12, 13, 24]) same_13
def same_11o : List ROp := [.v 15 (.mov (.t 13)),
   .v 5 (.mov (.t 15))]
def same_11 : AK := .seq (.reg same_11o [0, 1, 5, 12, 13]) same_12
def same_10 : AK := .block 1 same_11
def same_8 : AK := .seq same_10 same_9
def same_15 : AK := .cond (.t 14) .skip (.exit 0)
def same_7 : AK := .seq same_15 same_8
def same_6o : List ROp := [.v 14 (.bin .lss (.t 13) (.t 12))]
def same_6 : AK := .seq (.reg same_6o [0, 1, 12, 13, 14]) same_7
def same_L0 : AK := .loop same_6
def same_5 : AK := .block 0 same_L0
def same_4o : List ROp := [.v 11 (.mov (.t 0)),
   .v 12 (.len false (.t 11)),
   .v 13 (.mov (.c (.int .i64 0)))]
def same_4 : AK := .seq (.reg same_4o [0, 1, 12, 13]) same_5
def same_2 : AK := .seq same_4 same_3
def same_18o : List ROp := [.v 4 (.mov (.c (.bool false)))]
def same_18 : AK := .seq (.reg same_18o [4]) .ret
def same_17 : AK := .cond (.t 10) same_18 .skip
def same_16o : List ROp := [.v 6 (.mov (.t 0)),
   .v 7 (.len false (.t 6)),
   .v 8 (.mov (.t 1)),
   .v 9 (.len false (.t 8)),
   .v 10 (.bin .neq (.t 7) (.t 9))]
def same_16 : AK := .seq (.reg same_16o [0, 1, 10]) same_17
def same_1 : AK := .seq same_16 same_2
def same_0o : List ROp := [.v 4 (.mov (.c (.bool false)))]
def same_0 : AK := .seq (.reg same_0o [0, 1]) same_1
def same : AK := same_0
theorem same_vc (P : Program) (E : Env) (Q : KQ) (st : St) :
  (vcW P E same_3 Q st = aopsW P same_3o st (KS.reg [4] (KQ.seq P E .ret Q))) ∧
  (vcW P E same_9 Q st = aopsW P same_9o st (KS.reg [0, 1, 12, 13] Q)) ∧
  (vcW P E same_14 Q st = aopsW P same_14o st (KS.reg [4] (KQ.seq P E .ret Q))) ∧
  (vcW P E same_13 Q st = cndW P E (ev st (.t 24)) same_14 .skip Q st) ∧
  (vcW P E same_12 Q st = aopsW P same_12o st (KS.reg [0, 1, 12, 13, 24] (KQ.seq P E same_13 Q))) ∧
  (vcW P E same_11 Q st = aopsW P same_11o st (KS.reg [0, 1, 5, 12, 13] (KQ.seq P E same_12 Q))) ∧
  (vcW P E same_10 Q st = vcW P E same_11 (KQ.blk 1 Q) st) ∧
  (vcW P E same_8 Q st = vcW P E same_10 (KQ.seq P E same_9 Q) st) ∧
  (vcW P E same_15 Q st = cndW P E (ev st (.t 14)) .skip (.exit 0) Q st) ∧
  (vcW P E same_7 Q st = vcW P E same_15 (KQ.seq P E same_8 Q) st) ∧
  (vcW P E same_6 Q st = aopsW P same_6o st (KS.reg [0, 1, 12, 13, 14] (KQ.seq P E same_7 Q))) ∧
  (vcW P E same_5 Q st = vcW P E same_L0 (KQ.blk 0 Q) st) ∧
  (vcW P E same_4 Q st = aopsW P same_4o st (KS.reg [0, 1, 12, 13] (KQ.seq P E same_5 Q))) ∧
  (vcW P E same_2 Q st = vcW P E same_4 (KQ.seq P E same_3 Q) st) ∧
  (vcW P E same_18 Q st = aopsW P same_18o st (KS.reg [4] (KQ.seq P E .ret Q))) ∧
  (vcW P E same_17 Q st = cndW P E (ev st (.t 10)) same_18 .skip Q st) ∧
  (vcW P E same_16 Q st = aopsW P same_16o st (KS.reg [0, 1, 10] (KQ.seq P E same_17 Q))) ∧
  (vcW P E same_1 Q st = vcW P E same_16 (KQ.seq P E same_2 Q) st) ∧
  (vcW P E same_0 Q st = aopsW P same_0o st (KS.reg [0, 1] (KQ.seq P E same_1 Q))) ∧
  (vcW P E same Q st = vcW P E same_0 Q st) :=
  ⟨rfl, rfl, rfl, vcW_cond, rfl, rfl, rfl, rfl, vcW_cond, rfl, rfl, rfl, rfl, rfl, rfl, vcW_cond, rfl, rfl, rfl, rfl⟩
theorem same_jn (P : Program) (E : Env) (Q : KQ) (st : St) :
  (True) :=
  trivial
attribute [go_sem] same_vc same_3o same_9o same_14o same_12o same_11o same_6o same_4o same_18o same_16o same_0o
noncomputable def sameB : Code := (Tryd.f15.body).getD .skip
theorem same_eq : trCode Tryd.prog 26 12000 sameB = same.erase 12000 := by kernel_rfl
theorem same_body : Tryd.f15.body = some sameB := by kernel_rfl
theorem same_n : Tryd.f15.ntmps = 26 := by kernel_rfl
theorem same_r : Tryd.f15.results.toList = [.tmp 4] := by kernel_rfl
theorem same_spec {h : HP} {a0 a1 : AV} {Post : HP → AV → List AV → Prop} (hp : ∀ (E : Env) (R : HP → AV → List AV → Prop), E.N ≤ 1000000 → PostTo Post R → vcW Tryd.prog E same (KQ.post [.tmp 4] 2 R) ⟨[(0, a0), (1, a1)], h⟩) : Eng.Spec Tryd.prog 15 h [a0, a1] Post := spec_wk (
  spec_of (c := same.erase 12000) (B := 12000) Tryd.func15 same_body (by rw [same_n, same_eq]) (by rw [same_n]; decide) (by rw [same_n]; exact (by decide : 2 ≤ 26)) (fun E hE hB => by
    have hN : E.N ≤ 1000000 := by
      rw [hE, same_n]; decide
    rw [same_r, ← hB]
    exact awp_slots [(0, a0), (1, a1)] ⟨rfl, rfl, trivial⟩ (vcW_sound hN _ (hp E _ hN fin_self))))
/- cartulary/cartularylaw18.Few -/
def few_3o : List ROp := [.v 32 (.mov (.t 3)),
   .v 2 (.mov (.t 32))]
def few_3 : AK := .seq (.reg few_3o [2]) .ret
def few_8o : List ROp := [.v 15 (.mov (.t 4)),
   .v 16 (.bin .add (.t 15) (.c (.int .i64 1))),
   .v 4 (.mov (.t 16))]
def few_8 : AK := .reg few_8o [0, 3, 4]
def few_12o : List ROp := [.v 26 (.mov (.t 3)),
   .eff 27 false 13027 (.bsl 1 []),
   .v 28 (.mov (.t 5)),
   .eff 29 false 13029 (.app 1 8 (.t 27) (.t 28)),
   .eff 30 false 13030 (.bsl 1 [(.t 29)]),
   .eff 31 false 13031 (.app 1 24 (.t 26) (.t 30)),
   .v 3 (.mov (.t 31))]
def few_12 : AK := .reg few_12o [0, 3, 4]
def few_15o : List ROp := [.v 24 (.mov (.t 5)),
   .v 25 (.slcA 1 (.t 24) none (some (.c (.int .i64 60)))),
   .v 5 (.mov (.t 25))]
def few_15 : AK := .reg few_15o [0, 3, 4, 5]
def few_14 : AK := .cond (.t 23) few_15 .skip
def few_13o : List ROp := [.v 21 (.mov (.t 5)),
   .v 22 (.len false (.t 21)),
   .v 23 (.bin .gtr (.t 22) (.c (.int .i64 60)))]
def few_13 : AK := .seq (.reg few_13o [0, 3, 4, 5, 23]) few_14
def few_11 : AK := .seq few_13 (.mid few_12)
def few_10o : List ROp := [.v 17 (.mov (.t 0)),
   .v 18 (.mov (.t 4)),
   .v 19 (.idxA 1 (.t 17) (.t 18)),
   .v 20 (.ld false 1 (.t 19)),
   .v 5 (.mov (.t 20))]
def few_10 : AK := .seq (.reg few_10o [0, 3, 4, 5]) few_11
def few_9 : AK := .block 1 few_10
def few_7 : AK := .seq few_9 few_8
def few_17 : AK := .cond (.t 14) .skip (.exit 0)
def few_16o : List ROp := [.v 7 (.mov (.t 4)),
   .v 8 (.mov (.t 0)),
   .v 9 (.len false (.t 8)),
   .v 10 (.bin .lss (.t 7) (.t 9)),
   .v 11 (.mov (.t 10)),
   .gval 12 11 true false 13012 (.mov (.t 4)),
   .gval 13 11 true false 13013 (.bin .lss (.t 12) (.c (.int .i64 220))),
   .v 14 (.pick (.t 11) (.t 13) (.c (.bool false)))]
def few_16 : AK := .seq (.reg few_16o [0, 3, 4, 14]) few_17
def few_6 : AK := .seq few_16 few_7
def few_L0 : AK := .loop few_6
def few_5 : AK := .block 0 few_L0
def few_4o : List ROp := [.v 4 (.mov (.c (.int .i64 0)))]
def few_4 : AK := .seq (.reg few_4o [0, 3, 4]) few_5
def few_2 : AK := .seq few_4 few_3
def few_1o : List ROp := [.eff 6 false 13006 (.bsl 1 []),
   .v 3 (.mov (.t 6))]
def few_1 : AK := .seq (.reg few_1o [0, 3]) few_2
def few_0o : List ROp := [.v 2 (.mov (.c (.nilsl)))]
def few_0 : AK := .seq (.reg few_0o [0]) few_1
def few : AK := few_0
theorem few_vc (P : Program) (E : Env) (Q : KQ) (st : St) :
  (vcW P E few_3 Q st = aopsW P few_3o st (KS.reg [2] (KQ.seq P E .ret Q))) ∧
  (vcW P E few_8 Q st = aopsW P few_8o st (KS.reg [0, 3, 4] Q)) ∧
  (vcW P E few_12 Q st = aopsW P few_12o st (KS.reg [0, 3, 4] Q)) ∧
  (vcW P E few_15 Q st = aopsW P few_15o st (KS.reg [0, 3, 4, 5] Q)) ∧
  (vcW P E few_14 Q st = cndW P E (ev st (.t 23)) few_15 .skip Q st) ∧
  (vcW P E few_13 Q st = aopsW P few_13o st (KS.reg [0, 3, 4, 5, 23] (KQ.seq P E few_14 Q))) ∧
  (vcW P E few_10 Q st = aopsW P few_10o st (KS.reg [0, 3, 4, 5] (KQ.seq P E few_11 Q))) ∧
  (vcW P E few_9 Q st = vcW P E few_10 (KQ.blk 1 Q) st) ∧
  (vcW P E few_7 Q st = vcW P E few_9 (KQ.seq P E few_8 Q) st) ∧
  (vcW P E few_17 Q st = cndW P E (ev st (.t 14)) .skip (.exit 0) Q st) ∧
  (vcW P E few_16 Q st = aopsW P few_16o st (KS.reg [0, 3, 4, 14] (KQ.seq P E few_17 Q))) ∧
  (vcW P E few_6 Q st = vcW P E few_16 (KQ.seq P E few_7 Q) st) ∧
  (vcW P E few_5 Q st = vcW P E few_L0 (KQ.blk 0 Q) st) ∧
  (vcW P E few_4 Q st = aopsW P few_4o st (KS.reg [0, 3, 4] (KQ.seq P E few_5 Q))) ∧
  (vcW P E few_2 Q st = vcW P E few_4 (KQ.seq P E few_3 Q) st) ∧
  (vcW P E few_1 Q st = aopsW P few_1o st (KS.reg [0, 3] (KQ.seq P E few_2 Q))) ∧
  (vcW P E few_0 Q st = aopsW P few_0o st (KS.reg [0] (KQ.seq P E few_1 Q))) ∧
  (vcW P E few Q st = vcW P E few_0 Q st) :=
  ⟨rfl, rfl, rfl, rfl, vcW_cond, rfl, rfl, rfl, rfl, vcW_cond, rfl, rfl, rfl, rfl, rfl, rfl, rfl, rfl⟩
theorem few_jn (P : Program) (E : Env) (Q : KQ) (st : St) :
  (vcW P E few_11 Q st = vcW P E few_13 (KQ.seq P E (.mid few_12) Q) st) :=
  rfl
attribute [go_sem] few_vc few_3o few_8o few_12o few_15o few_13o few_10o few_16o few_4o few_1o few_0o
noncomputable def fewB : Code := (Tryd.f7.body).getD .skip
theorem few_eq : trCode Tryd.prog 33 13000 fewB = few.erase 13000 := by kernel_rfl
theorem few_body : Tryd.f7.body = some fewB := by kernel_rfl
theorem few_n : Tryd.f7.ntmps = 33 := by kernel_rfl
theorem few_r : Tryd.f7.results.toList = [.tmp 2] := by kernel_rfl
theorem few_spec {h : HP} {a0 : AV} {Post : HP → AV → List AV → Prop} (hp : ∀ (E : Env) (R : HP → AV → List AV → Prop), E.N ≤ 1000000 → PostTo Post R → vcW Tryd.prog E few (KQ.post [.tmp 2] 1 R) ⟨[(0, a0)], h⟩) : Eng.Spec Tryd.prog 7 h [a0] Post := spec_wk (
  spec_of (c := few.erase 13000) (B := 13000) Tryd.func7 few_body (by rw [few_n, few_eq]) (by rw [few_n]; decide) (by rw [few_n]; exact (by decide : 1 ≤ 33)) (fun E hE hB => by
    have hN : E.N ≤ 1000000 := by
      rw [hE, few_n]; decide
    rw [few_r, ← hB]
    exact awp_slots [(0, a0)] ⟨rfl, trivial⟩ (vcW_sound hN _ (hp E _ hN fin_self))))
/- cartulary/cartularylaw18.awake -/
def awake_2o : List ROp := [.v 11 (.mov (.t 2)),
   .v 12 (.bin .eql (.t 11) (.c (.int .i64 0))),
   .v 13 (.mov (.t 12)),
   .gval 14 13 true false 14014 (.mov (.t 1)),
   .geff (some 15) 13 true false 14015 (.bsl 1 [(.c (.str [42])), (.c (.str [42, 124])), (.c (.str [124, 42])), (.c (.str [42]))]),
   .gcal 16 13 true false 14016 15 [(.t 14), (.t 15)],
   .v 17 (.pick (.t 13) (.t 16) (.c (.bool false))),
   .v 0 (.mov (.t 17))]
def awake_2 : AK := .seq (.reg awake_2o [0]) .ret
def awake_1o : List ROp := [.eff 4 false 14004 (.bsl 1 [(.c (.int .i64 1)), (.c (.int .i64 2))]),
   .eff 5 false 14005 (.bsl 1 [(.c (.int .i64 3))]),
   .eff 6 false 14006 (.bsl 1 [(.c (.int .i64 3))]),
   .eff 7 false 14007 (.bsl 1 [(.t 4), (.t 5), (.t 6), (.c (.nilsl))]),
   .cal (some 8) false 14008 10 [(.t 7)],
   .v 3 (.mov (.t 8)),
   .v 9 (.ext (.t 3) 0),
   .v 10 (.ext (.t 3) 1),
   .v 1 (.mov (.t 9)),
   .v 2 (.mov (.t 10))]
def awake_1 : AK := .seq (.reg awake_1o [1, 2]) awake_2
def awake_0o : List ROp := [.v 0 (.mov (.c (.bool false)))]
def awake_0 : AK := .seq (.reg awake_0o []) awake_1
def awake : AK := awake_0
theorem awake_vc (P : Program) (E : Env) (Q : KQ) (st : St) :
  (vcW P E awake_2 Q st = aopsW P awake_2o st (KS.reg [0] (KQ.seq P E .ret Q))) ∧
  (vcW P E awake_1 Q st = aopsW P awake_1o st (KS.reg [1, 2] (KQ.seq P E awake_2 Q))) ∧
  (vcW P E awake_0 Q st = aopsW P awake_0o st (KS.reg [] (KQ.seq P E awake_1 Q))) ∧
  (vcW P E awake Q st = vcW P E awake_0 Q st) :=
  ⟨rfl, rfl, rfl, rfl⟩
theorem awake_jn (P : Program) (E : Env) (Q : KQ) (st : St) :
  (True) :=
  trivial
attribute [go_sem] awake_vc awake_2o awake_1o awake_0o
noncomputable def awakeB : Code := (Tryd.f12.body).getD .skip
theorem awake_eq : trCode Tryd.prog 18 14000 awakeB = awake.erase 14000 := by kernel_rfl
theorem awake_body : Tryd.f12.body = some awakeB := by kernel_rfl
theorem awake_n : Tryd.f12.ntmps = 18 := by kernel_rfl
theorem awake_r : Tryd.f12.results.toList = [.tmp 0] := by kernel_rfl
theorem awake_spec {h : HP} {Post : HP → AV → List AV → Prop} (hp : ∀ (E : Env) (R : HP → AV → List AV → Prop), E.N ≤ 1000000 → PostTo Post R → vcW Tryd.prog E awake (KQ.post [.tmp 0] 0 R) ⟨[], h⟩) : Eng.Spec Tryd.prog 12 h [] Post := spec_wk (
  spec_of (c := awake.erase 14000) (B := 14000) Tryd.func12 awake_body (by rw [awake_n, awake_eq]) (by rw [awake_n]; decide) (by rw [awake_n]; exact (by decide : 0 ≤ 18)) (fun E hE hB => by
    have hN : E.N ≤ 1000000 := by
      rw [hE, awake_n]; decide
    rw [awake_r, ← hB]
    exact awp_slots [] trivial (vcW_sound hN _ (hp E _ hN fin_self))))
/- cartulary/graph.Way -/
def way_4o : List ROp := [.v 35 (.mov (.t 5)),
   .v 4 (.mov (.t 35))]
def way_4 : AK := .seq (.reg way_4o [4]) .ret
def way_11o : List ROp := [.v 31 (.mov (.t 5)),
   .v 32 (.mov (.t 7)),
   .eff 33 false 15033 (.bsl 1 [(.t 32)]),
   .eff 34 false 15034 (.app 1 16 (.t 31) (.t 33)),
   .v 5 (.mov (.t 34))]
def way_11 : AK := .reg way_11o [1, 5, 6, 7]
def way_10o : List ROp := [.v 28 (.mov (.t 7)),
   .v 29 (.mov (.t 6)),
   .v 30 (.bin .add (.t 28) (.t 29)),
   .v 7 (.mov (.t 30))]
def way_10 : AK := .seq (.reg way_10o [1, 5, 6, 7]) way_11
def way_17o : List ROp := [.v 6 (.mov (.c (.cx .f64 13830554455654793216 0)))]
def way_17 : AK := .reg way_17o [1, 5, 6, 7]
def way_16 : AK := .cond (.t 27) way_17 .skip
def way_15o : List ROp := [.v 23 (.mov (.t 1)),
   .v 24 (.re (.t 23)),
   .v 25 (.mov (.t 7)),
   .v 26 (.re (.t 25)),
   .v 27 (.bin .lss (.t 24) (.t 26))]
def way_15 : AK := .seq (.reg way_15o [1, 5, 6, 7, 27]) way_16
def way_14o : List ROp := [.v 6 (.mov (.c (.cx .f64 4607182418800017408 0)))]
def way_14 : AK := .seq (.reg way_14o [1, 5, 6, 7]) way_15
def way_13 : AK := .cond (.t 22) way_14 .skip
def way_12o : List ROp := [.v 18 (.mov (.t 7)),
   .v 19 (.im (.t 18)),
   .v 20 (.mov (.t 1)),
   .v 21 (.im (.t 20)),
   .v 22 (.bin .eql (.t 19) (.t 21))]
def way_12 : AK := .seq (.reg way_12o [1, 5, 6, 7, 22]) way_13
def way_9 : AK := .seq way_12 (.mid way_10)
def way_8 : AK := .block 1 way_9
def way_19 : AK := .cond (.t 17) .skip (.exit 0)
def way_18o : List ROp := [.v 9 (.mov (.t 7)),
   .v 10 (.mov (.t 1)),
   .v 11 (.bin .sub (.t 9) (.t 10)),
   .cal (some 12) false 15012 23 [(.t 11)],
   .v 13 (.mov (.t 12)),
   .gval 14 13 true false 15014 (.mov (.t 5)),
   .gval 15 13 true false 15015 (.len false (.t 14)),
   .gval 16 13 true false 15016 (.bin .lss (.t 15) (.c (.int .i64 240))),
   .v 17 (.pick (.t 13) (.t 16) (.c (.bool false)))]
def way_18 : AK := .seq (.reg way_18o [1, 5, 6, 7, 17]) way_19
def way_7 : AK := .seq way_18 way_8
def way_L0 : AK := .loop way_7
def way_6 : AK := .block 0 way_L0
def way_5o : List ROp := [.v 8 (.mov (.t 0)),
   .v 7 (.mov (.t 8))]
def way_5 : AK := .seq (.reg way_5o [1, 5, 6, 7]) way_6
def way_3 : AK := .seq way_5 way_4
def way_2o : List ROp := [.v 6 (.mov (.c (.cx .f64 0 4607182418800017408)))]
def way_2 : AK := .seq (.reg way_2o [0, 1, 5, 6]) way_3
def way_1o : List ROp := [.v 5 (.mov (.c (.nilsl)))]
def way_1 : AK := .seq (.reg way_1o [0, 1, 5]) way_2
def way_0o : List ROp := [.v 4 (.mov (.c (.nilsl)))]
def way_0 : AK := .seq (.reg way_0o [0, 1]) way_1
def way : AK := way_0
theorem way_vc (P : Program) (E : Env) (Q : KQ) (st : St) :
  (vcW P E way_4 Q st = aopsW P way_4o st (KS.reg [4] (KQ.seq P E .ret Q))) ∧
  (vcW P E way_11 Q st = aopsW P way_11o st (KS.reg [1, 5, 6, 7] Q)) ∧
  (vcW P E way_10 Q st = aopsW P way_10o st (KS.reg [1, 5, 6, 7] (KQ.seq P E way_11 Q))) ∧
  (vcW P E way_17 Q st = aopsW P way_17o st (KS.reg [1, 5, 6, 7] Q)) ∧
  (vcW P E way_16 Q st = cndW P E (ev st (.t 27)) way_17 .skip Q st) ∧
  (vcW P E way_15 Q st = aopsW P way_15o st (KS.reg [1, 5, 6, 7, 27] (KQ.seq P E way_16 Q))) ∧
  (vcW P E way_14 Q st = aopsW P way_14o st (KS.reg [1, 5, 6, 7] (KQ.seq P E way_15 Q))) ∧
  (vcW P E way_13 Q st = cndW P E (ev st (.t 22)) way_14 .skip Q st) ∧
  (vcW P E way_12 Q st = aopsW P way_12o st (KS.reg [1, 5, 6, 7, 22] (KQ.seq P E way_13 Q))) ∧
  (vcW P E way_8 Q st = vcW P E way_9 (KQ.blk 1 Q) st) ∧
  (vcW P E way_19 Q st = cndW P E (ev st (.t 17)) .skip (.exit 0) Q st) ∧
  (vcW P E way_18 Q st = aopsW P way_18o st (KS.reg [1, 5, 6, 7, 17] (KQ.seq P E way_19 Q))) ∧
  (vcW P E way_7 Q st = vcW P E way_18 (KQ.seq P E way_8 Q) st) ∧
  (vcW P E way_6 Q st = vcW P E way_L0 (KQ.blk 0 Q) st) ∧
  (vcW P E way_5 Q st = aopsW P way_5o st (KS.reg [1, 5, 6, 7] (KQ.seq P E way_6 Q))) ∧
  (vcW P E way_3 Q st = vcW P E way_5 (KQ.seq P E way_4 Q) st) ∧
  (vcW P E way_2 Q st = aopsW P way_2o st (KS.reg [0, 1, 5, 6] (KQ.seq P E way_3 Q))) ∧
  (vcW P E way_1 Q st = aopsW P way_1o st (KS.reg [0, 1, 5] (KQ.seq P E way_2 Q))) ∧
  (vcW P E way_0 Q st = aopsW P way_0o st (KS.reg [0, 1] (KQ.seq P E way_1 Q))) ∧
  (vcW P E way Q st = vcW P E way_0 Q st) :=
  ⟨rfl, rfl, rfl, rfl, vcW_cond, rfl, rfl, vcW_cond, rfl, rfl, vcW_cond, rfl, rfl, rfl, rfl, rfl, rfl, rfl, rfl, rfl⟩
theorem way_jn (P : Program) (E : Env) (Q : KQ) (st : St) :
  (vcW P E way_9 Q st = vcW P E way_12 (KQ.seq P E (.mid way_10) Q) st) :=
  rfl
attribute [go_sem] way_vc way_4o way_11o way_10o way_17o way_15o way_14o way_12o way_18o way_5o way_2o way_1o way_0o
noncomputable def wayB : Code := (Tryd.f16.body).getD .skip
theorem way_eq : trCode Tryd.prog 36 15000 wayB = way.erase 15000 := by kernel_rfl
theorem way_body : Tryd.f16.body = some wayB := by kernel_rfl
theorem way_n : Tryd.f16.ntmps = 36 := by kernel_rfl
theorem way_r : Tryd.f16.results.toList = [.tmp 4] := by kernel_rfl
theorem way_spec {h : HP} {a0 a1 : AV} {Post : HP → AV → List AV → Prop} (hp : ∀ (E : Env) (R : HP → AV → List AV → Prop), E.N ≤ 1000000 → PostTo Post R → vcW Tryd.prog E way (KQ.post [.tmp 4] 2 R) ⟨[(0, a0), (1, a1)], h⟩) : Eng.Spec Tryd.prog 16 h [a0, a1] Post := spec_wk (
  spec_of (c := way.erase 15000) (B := 15000) Tryd.func16 way_body (by rw [way_n, way_eq]) (by rw [way_n]; decide) (by rw [way_n]; exact (by decide : 2 ≤ 36)) (fun E hE hB => by
    have hN : E.N ≤ 1000000 := by
      rw [hE, way_n]; decide
    rw [way_r, ← hB]
    exact awp_slots [(0, a0), (1, a1)] ⟨rfl, rfl, trivial⟩ (vcW_sound hN _ (hp E _ hN fin_self))))
/- cartulary/graph.far -/
def far_1o : List ROp := [.v 3 (.mov (.t 0)),
   .v 4 (.re (.t 3)),
   .v 5 (.mov (.t 0)),
   .v 6 (.re (.t 5)),
   .v 7 (.bin .mul (.t 4) (.t 6)),
   .v 8 (.mov (.t 0)),
   .v 9 (.im (.t 8)),
   .v 10 (.mov (.t 0)),
   .v 11 (.im (.t 10)),
   .v 12 (.bin .mul (.t 9) (.t 11)),
   .v 13 (.bin .add (.t 7) (.t 12)),
   .v 14 (.bin .gtr (.t 13) (.c (.fl .f64 4598175219545276416))),
   .v 2 (.mov (.t 14))]
def far_1 : AK := .seq (.reg far_1o [2]) .ret
def far_0o : List ROp := [.v 2 (.mov (.c (.bool false)))]
def far_0 : AK := .seq (.reg far_0o [0]) far_1
def far : AK := far_0
theorem far_vc (P : Program) (E : Env) (Q : KQ) (st : St) :
  (vcW P E far_1 Q st = aopsW P far_1o st (KS.reg [2] (KQ.seq P E .ret Q))) ∧
  (vcW P E far_0 Q st = aopsW P far_0o st (KS.reg [0] (KQ.seq P E far_1 Q))) ∧
  (vcW P E far Q st = vcW P E far_0 Q st) :=
  ⟨rfl, rfl, rfl⟩
theorem far_jn (P : Program) (E : Env) (Q : KQ) (st : St) :
  (True) :=
  trivial
attribute [go_sem] far_vc far_1o far_0o
noncomputable def farB : Code := (Tryd.f23.body).getD .skip
theorem far_eq : trCode Tryd.prog 15 16000 farB = far.erase 16000 := by kernel_rfl
theorem far_body : Tryd.f23.body = some farB := by kernel_rfl
theorem far_n : Tryd.f23.ntmps = 15 := by kernel_rfl
theorem far_r : Tryd.f23.results.toList = [.tmp 2] := by kernel_rfl
theorem far_spec {h : HP} {a0 : AV} {Post : HP → AV → List AV → Prop} (hp : ∀ (E : Env) (R : HP → AV → List AV → Prop), E.N ≤ 1000000 → PostTo Post R → vcW Tryd.prog E far (KQ.post [.tmp 2] 1 R) ⟨[(0, a0)], h⟩) : Eng.Spec Tryd.prog 23 h [a0] Post := spec_wk (
  spec_of (c := far.erase 16000) (B := 16000) Tryd.func23 far_body (by rw [far_n, far_eq]) (by rw [far_n]; decide) (by rw [far_n]; exact (by decide : 1 ≤ 15)) (fun E hE hB => by
    have hN : E.N ≤ 1000000 := by
      rw [hE, far_n]; decide
    rw [far_r, ← hB]
    exact awp_slots [(0, a0)] ⟨rfl, trivial⟩ (vcW_sound hN _ (hp E _ hN fin_self))))
/- cartulary/cartularylaw18.GraphPlaces -/
def lplaces_8o : List ROp := [.v 2 (.mov (.c (.bool true)))]
def lplaces_8 : AK := .seq (.reg lplaces_8o [2]) .ret
def lplaces_14o : List ROp := [.v 138 (.bin .add (.t 85) (.c (.int .i64 1))),
   .v 85 (.mov (.t 138))]
def lplaces_14 : AK := .reg lplaces_14o [5, 7, 8, 83, 84, 85]
def lplaces_23o : List ROp := [.v 137 (.bin .add (.t 123) (.c (.int .i64 1))),
   .v 123 (.mov (.t 137))]
def lplaces_23 : AK := .reg lplaces_23o [5, 7, 8, 14, 83, 84, 85, 121, 122, 123]
def lplaces_28o : List ROp := [.v 2 (.mov (.c (.bool false)))]
def lplaces_28 : AK := .seq (.reg lplaces_28o [2]) .ret
def lplaces_27 : AK := .cond (.t 136) lplaces_28 .skip
def lplaces_26o : List ROp := [.v 128 (.mov (.t 17)),
   .v 129 (.mov (.t 8)),
   .v 130 (.mov (.t 14)),
   .v 131 (.idxA 1 (.t 129) (.t 130)),
   .v 132 (.ld false 1 (.t 131)),
   .v 133 (.mov (.t 16)),
   .v 134 (.idxA 1 (.t 132) (.t 133)),
   .v 135 (.ld false 1 (.t 134)),
   .v 136 (.bin .neq (.t 128) (.t 135))]
def lplaces_26 : AK := .seq (.reg lplaces_26o [5, 7, 8, 14, 83, 84, 85, 121, 122, 123, 136]) lplaces_27
def lplaces_25o : List ROp := [.v 125 (.mov (.t 123)),
   .v 126 (.idxA 1 (.t 121) (.t 123)),
   .v 127 (.ld false 1 (.t 126)),
   .v 16 (.mov (.t 125)),
   .v 17 (.mov (.t 127))]
def lplaces_25 : AK := .seq (.reg lplaces_25o [5, 7, 8, 14, 16, 17, 83, 84, 85, 121, 122, 123]) lplaces_26
def lplaces_24 : AK := .block 3 lplaces_25
def lplaces_22 : AK := .seq lplaces_24 lplaces_23
def lplaces_29 : AK := .cond (.t 124) .skip (.exit 2)
def lplaces_21 : AK := .seq lplaces_29 lplaces_22
def lplaces_20o : List ROp := [.v 124 (.bin .lss (.t 123) (.t 122))]
def lplaces_20 : AK := .seq (.reg lplaces_20o [5, 7, 8, 14, 83, 84, 85, 121, 122, 123, 124]) lplaces_21
def lplaces_L1 : AK := .loop lplaces_20
def lplaces_19 : AK := .block 2 lplaces_L1
def lplaces_18o : List ROp := [.v 118 (.mov (.t 5)),
   .v 119 (.mov (.t 14)),
   .v 120 (.idxA 1 (.t 118) (.t 119)),
   .v 121 (.ld false 1 (.t 120)),
   .v 122 (.len false (.t 121)),
   .v 123 (.mov (.c (.int .i64 0)))]
def lplaces_18 : AK := .seq (.reg lplaces_18o [5, 7, 8, 14, 83, 84, 85, 121, 122, 123]) lplaces_19
def lplaces_32o : List ROp := [.v 2 (.mov (.c (.bool false)))]
def lplaces_32 : AK := .seq (.reg lplaces_32o [2]) .ret
def lplaces_31 : AK := .cond (.t 117) lplaces_32 .skip
def lplaces_30o : List ROp := [.val 90 true 20090 (.mov (.t 15)),
   .val 91 true 20091 (.re (.t 90)),
   .val 92 true 20092 (.mov (.t 7)),
   .val 93 true 20093 (.mov (.t 14)),
   .val 94 true 20094 (.idxA 1 (.t 92) (.t 93)),
   .val 95 true 20095 (.ld false 1 (.t 94)),
   .val 96 true 20096 (.cif .f64 (.t 95)),
   .val 97 true 20097 (.bin .neq (.t 91) (.t 96)),
   .val 98 true 20098 (.mov (.t 97)),
   .gval 99 98 false true 20099 (.mov (.t 15)),
   .gval 100 98 false true 20100 (.im (.t 99)),
   .gval 101 98 false true 20101 (.mov (.t 14)),
   .gval 102 98 false true 20102 (.cif .f64 (.t 101)),
   .gval 103 98 false true 20103 (.bin .neq (.t 100) (.t 102)),
   .val 104 true 20104 (.pick (.t 98) (.c (.bool true)) (.t 103)),
   .val 105 true 20105 (.mov (.t 104)),
   .gval 106 105 false true 20106 (.mov (.t 5)),
   .gval 107 105 false true 20107 (.mov (.t 14)),
   .gval 108 105 false true 20108 (.idxA 1 (.t 106) (.t 107)),
   .gval 109 105 false true 20109 (.ld false 1 (.t 108)),
   .gval 110 105 false true 20110 (.len false (.t 109)),
   .gval 111 105 false true 20111 (.mov (.t 8)),
   .gval 112 105 false true 20112 (.mov (.t 14)),
   .gval 113 105 false true 20113 (.idxA 1 (.t 111) (.t 112)),
   .gval 114 105 false true 20114 (.ld false 1 (.t 113)),
   .gval 115 105 false true 20115 (.len false (.t 114)),
   .gval 116 105 false true 20116 (.bin .neq (.t 110) (.t 115)),
   .val 117 true 20117 (.pick (.t 105) (.c (.bool true)) (.t 116))]
def lplaces_30 : AK := .seq (.reg lplaces_30o [5, 7, 8, 14, 83, 84, 85, 117]) lplaces_31
def lplaces_17 : AK := .seq lplaces_30 lplaces_18
def lplaces_16o : List ROp := [.v 87 (.mov (.t 85)),
   .v 88 (.idxA 1 (.t 83) (.t 85)),
   .v 89 (.ld false 1 (.t 88)),
   .v 14 (.mov (.t 87)),
   .v 15 (.mov (.t 89))]
def lplaces_16 : AK := .seq (.reg lplaces_16o [5, 7, 8, 14, 15, 83, 84, 85]) lplaces_17
def lplaces_15 : AK := .block 1 lplaces_16
def lplaces_13 : AK := .seq lplaces_15 lplaces_14
def lplaces_33 : AK := .cond (.t 86) .skip (.exit 0)
def lplaces_12 : AK := .seq lplaces_33 lplaces_13
def lplaces_11o : List ROp := [.v 86 (.bin .lss (.t 85) (.t 84))]
def lplaces_11 : AK := .seq (.reg lplaces_11o [5, 7, 8, 83, 84, 85, 86]) lplaces_12
def lplaces_L0 : AK := .loop lplaces_11
def lplaces_10 : AK := .block 0 lplaces_L0
def lplaces_9o : List ROp := [.v 83 (.mov (.t 4)),
   .v 84 (.len false (.t 83)),
   .v 85 (.mov (.c (.int .i64 0)))]
def lplaces_9 : AK := .seq (.reg lplaces_9o [5, 7, 8, 83, 84, 85]) lplaces_10
def lplaces_7 : AK := .seq lplaces_9 lplaces_8
def lplaces_36o : List ROp := [.v 2 (.mov (.c (.bool false)))]
def lplaces_36 : AK := .seq (.reg lplaces_36o [2]) .ret
def lplaces_35 : AK := .cond (.t 82) lplaces_36 .skip
def lplaces_34o : List ROp := [.cal (some 44) false 20044 12 [],
   .v 45 (.un .not (.t 44)),
   .v 46 (.mov (.t 45)),
   .gval 47 46 false false 20047 (.mov (.t 6)),
   .gval 48 46 false false 20048 (.mov (.t 9)),
   .gval 49 46 false false 20049 (.bin .neq (.t 47) (.t 48)),
   .v 50 (.pick (.t 46) (.c (.bool true)) (.t 49)),
   .v 51 (.mov (.t 50)),
   .gval 52 51 false false 20052 (.mov (.t 11)),
   .gval 53 51 false false 20053 (.mov (.t 13)),
   .gval 54 51 false false 20054 (.bin .neq (.t 52) (.t 53)),
   .v 55 (.pick (.t 51) (.c (.bool true)) (.t 54)),
   .v 56 (.mov (.t 55)),
   .gval 57 56 false false 20057 (.mov (.t 3)),
   .gcal 58 56 false false 20058 13 [(.t 57)],
   .gval 59 56 false false 20059 (.mov (.t 3)),
   .gcal 60 56 false false 20060 14 [(.t 59)],
   .gval 61 56 false false 20061 (.bin .neq (.t 58) (.t 60)),
   .v 62 (.pick (.t 56) (.c (.bool true)) (.t 61)),
   .v 63 (.mov (.t 62)),
   .gval 64 63 false false 20064 (.mov (.t 4)),
   .gval 65 63 false false 20065 (.len false (.t 64)),
   .gval 66 63 false false 20066 (.mov (.t 7)),
   .gval 67 63 false false 20067 (.len false (.t 66)),
   .gval 68 63 false false 20068 (.bin .neq (.t 65) (.t 67)),
   .v 69 (.pick (.t 63) (.c (.bool true)) (.t 68)),
   .v 70 (.mov (.t 69)),
   .gval 71 70 false false 20071 (.mov (.t 5)),
   .gval 72 70 false false 20072 (.len false (.t 71)),
   .gval 73 70 false false 20073 (.mov (.t 8)),
   .gval 74 70 false false 20074 (.len false (.t 73)),
   .gval 75 70 false false 20075 (.bin .neq (.t 72) (.t 74)),
   .v 76 (.pick (.t 70) (.c (.bool true)) (.t 75)),
   .v 77 (.mov (.t 76)),
   .gval 78 77 false false 20078 (.mov (.t 10)),
   .gval 79 77 false false 20079 (.mov (.t 12)),
   .gcal 80 77 false false 20080 15 [(.t 78), (.t 79)],
   .gval 81 77 false false 20081 (.un .not (.t 80)),
   .v 82 (.pick (.t 77) (.c (.bool true)) (.t 81))]
def lplaces_34 : AK := .seq (.reg lplaces_34o [4, 5, 7, 8, 82]) lplaces_35
def lplaces_6 : AK := .seq lplaces_34 lplaces_7
def lplaces_5o : List ROp := [.v 39 (.mov (.t 0)),
   .cal (some 40) false 20040 7 [(.t 39)],
   .cal (some 41) false 20041 11 [(.t 40)],
   .v 38 (.mov (.t 41)),
   .v 42 (.ext (.t 38) 0),
   .v 43 (.ext (.t 38) 1),
   .v 12 (.mov (.t 42)),
   .v 13 (.mov (.t 43))]
def lplaces_5 : AK := .seq (.reg lplaces_5o [3, 4, 5, 6, 7, 8, 9, 10, 11, 12, 13]) lplaces_6
def lplaces_4o : List ROp := [.v 34 (.mov (.t 3)),
   .cal (some 35) false 20035 10 [(.t 34)],
   .v 33 (.mov (.t 35)),
   .v 36 (.ext (.t 33) 0),
   .v 37 (.ext (.t 33) 1),
   .v 10 (.mov (.t 36)),
   .v 11 (.mov (.t 37))]
def lplaces_4 : AK := .seq (.reg lplaces_4o [0, 3, 4, 5, 6, 7, 8, 9, 10, 11]) lplaces_5
def lplaces_3o : List ROp := [.v 27 (.mov (.t 0)),
   .cal (some 28) false 20028 7 [(.t 27)],
   .cal (some 29) false 20029 9 [(.t 28)],
   .v 26 (.mov (.t 29)),
   .v 30 (.ext (.t 26) 0),
   .v 31 (.ext (.t 26) 1),
   .v 32 (.ext (.t 26) 2),
   .v 7 (.mov (.t 30)),
   .v 8 (.mov (.t 31)),
   .v 9 (.mov (.t 32))]
def lplaces_3 : AK := .seq (.reg lplaces_3o [0, 3, 4, 5, 6, 7, 8, 9]) lplaces_4
def lplaces_2o : List ROp := [.v 21 (.mov (.t 3)),
   .cal (some 22) false 20022 8 [(.t 21)],
   .v 20 (.mov (.t 22)),
   .v 23 (.ext (.t 20) 0),
   .v 24 (.ext (.t 20) 1),
   .v 25 (.ext (.t 20) 2),
   .v 4 (.mov (.t 23)),
   .v 5 (.mov (.t 24)),
   .v 6 (.mov (.t 25))]
def lplaces_2 : AK := .seq (.reg lplaces_2o [0, 3, 4, 5, 6]) lplaces_3
def lplaces_1o : List ROp := [.v 18 (.mov (.t 0)),
   .cal (some 19) false 20019 7 [(.t 18)],
   .v 3 (.mov (.t 19))]
def lplaces_1 : AK := .seq (.reg lplaces_1o [0, 3]) lplaces_2
def lplaces_0o : List ROp := [.v 2 (.mov (.c (.bool false)))]
def lplaces_0 : AK := .seq (.reg lplaces_0o [0]) lplaces_1
def lplaces : AK := lplaces_0
theorem lplaces_vc (P : Program) (E : Env) (Q : KQ) (st : St) :
  (vcW P E lplaces_8 Q st = aopsW P lplaces_8o st (KS.reg [2] (KQ.seq P E .ret Q))) ∧
  (vcW P E lplaces_14 Q st = aopsW P lplaces_14o st (KS.reg [5, 7, 8, 83, 84, 85] Q)) ∧
  (vcW P E lplaces_23 Q st = aopsW P lplaces_23o st (KS.reg [5, 7, 8, 14, 83, 84, 85, 121, 122, 123] Q)) ∧
  (vcW P E lplaces_28 Q st = aopsW P lplaces_28o st (KS.reg [2] (KQ.seq P E .ret Q))) ∧
  (vcW P E lplaces_27 Q st = cndW P E (ev st (.t 136)) lplaces_28 .skip Q st) ∧
  (vcW P E lplaces_26 Q st = aopsW P lplaces_26o st (KS.reg [5, 7, 8, 14, 83, 84, 85, 121, 122, 123, 136] (KQ.seq P E lplaces_27 Q))) ∧
  (vcW P E lplaces_25 Q st = aopsW P lplaces_25o st (KS.reg [5, 7, 8, 14, 16, 17, 83, 84, 85, 121, 122, 123] (KQ.seq P E lplaces_26 Q))) ∧
  (vcW P E lplaces_24 Q st = vcW P E lplaces_25 (KQ.blk 3 Q) st) ∧
  (vcW P E lplaces_22 Q st = vcW P E lplaces_24 (KQ.seq P E lplaces_23 Q) st) ∧
  (vcW P E lplaces_29 Q st = cndW P E (ev st (.t 124)) .skip (.exit 2) Q st) ∧
  (vcW P E lplaces_21 Q st = vcW P E lplaces_29 (KQ.seq P E lplaces_22 Q) st) ∧
  (vcW P E lplaces_20 Q st = aopsW P lplaces_20o st (KS.reg [5, 7, 8, 14, 83, 84, 85, 121, 122, 123, 124] (KQ.seq P E lplaces_21 Q))) ∧
  (vcW P E lplaces_19 Q st = vcW P E lplaces_L1 (KQ.blk 2 Q) st) ∧
  (vcW P E lplaces_18 Q st = aopsW P lplaces_18o st (KS.reg [5, 7, 8, 14, 83, 84, 85, 121, 122, 123] (KQ.seq P E lplaces_19 Q))) ∧
  (vcW P E lplaces_32 Q st = aopsW P lplaces_32o st (KS.reg [2] (KQ.seq P E .ret Q))) ∧
  (vcW P E lplaces_31 Q st = cndW P E (ev st (.t 117)) lplaces_32 .skip Q st) ∧
  (vcW P E lplaces_30 Q st = aopsW P lplaces_30o st (KS.reg [5, 7, 8, 14, 83, 84, 85, 117] (KQ.seq P E lplaces_31 Q))) ∧
  (vcW P E lplaces_17 Q st = vcW P E lplaces_30 (KQ.seq P E lplaces_18 Q) st) ∧
  (vcW P E lplaces_16 Q st = aopsW P lplaces_16o st (KS.reg [5, 7, 8, 14, 15, 83, 84, 85] (KQ.seq P E lplaces_17 Q))) ∧
  (vcW P E lplaces_15 Q st = vcW P E lplaces_16 (KQ.blk 1 Q) st) ∧
  (vcW P E lplaces_13 Q st = vcW P E lplaces_15 (KQ.seq P E lplaces_14 Q) st) ∧
  (vcW P E lplaces_33 Q st = cndW P E (ev st (.t 86)) .skip (.exit 0) Q st) ∧
  (vcW P E lplaces_12 Q st = vcW P E lplaces_33 (KQ.seq P E lplaces_13 Q) st) ∧
  (vcW P E lplaces_11 Q st = aopsW P lplaces_11o st (KS.reg [5, 7, 8, 83, 84, 85, 86] (KQ.seq P E lplaces_12 Q))) ∧
  (vcW P E lplaces_10 Q st = vcW P E lplaces_L0 (KQ.blk 0 Q) st) ∧
  (vcW P E lplaces_9 Q st = aopsW P lplaces_9o st (KS.reg [5, 7, 8, 83, 84, 85] (KQ.seq P E lplaces_10 Q))) ∧
  (vcW P E lplaces_7 Q st = vcW P E lplaces_9 (KQ.seq P E lplaces_8 Q) st) ∧
  (vcW P E lplaces_36 Q st = aopsW P lplaces_36o st (KS.reg [2] (KQ.seq P E .ret Q))) ∧
  (vcW P E lplaces_35 Q st = cndW P E (ev st (.t 82)) lplaces_36 .skip Q st) ∧
  (vcW P E lplaces_34 Q st = aopsW P lplaces_34o st (KS.reg [4, 5, 7, 8, 82] (KQ.seq P E lplaces_35 Q))) ∧
  (vcW P E lplaces_6 Q st = vcW P E lplaces_34 (KQ.seq P E lplaces_7 Q) st) ∧
  (vcW P E lplaces_5 Q st = aopsW P lplaces_5o st (KS.reg [3, 4, 5, 6, 7, 8, 9, 10, 11, 12, 13] (KQ.seq P E lplaces_6 Q))) ∧
  (vcW P E lplaces_4 Q st = aopsW P lplaces_4o st (KS.reg [0, 3, 4, 5, 6, 7, 8, 9, 10, 11] (KQ.seq P E lplaces_5 Q))) ∧
  (vcW P E lplaces_3 Q st = aopsW P lplaces_3o st (KS.reg [0, 3, 4, 5, 6, 7, 8, 9] (KQ.seq P E lplaces_4 Q))) ∧
  (vcW P E lplaces_2 Q st = aopsW P lplaces_2o st (KS.reg [0, 3, 4, 5, 6] (KQ.seq P E lplaces_3 Q))) ∧
  (vcW P E lplaces_1 Q st = aopsW P lplaces_1o st (KS.reg [0, 3] (KQ.seq P E lplaces_2 Q))) ∧
  (vcW P E lplaces_0 Q st = aopsW P lplaces_0o st (KS.reg [0] (KQ.seq P E lplaces_1 Q))) ∧
  (vcW P E lplaces Q st = vcW P E lplaces_0 Q st) :=
  ⟨rfl, rfl, rfl, rfl, vcW_cond, rfl, rfl, rfl, rfl, vcW_cond, rfl, rfl, rfl, rfl, rfl, vcW_cond, rfl, rfl, rfl, rfl, rfl, vcW_cond, rfl, rfl, rfl, rfl, rfl, rfl, vcW_cond, rfl, rfl, rfl, rfl, rfl, rfl, rfl, rfl, rfl⟩
theorem lplaces_jn (P : Program) (E : Env) (Q : KQ) (st : St) :
  (True) :=
  trivial
attribute [go_sem] lplaces_vc lplaces_8o lplaces_14o lplaces_23o lplaces_28o lplaces_26o lplaces_25o lplaces_20o lplaces_18o lplaces_32o lplaces_30o lplaces_16o lplaces_11o lplaces_9o lplaces_36o lplaces_34o lplaces_5o lplaces_4o lplaces_3o lplaces_2o lplaces_1o lplaces_0o
noncomputable def lplacesB : Code := (Tryd.f3.body).getD .skip
theorem lplaces_eq : trCode Tryd.prog 139 20000 lplacesB = lplaces.erase 20000 := by kernel_rfl
theorem lplaces_body : Tryd.f3.body = some lplacesB := by kernel_rfl
theorem lplaces_n : Tryd.f3.ntmps = 139 := by kernel_rfl
theorem lplaces_r : Tryd.f3.results.toList = [.tmp 2] := by kernel_rfl
theorem lplaces_spec {h : HP} {a0 : AV} {Post : HP → AV → List AV → Prop} (hp : ∀ (E : Env) (R : HP → AV → List AV → Prop), E.N ≤ 1000000 → PostTo Post R → vcW Tryd.prog E lplaces (KQ.post [.tmp 2] 1 R) ⟨[(0, a0)], h⟩) : Eng.Spec Tryd.prog 3 h [a0] Post := spec_wk (
  spec_of (c := lplaces.erase 20000) (B := 20000) Tryd.func3 lplaces_body (by rw [lplaces_n, lplaces_eq]) (by rw [lplaces_n]; decide) (by rw [lplaces_n]; exact (by decide : 1 ≤ 139)) (fun E hE hB => by
    have hN : E.N ≤ 1000000 := by
      rw [hE, lplaces_n]; decide
    rw [lplaces_r, ← hB]
    exact awp_slots [(0, a0)] ⟨rfl, trivial⟩ (vcW_sound hN _ (hp E _ hN fin_self))))
/- cartulary/cartularylaw18.GraphBusy -/
def lbusy_6o : List ROp := [.cal (some 118) false 21118 12 [],
   .v 2 (.mov (.t 118))]
def lbusy_6 : AK := .seq (.reg lbusy_6o [2]) .ret
def lbusy_12o : List ROp := [.v 117 (.bin .add (.t 46) (.c (.int .i64 1))),
   .v 46 (.mov (.t 117))]
def lbusy_12 : AK := .reg lbusy_12o [3, 44, 45, 46]
def lbusy_17 : AK := .cond (.t 116) (.exit 0) .skip
def lbusy_16o : List ROp := [.v 115 (.mov (.t 7)),
   .v 116 (.bin .gtr (.t 115) (.c (.int .i64 40)))]
def lbusy_16 : AK := .seq (.reg lbusy_16o [3, 44, 45, 46, 116]) lbusy_17
def lbusy_22o : List ROp := [.v 55 (.mov (.t 9)),
   .v 56 (.bin .add (.t 55) (.c (.int .i64 1))),
   .v 9 (.mov (.t 56))]
def lbusy_22 : AK := .reg lbusy_22o [3, 7, 8, 9, 44, 45, 46]
def lbusy_30o : List ROp := [.v 2 (.mov (.c (.bool false)))]
def lbusy_30 : AK := .seq (.reg lbusy_30o [2]) .ret
def lbusy_29 : AK := .cond (.t 114) lbusy_30 .skip
def lbusy_28o : List ROp := [.v 92 (.mov (.t 10)),
   .v 93 (.mov (.t 92)),
   .gval 94 93 true false 21094 (.mov (.t 9)),
   .gval 95 93 true false 21095 (.mov (.t 7)),
   .gval 96 93 true false 21096 (.bin .gtr (.t 94) (.t 95)),
   .v 97 (.pick (.t 93) (.t 96) (.c (.bool false))),
   .v 98 (.mov (.t 97)),
   .gval 99 98 true false 21099 (.mov (.t 15)),
   .gval 100 98 true false 21100 (.bin .neq (.t 99) (.c (.int .i64 1))),
   .v 101 (.pick (.t 98) (.t 100) (.c (.bool false))),
   .v 102 (.mov (.t 101)),
   .gval 103 102 false false 21103 (.mov (.t 10)),
   .gval 104 102 false false 21104 (.un .not (.t 103)),
   .gval 105 102 false false 21105 (.mov (.t 104)),
   .gval 106 105 false false 21106 (.mov (.t 9)),
   .gval 107 105 false false 21107 (.mov (.t 7)),
   .gval 108 105 false false 21108 (.bin .leq (.t 106) (.t 107)),
   .gval 109 102 false false 21109 (.pick (.t 105) (.c (.bool true)) (.t 108)),
   .gval 110 102 false false 21110 (.mov (.t 109)),
   .gval 111 110 true false 21111 (.mov (.t 15)),
   .gval 112 110 true false 21112 (.bin .neq (.t 111) (.c (.int .i64 0))),
   .gval 113 102 false false 21113 (.pick (.t 110) (.t 112) (.c (.bool false))),
   .v 114 (.pick (.t 102) (.c (.bool true)) (.t 113))]
def lbusy_28 : AK := .seq (.reg lbusy_28o [3, 7, 8, 9, 44, 45, 46, 114]) lbusy_29
def lbusy_36o : List ROp := [.v 91 (.bin .add (.t 82) (.c (.int .i64 1))),
   .v 82 (.mov (.t 91))]
def lbusy_36 : AK := .reg lbusy_36o [3, 7, 8, 9, 10, 15, 44, 45, 46, 80, 81, 82]
def lbusy_41o : List ROp := [.v 89 (.mov (.t 15)),
   .v 90 (.bin .add (.t 89) (.c (.int .i64 1))),
   .v 15 (.mov (.t 90))]
def lbusy_41 : AK := .reg lbusy_41o [3, 7, 8, 9, 10, 15, 44, 45, 46, 80, 81, 82]
def lbusy_40 : AK := .cond (.t 88) lbusy_41 .skip
def lbusy_39o : List ROp := [.v 86 (.mov (.t 17)),
   .v 87 (.mov (.t 9)),
   .v 88 (.bin .eql (.t 86) (.t 87))]
def lbusy_39 : AK := .seq (.reg lbusy_39o [3, 7, 8, 9, 10, 15, 44, 45, 46, 80, 81, 82, 88]) lbusy_40
def lbusy_38o : List ROp := [.v 84 (.idxA 1 (.t 80) (.t 82)),
   .v 85 (.ld false 1 (.t 84)),
   .v 17 (.mov (.t 85))]
def lbusy_38 : AK := .seq (.reg lbusy_38o [3, 7, 8, 9, 10, 15, 17, 44, 45, 46, 80, 81, 82]) lbusy_39
def lbusy_37 : AK := .block 9 lbusy_38
def lbusy_35 : AK := .seq lbusy_37 lbusy_36
def lbusy_42 : AK := .cond (.t 83) .skip (.exit 8)
def lbusy_34 : AK := .seq lbusy_42 lbusy_35
def lbusy_33o : List ROp := [.v 83 (.bin .lss (.t 82) (.t 81))]
def lbusy_33 : AK := .seq (.reg lbusy_33o [3, 7, 8, 9, 10, 15, 44, 45, 46, 80, 81, 82, 83]) lbusy_34
def lbusy_L2 : AK := .loop lbusy_33
def lbusy_32 : AK := .block 8 lbusy_L2
def lbusy_31o : List ROp := [.v 80 (.mov (.t 8)),
   .v 81 (.len false (.t 80)),
   .v 82 (.mov (.c (.int .i64 0)))]
def lbusy_31 : AK := .seq (.reg lbusy_31o [3, 7, 8, 9, 10, 15, 44, 45, 46, 80, 81, 82]) lbusy_32
def lbusy_27 : AK := .seq lbusy_31 lbusy_28
def lbusy_26o : List ROp := [.v 15 (.mov (.c (.int .i64 0)))]
def lbusy_26 : AK := .seq (.reg lbusy_26o [3, 7, 8, 9, 10, 15, 44, 45, 46]) lbusy_27
def lbusy_48o : List ROp := [.v 79 (.bin .add (.t 62) (.c (.int .i64 1))),
   .v 62 (.mov (.t 79))]
def lbusy_48 : AK := .reg lbusy_48o [3, 7, 8, 9, 10, 44, 45, 46, 60, 61, 62]
def lbusy_56o : List ROp := [.v 78 (.bin .add (.t 68) (.c (.int .i64 1))),
   .v 68 (.mov (.t 78))]
def lbusy_56 : AK := .reg lbusy_56o [3, 7, 8, 9, 10, 44, 45, 46, 60, 61, 62, 66, 67, 68]
def lbusy_59o : List ROp := [.v 72 (.mov (.t 10)),
   .v 73 (.mov (.t 72)),
   .gval 74 73 false false 21074 (.mov (.t 14)),
   .gval 75 73 false false 21075 (.mov (.t 9)),
   .gval 76 73 false false 21076 (.bin .eql (.t 74) (.t 75)),
   .v 77 (.pick (.t 73) (.c (.bool true)) (.t 76)),
   .v 10 (.mov (.t 77))]
def lbusy_59 : AK := .reg lbusy_59o [3, 7, 8, 9, 10, 44, 45, 46, 60, 61, 62, 66, 67, 68]
def lbusy_58o : List ROp := [.v 70 (.idxA 1 (.t 66) (.t 68)),
   .v 71 (.ld false 1 (.t 70)),
   .v 14 (.mov (.t 71))]
def lbusy_58 : AK := .seq (.reg lbusy_58o [3, 7, 8, 9, 10, 14, 44, 45, 46, 60, 61, 62, 66, 67, 68]) lbusy_59
def lbusy_57 : AK := .block 7 lbusy_58
def lbusy_55 : AK := .seq lbusy_57 lbusy_56
def lbusy_60 : AK := .cond (.t 69) .skip (.exit 6)
def lbusy_54 : AK := .seq lbusy_60 lbusy_55
def lbusy_53o : List ROp := [.v 69 (.bin .lss (.t 68) (.t 67))]
def lbusy_53 : AK := .seq (.reg lbusy_53o [3, 7, 8, 9, 10, 44, 45, 46, 60, 61, 62, 66, 67, 68, 69]) lbusy_54
def lbusy_L4 : AK := .loop lbusy_53
def lbusy_52 : AK := .block 6 lbusy_L4
def lbusy_51o : List ROp := [.v 66 (.mov (.t 12)),
   .v 67 (.len false (.t 66)),
   .v 68 (.mov (.c (.int .i64 0)))]
def lbusy_51 : AK := .seq (.reg lbusy_51o [3, 7, 8, 9, 10, 44, 45, 46, 60, 61, 62, 66, 67, 68]) lbusy_52
def lbusy_50o : List ROp := [.v 64 (.idxA 1 (.t 60) (.t 62)),
   .v 65 (.ld false 1 (.t 64)),
   .v 12 (.mov (.t 65))]
def lbusy_50 : AK := .seq (.reg lbusy_50o [3, 7, 8, 9, 10, 12, 44, 45, 46, 60, 61, 62]) lbusy_51
def lbusy_49 : AK := .block 5 lbusy_50
def lbusy_47 : AK := .seq lbusy_49 lbusy_48
def lbusy_61 : AK := .cond (.t 63) .skip (.exit 4)
def lbusy_46 : AK := .seq lbusy_61 lbusy_47
def lbusy_45o : List ROp := [.v 63 (.bin .lss (.t 62) (.t 61))]
def lbusy_45 : AK := .seq (.reg lbusy_45o [3, 7, 8, 9, 10, 44, 45, 46, 60, 61, 62, 63]) lbusy_46
def lbusy_L3 : AK := .loop lbusy_45
def lbusy_44 : AK := .block 4 lbusy_L3
def lbusy_43o : List ROp := [.v 57 (.mov (.t 3)),
   .v 58 (.mov (.t 7)),
   .v 59 (.bin .add (.t 58) (.c (.int .i64 1))),
   .v 60 (.slcA 1 (.t 57) none (some (.t 59))),
   .v 61 (.len false (.t 60)),
   .v 62 (.mov (.c (.int .i64 0)))]
def lbusy_43 : AK := .seq (.reg lbusy_43o [3, 7, 8, 9, 10, 44, 45, 46, 60, 61, 62]) lbusy_44
def lbusy_25 : AK := .seq lbusy_43 lbusy_26
def lbusy_24o : List ROp := [.v 10 (.mov (.c (.bool false)))]
def lbusy_24 : AK := .seq (.reg lbusy_24o [3, 7, 8, 9, 10, 44, 45, 46]) lbusy_25
def lbusy_23 : AK := .block 3 lbusy_24
def lbusy_21 : AK := .seq lbusy_23 lbusy_22
def lbusy_63 : AK := .cond (.t 54) .skip (.exit 2)
def lbusy_62o : List ROp := [.v 51 (.mov (.t 9)),
   .v 52 (.mov (.t 3)),
   .v 53 (.len false (.t 52)),
   .v 54 (.bin .lss (.t 51) (.t 53))]
def lbusy_62 : AK := .seq (.reg lbusy_62o [3, 7, 8, 9, 44, 45, 46, 54]) lbusy_63
def lbusy_20 : AK := .seq lbusy_62 lbusy_21
def lbusy_L1 : AK := .loop lbusy_20
def lbusy_19 : AK := .block 2 lbusy_L1
def lbusy_18o : List ROp := [.v 9 (.mov (.c (.int .i64 0)))]
def lbusy_18 : AK := .seq (.reg lbusy_18o [3, 7, 8, 9, 44, 45, 46]) lbusy_19
def lbusy_15 : AK := .seq lbusy_18 lbusy_16
def lbusy_14o : List ROp := [.v 48 (.mov (.t 46)),
   .v 49 (.idxA 1 (.t 44) (.t 46)),
   .v 50 (.ld false 1 (.t 49)),
   .v 7 (.mov (.t 48)),
   .v 8 (.mov (.t 50))]
def lbusy_14 : AK := .seq (.reg lbusy_14o [3, 7, 8, 44, 45, 46]) lbusy_15
def lbusy_13 : AK := .block 1 lbusy_14
def lbusy_11 : AK := .seq lbusy_13 lbusy_12
def lbusy_64 : AK := .cond (.t 47) .skip (.exit 0)
def lbusy_10 : AK := .seq lbusy_64 lbusy_11
def lbusy_9o : List ROp := [.v 47 (.bin .lss (.t 46) (.t 45))]
def lbusy_9 : AK := .seq (.reg lbusy_9o [3, 44, 45, 46, 47]) lbusy_10
def lbusy_L0 : AK := .loop lbusy_9
def lbusy_8 : AK := .block 0 lbusy_L0
def lbusy_7o : List ROp := [.v 44 (.mov (.t 5)),
   .v 45 (.len false (.t 44)),
   .v 46 (.mov (.c (.int .i64 0)))]
def lbusy_7 : AK := .seq (.reg lbusy_7o [3, 44, 45, 46]) lbusy_8
def lbusy_5 : AK := .seq lbusy_7 lbusy_6
def lbusy_67o : List ROp := [.v 2 (.mov (.c (.bool false)))]
def lbusy_67 : AK := .seq (.reg lbusy_67o [2]) .ret
def lbusy_66 : AK := .cond (.t 43) lbusy_67 .skip
def lbusy_65o : List ROp := [.v 39 (.mov (.t 5)),
   .v 40 (.len false (.t 39)),
   .v 41 (.mov (.t 3)),
   .v 42 (.len false (.t 41)),
   .v 43 (.bin .neq (.t 40) (.t 42))]
def lbusy_65 : AK := .seq (.reg lbusy_65o [3, 5, 43]) lbusy_66
def lbusy_4 : AK := .seq lbusy_65 lbusy_5
def lbusy_70o : List ROp := [.cal (some 28) false 21028 12 [],
   .v 29 (.mov (.t 28)),
   .gval 30 29 true false 21030 (.mov (.t 4)),
   .gval 31 29 true false 21031 (.len false (.t 30)),
   .gval 32 29 true false 21032 (.bin .eql (.t 31) (.c (.int .i64 0))),
   .v 33 (.pick (.t 29) (.t 32) (.c (.bool false))),
   .v 34 (.mov (.t 33)),
   .gval 35 34 true false 21035 (.mov (.t 5)),
   .gval 36 34 true false 21036 (.len false (.t 35)),
   .gval 37 34 true false 21037 (.bin .eql (.t 36) (.c (.int .i64 0))),
   .v 38 (.pick (.t 34) (.t 37) (.c (.bool false))),
   .v 2 (.mov (.t 38))]
def lbusy_70 : AK := .seq (.reg lbusy_70o [2]) .ret
def lbusy_69 : AK := .cond (.t 27) lbusy_70 .skip
def lbusy_68o : List ROp := [.v 26 (.mov (.t 6)),
   .v 27 (.bin .neq (.t 26) (.c (.int .i64 0)))]
def lbusy_68 : AK := .seq (.reg lbusy_68o [3, 4, 5, 27]) lbusy_69
def lbusy_3 : AK := .seq lbusy_68 lbusy_4
def lbusy_2o : List ROp := [.v 21 (.mov (.t 3)),
   .cal (some 22) false 21022 8 [(.t 21)],
   .v 20 (.mov (.t 22)),
   .v 23 (.ext (.t 20) 0),
   .v 24 (.ext (.t 20) 1),
   .v 25 (.ext (.t 20) 2),
   .v 4 (.mov (.t 23)),
   .v 5 (.mov (.t 24)),
   .v 6 (.mov (.t 25))]
def lbusy_2 : AK := .seq (.reg lbusy_2o [3, 4, 5, 6]) lbusy_3
def lbusy_1o : List ROp := [.v 18 (.mov (.t 0)),
   .cal (some 19) false 21019 7 [(.t 18)],
   .v 3 (.mov (.t 19))]
def lbusy_1 : AK := .seq (.reg lbusy_1o [3]) lbusy_2
def lbusy_0o : List ROp := [.v 2 (.mov (.c (.bool false)))]
def lbusy_0 : AK := .seq (.reg lbusy_0o [0]) lbusy_1
def lbusy : AK := lbusy_0
theorem lbusy_vc (P : Program) (E : Env) (Q : KQ) (st : St) :
  (vcW P E lbusy_6 Q st = aopsW P lbusy_6o st (KS.reg [2] (KQ.seq P E .ret Q))) ∧
  (vcW P E lbusy_12 Q st = aopsW P lbusy_12o st (KS.reg [3, 44, 45, 46] Q)) ∧
  (vcW P E lbusy_17 Q st = cndW P E (ev st (.t 116)) (.exit 0) .skip Q st) ∧
  (vcW P E lbusy_16 Q st = aopsW P lbusy_16o st (KS.reg [3, 44, 45, 46, 116] (KQ.seq P E lbusy_17 Q))) ∧
  (vcW P E lbusy_22 Q st = aopsW P lbusy_22o st (KS.reg [3, 7, 8, 9, 44, 45, 46] Q)) ∧
  (vcW P E lbusy_30 Q st = aopsW P lbusy_30o st (KS.reg [2] (KQ.seq P E .ret Q))) ∧
  (vcW P E lbusy_29 Q st = cndW P E (ev st (.t 114)) lbusy_30 .skip Q st) ∧
  (vcW P E lbusy_28 Q st = aopsW P lbusy_28o st (KS.reg [3, 7, 8, 9, 44, 45, 46, 114] (KQ.seq P E lbusy_29 Q))) ∧
  (vcW P E lbusy_36 Q st = aopsW P lbusy_36o st (KS.reg [3, 7, 8, 9, 10, 15, 44, 45, 46, 80, 81, 82] Q)) ∧
  (vcW P E lbusy_41 Q st = aopsW P lbusy_41o st (KS.reg [3, 7, 8, 9, 10, 15, 44, 45, 46, 80, 81, 82] Q)) ∧
  (vcW P E lbusy_40 Q st = cndW P E (ev st (.t 88)) lbusy_41 .skip Q st) ∧
  (vcW P E lbusy_39 Q st = aopsW P lbusy_39o st (KS.reg [3, 7, 8, 9, 10, 15, 44, 45, 46, 80, 81, 82, 88] (KQ.seq P E lbusy_40 Q))) ∧
  (vcW P E lbusy_38 Q st = aopsW P lbusy_38o st (KS.reg [3, 7, 8, 9, 10, 15, 17, 44, 45, 46, 80, 81, 82] (KQ.seq P E lbusy_39 Q))) ∧
  (vcW P E lbusy_37 Q st = vcW P E lbusy_38 (KQ.blk 9 Q) st) ∧
  (vcW P E lbusy_35 Q st = vcW P E lbusy_37 (KQ.seq P E lbusy_36 Q) st) ∧
  (vcW P E lbusy_42 Q st = cndW P E (ev st (.t 83)) .skip (.exit 8) Q st) ∧
  (vcW P E lbusy_34 Q st = vcW P E lbusy_42 (KQ.seq P E lbusy_35 Q) st) ∧
  (vcW P E lbusy_33 Q st = aopsW P lbusy_33o st (KS.reg [3, 7, 8, 9, 10, 15, 44, 45, 46, 80, 81, 82, 83] (KQ.seq P E lbusy_34 Q))) ∧
  (vcW P E lbusy_32 Q st = vcW P E lbusy_L2 (KQ.blk 8 Q) st) ∧
  (vcW P E lbusy_31 Q st = aopsW P lbusy_31o st (KS.reg [3, 7, 8, 9, 10, 15, 44, 45, 46, 80, 81, 82] (KQ.seq P E lbusy_32 Q))) ∧
  (vcW P E lbusy_27 Q st = vcW P E lbusy_31 (KQ.seq P E lbusy_28 Q) st) ∧
  (vcW P E lbusy_26 Q st = aopsW P lbusy_26o st (KS.reg [3, 7, 8, 9, 10, 15, 44, 45, 46] (KQ.seq P E lbusy_27 Q))) ∧
  (vcW P E lbusy_48 Q st = aopsW P lbusy_48o st (KS.reg [3, 7, 8, 9, 10, 44, 45, 46, 60, 61, 62] Q)) ∧
  (vcW P E lbusy_56 Q st = aopsW P lbusy_56o st (KS.reg [3, 7, 8, 9, 10, 44, 45, 46, 60, 61, 62, 66, 67, 68] Q)) ∧
  (vcW P E lbusy_59 Q st = aopsW P lbusy_59o st (KS.reg [3, 7, 8, 9, 10, 44, 45, 46, 60, 61, 62, 66, 67, 68] Q)) ∧
  (vcW P E lbusy_58 Q st = aopsW P lbusy_58o st (KS.reg [3, 7, 8, 9, 10, 14, 44, 45, 46, 60, 61, 62, 66, 67, 68] (KQ.seq P E lbusy_59 Q))) ∧
  (vcW P E lbusy_57 Q st = vcW P E lbusy_58 (KQ.blk 7 Q) st) ∧
  (vcW P E lbusy_55 Q st = vcW P E lbusy_57 (KQ.seq P E lbusy_56 Q) st) ∧
  (vcW P E lbusy_60 Q st = cndW P E (ev st (.t 69)) .skip (.exit 6) Q st) ∧
  (vcW P E lbusy_54 Q st = vcW P E lbusy_60 (KQ.seq P E lbusy_55 Q) st) ∧
  (vcW P E lbusy_53 Q st = aopsW P lbusy_53o st (KS.reg [3, 7, 8, 9, 10, 44, 45, 46, 60, 61, 62, 66, 67, 68, 69] (KQ.seq P E lbusy_54 Q))) ∧
  (vcW P E lbusy_52 Q st = vcW P E lbusy_L4 (KQ.blk 6 Q) st) ∧
  (vcW P E lbusy_51 Q st = aopsW P lbusy_51o st (KS.reg [3, 7, 8, 9, 10, 44, 45, 46, 60, 61, 62, 66, 67, 68] (KQ.seq P E lbusy_52 Q))) ∧
  (vcW P E lbusy_50 Q st = aopsW P lbusy_50o st (KS.reg [3, 7, 8, 9, 10, 12, 44, 45, 46, 60, 61, 62] (KQ.seq P E lbusy_51 Q))) ∧
  (vcW P E lbusy_49 Q st = vcW P E lbusy_50 (KQ.blk 5 Q) st) ∧
  (vcW P E lbusy_47 Q st = vcW P E lbusy_49 (KQ.seq P E lbusy_48 Q) st) ∧
  (vcW P E lbusy_61 Q st = cndW P E (ev st (.t 63)) .skip (.exit 4) Q st) ∧
  (vcW P E lbusy_46 Q st = vcW P E lbusy_61 (KQ.seq P E lbusy_47 Q) st) ∧
  (vcW P E lbusy_45 Q st = aopsW P lbusy_45o st (KS.reg [3, 7, 8, 9, 10, 44, 45, 46, 60, 61, 62, 63] (KQ.seq P E lbusy_46 Q))) ∧
  (vcW P E lbusy_44 Q st = vcW P E lbusy_L3 (KQ.blk 4 Q) st) ∧
  (vcW P E lbusy_43 Q st = aopsW P lbusy_43o st (KS.reg [3, 7, 8, 9, 10, 44, 45, 46, 60, 61, 62] (KQ.seq P E lbusy_44 Q))) ∧
  (vcW P E lbusy_25 Q st = vcW P E lbusy_43 (KQ.seq P E lbusy_26 Q) st) ∧
  (vcW P E lbusy_24 Q st = aopsW P lbusy_24o st (KS.reg [3, 7, 8, 9, 10, 44, 45, 46] (KQ.seq P E lbusy_25 Q))) ∧
  (vcW P E lbusy_23 Q st = vcW P E lbusy_24 (KQ.blk 3 Q) st) ∧
  (vcW P E lbusy_21 Q st = vcW P E lbusy_23 (KQ.seq P E lbusy_22 Q) st) ∧
  (vcW P E lbusy_63 Q st = cndW P E (ev st (.t 54)) .skip (.exit 2) Q st) ∧
  (vcW P E lbusy_62 Q st = aopsW P lbusy_62o st (KS.reg [3, 7, 8, 9, 44, 45, 46, 54] (KQ.seq P E lbusy_63 Q))) ∧
  (vcW P E lbusy_20 Q st = vcW P E lbusy_62 (KQ.seq P E lbusy_21 Q) st) ∧
  (vcW P E lbusy_19 Q st = vcW P E lbusy_L1 (KQ.blk 2 Q) st) ∧
  (vcW P E lbusy_18 Q st = aopsW P lbusy_18o st (KS.reg [3, 7, 8, 9, 44, 45, 46] (KQ.seq P E lbusy_19 Q))) ∧
  (vcW P E lbusy_15 Q st = vcW P E lbusy_18 (KQ.seq P E lbusy_16 Q) st) ∧
  (vcW P E lbusy_14 Q st = aopsW P lbusy_14o st (KS.reg [3, 7, 8, 44, 45, 46] (KQ.seq P E lbusy_15 Q))) ∧
  (vcW P E lbusy_13 Q st = vcW P E lbusy_14 (KQ.blk 1 Q) st) ∧
  (vcW P E lbusy_11 Q st = vcW P E lbusy_13 (KQ.seq P E lbusy_12 Q) st) ∧
  (vcW P E lbusy_64 Q st = cndW P E (ev st (.t 47)) .skip (.exit 0) Q st) ∧
  (vcW P E lbusy_10 Q st = vcW P E lbusy_64 (KQ.seq P E lbusy_11 Q) st) ∧
  (vcW P E lbusy_9 Q st = aopsW P lbusy_9o st (KS.reg [3, 44, 45, 46, 47] (KQ.seq P E lbusy_10 Q))) ∧
  (vcW P E lbusy_8 Q st = vcW P E lbusy_L0 (KQ.blk 0 Q) st) ∧
  (vcW P E lbusy_7 Q st = aopsW P lbusy_7o st (KS.reg [3, 44, 45, 46] (KQ.seq P E lbusy_8 Q))) ∧
  (vcW P E lbusy_5 Q st = vcW P E lbusy_7 (KQ.seq P E lbusy_6 Q) st) ∧
  (vcW P E lbusy_67 Q st = aopsW P lbusy_67o st (KS.reg [2] (KQ.seq P E .ret Q))) ∧
  (vcW P E lbusy_66 Q st = cndW P E (ev st (.t 43)) lbusy_67 .skip Q st) ∧
  (vcW P E lbusy_65 Q st = aopsW P lbusy_65o st (KS.reg [3, 5, 43] (KQ.seq P E lbusy_66 Q))) ∧
  (vcW P E lbusy_4 Q st = vcW P E lbusy_65 (KQ.seq P E lbusy_5 Q) st) ∧
  (vcW P E lbusy_70 Q st = aopsW P lbusy_70o st (KS.reg [2] (KQ.seq P E .ret Q))) ∧
  (vcW P E lbusy_69 Q st = cndW P E (ev st (.t 27)) lbusy_70 .skip Q st) ∧
  (vcW P E lbusy_68 Q st = aopsW P lbusy_68o st (KS.reg [3, 4, 5, 27] (KQ.seq P E lbusy_69 Q))) ∧
  (vcW P E lbusy_3 Q st = vcW P E lbusy_68 (KQ.seq P E lbusy_4 Q) st) ∧
  (vcW P E lbusy_2 Q st = aopsW P lbusy_2o st (KS.reg [3, 4, 5, 6] (KQ.seq P E lbusy_3 Q))) ∧
  (vcW P E lbusy_1 Q st = aopsW P lbusy_1o st (KS.reg [3] (KQ.seq P E lbusy_2 Q))) ∧
  (vcW P E lbusy_0 Q st = aopsW P lbusy_0o st (KS.reg [0] (KQ.seq P E lbusy_1 Q))) ∧
  (vcW P E lbusy Q st = vcW P E lbusy_0 Q st) :=
  ⟨rfl, rfl, vcW_cond, rfl, rfl, rfl, vcW_cond, rfl, rfl, rfl, vcW_cond, rfl, rfl, rfl, rfl, vcW_cond, rfl, rfl, rfl, rfl, rfl, rfl, rfl, rfl, rfl, rfl, rfl, rfl, vcW_cond, rfl, rfl, rfl, rfl, rfl, rfl, rfl, vcW_cond, rfl, rfl, rfl, rfl, rfl, rfl, rfl, rfl, vcW_cond, rfl, rfl, rfl, rfl, rfl, rfl, rfl, rfl, vcW_cond, rfl, rfl, rfl, rfl, rfl, rfl, vcW_cond, rfl, rfl, rfl, vcW_cond, rfl, rfl, rfl, rfl, rfl, rfl⟩
theorem lbusy_jn (P : Program) (E : Env) (Q : KQ) (st : St) :
  (True) :=
  trivial
attribute [go_sem] lbusy_vc lbusy_6o lbusy_12o lbusy_16o lbusy_22o lbusy_30o lbusy_28o lbusy_36o lbusy_41o lbusy_39o lbusy_38o lbusy_33o lbusy_31o lbusy_26o lbusy_48o lbusy_56o lbusy_59o lbusy_58o lbusy_53o lbusy_51o lbusy_50o lbusy_45o lbusy_43o lbusy_24o lbusy_62o lbusy_18o lbusy_14o lbusy_9o lbusy_7o lbusy_67o lbusy_65o lbusy_70o lbusy_68o lbusy_2o lbusy_1o lbusy_0o
noncomputable def lbusyB : Code := (Tryd.f4.body).getD .skip
theorem lbusy_eq : trCode Tryd.prog 119 21000 lbusyB = lbusy.erase 21000 := by kernel_rfl
theorem lbusy_body : Tryd.f4.body = some lbusyB := by kernel_rfl
theorem lbusy_n : Tryd.f4.ntmps = 119 := by kernel_rfl
theorem lbusy_r : Tryd.f4.results.toList = [.tmp 2] := by kernel_rfl
theorem lbusy_spec {h : HP} {a0 : AV} {Post : HP → AV → List AV → Prop} (hp : ∀ (E : Env) (R : HP → AV → List AV → Prop), E.N ≤ 1000000 → PostTo Post R → vcW Tryd.prog E lbusy (KQ.post [.tmp 2] 1 R) ⟨[(0, a0)], h⟩) : Eng.Spec Tryd.prog 4 h [a0] Post := spec_wk (
  spec_of (c := lbusy.erase 21000) (B := 21000) Tryd.func4 lbusy_body (by rw [lbusy_n, lbusy_eq]) (by rw [lbusy_n]; decide) (by rw [lbusy_n]; exact (by decide : 1 ≤ 119)) (fun E hE hB => by
    have hN : E.N ≤ 1000000 := by
      rw [hE, lbusy_n]; decide
    rw [lbusy_r, ← hB]
    exact awp_slots [(0, a0)] ⟨rfl, trivial⟩ (vcW_sound hN _ (hp E _ hN fin_self))))
/- cartulary/cartularylaw18.GraphWays -/
def lways_7o : List ROp := [.cal (some 98) false 22098 12 [],
   .v 99 (.mov (.t 98)),
   .gval 100 99 true false 22100 (.mov (.t 0)),
   .gval 101 99 true false 22101 (.mov (.t 2)),
   .gval 102 99 true false 22102 (.bin .eql (.t 100) (.t 101)),
   .v 103 (.pick (.t 99) (.t 102) (.c (.bool false))),
   .v 104 (.mov (.t 103)),
   .gval 105 104 true false 22105 (.mov (.t 1)),
   .gval 106 104 true false 22106 (.mov (.t 3)),
   .gval 107 104 true false 22107 (.bin .eql (.t 105) (.t 106)),
   .v 108 (.pick (.t 104) (.t 107) (.c (.bool false))),
   .v 8 (.mov (.t 108))]
def lways_7 : AK := .seq (.reg lways_7o [8]) .ret
def lways_13o : List ROp := [.v 97 (.bin .add (.t 69) (.c (.int .i64 1))),
   .v 69 (.mov (.t 97))]
def lways_13 : AK := .reg lways_13o [0, 1, 2, 3, 67, 68, 69]
def lways_19o : List ROp := [.v 8 (.mov (.c (.bool false)))]
def lways_19 : AK := .seq (.reg lways_19o [8]) .ret
def lways_18 : AK := .cond (.t 96) lways_19 .skip
def lways_17o : List ROp := [.v 85 (.mov (.t 12)),
   .v 86 (.re (.t 85)),
   .v 87 (.mov (.t 0)),
   .v 88 (.cif .f64 (.t 87)),
   .v 89 (.bin .neq (.t 86) (.t 88)),
   .v 90 (.mov (.t 89)),
   .gval 91 90 false false 22091 (.mov (.t 12)),
   .gval 92 90 false false 22092 (.im (.t 91)),
   .gval 93 90 false false 22093 (.mov (.t 1)),
   .gval 94 90 false false 22094 (.cif .f64 (.t 93)),
   .gval 95 90 false false 22095 (.bin .neq (.t 92) (.t 94)),
   .v 96 (.pick (.t 90) (.c (.bool true)) (.t 95))]
def lways_17 : AK := .seq (.reg lways_17o [0, 1, 2, 3, 67, 68, 69, 96]) lways_18
def lways_22o : List ROp := [.v 76 (.mov (.t 1)),
   .v 77 (.bin .add (.t 76) (.c (.int .i64 1))),
   .v 1 (.mov (.t 77))]
def lways_22 : AK := .reg lways_22o [0, 1, 2, 3, 12, 67, 68, 69]
def lways_25o : List ROp := [.v 81 (.mov (.t 0)),
   .v 82 (.bin .add (.t 81) (.c (.int .i64 1))),
   .v 0 (.mov (.t 82))]
def lways_25 : AK := .reg lways_25o [0, 1, 2, 3, 12, 67, 68, 69]
def lways_26o : List ROp := [.v 83 (.mov (.t 0)),
   .v 84 (.bin .sub (.t 83) (.c (.int .i64 1))),
   .v 0 (.mov (.t 84))]
def lways_26 : AK := .reg lways_26o [0, 1, 2, 3, 12, 67, 68, 69]
def lways_24 : AK := .cond (.t 80) lways_25 lways_26
def lways_23o : List ROp := [.v 78 (.mov (.t 0)),
   .v 79 (.mov (.t 2)),
   .v 80 (.bin .lss (.t 78) (.t 79))]
def lways_23 : AK := .seq (.reg lways_23o [0, 1, 2, 3, 12, 67, 68, 69, 80]) lways_24
def lways_21 : AK := .cond (.t 75) lways_22 lways_23
def lways_20o : List ROp := [.v 73 (.mov (.t 1)),
   .v 74 (.mov (.t 3)),
   .v 75 (.bin .lss (.t 73) (.t 74))]
def lways_20 : AK := .seq (.reg lways_20o [0, 1, 2, 3, 12, 67, 68, 69, 75]) lways_21
def lways_16 : AK := .seq lways_20 (.mid lways_17)
def lways_15o : List ROp := [.v 71 (.idxA 1 (.t 67) (.t 69)),
   .v 72 (.ld false 1 (.t 71)),
   .v 12 (.mov (.t 72))]
def lways_15 : AK := .seq (.reg lways_15o [0, 1, 2, 3, 12, 67, 68, 69]) lways_16
def lways_14 : AK := .block 1 lways_15
def lways_12 : AK := .seq lways_14 lways_13
def lways_27 : AK := .cond (.t 70) .skip (.exit 0)
def lways_11 : AK := .seq lways_27 lways_12
def lways_10o : List ROp := [.v 70 (.bin .lss (.t 69) (.t 68))]
def lways_10 : AK := .seq (.reg lways_10o [0, 1, 2, 3, 67, 68, 69, 70]) lways_11
def lways_L0 : AK := .loop lways_10
def lways_9 : AK := .block 0 lways_L0
def lways_8o : List ROp := [.v 67 (.mov (.t 9)),
   .v 68 (.len false (.t 67)),
   .v 69 (.mov (.c (.int .i64 0)))]
def lways_8 : AK := .seq (.reg lways_8o [0, 1, 2, 3, 67, 68, 69]) lways_9
def lways_6 : AK := .seq lways_8 lways_7
def lways_30o : List ROp := [.v 8 (.mov (.c (.bool false)))]
def lways_30 : AK := .seq (.reg lways_30o [8]) .ret
def lways_29 : AK := .cond (.t 66) lways_30 .skip
def lways_28o : List ROp := [.v 59 (.mov (.t 9)),
   .v 60 (.len false (.t 59)),
   .v 61 (.mov (.t 3)),
   .v 62 (.mov (.t 1)),
   .v 63 (.bin .sub (.t 61) (.t 62)),
   .v 64 (.mov (.t 10)),
   .v 65 (.bin .add (.t 63) (.t 64)),
   .v 66 (.bin .neq (.t 60) (.t 65))]
def lways_28 : AK := .seq (.reg lways_28o [0, 1, 2, 3, 9, 66]) lways_29
def lways_5 : AK := .seq lways_28 lways_6
def lways_33o : List ROp := [.v 57 (.mov (.t 10)),
   .v 58 (.un .neg (.t 57)),
   .v 10 (.mov (.t 58))]
def lways_33 : AK := .reg lways_33o [0, 1, 2, 3, 9, 10]
def lways_32 : AK := .cond (.t 56) lways_33 .skip
def lways_31o : List ROp := [.v 55 (.mov (.t 10)),
   .v 56 (.bin .lss (.t 55) (.c (.int .i64 0)))]
def lways_31 : AK := .seq (.reg lways_31o [0, 1, 2, 3, 9, 10, 56]) lways_32
def lways_4 : AK := .seq lways_31 (.mid lways_5)
def lways_3o : List ROp := [.v 52 (.mov (.t 2)),
   .v 53 (.mov (.t 0)),
   .v 54 (.bin .sub (.t 52) (.t 53)),
   .v 10 (.mov (.t 54))]
def lways_3 : AK := .seq (.reg lways_3o [0, 1, 2, 3, 9, 10]) lways_4
def lways_2o : List ROp := [.v 41 (.mov (.t 0)),
   .v 42 (.cif .f64 (.t 41)),
   .v 43 (.mov (.t 1)),
   .v 44 (.cif .f64 (.t 43)),
   .v 45 (.cplx (.t 42) (.t 44)),
   .v 46 (.mov (.t 2)),
   .v 47 (.cif .f64 (.t 46)),
   .v 48 (.mov (.t 3)),
   .v 49 (.cif .f64 (.t 48)),
   .v 50 (.cplx (.t 47) (.t 49)),
   .cal (some 51) false 22051 16 [(.t 45), (.t 50)],
   .v 9 (.mov (.t 51))]
def lways_2 : AK := .seq (.reg lways_2o [0, 1, 2, 3, 9]) lways_3
def lways_36o : List ROp := [.cal (some 40) false 22040 12 [],
   .v 8 (.mov (.t 40))]
def lways_36 : AK := .seq (.reg lways_36o [8]) .ret
def lways_35 : AK := .cond (.t 39) lways_36 .skip
def lways_34o : List ROp := [.v 13 (.mov (.t 0)),
   .v 14 (.bin .lss (.t 13) (.c (.int .i64 0))),
   .v 15 (.mov (.t 14)),
   .gval 16 15 false false 22016 (.mov (.t 0)),
   .gval 17 15 false false 22017 (.bin .gtr (.t 16) (.c (.int .i64 40))),
   .v 18 (.pick (.t 15) (.c (.bool true)) (.t 17)),
   .v 19 (.mov (.t 18)),
   .gval 20 19 false false 22020 (.mov (.t 2)),
   .gval 21 19 false false 22021 (.bin .lss (.t 20) (.c (.int .i64 0))),
   .v 22 (.pick (.t 19) (.c (.bool true)) (.t 21)),
   .v 23 (.mov (.t 22)),
   .gval 24 23 false false 22024 (.mov (.t 2)),
   .gval 25 23 false false 22025 (.bin .gtr (.t 24) (.c (.int .i64 40))),
   .v 26 (.pick (.t 23) (.c (.bool true)) (.t 25)),
   .v 27 (.mov (.t 26)),
   .gval 28 27 false false 22028 (.mov (.t 1)),
   .gval 29 27 false false 22029 (.bin .lss (.t 28) (.c (.int .i64 0))),
   .v 30 (.pick (.t 27) (.c (.bool true)) (.t 29)),
   .v 31 (.mov (.t 30)),
   .gval 32 31 false false 22032 (.mov (.t 3)),
   .gval 33 31 false false 22033 (.bin .gtr (.t 32) (.c (.int .i64 200))),
   .v 34 (.pick (.t 31) (.c (.bool true)) (.t 33)),
   .v 35 (.mov (.t 34)),
   .gval 36 35 false false 22036 (.mov (.t 1)),
   .gval 37 35 false false 22037 (.mov (.t 3)),
   .gval 38 35 false false 22038 (.bin .gtr (.t 36) (.t 37)),
   .v 39 (.pick (.t 35) (.c (.bool true)) (.t 38))]
def lways_34 : AK := .seq (.reg lways_34o [0, 1, 2, 3, 39]) lways_35
def lways_1 : AK := .seq lways_34 lways_2
def lways_0o : List ROp := [.v 8 (.mov (.c (.bool false)))]
def lways_0 : AK := .seq (.reg lways_0o [0, 1, 2, 3]) lways_1
def lways : AK := lways_0
theorem lways_vc (P : Program) (E : Env) (Q : KQ) (st : St) :
  (vcW P E lways_7 Q st = aopsW P lways_7o st (KS.reg [8] (KQ.seq P E .ret Q))) ∧
  (vcW P E lways_13 Q st = aopsW P lways_13o st (KS.reg [0, 1, 2, 3, 67, 68, 69] Q)) ∧
  (vcW P E lways_19 Q st = aopsW P lways_19o st (KS.reg [8] (KQ.seq P E .ret Q))) ∧
  (vcW P E lways_18 Q st = cndW P E (ev st (.t 96)) lways_19 .skip Q st) ∧
  (vcW P E lways_17 Q st = aopsW P lways_17o st (KS.reg [0, 1, 2, 3, 67, 68, 69, 96] (KQ.seq P E lways_18 Q))) ∧
  (vcW P E lways_22 Q st = aopsW P lways_22o st (KS.reg [0, 1, 2, 3, 12, 67, 68, 69] Q)) ∧
  (vcW P E lways_25 Q st = aopsW P lways_25o st (KS.reg [0, 1, 2, 3, 12, 67, 68, 69] Q)) ∧
  (vcW P E lways_26 Q st = aopsW P lways_26o st (KS.reg [0, 1, 2, 3, 12, 67, 68, 69] Q)) ∧
  (vcW P E lways_24 Q st = cndW P E (ev st (.t 80)) lways_25 lways_26 Q st) ∧
  (vcW P E lways_23 Q st = aopsW P lways_23o st (KS.reg [0, 1, 2, 3, 12, 67, 68, 69, 80] (KQ.seq P E lways_24 Q))) ∧
  (vcW P E lways_21 Q st = cndW P E (ev st (.t 75)) lways_22 lways_23 Q st) ∧
  (vcW P E lways_20 Q st = aopsW P lways_20o st (KS.reg [0, 1, 2, 3, 12, 67, 68, 69, 75] (KQ.seq P E lways_21 Q))) ∧
  (vcW P E lways_15 Q st = aopsW P lways_15o st (KS.reg [0, 1, 2, 3, 12, 67, 68, 69] (KQ.seq P E lways_16 Q))) ∧
  (vcW P E lways_14 Q st = vcW P E lways_15 (KQ.blk 1 Q) st) ∧
  (vcW P E lways_12 Q st = vcW P E lways_14 (KQ.seq P E lways_13 Q) st) ∧
  (vcW P E lways_27 Q st = cndW P E (ev st (.t 70)) .skip (.exit 0) Q st) ∧
  (vcW P E lways_11 Q st = vcW P E lways_27 (KQ.seq P E lways_12 Q) st) ∧
  (vcW P E lways_10 Q st = aopsW P lways_10o st (KS.reg [0, 1, 2, 3, 67, 68, 69, 70] (KQ.seq P E lways_11 Q))) ∧
  (vcW P E lways_9 Q st = vcW P E lways_L0 (KQ.blk 0 Q) st) ∧
  (vcW P E lways_8 Q st = aopsW P lways_8o st (KS.reg [0, 1, 2, 3, 67, 68, 69] (KQ.seq P E lways_9 Q))) ∧
  (vcW P E lways_6 Q st = vcW P E lways_8 (KQ.seq P E lways_7 Q) st) ∧
  (vcW P E lways_30 Q st = aopsW P lways_30o st (KS.reg [8] (KQ.seq P E .ret Q))) ∧
  (vcW P E lways_29 Q st = cndW P E (ev st (.t 66)) lways_30 .skip Q st) ∧
  (vcW P E lways_28 Q st = aopsW P lways_28o st (KS.reg [0, 1, 2, 3, 9, 66] (KQ.seq P E lways_29 Q))) ∧
  (vcW P E lways_5 Q st = vcW P E lways_28 (KQ.seq P E lways_6 Q) st) ∧
  (vcW P E lways_33 Q st = aopsW P lways_33o st (KS.reg [0, 1, 2, 3, 9, 10] Q)) ∧
  (vcW P E lways_32 Q st = cndW P E (ev st (.t 56)) lways_33 .skip Q st) ∧
  (vcW P E lways_31 Q st = aopsW P lways_31o st (KS.reg [0, 1, 2, 3, 9, 10, 56] (KQ.seq P E lways_32 Q))) ∧
  (vcW P E lways_3 Q st = aopsW P lways_3o st (KS.reg [0, 1, 2, 3, 9, 10] (KQ.seq P E lways_4 Q))) ∧
  (vcW P E lways_2 Q st = aopsW P lways_2o st (KS.reg [0, 1, 2, 3, 9] (KQ.seq P E lways_3 Q))) ∧
  (vcW P E lways_36 Q st = aopsW P lways_36o st (KS.reg [8] (KQ.seq P E .ret Q))) ∧
  (vcW P E lways_35 Q st = cndW P E (ev st (.t 39)) lways_36 .skip Q st) ∧
  (vcW P E lways_34 Q st = aopsW P lways_34o st (KS.reg [0, 1, 2, 3, 39] (KQ.seq P E lways_35 Q))) ∧
  (vcW P E lways_1 Q st = vcW P E lways_34 (KQ.seq P E lways_2 Q) st) ∧
  (vcW P E lways_0 Q st = aopsW P lways_0o st (KS.reg [0, 1, 2, 3] (KQ.seq P E lways_1 Q))) ∧
  (vcW P E lways Q st = vcW P E lways_0 Q st) :=
  ⟨rfl, rfl, rfl, vcW_cond, rfl, rfl, rfl, rfl, vcW_cond, rfl, vcW_cond, rfl, rfl, rfl, rfl, vcW_cond, rfl, rfl, rfl, rfl, rfl, rfl, vcW_cond, rfl, rfl, rfl, vcW_cond, rfl, rfl, rfl, rfl, vcW_cond, rfl, rfl, rfl, rfl⟩
theorem lways_jn (P : Program) (E : Env) (Q : KQ) (st : St) :
  (vcW P E lways_16 Q st = vcW P E lways_20 (KQ.seq P E (.mid lways_17) Q) st) ∧
  (vcW P E lways_4 Q st = vcW P E lways_31 (KQ.seq P E (.mid lways_5) Q) st) :=
  ⟨rfl, rfl⟩
attribute [go_sem] lways_vc lways_7o lways_13o lways_19o lways_17o lways_22o lways_25o lways_26o lways_23o lways_20o lways_15o lways_10o lways_8o lways_30o lways_28o lways_33o lways_31o lways_3o lways_2o lways_36o lways_34o lways_0o
noncomputable def lwaysB : Code := (Tryd.f5.body).getD .skip
theorem lways_eq : trCode Tryd.prog 109 22000 lwaysB = lways.erase 22000 := by kernel_rfl
theorem lways_body : Tryd.f5.body = some lwaysB := by kernel_rfl
theorem lways_n : Tryd.f5.ntmps = 109 := by kernel_rfl
theorem lways_r : Tryd.f5.results.toList = [.tmp 8] := by kernel_rfl
theorem lways_spec {h : HP} {a0 a1 a2 a3 : AV} {Post : HP → AV → List AV → Prop} (hp : ∀ (E : Env) (R : HP → AV → List AV → Prop), E.N ≤ 1000000 → PostTo Post R → vcW Tryd.prog E lways (KQ.post [.tmp 8] 4 R) ⟨[(0, a0), (1, a1), (2, a2), (3, a3)], h⟩) : Eng.Spec Tryd.prog 5 h [a0, a1, a2, a3] Post := spec_wk (
  spec_of (c := lways.erase 22000) (B := 22000) Tryd.func5 lways_body (by rw [lways_n, lways_eq]) (by rw [lways_n]; decide) (by rw [lways_n]; exact (by decide : 4 ≤ 109)) (fun E hE hB => by
    have hN : E.N ≤ 1000000 := by
      rw [hE, lways_n]; decide
    rw [lways_r, ← hB]
    exact awp_slots [(0, a0), (1, a1), (2, a2), (3, a3)] ⟨rfl, rfl, rfl, rfl, trivial⟩ (vcW_sound hN _ (hp E _ hN fin_self))))
/- cartulary/cartularylaw18.GraphApart -/
def lapart_6o : List ROp := [.cal (some 97) false 23097 12 [],
   .v 2 (.mov (.t 97))]
def lapart_6 : AK := .seq (.reg lapart_6o [2]) .ret
def lapart_12o : List ROp := [.v 96 (.bin .add (.t 37) (.c (.int .i64 1))),
   .v 37 (.mov (.t 96))]
def lapart_12 : AK := .reg lapart_12o [3, 4, 35, 36, 37]
def lapart_21o : List ROp := [.v 95 (.bin .add (.t 59) (.c (.int .i64 1))),
   .v 59 (.mov (.t 95))]
def lapart_21 : AK := .reg lapart_21o [3, 4, 8, 35, 36, 37, 57, 58, 59]
def lapart_27o : List ROp := [.v 2 (.mov (.c (.bool false)))]
def lapart_27 : AK := .seq (.reg lapart_27o [2]) .ret
def lapart_26 : AK := .cond (.t 94) lapart_27 .skip
def lapart_25o : List ROp := [.val 69 true 23069 (.mov (.t 4)),
   .val 70 true 23070 (.mov (.t 12)),
   .val 71 true 23071 (.idxA 1 (.t 69) (.t 70)),
   .val 72 true 23072 (.ld false 1 (.t 71)),
   .val 73 true 23073 (.im (.t 72)),
   .val 74 true 23074 (.mov (.t 8)),
   .val 75 true 23075 (.im (.t 74)),
   .val 76 true 23076 (.bin .leq (.t 73) (.t 75)),
   .val 77 true 23077 (.mov (.t 76)),
   .gval 78 77 false true 23078 (.mov (.t 13)),
   .gval 79 77 false true 23079 (.len false (.t 78)),
   .gval 80 77 false true 23080 (.bin .eql (.t 79) (.c (.int .i64 0))),
   .val 81 true 23081 (.pick (.t 77) (.c (.bool true)) (.t 80)),
   .val 82 true 23082 (.mov (.t 81)),
   .gval 83 82 false true 23083 (.mov (.t 13)),
   .gval 84 82 false true 23084 (.mov (.t 13)),
   .gval 85 82 false true 23085 (.len false (.t 84)),
   .gval 86 82 false true 23086 (.bin .sub (.t 85) (.c (.int .i64 1))),
   .gval 87 82 false true 23087 (.idxA 1 (.t 83) (.t 86)),
   .gval 88 82 false true 23088 (.ld false 1 (.t 87)),
   .gval 89 82 false true 23089 (.mov (.t 4)),
   .gval 90 82 false true 23090 (.mov (.t 12)),
   .gval 91 82 false true 23091 (.idxA 1 (.t 89) (.t 90)),
   .gval 92 82 false true 23092 (.ld false 1 (.t 91)),
   .gval 93 82 false true 23093 (.bin .neq (.t 88) (.t 92)),
   .val 94 true 23094 (.pick (.t 82) (.c (.bool true)) (.t 93))]
def lapart_25 : AK := .seq (.reg lapart_25o [3, 4, 8, 35, 36, 37, 57, 58, 59, 94]) lapart_26
def lapart_24o : List ROp := [.v 63 (.mov (.t 8)),
   .v 64 (.mov (.t 4)),
   .v 65 (.mov (.t 12)),
   .v 66 (.idxA 1 (.t 64) (.t 65)),
   .v 67 (.ld false 1 (.t 66)),
   .cal (some 68) false 23068 16 [(.t 63), (.t 67)],
   .v 13 (.mov (.t 68))]
def lapart_24 : AK := .seq (.reg lapart_24o [3, 4, 8, 12, 13, 35, 36, 37, 57, 58, 59]) lapart_25
def lapart_23o : List ROp := [.v 61 (.idxA 1 (.t 57) (.t 59)),
   .v 62 (.ld false 1 (.t 61)),
   .v 12 (.mov (.t 62))]
def lapart_23 : AK := .seq (.reg lapart_23o [3, 4, 8, 12, 35, 36, 37, 57, 58, 59]) lapart_24
def lapart_22 : AK := .block 5 lapart_23
def lapart_20 : AK := .seq lapart_22 lapart_21
def lapart_28 : AK := .cond (.t 60) .skip (.exit 4)
def lapart_19 : AK := .seq lapart_28 lapart_20
def lapart_18o : List ROp := [.v 60 (.bin .lss (.t 59) (.t 58))]
def lapart_18 : AK := .seq (.reg lapart_18o [3, 4, 8, 35, 36, 37, 57, 58, 59, 60]) lapart_19
def lapart_L1 : AK := .loop lapart_18
def lapart_17 : AK := .block 4 lapart_L1
def lapart_16o : List ROp := [.v 54 (.mov (.t 3)),
   .v 55 (.mov (.t 7)),
   .v 56 (.idxA 1 (.t 54) (.t 55)),
   .v 57 (.ld false 1 (.t 56)),
   .v 58 (.len false (.t 57)),
   .v 59 (.mov (.c (.int .i64 0)))]
def lapart_16 : AK := .seq (.reg lapart_16o [3, 4, 8, 35, 36, 37, 57, 58, 59]) lapart_17
def lapart_34o : List ROp := [.v 53 (.bin .add (.t 46) (.c (.int .i64 1))),
   .v 46 (.mov (.t 53))]
def lapart_34 : AK := .reg lapart_34o [3, 4, 7, 8, 35, 36, 37, 44, 45, 46]
def lapart_39o : List ROp := [.v 2 (.mov (.c (.bool false)))]
def lapart_39 : AK := .seq (.reg lapart_39o [2]) .ret
def lapart_38 : AK := .cond (.t 52) lapart_39 .skip
def lapart_37o : List ROp := [.v 50 (.mov (.t 8)),
   .v 51 (.mov (.t 10)),
   .v 52 (.bin .eql (.t 50) (.t 51))]
def lapart_37 : AK := .seq (.reg lapart_37o [3, 4, 7, 8, 35, 36, 37, 44, 45, 46, 52]) lapart_38
def lapart_36o : List ROp := [.v 48 (.idxA 1 (.t 44) (.t 46)),
   .v 49 (.ld false 1 (.t 48)),
   .v 10 (.mov (.t 49))]
def lapart_36 : AK := .seq (.reg lapart_36o [3, 4, 7, 8, 10, 35, 36, 37, 44, 45, 46]) lapart_37
def lapart_35 : AK := .block 3 lapart_36
def lapart_33 : AK := .seq lapart_35 lapart_34
def lapart_40 : AK := .cond (.t 47) .skip (.exit 2)
def lapart_32 : AK := .seq lapart_40 lapart_33
def lapart_31o : List ROp := [.v 47 (.bin .lss (.t 46) (.t 45))]
def lapart_31 : AK := .seq (.reg lapart_31o [3, 4, 7, 8, 35, 36, 37, 44, 45, 46, 47]) lapart_32
def lapart_L2 : AK := .loop lapart_31
def lapart_30 : AK := .block 2 lapart_L2
def lapart_29o : List ROp := [.v 42 (.mov (.t 4)),
   .v 43 (.mov (.t 7)),
   .v 44 (.slcA 1 (.t 42) none (some (.t 43))),
   .v 45 (.len false (.t 44)),
   .v 46 (.mov (.c (.int .i64 0)))]
def lapart_29 : AK := .seq (.reg lapart_29o [3, 4, 7, 8, 35, 36, 37, 44, 45, 46]) lapart_30
def lapart_15 : AK := .seq lapart_29 lapart_16
def lapart_14o : List ROp := [.v 39 (.mov (.t 37)),
   .v 40 (.idxA 1 (.t 35) (.t 37)),
   .v 41 (.ld false 1 (.t 40)),
   .v 7 (.mov (.t 39)),
   .v 8 (.mov (.t 41))]
def lapart_14 : AK := .seq (.reg lapart_14o [3, 4, 7, 8, 35, 36, 37]) lapart_15
def lapart_13 : AK := .block 1 lapart_14
def lapart_11 : AK := .seq lapart_13 lapart_12
def lapart_41 : AK := .cond (.t 38) .skip (.exit 0)
def lapart_10 : AK := .seq lapart_41 lapart_11
def lapart_9o : List ROp := [.v 38 (.bin .lss (.t 37) (.t 36))]
def lapart_9 : AK := .seq (.reg lapart_9o [3, 4, 35, 36, 37, 38]) lapart_10
def lapart_L0 : AK := .loop lapart_9
def lapart_8 : AK := .block 0 lapart_L0
def lapart_7o : List ROp := [.v 35 (.mov (.t 4)),
   .v 36 (.len false (.t 35)),
   .v 37 (.mov (.c (.int .i64 0)))]
def lapart_7 : AK := .seq (.reg lapart_7o [3, 4, 35, 36, 37]) lapart_8
def lapart_5 : AK := .seq lapart_7 lapart_6
def lapart_44o : List ROp := [.v 2 (.mov (.c (.bool false)))]
def lapart_44 : AK := .seq (.reg lapart_44o [2]) .ret
def lapart_43 : AK := .cond (.t 34) lapart_44 .skip
def lapart_42o : List ROp := [.v 30 (.mov (.t 4)),
   .v 31 (.len false (.t 30)),
   .v 32 (.mov (.t 3)),
   .v 33 (.len false (.t 32)),
   .v 34 (.bin .neq (.t 31) (.t 33))]
def lapart_42 : AK := .seq (.reg lapart_42o [3, 4, 34]) lapart_43
def lapart_4 : AK := .seq lapart_42 lapart_5
def lapart_47o : List ROp := [.cal (some 24) false 23024 12 [],
   .v 25 (.mov (.t 24)),
   .gval 26 25 true false 23026 (.mov (.t 4)),
   .gval 27 25 true false 23027 (.len false (.t 26)),
   .gval 28 25 true false 23028 (.bin .eql (.t 27) (.c (.int .i64 0))),
   .v 29 (.pick (.t 25) (.t 28) (.c (.bool false))),
   .v 2 (.mov (.t 29))]
def lapart_47 : AK := .seq (.reg lapart_47o [2]) .ret
def lapart_46 : AK := .cond (.t 23) lapart_47 .skip
def lapart_45o : List ROp := [.v 22 (.mov (.t 6)),
   .v 23 (.bin .neq (.t 22) (.c (.int .i64 0)))]
def lapart_45 : AK := .seq (.reg lapart_45o [3, 4, 23]) lapart_46
def lapart_3 : AK := .seq lapart_45 lapart_4
def lapart_2o : List ROp := [.v 17 (.mov (.t 3)),
   .cal (some 18) false 23018 8 [(.t 17)],
   .v 16 (.mov (.t 18)),
   .v 19 (.ext (.t 16) 0),
   .v 20 (.ext (.t 16) 1),
   .v 21 (.ext (.t 16) 2),
   .v 4 (.mov (.t 19)),
   .v 5 (.mov (.t 20)),
   .v 6 (.mov (.t 21))]
def lapart_2 : AK := .seq (.reg lapart_2o [3, 4, 6]) lapart_3
def lapart_1o : List ROp := [.v 14 (.mov (.t 0)),
   .cal (some 15) false 23015 7 [(.t 14)],
   .v 3 (.mov (.t 15))]
def lapart_1 : AK := .seq (.reg lapart_1o [3]) lapart_2
def lapart_0o : List ROp := [.v 2 (.mov (.c (.bool false)))]
def lapart_0 : AK := .seq (.reg lapart_0o [0]) lapart_1
def lapart : AK := lapart_0
theorem lapart_vc (P : Program) (E : Env) (Q : KQ) (st : St) :
  (vcW P E lapart_6 Q st = aopsW P lapart_6o st (KS.reg [2] (KQ.seq P E .ret Q))) ∧
  (vcW P E lapart_12 Q st = aopsW P lapart_12o st (KS.reg [3, 4, 35, 36, 37] Q)) ∧
  (vcW P E lapart_21 Q st = aopsW P lapart_21o st (KS.reg [3, 4, 8, 35, 36, 37, 57, 58, 59] Q)) ∧
  (vcW P E lapart_27 Q st = aopsW P lapart_27o st (KS.reg [2] (KQ.seq P E .ret Q))) ∧
  (vcW P E lapart_26 Q st = cndW P E (ev st (.t 94)) lapart_27 .skip Q st) ∧
  (vcW P E lapart_25 Q st = aopsW P lapart_25o st (KS.reg [3, 4, 8, 35, 36, 37, 57, 58, 59, 94] (KQ.seq P E lapart_26 Q))) ∧
  (vcW P E lapart_24 Q st = aopsW P lapart_24o st (KS.reg [3, 4, 8, 12, 13, 35, 36, 37, 57, 58, 59] (KQ.seq P E lapart_25 Q))) ∧
  (vcW P E lapart_23 Q st = aopsW P lapart_23o st (KS.reg [3, 4, 8, 12, 35, 36, 37, 57, 58, 59] (KQ.seq P E lapart_24 Q))) ∧
  (vcW P E lapart_22 Q st = vcW P E lapart_23 (KQ.blk 5 Q) st) ∧
  (vcW P E lapart_20 Q st = vcW P E lapart_22 (KQ.seq P E lapart_21 Q) st) ∧
  (vcW P E lapart_28 Q st = cndW P E (ev st (.t 60)) .skip (.exit 4) Q st) ∧
  (vcW P E lapart_19 Q st = vcW P E lapart_28 (KQ.seq P E lapart_20 Q) st) ∧
  (vcW P E lapart_18 Q st = aopsW P lapart_18o st (KS.reg [3, 4, 8, 35, 36, 37, 57, 58, 59, 60] (KQ.seq P E lapart_19 Q))) ∧
  (vcW P E lapart_17 Q st = vcW P E lapart_L1 (KQ.blk 4 Q) st) ∧
  (vcW P E lapart_16 Q st = aopsW P lapart_16o st (KS.reg [3, 4, 8, 35, 36, 37, 57, 58, 59] (KQ.seq P E lapart_17 Q))) ∧
  (vcW P E lapart_34 Q st = aopsW P lapart_34o st (KS.reg [3, 4, 7, 8, 35, 36, 37, 44, 45, 46] Q)) ∧
  (vcW P E lapart_39 Q st = aopsW P lapart_39o st (KS.reg [2] (KQ.seq P E .ret Q))) ∧
  (vcW P E lapart_38 Q st = cndW P E (ev st (.t 52)) lapart_39 .skip Q st) ∧
  (vcW P E lapart_37 Q st = aopsW P lapart_37o st (KS.reg [3, 4, 7, 8, 35, 36, 37, 44, 45, 46, 52] (KQ.seq P E lapart_38 Q))) ∧
  (vcW P E lapart_36 Q st = aopsW P lapart_36o st (KS.reg [3, 4, 7, 8, 10, 35, 36, 37, 44, 45, 46] (KQ.seq P E lapart_37 Q))) ∧
  (vcW P E lapart_35 Q st = vcW P E lapart_36 (KQ.blk 3 Q) st) ∧
  (vcW P E lapart_33 Q st = vcW P E lapart_35 (KQ.seq P E lapart_34 Q) st) ∧
  (vcW P E lapart_40 Q st = cndW P E (ev st (.t 47)) .skip (.exit 2) Q st) ∧
  (vcW P E lapart_32 Q st = vcW P E lapart_40 (KQ.seq P E lapart_33 Q) st) ∧
  (vcW P E lapart_31 Q st = aopsW P lapart_31o st (KS.reg [3, 4, 7, 8, 35, 36, 37, 44, 45, 46, 47] (KQ.seq P E lapart_32 Q))) ∧
  (vcW P E lapart_30 Q st = vcW P E lapart_L2 (KQ.blk 2 Q) st) ∧
  (vcW P E lapart_29 Q st = aopsW P lapart_29o st (KS.reg [3, 4, 7, 8, 35, 36, 37, 44, 45, 46] (KQ.seq P E lapart_30 Q))) ∧
  (vcW P E lapart_15 Q st = vcW P E lapart_29 (KQ.seq P E lapart_16 Q) st) ∧
  (vcW P E lapart_14 Q st = aopsW P lapart_14o st (KS.reg [3, 4, 7, 8, 35, 36, 37] (KQ.seq P E lapart_15 Q))) ∧
  (vcW P E lapart_13 Q st = vcW P E lapart_14 (KQ.blk 1 Q) st) ∧
  (vcW P E lapart_11 Q st = vcW P E lapart_13 (KQ.seq P E lapart_12 Q) st) ∧
  (vcW P E lapart_41 Q st = cndW P E (ev st (.t 38)) .skip (.exit 0) Q st) ∧
  (vcW P E lapart_10 Q st = vcW P E lapart_41 (KQ.seq P E lapart_11 Q) st) ∧
  (vcW P E lapart_9 Q st = aopsW P lapart_9o st (KS.reg [3, 4, 35, 36, 37, 38] (KQ.seq P E lapart_10 Q))) ∧
  (vcW P E lapart_8 Q st = vcW P E lapart_L0 (KQ.blk 0 Q) st) ∧
  (vcW P E lapart_7 Q st = aopsW P lapart_7o st (KS.reg [3, 4, 35, 36, 37] (KQ.seq P E lapart_8 Q))) ∧
  (vcW P E lapart_5 Q st = vcW P E lapart_7 (KQ.seq P E lapart_6 Q) st) ∧
  (vcW P E lapart_44 Q st = aopsW P lapart_44o st (KS.reg [2] (KQ.seq P E .ret Q))) ∧
  (vcW P E lapart_43 Q st = cndW P E (ev st (.t 34)) lapart_44 .skip Q st) ∧
  (vcW P E lapart_42 Q st = aopsW P lapart_42o st (KS.reg [3, 4, 34] (KQ.seq P E lapart_43 Q))) ∧
  (vcW P E lapart_4 Q st = vcW P E lapart_42 (KQ.seq P E lapart_5 Q) st) ∧
  (vcW P E lapart_47 Q st = aopsW P lapart_47o st (KS.reg [2] (KQ.seq P E .ret Q))) ∧
  (vcW P E lapart_46 Q st = cndW P E (ev st (.t 23)) lapart_47 .skip Q st) ∧
  (vcW P E lapart_45 Q st = aopsW P lapart_45o st (KS.reg [3, 4, 23] (KQ.seq P E lapart_46 Q))) ∧
  (vcW P E lapart_3 Q st = vcW P E lapart_45 (KQ.seq P E lapart_4 Q) st) ∧
  (vcW P E lapart_2 Q st = aopsW P lapart_2o st (KS.reg [3, 4, 6] (KQ.seq P E lapart_3 Q))) ∧
  (vcW P E lapart_1 Q st = aopsW P lapart_1o st (KS.reg [3] (KQ.seq P E lapart_2 Q))) ∧
  (vcW P E lapart_0 Q st = aopsW P lapart_0o st (KS.reg [0] (KQ.seq P E lapart_1 Q))) ∧
  (vcW P E lapart Q st = vcW P E lapart_0 Q st) :=
  ⟨rfl, rfl, rfl, rfl, vcW_cond, rfl, rfl, rfl, rfl, rfl, vcW_cond, rfl, rfl, rfl, rfl, rfl, rfl, vcW_cond, rfl, rfl, rfl, rfl, vcW_cond, rfl, rfl, rfl, rfl, rfl, rfl, rfl, rfl, vcW_cond, rfl, rfl, rfl, rfl, rfl, rfl, vcW_cond, rfl, rfl, rfl, vcW_cond, rfl, rfl, rfl, rfl, rfl, rfl⟩
theorem lapart_jn (P : Program) (E : Env) (Q : KQ) (st : St) :
  (True) :=
  trivial
attribute [go_sem] lapart_vc lapart_6o lapart_12o lapart_21o lapart_27o lapart_25o lapart_24o lapart_23o lapart_18o lapart_16o lapart_34o lapart_39o lapart_37o lapart_36o lapart_31o lapart_29o lapart_14o lapart_9o lapart_7o lapart_44o lapart_42o lapart_47o lapart_45o lapart_2o lapart_1o lapart_0o
noncomputable def lapartB : Code := (Tryd.f6.body).getD .skip
theorem lapart_eq : trCode Tryd.prog 98 23000 lapartB = lapart.erase 23000 := by kernel_rfl
theorem lapart_body : Tryd.f6.body = some lapartB := by kernel_rfl
theorem lapart_n : Tryd.f6.ntmps = 98 := by kernel_rfl
theorem lapart_r : Tryd.f6.results.toList = [.tmp 2] := by kernel_rfl
theorem lapart_spec {h : HP} {a0 : AV} {Post : HP → AV → List AV → Prop} (hp : ∀ (E : Env) (R : HP → AV → List AV → Prop), E.N ≤ 1000000 → PostTo Post R → vcW Tryd.prog E lapart (KQ.post [.tmp 2] 1 R) ⟨[(0, a0)], h⟩) : Eng.Spec Tryd.prog 6 h [a0] Post := spec_wk (
  spec_of (c := lapart.erase 23000) (B := 23000) Tryd.func6 lapart_body (by rw [lapart_n, lapart_eq]) (by rw [lapart_n]; decide) (by rw [lapart_n]; exact (by decide : 1 ≤ 98)) (fun E hE hB => by
    have hN : E.N ≤ 1000000 := by
      rw [hE, lapart_n]; decide
    rw [lapart_r, ← hB]
    exact awp_slots [(0, a0)] ⟨rfl, trivial⟩ (vcW_sound hN _ (hp E _ hN fin_self))))
end Go.Proofs.YtkeleoneecofhaaDoor.Cod
