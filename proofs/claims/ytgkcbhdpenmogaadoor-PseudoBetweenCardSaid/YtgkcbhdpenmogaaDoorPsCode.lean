/- Code of functions as the engine reads it: written by a program (code2.py). -/
import Derived.Test.YtgkcbhdpenmogaaDoorPsSvCode
import Derived.Test.YtgkcbhdpenmogaaDoorProg
import Derived.KernelRfl
set_option linter.all false
namespace Go.Proofs.YtgkcbhdpenmogaaDoor.Cod
open Eng
set_option maxRecDepth 100000
/- cartulary/pseudo.more -/
def more_3o : List ROp := [.v 30 (.mov (.t 3)),
   .v 31 (.bts (.t 30)),
   .v 32 (.bin .add (.c (.str [49])) (.t 31)),
   .v 2 (.mov (.t 32))]
def more_3 : AK := .seq (.reg more_3o [2]) .ret
def more_8o : List ROp := [.v 12 (.mov (.t 4)),
   .v 13 (.bin .sub (.t 12) (.c (.int .i64 1))),
   .v 4 (.mov (.t 13))]
def more_8 : AK := .reg more_8o [3, 4]
def more_11o : List ROp := [.v 27 (.mov (.t 3)),
   .v 28 (.mov (.t 4)),
   .v 29 (.idxA 1 (.t 27) (.t 28)),
   .effN false 60000 (.st 1 (.t 29) (.c (.int .u8 48)))]
def more_11 : AK := .reg more_11o [3, 4]
def more_15o : List ROp := [.v 25 (.mov (.t 3)),
   .v 26 (.bts (.t 25)),
   .v 2 (.mov (.t 26))]
def more_15 : AK := .seq (.reg more_15o [2]) .ret
def more_14o : List ROp := [.v 19 (.mov (.t 3)),
   .v 20 (.mov (.t 4)),
   .v 21 (.idxA 1 (.t 19) (.t 20)),
   .v 22 (.ld false 1 (.t 21)),
   .v 23 (.bin .add (.t 22) (.c (.int .u8 1))),
   .v 24 (.idxA 1 (.t 19) (.t 20)),
   .effN false 60000 (.st 1 (.t 24) (.t 23))]
def more_14 : AK := .seq (.reg more_14o [3]) more_15
def more_13 : AK := .cond (.t 18) more_14 .skip
def more_12o : List ROp := [.v 14 (.mov (.t 3)),
   .v 15 (.mov (.t 4)),
   .v 16 (.idxA 1 (.t 14) (.t 15)),
   .v 17 (.ld false 1 (.t 16)),
   .v 18 (.bin .lss (.t 17) (.c (.int .u8 57)))]
def more_12 : AK := .seq (.reg more_12o [3, 4, 18]) more_13
def more_10 : AK := .seq more_12 more_11
def more_9 : AK := .block 1 more_10
def more_7 : AK := .seq more_9 more_8
def more_17 : AK := .cond (.t 11) .skip (.exit 0)
def more_16o : List ROp := [.v 10 (.mov (.t 4)),
   .v 11 (.bin .geq (.t 10) (.c (.int .i64 0)))]
def more_16 : AK := .seq (.reg more_16o [3, 4, 11]) more_17
def more_6 : AK := .seq more_16 more_7
def more_L0 : AK := .loop more_6
def more_5 : AK := .block 0 more_L0
def more_4o : List ROp := [.v 7 (.mov (.t 3)),
   .v 8 (.len false (.t 7)),
   .v 9 (.bin .sub (.t 8) (.c (.int .i64 1))),
   .v 4 (.mov (.t 9))]
def more_4 : AK := .seq (.reg more_4o [3, 4]) more_5
def more_2 : AK := .seq more_4 more_3
def more_1o : List ROp := [.v 5 (.mov (.t 0)),
   .eff 6 false 60006 (.stb (.t 5)),
   .v 3 (.mov (.t 6))]
def more_1 : AK := .seq (.reg more_1o [3]) more_2
def more_0o : List ROp := [.v 2 (.mov (.c (.str [])))]
def more_0 : AK := .seq (.reg more_0o [0]) more_1
def more : AK := more_0
theorem more_vc (P : Program) (E : Env) (Q : KQ) (st : St) :
  (vcW P E more_3 Q st = aopsW P more_3o st (KS.reg [2] (KQ.seq P E .ret Q))) ∧
  (vcW P E more_8 Q st = aopsW P more_8o st (KS.reg [3, 4] Q)) ∧
  (vcW P E more_11 Q st = aopsW P more_11o st (KS.reg [3, 4] Q)) ∧
  (vcW P E more_15 Q st = aopsW P more_15o st (KS.reg [2] (KQ.seq P E .ret Q))) ∧
  (vcW P E more_14 Q st = aopsW P more_14o st (KS.reg [3] (KQ.seq P E more_15 Q))) ∧
  (vcW P E more_13 Q st = cndW P E (ev st (.t 18)) more_14 .skip Q st) ∧
  (vcW P E more_12 Q st = aopsW P more_12o st (KS.reg [3, 4, 18] (KQ.seq P E more_13 Q))) ∧
  (vcW P E more_10 Q st = vcW P E more_12 (KQ.seq P E more_11 Q) st) ∧
  (vcW P E more_9 Q st = vcW P E more_10 (KQ.blk 1 Q) st) ∧
  (vcW P E more_7 Q st = vcW P E more_9 (KQ.seq P E more_8 Q) st) ∧
  (vcW P E more_17 Q st = cndW P E (ev st (.t 11)) .skip (.exit 0) Q st) ∧
  (vcW P E more_16 Q st = aopsW P more_16o st (KS.reg [3, 4, 11] (KQ.seq P E more_17 Q))) ∧
  (vcW P E more_6 Q st = vcW P E more_16 (KQ.seq P E more_7 Q) st) ∧
  (vcW P E more_5 Q st = vcW P E more_L0 (KQ.blk 0 Q) st) ∧
  (vcW P E more_4 Q st = aopsW P more_4o st (KS.reg [3, 4] (KQ.seq P E more_5 Q))) ∧
  (vcW P E more_2 Q st = vcW P E more_4 (KQ.seq P E more_3 Q) st) ∧
  (vcW P E more_1 Q st = aopsW P more_1o st (KS.reg [3] (KQ.seq P E more_2 Q))) ∧
  (vcW P E more_0 Q st = aopsW P more_0o st (KS.reg [0] (KQ.seq P E more_1 Q))) ∧
  (vcW P E more Q st = vcW P E more_0 Q st) :=
  ⟨rfl, rfl, rfl, rfl, rfl, vcW_cond, rfl, rfl, rfl, rfl, vcW_cond, rfl, rfl, rfl, rfl, rfl, rfl, rfl, rfl⟩
theorem more_jn (P : Program) (E : Env) (Q : KQ) (st : St) :
  (True) :=
  trivial
attribute [go_sem] more_vc more_3o more_8o more_11o more_15o more_14o more_12o more_16o more_4o more_1o more_0o
noncomputable def moreB : Code := (Tryd.f28.body).getD .skip
theorem more_eq : trCode Tryd.prog 33 60000 moreB = more.erase 60000 := by kernel_rfl
theorem more_body : Tryd.f28.body = some moreB := by kernel_rfl
theorem more_n : Tryd.f28.ntmps = 33 := by kernel_rfl
theorem more_r : Tryd.f28.results.toList.map (trRes Tryd.prog) = [.tmp 2] := by kernel_rfl
theorem more_spec {h : HP} {a0 : AV} {Post : HP → AV → List AV → Prop} (hp : ∀ (E : Env) (R : HP → AV → List AV → Prop), E.N ≤ 1000000 → PostTo Post R → vcW Tryd.prog E more (KQ.post [.tmp 2] 1 R) ⟨[(0, a0)], h⟩) : Eng.Spec Tryd.prog 28 h [a0] Post := spec_wk (
  spec_of (c := more.erase 60000) (B := 60000) Tryd.func28 more_body (by rw [more_n, more_eq]) (by rw [more_n]; decide) (by rw [more_n]; exact (by decide : 1 ≤ 33)) (fun E hE hB hrd => by
    have hN : E.N ≤ 1000000 := by
      rw [hE, more_n]; decide
    rw [more_r, ← hB]
    exact awp_slots [(0, a0)] ⟨rfl, trivial⟩ (vcW_sound hN _ (hp E _ hN fin_self))))
/- cartulary/pseudo.less -/
def less_7o : List ROp := [.v 39 (.mov (.t 3)),
   .v 40 (.bts (.t 39)),
   .v 2 (.mov (.t 40))]
def less_7 : AK := .seq (.reg less_7o [2]) .ret
def less_10o : List ROp := [.v 37 (.mov (.t 3)),
   .v 38 (.slcA 1 (.t 37) (some (.c (.int .i64 1))) none),
   .v 3 (.mov (.t 38))]
def less_10 : AK := .reg less_10o [3]
def less_9 : AK := .cond (.t 36) less_10 .skip
def less_8o : List ROp := [.v 28 (.mov (.t 3)),
   .v 29 (.len false (.t 28)),
   .v 30 (.bin .gtr (.t 29) (.c (.int .i64 1))),
   .v 31 (.mov (.t 30)),
   .gval 32 31 true false 61032 (.mov (.t 3)),
   .gval 33 31 true false 61033 (.idxA 1 (.t 32) (.c (.int .i64 0))),
   .gval 34 31 true false 61034 (.ld false 1 (.t 33)),
   .gval 35 31 true false 61035 (.bin .eql (.t 34) (.c (.int .u8 48))),
   .v 36 (.pick (.t 31) (.t 35) (.c (.bool false)))]
def less_8 : AK := .seq (.reg less_8o [3, 36]) less_9
def less_6 : AK := .seq less_8 less_7
def less_5o : List ROp := [.v 22 (.mov (.t 3)),
   .v 23 (.mov (.t 4)),
   .v 24 (.idxA 1 (.t 22) (.t 23)),
   .v 25 (.ld false 1 (.t 24)),
   .v 26 (.bin .sub (.t 25) (.c (.int .u8 1))),
   .v 27 (.idxA 1 (.t 22) (.t 23)),
   .effN false 61000 (.st 1 (.t 27) (.t 26))]
def less_5 : AK := .seq (.reg less_5o [3]) less_6
def less_14o : List ROp := [.v 17 (.mov (.t 4)),
   .v 18 (.bin .sub (.t 17) (.c (.int .i64 1))),
   .v 4 (.mov (.t 18))]
def less_14 : AK := .reg less_14o [3, 4]
def less_16o : List ROp := [.v 19 (.mov (.t 3)),
   .v 20 (.mov (.t 4)),
   .v 21 (.idxA 1 (.t 19) (.t 20)),
   .effN false 61000 (.st 1 (.t 21) (.c (.int .u8 57)))]
def less_16 : AK := .reg less_16o [3, 4]
def less_15 : AK := .block 1 less_16
def less_13 : AK := .seq less_15 less_14
def less_18 : AK := .cond (.t 16) .skip (.exit 0)
def less_17o : List ROp := [.v 12 (.mov (.t 3)),
   .v 13 (.mov (.t 4)),
   .v 14 (.idxA 1 (.t 12) (.t 13)),
   .v 15 (.ld false 1 (.t 14)),
   .v 16 (.bin .eql (.t 15) (.c (.int .u8 48)))]
def less_17 : AK := .seq (.reg less_17o [3, 4, 16]) less_18
def less_12 : AK := .seq less_17 less_13
def less_L0 : AK := .loop less_12
def less_11 : AK := .block 0 less_L0
def less_4 : AK := .seq less_11 less_5
def less_3o : List ROp := [.v 9 (.mov (.t 3)),
   .v 10 (.len false (.t 9)),
   .v 11 (.bin .sub (.t 10) (.c (.int .i64 1))),
   .v 4 (.mov (.t 11))]
def less_3 : AK := .seq (.reg less_3o [3, 4]) less_4
def less_2o : List ROp := [.v 7 (.mov (.t 0)),
   .eff 8 false 61008 (.stb (.t 7)),
   .v 3 (.mov (.t 8))]
def less_2 : AK := .seq (.reg less_2o [3]) less_3
def less_21o : List ROp := [.v 2 (.mov (.c (.str [])))]
def less_21 : AK := .seq (.reg less_21o [2]) .ret
def less_20 : AK := .cond (.t 6) less_21 .skip
def less_19o : List ROp := [.v 5 (.mov (.t 0)),
   .v 6 (.bin .eql (.t 5) (.c (.str [48])))]
def less_19 : AK := .seq (.reg less_19o [0, 6]) less_20
def less_1 : AK := .seq less_19 less_2
def less_0o : List ROp := [.v 2 (.mov (.c (.str [])))]
def less_0 : AK := .seq (.reg less_0o [0]) less_1
def less : AK := less_0
theorem less_vc (P : Program) (E : Env) (Q : KQ) (st : St) :
  (vcW P E less_7 Q st = aopsW P less_7o st (KS.reg [2] (KQ.seq P E .ret Q))) ∧
  (vcW P E less_10 Q st = aopsW P less_10o st (KS.reg [3] Q)) ∧
  (vcW P E less_9 Q st = cndW P E (ev st (.t 36)) less_10 .skip Q st) ∧
  (vcW P E less_8 Q st = aopsW P less_8o st (KS.reg [3, 36] (KQ.seq P E less_9 Q))) ∧
  (vcW P E less_6 Q st = vcW P E less_8 (KQ.seq P E less_7 Q) st) ∧
  (vcW P E less_5 Q st = aopsW P less_5o st (KS.reg [3] (KQ.seq P E less_6 Q))) ∧
  (vcW P E less_14 Q st = aopsW P less_14o st (KS.reg [3, 4] Q)) ∧
  (vcW P E less_16 Q st = aopsW P less_16o st (KS.reg [3, 4] Q)) ∧
  (vcW P E less_15 Q st = vcW P E less_16 (KQ.blk 1 Q) st) ∧
  (vcW P E less_13 Q st = vcW P E less_15 (KQ.seq P E less_14 Q) st) ∧
  (vcW P E less_18 Q st = cndW P E (ev st (.t 16)) .skip (.exit 0) Q st) ∧
  (vcW P E less_17 Q st = aopsW P less_17o st (KS.reg [3, 4, 16] (KQ.seq P E less_18 Q))) ∧
  (vcW P E less_12 Q st = vcW P E less_17 (KQ.seq P E less_13 Q) st) ∧
  (vcW P E less_11 Q st = vcW P E less_L0 (KQ.blk 0 Q) st) ∧
  (vcW P E less_4 Q st = vcW P E less_11 (KQ.seq P E less_5 Q) st) ∧
  (vcW P E less_3 Q st = aopsW P less_3o st (KS.reg [3, 4] (KQ.seq P E less_4 Q))) ∧
  (vcW P E less_2 Q st = aopsW P less_2o st (KS.reg [3] (KQ.seq P E less_3 Q))) ∧
  (vcW P E less_21 Q st = aopsW P less_21o st (KS.reg [2] (KQ.seq P E .ret Q))) ∧
  (vcW P E less_20 Q st = cndW P E (ev st (.t 6)) less_21 .skip Q st) ∧
  (vcW P E less_19 Q st = aopsW P less_19o st (KS.reg [0, 6] (KQ.seq P E less_20 Q))) ∧
  (vcW P E less_1 Q st = vcW P E less_19 (KQ.seq P E less_2 Q) st) ∧
  (vcW P E less_0 Q st = aopsW P less_0o st (KS.reg [0] (KQ.seq P E less_1 Q))) ∧
  (vcW P E less Q st = vcW P E less_0 Q st) :=
  ⟨rfl, rfl, vcW_cond, rfl, rfl, rfl, rfl, rfl, rfl, rfl, vcW_cond, rfl, rfl, rfl, rfl, rfl, rfl, rfl, vcW_cond, rfl, rfl, rfl, rfl⟩
theorem less_jn (P : Program) (E : Env) (Q : KQ) (st : St) :
  (True) :=
  trivial
attribute [go_sem] less_vc less_7o less_10o less_8o less_5o less_14o less_16o less_17o less_3o less_2o less_21o less_19o less_0o
noncomputable def lessB : Code := (Tryd.f19.body).getD .skip
theorem less_eq : trCode Tryd.prog 41 61000 lessB = less.erase 61000 := by kernel_rfl
theorem less_body : Tryd.f19.body = some lessB := by kernel_rfl
theorem less_n : Tryd.f19.ntmps = 41 := by kernel_rfl
theorem less_r : Tryd.f19.results.toList.map (trRes Tryd.prog) = [.tmp 2] := by kernel_rfl
theorem less_spec {h : HP} {a0 : AV} {Post : HP → AV → List AV → Prop} (hp : ∀ (E : Env) (R : HP → AV → List AV → Prop), E.N ≤ 1000000 → PostTo Post R → vcW Tryd.prog E less (KQ.post [.tmp 2] 1 R) ⟨[(0, a0)], h⟩) : Eng.Spec Tryd.prog 19 h [a0] Post := spec_wk (
  spec_of (c := less.erase 61000) (B := 61000) Tryd.func19 less_body (by rw [less_n, less_eq]) (by rw [less_n]; decide) (by rw [less_n]; exact (by decide : 1 ≤ 41)) (fun E hE hB hrd => by
    have hN : E.N ≤ 1000000 := by
      rw [hE, less_n]; decide
    rw [less_r, ← hB]
    exact awp_slots [(0, a0)] ⟨rfl, trivial⟩ (vcW_sound hN _ (hp E _ hN fin_self))))
/- cartulary/pseudo.rev -/
def prev_2o : List ROp := [.v 10 (.mov (.t 4)),
   .v 11 (.mov (.t 10)),
   .gval 12 11 true false 62012 (.mov (.t 0)),
   .gval 13 11 true false 62013 (.len true (.t 12)),
   .gval 14 11 true false 62014 (.bin .eql (.t 13) (.c (.int .i64 12))),
   .v 15 (.pick (.t 11) (.t 14) (.c (.bool false))),
   .v 2 (.mov (.t 15))]
def prev_2 : AK := .seq (.reg prev_2o [2]) .ret
def prev_1o : List ROp := [.v 6 (.mov (.t 0)),
   .cal (some 7) false 62007 40 [(.t 6)],
   .v 5 (.mov (.t 7)),
   .v 8 (.ext (.t 5) 0),
   .v 9 (.ext (.t 5) 1),
   .v 3 (.mov (.t 8)),
   .v 4 (.mov (.t 9))]
def prev_1 : AK := .seq (.reg prev_1o [0, 4]) prev_2
def prev_0o : List ROp := [.v 2 (.mov (.c (.bool false)))]
def prev_0 : AK := .seq (.reg prev_0o [0]) prev_1
def prev : AK := prev_0
theorem prev_vc (P : Program) (E : Env) (Q : KQ) (st : St) :
  (vcW P E prev_2 Q st = aopsW P prev_2o st (KS.reg [2] (KQ.seq P E .ret Q))) ∧
  (vcW P E prev_1 Q st = aopsW P prev_1o st (KS.reg [0, 4] (KQ.seq P E prev_2 Q))) ∧
  (vcW P E prev_0 Q st = aopsW P prev_0o st (KS.reg [0] (KQ.seq P E prev_1 Q))) ∧
  (vcW P E prev Q st = vcW P E prev_0 Q st) :=
  ⟨rfl, rfl, rfl, rfl⟩
theorem prev_jn (P : Program) (E : Env) (Q : KQ) (st : St) :
  (True) :=
  trivial
attribute [go_sem] prev_vc prev_2o prev_1o prev_0o
noncomputable def prevB : Code := (Tryd.f17.body).getD .skip
theorem prev_eq : trCode Tryd.prog 16 62000 prevB = prev.erase 62000 := by kernel_rfl
theorem prev_body : Tryd.f17.body = some prevB := by kernel_rfl
theorem prev_n : Tryd.f17.ntmps = 16 := by kernel_rfl
theorem prev_r : Tryd.f17.results.toList.map (trRes Tryd.prog) = [.tmp 2] := by kernel_rfl
theorem prev_spec {h : HP} {a0 : AV} {Post : HP → AV → List AV → Prop} (hp : ∀ (E : Env) (R : HP → AV → List AV → Prop), E.N ≤ 1000000 → PostTo Post R → vcW Tryd.prog E prev (KQ.post [.tmp 2] 1 R) ⟨[(0, a0)], h⟩) : Eng.Spec Tryd.prog 17 h [a0] Post := spec_wk (
  spec_of (c := prev.erase 62000) (B := 62000) Tryd.func17 prev_body (by rw [prev_n, prev_eq]) (by rw [prev_n]; decide) (by rw [prev_n]; exact (by decide : 1 ≤ 16)) (fun E hE hB hrd => by
    have hN : E.N ≤ 1000000 := by
      rw [hE, prev_n]; decide
    rw [prev_r, ← hB]
    exact awp_slots [(0, a0)] ⟨rfl, trivial⟩ (vcW_sound hN _ (hp E _ hN fin_self))))
/- cartulary/pseudo.build -/
def pbuild_2o : List ROp := [.v 6 (.fldA false 4 1 (.t 1)),
   .v 7 (.ld false 1 (.t 6)),
   .v 8 (.bin .add (.c (.str [43])) (.t 7)),
   .v 2 (.mov (.t 8))]
def pbuild_2 : AK := .seq (.reg pbuild_2o [2]) .ret
def pbuild_5o : List ROp := [.v 2 (.mov (.c (.str [])))]
def pbuild_5 : AK := .seq (.reg pbuild_5o [2]) .ret
def pbuild_4 : AK := .cond (.t 5) pbuild_5 .skip
def pbuild_3o : List ROp := [.v 3 (.fldA false 4 1 (.t 1)),
   .v 4 (.ld false 1 (.t 3)),
   .v 5 (.bin .eql (.t 4) (.c (.str [])))]
def pbuild_3 : AK := .seq (.reg pbuild_3o [1, 5]) pbuild_4
def pbuild_1 : AK := .seq pbuild_3 pbuild_2
def pbuild_0o : List ROp := [.eff 1 false 63001 (.box 6 (.t 0)),
   .v 2 (.mov (.c (.str [])))]
def pbuild_0 : AK := .seq (.reg pbuild_0o [1]) pbuild_1
def pbuild : AK := pbuild_0
theorem pbuild_vc (P : Program) (E : Env) (Q : KQ) (st : St) :
  (vcW P E pbuild_2 Q st = aopsW P pbuild_2o st (KS.reg [2] (KQ.seq P E .ret Q))) ∧
  (vcW P E pbuild_5 Q st = aopsW P pbuild_5o st (KS.reg [2] (KQ.seq P E .ret Q))) ∧
  (vcW P E pbuild_4 Q st = cndW P E (ev st (.t 5)) pbuild_5 .skip Q st) ∧
  (vcW P E pbuild_3 Q st = aopsW P pbuild_3o st (KS.reg [1, 5] (KQ.seq P E pbuild_4 Q))) ∧
  (vcW P E pbuild_1 Q st = vcW P E pbuild_3 (KQ.seq P E pbuild_2 Q) st) ∧
  (vcW P E pbuild_0 Q st = aopsW P pbuild_0o st (KS.reg [1] (KQ.seq P E pbuild_1 Q))) ∧
  (vcW P E pbuild Q st = vcW P E pbuild_0 Q st) :=
  ⟨rfl, rfl, vcW_cond, rfl, rfl, rfl, rfl⟩
theorem pbuild_jn (P : Program) (E : Env) (Q : KQ) (st : St) :
  (True) :=
  trivial
attribute [go_sem] pbuild_vc pbuild_2o pbuild_5o pbuild_3o pbuild_0o
noncomputable def pbuildB : Code := (Tryd.f20.body).getD .skip
theorem pbuild_eq : trCode Tryd.prog 9 63000 pbuildB = pbuild.erase 63000 := by kernel_rfl
theorem pbuild_body : Tryd.f20.body = some pbuildB := by kernel_rfl
theorem pbuild_n : Tryd.f20.ntmps = 9 := by kernel_rfl
theorem pbuild_r : Tryd.f20.results.toList.map (trRes Tryd.prog) = [.tmp 2] := by kernel_rfl
theorem pbuild_spec {h : HP} {a0 : AV} {Post : HP → AV → List AV → Prop} (hp : ∀ (E : Env) (R : HP → AV → List AV → Prop), E.N ≤ 1000000 → PostTo Post R → vcW Tryd.prog E pbuild (KQ.post [.tmp 2] 1 R) ⟨[(0, a0)], h⟩) : Eng.Spec Tryd.prog 20 h [a0] Post := spec_wk (
  spec_of (c := pbuild.erase 63000) (B := 63000) Tryd.func20 pbuild_body (by rw [pbuild_n, pbuild_eq]) (by rw [pbuild_n]; decide) (by rw [pbuild_n]; exact (by decide : 1 ≤ 9)) (fun E hE hB hrd => by
    have hN : E.N ≤ 1000000 := by
      rw [hE, pbuild_n]; decide
    rw [pbuild_r, ← hB]
    exact awp_slots [(0, a0)] ⟨rfl, trivial⟩ (vcW_sound hN _ (hp E _ hN fin_self))))
/- cartulary/pseudo.Make -/
def pmake_7o : List ROp := [.v 101 (.mov (.t 13)),
   .v 8 (.mov (.t 101)),
   .v 9 (.mov (.c (.int .i64 0)))]
def pmake_7 : AK := .seq (.reg pmake_7o [8, 9]) .ret
def pmake_10o : List ROp := [.v 8 (.mov (.c (.str []))),
   .v 9 (.mov (.c (.int .i64 2)))]
def pmake_10 : AK := .seq (.reg pmake_10o [8, 9]) .ret
def pmake_9 : AK := .cond (.t 100) pmake_10 .skip
def pmake_8o : List ROp := [.v 98 (.mov (.t 13)),
   .v 99 (.len true (.t 98)),
   .v 100 (.bin .gtr (.t 99) (.c (.int .i64 100)))]
def pmake_8 : AK := .seq (.reg pmake_8o [13, 100]) pmake_9
def pmake_6 : AK := .seq pmake_8 pmake_7
def pmake_14o : List ROp := [.v 51 (.mov (.t 0)),
   .v 52 (.bin .add (.t 51) (.c (.str [46, 48, 46, 48, 45]))),
   .v 53 (.mov (.t 12)),
   .v 54 (.bin .add (.t 52) (.t 53)),
   .v 13 (.mov (.t 54))]
def pmake_14 : AK := .reg pmake_14o [13]
def pmake_18o : List ROp := [.v 8 (.mov (.c (.str []))),
   .v 9 (.mov (.c (.int .i64 4)))]
def pmake_18 : AK := .seq (.reg pmake_18o [8, 9]) .ret
def pmake_17 : AK := .cond (.t 50) pmake_18 .skip
def pmake_16o : List ROp := [.v 42 (.mov (.t 15)),
   .v 43 (.un .not (.t 42)),
   .v 44 (.mov (.t 43)),
   .gval 45 44 false false 64045 (.fldA false 0 1 (.t 14)),
   .gval 46 44 false false 64046 (.ld false 1 (.t 45)),
   .gval 47 44 false false 64047 (.bin .add (.c (.str [118])) (.t 46)),
   .gval 48 44 false false 64048 (.mov (.t 0)),
   .gval 49 44 false false 64049 (.bin .neq (.t 47) (.t 48)),
   .v 50 (.pick (.t 44) (.c (.bool true)) (.t 49))]
def pmake_16 : AK := .seq (.reg pmake_16o [0, 12, 50]) pmake_17
def pmake_15o : List ROp := [.v 38 (.mov (.t 0)),
   .cal (some 39) false 64039 15 [(.t 38)],
   .v 37 (.mov (.t 39)),
   .v 40 (.ext (.t 37) 0),
   .v 41 (.ext (.t 37) 1),
   .eff 14 false 64014 (.alloc [.str [], .str [], .str [], .str [], .str [], .int .i64 0]),
   .effN false 64000 (.st 6 (.t 14) (.t 40)),
   .v 15 (.mov (.t 41))]
def pmake_15 : AK := .seq (.reg pmake_15o [0, 12, 14, 15]) pmake_16
def pmake_13 : AK := .seq pmake_15 pmake_14
def pmake_22o : List ROp := [.v 94 (.mov (.t 13)),
   .v 95 (.ld true 6 (.t 16)),
   .cal (some 96) false 64096 20 [(.t 95)],
   .v 97 (.bin .add (.t 94) (.t 96)),
   .v 13 (.mov (.t 97))]
def pmake_22 : AK := .reg pmake_22o [13]
def pmake_26o : List ROp := [.v 8 (.mov (.c (.str []))),
   .v 9 (.mov (.c (.int .i64 4)))]
def pmake_26 : AK := .seq (.reg pmake_26o [8, 9]) .ret
def pmake_29o : List ROp := [.v 83 (.mov (.t 18)),
   .v 84 (.fldA false 2 1 (.t 16)),
   .v 85 (.ld false 1 (.t 84)),
   .v 86 (.bin .add (.t 83) (.t 85)),
   .v 87 (.bin .add (.t 86) (.c (.str [45]))),
   .v 88 (.fldA false 3 1 (.t 16)),
   .v 89 (.ld false 1 (.t 88)),
   .v 90 (.bin .add (.t 87) (.t 89)),
   .v 91 (.bin .add (.t 90) (.c (.str [46, 48, 46]))),
   .v 92 (.mov (.t 12)),
   .v 93 (.bin .add (.t 91) (.t 92)),
   .v 13 (.mov (.t 93))]
def pmake_29 : AK := .reg pmake_29o [13, 16]
def pmake_30o : List ROp := [.v 68 (.mov (.t 18)),
   .v 69 (.fldA false 2 1 (.t 16)),
   .v 70 (.ld false 1 (.t 69)),
   .cal (some 71) false 64071 28 [(.t 70)],
   .v 72 (.bin .add (.t 68) (.t 71)),
   .v 73 (.bin .add (.t 72) (.c (.str [45, 48, 46]))),
   .v 74 (.mov (.t 12)),
   .v 75 (.bin .add (.t 73) (.t 74)),
   .v 13 (.mov (.t 75))]
def pmake_30 : AK := .reg pmake_30o [13, 16]
def pmake_28 : AK := .cond (.t 79) pmake_29 pmake_30
def pmake_27o : List ROp := [.v 80 (.fldA false 3 1 (.t 16)),
   .v 81 (.ld false 1 (.t 80)),
   .v 82 (.bin .neq (.t 81) (.c (.str []))),
   .v 79 (.mov (.t 82))]
def pmake_27 : AK := .seq (.reg pmake_27o [12, 16, 18, 79]) pmake_28
def pmake_25 : AK := .cond (.t 76) pmake_26 pmake_27
def pmake_24o : List ROp := [.v 77 (.mov (.t 17)),
   .v 78 (.un .not (.t 77)),
   .v 76 (.mov (.t 78))]
def pmake_24 : AK := .seq (.reg pmake_24o [12, 16, 18, 76]) pmake_25
def pmake_23 : AK := .block 0 pmake_24
def pmake_21 : AK := .seq pmake_23 pmake_22
def pmake_20o : List ROp := [.v 60 (.fldA false 0 1 (.t 16)),
   .v 61 (.ld false 1 (.t 60)),
   .v 62 (.bin .add (.c (.str [118])) (.t 61)),
   .v 63 (.bin .add (.t 62) (.c (.str [46]))),
   .v 64 (.fldA false 1 1 (.t 16)),
   .v 65 (.ld false 1 (.t 64)),
   .v 66 (.bin .add (.t 63) (.t 65)),
   .v 67 (.bin .add (.t 66) (.c (.str [46]))),
   .v 18 (.mov (.t 67))]
def pmake_20 : AK := .seq (.reg pmake_20o [12, 16, 17, 18]) pmake_21
def pmake_19o : List ROp := [.v 56 (.mov (.t 1)),
   .cal (some 57) false 64057 15 [(.t 56)],
   .v 55 (.mov (.t 57)),
   .v 58 (.ext (.t 55) 0),
   .v 59 (.ext (.t 55) 1),
   .eff 16 false 64016 (.alloc [.str [], .str [], .str [], .str [], .str [], .int .i64 0]),
   .effN false 64000 (.st 6 (.t 16) (.t 58)),
   .v 17 (.mov (.t 59))]
def pmake_19 : AK := .seq (.reg pmake_19o [12, 16, 17]) pmake_20
def pmake_12 : AK := .cond (.t 36) pmake_13 pmake_19
def pmake_11o : List ROp := [.v 35 (.mov (.t 1)),
   .v 36 (.bin .eql (.t 35) (.c (.str [])))]
def pmake_11 : AK := .seq (.reg pmake_11o [0, 1, 12, 36]) pmake_12
def pmake_5 : AK := .seq pmake_11 (.mid pmake_6)
def pmake_4o : List ROp := [.v 13 (.mov (.c (.str [])))]
def pmake_4 : AK := .seq (.reg pmake_4o [0, 1, 12]) pmake_5
def pmake_3o : List ROp := [.v 31 (.mov (.t 10)),
   .v 32 (.bin .add (.t 31) (.c (.str [45]))),
   .v 33 (.mov (.t 3)),
   .v 34 (.bin .add (.t 32) (.t 33)),
   .v 12 (.mov (.t 34))]
def pmake_3 : AK := .seq (.reg pmake_3o [0, 1, 12]) pmake_4
def pmake_33o : List ROp := [.v 8 (.mov (.c (.str []))),
   .v 9 (.mov (.c (.int .i64 1)))]
def pmake_33 : AK := .seq (.reg pmake_33o [8, 9]) .ret
def pmake_32 : AK := .cond (.t 30) pmake_33 .skip
def pmake_31o : List ROp := [.v 24 (.mov (.t 11)),
   .v 25 (.bin .neq (.t 24) (.c (.int .i64 0))),
   .v 26 (.mov (.t 25)),
   .gval 27 26 false false 64027 (.mov (.t 3)),
   .gcal 28 26 false false 64028 17 [(.t 27)],
   .gval 29 26 false false 64029 (.un .not (.t 28)),
   .v 30 (.pick (.t 26) (.c (.bool true)) (.t 29))]
def pmake_31 : AK := .seq (.reg pmake_31o [0, 1, 3, 10, 30]) pmake_32
def pmake_2 : AK := .seq pmake_31 pmake_3
def pmake_1o : List ROp := [.v 20 (.mov (.t 2)),
   .cal (some 21) false 64021 27 [(.t 20)],
   .v 19 (.mov (.t 21)),
   .v 22 (.ext (.t 19) 0),
   .v 23 (.ext (.t 19) 1),
   .v 10 (.mov (.t 22)),
   .v 11 (.mov (.t 23))]
def pmake_1 : AK := .seq (.reg pmake_1o [0, 1, 3, 10, 11]) pmake_2
def pmake_0o : List ROp := [.v 8 (.mov (.c (.str []))),
   .v 9 (.mov (.c (.int .i64 0)))]
def pmake_0 : AK := .seq (.reg pmake_0o [0, 1, 2, 3]) pmake_1
def pmake : AK := pmake_0
theorem pmake_vc (P : Program) (E : Env) (Q : KQ) (st : St) :
  (vcW P E pmake_7 Q st = aopsW P pmake_7o st (KS.reg [8, 9] (KQ.seq P E .ret Q))) ∧
  (vcW P E pmake_10 Q st = aopsW P pmake_10o st (KS.reg [8, 9] (KQ.seq P E .ret Q))) ∧
  (vcW P E pmake_9 Q st = cndW P E (ev st (.t 100)) pmake_10 .skip Q st) ∧
  (vcW P E pmake_8 Q st = aopsW P pmake_8o st (KS.reg [13, 100] (KQ.seq P E pmake_9 Q))) ∧
  (vcW P E pmake_6 Q st = vcW P E pmake_8 (KQ.seq P E pmake_7 Q) st) ∧
  (vcW P E pmake_14 Q st = aopsW P pmake_14o st (KS.reg [13] Q)) ∧
  (vcW P E pmake_18 Q st = aopsW P pmake_18o st (KS.reg [8, 9] (KQ.seq P E .ret Q))) ∧
  (vcW P E pmake_17 Q st = cndW P E (ev st (.t 50)) pmake_18 .skip Q st) ∧
  (vcW P E pmake_16 Q st = aopsW P pmake_16o st (KS.reg [0, 12, 50] (KQ.seq P E pmake_17 Q))) ∧
  (vcW P E pmake_15 Q st = aopsW P pmake_15o st (KS.reg [0, 12, 14, 15] (KQ.seq P E pmake_16 Q))) ∧
  (vcW P E pmake_13 Q st = vcW P E pmake_15 (KQ.seq P E pmake_14 Q) st) ∧
  (vcW P E pmake_22 Q st = aopsW P pmake_22o st (KS.reg [13] Q)) ∧
  (vcW P E pmake_26 Q st = aopsW P pmake_26o st (KS.reg [8, 9] (KQ.seq P E .ret Q))) ∧
  (vcW P E pmake_29 Q st = aopsW P pmake_29o st (KS.reg [13, 16] Q)) ∧
  (vcW P E pmake_30 Q st = aopsW P pmake_30o st (KS.reg [13, 16] Q)) ∧
  (vcW P E pmake_28 Q st = cndW P E (ev st (.t 79)) pmake_29 pmake_30 Q st) ∧
  (vcW P E pmake_27 Q st = aopsW P pmake_27o st (KS.reg [12, 16, 18, 79] (KQ.seq P E pmake_28 Q))) ∧
  (vcW P E pmake_25 Q st = cndW P E (ev st (.t 76)) pmake_26 pmake_27 Q st) ∧
  (vcW P E pmake_24 Q st = aopsW P pmake_24o st (KS.reg [12, 16, 18, 76] (KQ.seq P E pmake_25 Q))) ∧
  (vcW P E pmake_23 Q st = vcW P E pmake_24 (KQ.blk 0 Q) st) ∧
  (vcW P E pmake_21 Q st = vcW P E pmake_23 (KQ.seq P E pmake_22 Q) st) ∧
  (vcW P E pmake_20 Q st = aopsW P pmake_20o st (KS.reg [12, 16, 17, 18] (KQ.seq P E pmake_21 Q))) ∧
  (vcW P E pmake_19 Q st = aopsW P pmake_19o st (KS.reg [12, 16, 17] (KQ.seq P E pmake_20 Q))) ∧
  (vcW P E pmake_12 Q st = cndW P E (ev st (.t 36)) pmake_13 pmake_19 Q st) ∧
  (vcW P E pmake_11 Q st = aopsW P pmake_11o st (KS.reg [0, 1, 12, 36] (KQ.seq P E pmake_12 Q))) ∧
  (vcW P E pmake_4 Q st = aopsW P pmake_4o st (KS.reg [0, 1, 12] (KQ.seq P E pmake_5 Q))) ∧
  (vcW P E pmake_3 Q st = aopsW P pmake_3o st (KS.reg [0, 1, 12] (KQ.seq P E pmake_4 Q))) ∧
  (vcW P E pmake_33 Q st = aopsW P pmake_33o st (KS.reg [8, 9] (KQ.seq P E .ret Q))) ∧
  (vcW P E pmake_32 Q st = cndW P E (ev st (.t 30)) pmake_33 .skip Q st) ∧
  (vcW P E pmake_31 Q st = aopsW P pmake_31o st (KS.reg [0, 1, 3, 10, 30] (KQ.seq P E pmake_32 Q))) ∧
  (vcW P E pmake_2 Q st = vcW P E pmake_31 (KQ.seq P E pmake_3 Q) st) ∧
  (vcW P E pmake_1 Q st = aopsW P pmake_1o st (KS.reg [0, 1, 3, 10, 11] (KQ.seq P E pmake_2 Q))) ∧
  (vcW P E pmake_0 Q st = aopsW P pmake_0o st (KS.reg [0, 1, 2, 3] (KQ.seq P E pmake_1 Q))) ∧
  (vcW P E pmake Q st = vcW P E pmake_0 Q st) :=
  ⟨rfl, rfl, vcW_cond, rfl, rfl, rfl, rfl, vcW_cond, rfl, rfl, rfl, rfl, rfl, rfl, rfl, vcW_cond, rfl, vcW_cond, rfl, rfl, rfl, rfl, rfl, vcW_cond, rfl, rfl, rfl, rfl, vcW_cond, rfl, rfl, rfl, rfl, rfl⟩
theorem pmake_jn (P : Program) (E : Env) (Q : KQ) (st : St) :
  (vcW P E pmake_5 Q st = vcW P E pmake_11 (KQ.seq P E (.mid pmake_6) Q) st) :=
  rfl
attribute [go_sem] pmake_vc pmake_7o pmake_10o pmake_8o pmake_14o pmake_18o pmake_16o pmake_15o pmake_22o pmake_26o pmake_29o pmake_30o pmake_27o pmake_24o pmake_20o pmake_19o pmake_11o pmake_4o pmake_3o pmake_33o pmake_31o pmake_1o pmake_0o
noncomputable def pmakeB : Code := (Tryd.f10.body).getD .skip
theorem pmake_eq : trCode Tryd.prog 102 64000 pmakeB = pmake.erase 64000 := by kernel_rfl
theorem pmake_body : Tryd.f10.body = some pmakeB := by kernel_rfl
theorem pmake_n : Tryd.f10.ntmps = 102 := by kernel_rfl
theorem pmake_r : Tryd.f10.results.toList.map (trRes Tryd.prog) = [.tmp 8, .tmp 9] := by kernel_rfl
theorem pmake_spec {h : HP} {a0 a1 a2 a3 : AV} {Post : HP → AV → List AV → Prop} (hp : ∀ (E : Env) (R : HP → AV → List AV → Prop), E.N ≤ 1000000 → PostTo Post R → vcW Tryd.prog E pmake (KQ.post [.tmp 8, .tmp 9] 4 R) ⟨[(0, a0), (1, a1), (2, a2), (3, a3)], h⟩) : Eng.Spec Tryd.prog 10 h [a0, a1, a2, a3] Post := spec_wk (
  spec_of (c := pmake.erase 64000) (B := 64000) Tryd.func10 pmake_body (by rw [pmake_n, pmake_eq]) (by rw [pmake_n]; decide) (by rw [pmake_n]; exact (by decide : 4 ≤ 102)) (fun E hE hB hrd => by
    have hN : E.N ≤ 1000000 := by
      rw [hE, pmake_n]; decide
    rw [pmake_r, ← hB]
    exact awp_slots [(0, a0), (1, a1), (2, a2), (3, a3)] ⟨rfl, rfl, rfl, rfl, trivial⟩ (vcW_sound hN _ (hp E _ hN fin_self))))
/- cartulary/pseudo.Parse -/
def pparse_11o : List ROp := [.v 132 (.ld true 3 (.t 10)),
   .effN false 65000 (.st 3 (.t 2) (.t 132)),
   .v 3 (.mov (.c (.int .i64 0)))]
def pparse_11 : AK := .seq (.reg pparse_11o [2, 3]) .ret
def pparse_17o : List ROp := [.v 115 (.bld [.str [], .int .i64 0, .str []] []),
   .effN false 65000 (.st 3 (.t 2) (.t 115)),
   .v 3 (.mov (.c (.int .i64 3)))]
def pparse_17 : AK := .seq (.reg pparse_17o [2, 3]) .ret
def pparse_16 : AK := .cond (.t 114) pparse_17 .skip
def pparse_15o : List ROp := [.v 102 (.fldA false 1 1 (.t 4)),
   .v 103 (.ld false 1 (.t 102)),
   .v 104 (.bin .neq (.t 103) (.c (.str [48]))),
   .v 105 (.mov (.t 104)),
   .gval 106 105 false false 65106 (.fldA false 2 1 (.t 4)),
   .gval 107 105 false false 65107 (.ld false 1 (.t 106)),
   .gval 108 105 false false 65108 (.bin .neq (.t 107) (.c (.str [48]))),
   .v 109 (.pick (.t 105) (.c (.bool true)) (.t 108)),
   .v 110 (.mov (.t 109)),
   .gval 111 110 false false 65111 (.fldA false 4 1 (.t 4)),
   .gval 112 110 false false 65112 (.ld false 1 (.t 111)),
   .gval 113 110 false false 65113 (.bin .neq (.t 112) (.c (.str []))),
   .v 114 (.pick (.t 110) (.c (.bool true)) (.t 113))]
def pparse_15 : AK := .seq (.reg pparse_15o [2, 10, 114]) pparse_16
def pparse_22o : List ROp := [.v 125 (.mov (.t 11)),
   .v 126 (.mov (.t 12)),
   .v 127 (.bin .add (.t 125) (.t 126)),
   .v 128 (.ld true 6 (.t 4)),
   .cal (some 129) false 65129 20 [(.t 128)],
   .v 130 (.bin .add (.t 127) (.t 129)),
   .v 131 (.fldA false 0 1 (.t 10)),
   .effN false 65000 (.st 1 (.t 131) (.t 130))]
def pparse_22 : AK := .reg pparse_22o [2, 10]
def pparse_25o : List ROp := [.v 124 (.bld [.str [], .int .i64 0, .str []] []),
   .effN false 65000 (.st 3 (.t 2) (.t 124)),
   .v 3 (.mov (.c (.int .i64 3)))]
def pparse_25 : AK := .seq (.reg pparse_25o [2, 3]) .ret
def pparse_24 : AK := .cond (.t 123) pparse_25 .skip
def pparse_23o : List ROp := [.v 122 (.mov (.t 12)),
   .v 123 (.bin .eql (.t 122) (.c (.str [])))]
def pparse_23 : AK := .seq (.reg pparse_23o [2, 4, 10, 11, 12, 123]) pparse_24
def pparse_21 : AK := .seq pparse_23 pparse_22
def pparse_20o : List ROp := [.v 119 (.fldA false 2 1 (.t 4)),
   .v 120 (.ld false 1 (.t 119)),
   .cal (some 121) false 65121 19 [(.t 120)],
   .v 12 (.mov (.t 121))]
def pparse_20 : AK := .seq (.reg pparse_20o [2, 4, 10, 11, 12]) pparse_21
def pparse_28o : List ROp := [.val 88 true 65088 (.mov (.t 11)),
   .val 89 true 65089 (.fldA false 2 1 (.t 4)),
   .val 90 true 65090 (.ld false 1 (.t 89)),
   .val 91 true 65091 (.bin .add (.t 88) (.t 90)),
   .val 92 true 65092 (.bin .add (.t 91) (.c (.str [45]))),
   .val 93 true 65093 (.mov (.t 13)),
   .val 94 true 65094 (.bin .add (.t 92) (.t 93)),
   .val 95 true 65095 (.ld true 6 (.t 4)),
   .cal (some 96) true 65096 20 [(.t 95)],
   .v 97 (.bin .add (.t 94) (.t 96)),
   .v 98 (.fldA false 0 1 (.t 10)),
   .effN false 65000 (.st 1 (.t 98) (.t 97))]
def pparse_28 : AK := .reg pparse_28o [2, 10]
def pparse_31o : List ROp := [.v 87 (.bld [.str [], .int .i64 0, .str []] []),
   .effN false 65000 (.st 3 (.t 2) (.t 87)),
   .v 3 (.mov (.c (.int .i64 3)))]
def pparse_31 : AK := .seq (.reg pparse_31o [2, 3]) .ret
def pparse_30 : AK := .cond (.t 86) pparse_31 .skip
def pparse_29o : List ROp := [.v 81 (.mov (.t 14)),
   .v 82 (.un .not (.t 81)),
   .v 83 (.mov (.t 82)),
   .gval 84 83 false false 65084 (.mov (.t 13)),
   .gval 85 83 false false 65085 (.bin .eql (.t 84) (.c (.str []))),
   .v 86 (.pick (.t 83) (.c (.bool true)) (.t 85))]
def pparse_29 : AK := .seq (.reg pparse_29o [2, 4, 10, 11, 13, 86]) pparse_30
def pparse_27 : AK := .seq pparse_29 pparse_28
def pparse_26o : List ROp := [.v 77 (.mov (.t 7)),
   .cal (some 78) false 65078 21 [(.t 77), (.c (.str [46, 48, 46]))],
   .v 76 (.mov (.t 78)),
   .v 79 (.ext (.t 76) 0),
   .v 80 (.ext (.t 76) 1),
   .v 13 (.mov (.t 79)),
   .v 14 (.mov (.t 80))]
def pparse_26 : AK := .seq (.reg pparse_26o [2, 4, 10, 11, 13, 14]) pparse_27
def pparse_19 : AK := .cond (.t 116) pparse_20 pparse_26
def pparse_18o : List ROp := [.v 117 (.mov (.t 7)),
   .v 118 (.bin .eql (.t 117) (.c (.str [48, 46]))),
   .v 116 (.mov (.t 118))]
def pparse_18 : AK := .seq (.reg pparse_18o [2, 4, 7, 10, 11, 116]) pparse_19
def pparse_14 : AK := .cond (.t 99) pparse_15 pparse_18
def pparse_13o : List ROp := [.v 100 (.mov (.t 7)),
   .v 101 (.bin .eql (.t 100) (.c (.str []))),
   .v 99 (.mov (.t 101))]
def pparse_13 : AK := .seq (.reg pparse_13o [2, 4, 7, 10, 11, 99]) pparse_14
def pparse_12 : AK := .block 0 pparse_13
def pparse_10 : AK := .seq pparse_12 pparse_11
def pparse_9o : List ROp := [.v 68 (.fldA false 0 1 (.t 4)),
   .v 69 (.ld false 1 (.t 68)),
   .v 70 (.bin .add (.c (.str [118])) (.t 69)),
   .v 71 (.bin .add (.t 70) (.c (.str [46]))),
   .v 72 (.fldA false 1 1 (.t 4)),
   .v 73 (.ld false 1 (.t 72)),
   .v 74 (.bin .add (.t 71) (.t 73)),
   .v 75 (.bin .add (.t 74) (.c (.str [46]))),
   .v 11 (.mov (.t 75))]
def pparse_9 : AK := .seq (.reg pparse_9o [2, 4, 7, 10, 11]) pparse_10
def pparse_8o : List ROp := [.v 61 (.mov (.t 8)),
   .v 62 (.fldA false 3 1 (.t 4)),
   .v 63 (.ld false 1 (.t 62)),
   .v 64 (.mov (.t 6)),
   .v 65 (.bin .add (.t 64) (.c (.int .i64 1))),
   .v 66 (.slcS (.t 63) (some (.t 65)) none),
   .v 67 (.bld [.str [], .int .i64 0, .str []] [(1, 1, (.t 61)), (2, 1, (.t 66))]),
   .eff 10 false 65010 (.alloc [.str [], .int .i64 0, .str []]),
   .effN false 65000 (.st 3 (.t 10) (.t 67))]
def pparse_8 : AK := .seq (.reg pparse_8o [2, 4, 7, 10]) pparse_9
def pparse_34o : List ROp := [.v 60 (.bld [.str [], .int .i64 0, .str []] []),
   .effN false 65000 (.st 3 (.t 2) (.t 60)),
   .v 3 (.mov (.c (.int .i64 3)))]
def pparse_34 : AK := .seq (.reg pparse_34o [2, 3]) .ret
def pparse_33 : AK := .cond (.t 59) pparse_34 .skip
def pparse_32o : List ROp := [.v 58 (.mov (.t 9)),
   .v 59 (.bin .neq (.t 58) (.c (.int .i64 0)))]
def pparse_32 : AK := .seq (.reg pparse_32o [2, 4, 6, 7, 8, 59]) pparse_33
def pparse_7 : AK := .seq pparse_32 pparse_8
def pparse_6o : List ROp := [.v 49 (.fldA false 3 1 (.t 4)),
   .v 50 (.ld false 1 (.t 49)),
   .v 51 (.mov (.t 6)),
   .v 52 (.bin .sub (.t 51) (.c (.int .i64 14))),
   .v 53 (.mov (.t 6)),
   .v 54 (.slcS (.t 50) (some (.t 52)) (some (.t 53))),
   .cal (some 55) false 65055 18 [(.t 54)],
   .v 48 (.mov (.t 55)),
   .v 56 (.ext (.t 48) 0),
   .v 57 (.ext (.t 48) 1),
   .v 8 (.mov (.t 56)),
   .v 9 (.mov (.t 57))]
def pparse_6 : AK := .seq (.reg pparse_6o [2, 4, 6, 7, 8, 9]) pparse_7
def pparse_5o : List ROp := [.v 43 (.fldA false 3 1 (.t 4)),
   .v 44 (.ld false 1 (.t 43)),
   .v 45 (.mov (.t 6)),
   .v 46 (.bin .sub (.t 45) (.c (.int .i64 14))),
   .v 47 (.slcS (.t 44) none (some (.t 46))),
   .v 7 (.mov (.t 47))]
def pparse_5 : AK := .seq (.reg pparse_5o [2, 4, 6, 7]) pparse_6
def pparse_37o : List ROp := [.v 42 (.bld [.str [], .int .i64 0, .str []] []),
   .effN false 65000 (.st 3 (.t 2) (.t 42)),
   .v 3 (.mov (.c (.int .i64 3)))]
def pparse_37 : AK := .seq (.reg pparse_37o [2, 3]) .ret
def pparse_36 : AK := .cond (.t 41) pparse_37 .skip
def pparse_35o : List ROp := [.v 31 (.mov (.t 6)),
   .v 32 (.bin .lss (.t 31) (.c (.int .i64 14))),
   .v 33 (.mov (.t 32)),
   .gval 34 33 false false 65034 (.fldA false 3 1 (.t 4)),
   .gval 35 33 false false 65035 (.ld false 1 (.t 34)),
   .gval 36 33 false false 65036 (.mov (.t 6)),
   .gval 37 33 false false 65037 (.bin .add (.t 36) (.c (.int .i64 1))),
   .gval 38 33 false false 65038 (.slcS (.t 35) (some (.t 37)) none),
   .gcal 39 33 false false 65039 17 [(.t 38)],
   .gval 40 33 false false 65040 (.un .not (.t 39)),
   .v 41 (.pick (.t 33) (.c (.bool true)) (.t 40))]
def pparse_35 : AK := .seq (.reg pparse_35o [2, 4, 6, 41]) pparse_36
def pparse_4 : AK := .seq pparse_35 pparse_5
def pparse_3o : List ROp := [.v 28 (.fldA false 3 1 (.t 4)),
   .v 29 (.ld false 1 (.t 28)),
   .cal (some 30) false 65030 16 [(.t 29), (.c (.int .u8 45))],
   .v 6 (.mov (.t 30))]
def pparse_3 : AK := .seq (.reg pparse_3o [2, 4, 6]) pparse_4
def pparse_40o : List ROp := [.v 27 (.bld [.str [], .int .i64 0, .str []] []),
   .effN false 65000 (.st 3 (.t 2) (.t 27)),
   .v 3 (.mov (.c (.int .i64 4)))]
def pparse_40 : AK := .seq (.reg pparse_40o [2, 3]) .ret
def pparse_39 : AK := .cond (.t 26) pparse_40 .skip
def pparse_38o : List ROp := [.v 20 (.mov (.t 5)),
   .v 21 (.un .not (.t 20)),
   .v 22 (.mov (.t 21)),
   .gval 23 22 false false 65023 (.fldA false 5 1 (.t 4)),
   .gval 24 22 false false 65024 (.ld false 1 (.t 23)),
   .gval 25 22 false false 65025 (.bin .gtr (.t 24) (.c (.int .i64 0))),
   .v 26 (.pick (.t 22) (.c (.bool true)) (.t 25))]
def pparse_38 : AK := .seq (.reg pparse_38o [2, 4, 26]) pparse_39
def pparse_2 : AK := .seq pparse_38 pparse_3
def pparse_1o : List ROp := [.v 16 (.mov (.t 0)),
   .cal (some 17) false 65017 15 [(.t 16)],
   .v 15 (.mov (.t 17)),
   .v 18 (.ext (.t 15) 0),
   .v 19 (.ext (.t 15) 1),
   .eff 4 false 65004 (.alloc [.str [], .str [], .str [], .str [], .str [], .int .i64 0]),
   .effN false 65000 (.st 6 (.t 4) (.t 18)),
   .v 5 (.mov (.t 19))]
def pparse_1 : AK := .seq (.reg pparse_1o [2, 4, 5]) pparse_2
def pparse_0o : List ROp := [.eff 2 false 65002 (.alloc [.str [], .int .i64 0, .str []]),
   .v 3 (.mov (.c (.int .i64 0)))]
def pparse_0 : AK := .seq (.reg pparse_0o [0, 2]) pparse_1
def pparse : AK := pparse_0
theorem pparse_vc (P : Program) (E : Env) (Q : KQ) (st : St) :
  (vcW P E pparse_11 Q st = aopsW P pparse_11o st (KS.reg [2, 3] (KQ.seq P E .ret Q))) ∧
  (vcW P E pparse_17 Q st = aopsW P pparse_17o st (KS.reg [2, 3] (KQ.seq P E .ret Q))) ∧
  (vcW P E pparse_16 Q st = cndW P E (ev st (.t 114)) pparse_17 .skip Q st) ∧
  (vcW P E pparse_15 Q st = aopsW P pparse_15o st (KS.reg [2, 10, 114] (KQ.seq P E pparse_16 Q))) ∧
  (vcW P E pparse_22 Q st = aopsW P pparse_22o st (KS.reg [2, 10] Q)) ∧
  (vcW P E pparse_25 Q st = aopsW P pparse_25o st (KS.reg [2, 3] (KQ.seq P E .ret Q))) ∧
  (vcW P E pparse_24 Q st = cndW P E (ev st (.t 123)) pparse_25 .skip Q st) ∧
  (vcW P E pparse_23 Q st = aopsW P pparse_23o st (KS.reg [2, 4, 10, 11, 12, 123] (KQ.seq P E pparse_24 Q))) ∧
  (vcW P E pparse_21 Q st = vcW P E pparse_23 (KQ.seq P E pparse_22 Q) st) ∧
  (vcW P E pparse_20 Q st = aopsW P pparse_20o st (KS.reg [2, 4, 10, 11, 12] (KQ.seq P E pparse_21 Q))) ∧
  (vcW P E pparse_28 Q st = aopsW P pparse_28o st (KS.reg [2, 10] Q)) ∧
  (vcW P E pparse_31 Q st = aopsW P pparse_31o st (KS.reg [2, 3] (KQ.seq P E .ret Q))) ∧
  (vcW P E pparse_30 Q st = cndW P E (ev st (.t 86)) pparse_31 .skip Q st) ∧
  (vcW P E pparse_29 Q st = aopsW P pparse_29o st (KS.reg [2, 4, 10, 11, 13, 86] (KQ.seq P E pparse_30 Q))) ∧
  (vcW P E pparse_27 Q st = vcW P E pparse_29 (KQ.seq P E pparse_28 Q) st) ∧
  (vcW P E pparse_26 Q st = aopsW P pparse_26o st (KS.reg [2, 4, 10, 11, 13, 14] (KQ.seq P E pparse_27 Q))) ∧
  (vcW P E pparse_19 Q st = cndW P E (ev st (.t 116)) pparse_20 pparse_26 Q st) ∧
  (vcW P E pparse_18 Q st = aopsW P pparse_18o st (KS.reg [2, 4, 7, 10, 11, 116] (KQ.seq P E pparse_19 Q))) ∧
  (vcW P E pparse_14 Q st = cndW P E (ev st (.t 99)) pparse_15 pparse_18 Q st) ∧
  (vcW P E pparse_13 Q st = aopsW P pparse_13o st (KS.reg [2, 4, 7, 10, 11, 99] (KQ.seq P E pparse_14 Q))) ∧
  (vcW P E pparse_12 Q st = vcW P E pparse_13 (KQ.blk 0 Q) st) ∧
  (vcW P E pparse_10 Q st = vcW P E pparse_12 (KQ.seq P E pparse_11 Q) st) ∧
  (vcW P E pparse_9 Q st = aopsW P pparse_9o st (KS.reg [2, 4, 7, 10, 11] (KQ.seq P E pparse_10 Q))) ∧
  (vcW P E pparse_8 Q st = aopsW P pparse_8o st (KS.reg [2, 4, 7, 10] (KQ.seq P E pparse_9 Q))) ∧
  (vcW P E pparse_34 Q st = aopsW P pparse_34o st (KS.reg [2, 3] (KQ.seq P E .ret Q))) ∧
  (vcW P E pparse_33 Q st = cndW P E (ev st (.t 59)) pparse_34 .skip Q st) ∧
  (vcW P E pparse_32 Q st = aopsW P pparse_32o st (KS.reg [2, 4, 6, 7, 8, 59] (KQ.seq P E pparse_33 Q))) ∧
  (vcW P E pparse_7 Q st = vcW P E pparse_32 (KQ.seq P E pparse_8 Q) st) ∧
  (vcW P E pparse_6 Q st = aopsW P pparse_6o st (KS.reg [2, 4, 6, 7, 8, 9] (KQ.seq P E pparse_7 Q))) ∧
  (vcW P E pparse_5 Q st = aopsW P pparse_5o st (KS.reg [2, 4, 6, 7] (KQ.seq P E pparse_6 Q))) ∧
  (vcW P E pparse_37 Q st = aopsW P pparse_37o st (KS.reg [2, 3] (KQ.seq P E .ret Q))) ∧
  (vcW P E pparse_36 Q st = cndW P E (ev st (.t 41)) pparse_37 .skip Q st) ∧
  (vcW P E pparse_35 Q st = aopsW P pparse_35o st (KS.reg [2, 4, 6, 41] (KQ.seq P E pparse_36 Q))) ∧
  (vcW P E pparse_4 Q st = vcW P E pparse_35 (KQ.seq P E pparse_5 Q) st) ∧
  (vcW P E pparse_3 Q st = aopsW P pparse_3o st (KS.reg [2, 4, 6] (KQ.seq P E pparse_4 Q))) ∧
  (vcW P E pparse_40 Q st = aopsW P pparse_40o st (KS.reg [2, 3] (KQ.seq P E .ret Q))) ∧
  (vcW P E pparse_39 Q st = cndW P E (ev st (.t 26)) pparse_40 .skip Q st) ∧
  (vcW P E pparse_38 Q st = aopsW P pparse_38o st (KS.reg [2, 4, 26] (KQ.seq P E pparse_39 Q))) ∧
  (vcW P E pparse_2 Q st = vcW P E pparse_38 (KQ.seq P E pparse_3 Q) st) ∧
  (vcW P E pparse_1 Q st = aopsW P pparse_1o st (KS.reg [2, 4, 5] (KQ.seq P E pparse_2 Q))) ∧
  (vcW P E pparse_0 Q st = aopsW P pparse_0o st (KS.reg [0, 2] (KQ.seq P E pparse_1 Q))) ∧
  (vcW P E pparse Q st = vcW P E pparse_0 Q st) :=
  ⟨rfl, rfl, vcW_cond, rfl, rfl, rfl, vcW_cond, rfl, rfl, rfl, rfl, rfl, vcW_cond, rfl, rfl, rfl, vcW_cond, rfl, vcW_cond, rfl, rfl, rfl, rfl, rfl, rfl, vcW_cond, rfl, rfl, rfl, rfl, rfl, vcW_cond, rfl, rfl, rfl, rfl, vcW_cond, rfl, rfl, rfl, rfl, rfl⟩
theorem pparse_jn (P : Program) (E : Env) (Q : KQ) (st : St) :
  (True) :=
  trivial
attribute [go_sem] pparse_vc pparse_11o pparse_17o pparse_15o pparse_22o pparse_25o pparse_23o pparse_20o pparse_28o pparse_31o pparse_29o pparse_26o pparse_18o pparse_13o pparse_9o pparse_8o pparse_34o pparse_32o pparse_6o pparse_5o pparse_37o pparse_35o pparse_3o pparse_40o pparse_38o pparse_1o pparse_0o
noncomputable def pparseB : Code := (Tryd.f6.body).getD .skip
theorem pparse_eq : trCode Tryd.prog 133 65000 pparseB = pparse.erase 65000 := by kernel_rfl
theorem pparse_body : Tryd.f6.body = some pparseB := by kernel_rfl
theorem pparse_n : Tryd.f6.ntmps = 133 := by kernel_rfl
theorem pparse_r : Tryd.f6.results.toList.map (trRes Tryd.prog) = [.cell 2 true 3, .tmp 3] := by kernel_rfl
theorem pparse_spec {h : HP} {a0 : AV} {Post : HP → AV → List AV → Prop} (hp : ∀ (E : Env) (R : HP → AV → List AV → Prop), E.N ≤ 1000000 → PostTo Post R → vcW Tryd.prog E pparse (KQ.post [.cell 2 true 3, .tmp 3] 1 R) ⟨[(0, a0)], h⟩) : Eng.Spec Tryd.prog 6 h [a0] Post := spec_wk (
  spec_of (c := pparse.erase 65000) (B := 65000) Tryd.func6 pparse_body (by rw [pparse_n, pparse_eq]) (by rw [pparse_n]; decide) (by rw [pparse_n]; exact (by decide : 1 ≤ 133)) (fun E hE hB hrd => by
    have hN : E.N ≤ 1000000 := by
      rw [hE, pparse_n]; decide
    rw [pparse_r, ← hB]
    exact awp_slots [(0, a0)] ⟨rfl, trivial⟩ (vcW_sound hN _ (hp E _ hN fin_self))))
/- cartulary/pseudo.Is -/
def pis_2o : List ROp := [.v 10 (.mov (.t 4)),
   .v 11 (.bin .eql (.t 10) (.c (.int .i64 0))),
   .v 2 (.mov (.t 11))]
def pis_2 : AK := .seq (.reg pis_2o [2]) .ret
def pis_1o : List ROp := [.v 6 (.mov (.t 0)),
   .cal (some 7) false 66007 6 [(.t 6)],
   .v 5 (.mov (.t 7)),
   .v 8 (.ext (.t 5) 0),
   .v 9 (.ext (.t 5) 1),
   .eff 3 false 66003 (.alloc [.str [], .int .i64 0, .str []]),
   .effN false 66000 (.st 3 (.t 3) (.t 8)),
   .v 4 (.mov (.t 9))]
def pis_1 : AK := .seq (.reg pis_1o [4]) pis_2
def pis_0o : List ROp := [.v 2 (.mov (.c (.bool false)))]
def pis_0 : AK := .seq (.reg pis_0o [0]) pis_1
def pis : AK := pis_0
theorem pis_vc (P : Program) (E : Env) (Q : KQ) (st : St) :
  (vcW P E pis_2 Q st = aopsW P pis_2o st (KS.reg [2] (KQ.seq P E .ret Q))) ∧
  (vcW P E pis_1 Q st = aopsW P pis_1o st (KS.reg [4] (KQ.seq P E pis_2 Q))) ∧
  (vcW P E pis_0 Q st = aopsW P pis_0o st (KS.reg [0] (KQ.seq P E pis_1 Q))) ∧
  (vcW P E pis Q st = vcW P E pis_0 Q st) :=
  ⟨rfl, rfl, rfl, rfl⟩
theorem pis_jn (P : Program) (E : Env) (Q : KQ) (st : St) :
  (True) :=
  trivial
attribute [go_sem] pis_vc pis_2o pis_1o pis_0o
noncomputable def pisB : Code := (Tryd.f9.body).getD .skip
theorem pis_eq : trCode Tryd.prog 12 66000 pisB = pis.erase 66000 := by kernel_rfl
theorem pis_body : Tryd.f9.body = some pisB := by kernel_rfl
theorem pis_n : Tryd.f9.ntmps = 12 := by kernel_rfl
theorem pis_r : Tryd.f9.results.toList.map (trRes Tryd.prog) = [.tmp 2] := by kernel_rfl
theorem pis_spec {h : HP} {a0 : AV} {Post : HP → AV → List AV → Prop} (hp : ∀ (E : Env) (R : HP → AV → List AV → Prop), E.N ≤ 1000000 → PostTo Post R → vcW Tryd.prog E pis (KQ.post [.tmp 2] 1 R) ⟨[(0, a0)], h⟩) : Eng.Spec Tryd.prog 9 h [a0] Post := spec_wk (
  spec_of (c := pis.erase 66000) (B := 66000) Tryd.func9 pis_body (by rw [pis_n, pis_eq]) (by rw [pis_n]; decide) (by rw [pis_n]; exact (by decide : 1 ≤ 12)) (fun E hE hB hrd => by
    have hN : E.N ≤ 1000000 := by
      rw [hE, pis_n]; decide
    rw [pis_r, ← hB]
    exact awp_slots [(0, a0)] ⟨rfl, trivial⟩ (vcW_sound hN _ (hp E _ hN fin_self))))
/- cartulary/cartularyref21.Rev -/
def rrev_1o : List ROp := [.v 3 (.mov (.t 0)),
   .v 4 (.len true (.t 3)),
   .v 5 (.bin .eql (.t 4) (.c (.int .i64 12))),
   .v 6 (.mov (.t 5)),
   .gval 7 6 true false 67007 (.mov (.t 0)),
   .gcal 8 6 true false 67008 44 [(.t 7)],
   .v 9 (.pick (.t 6) (.t 8) (.c (.bool false))),
   .v 2 (.mov (.t 9))]
def rrev_1 : AK := .seq (.reg rrev_1o [2]) .ret
def rrev_0o : List ROp := [.v 2 (.mov (.c (.bool false)))]
def rrev_0 : AK := .seq (.reg rrev_0o [0]) rrev_1
def rrev : AK := rrev_0
theorem rrev_vc (P : Program) (E : Env) (Q : KQ) (st : St) :
  (vcW P E rrev_1 Q st = aopsW P rrev_1o st (KS.reg [2] (KQ.seq P E .ret Q))) ∧
  (vcW P E rrev_0 Q st = aopsW P rrev_0o st (KS.reg [0] (KQ.seq P E rrev_1 Q))) ∧
  (vcW P E rrev Q st = vcW P E rrev_0 Q st) :=
  ⟨rfl, rfl, rfl⟩
theorem rrev_jn (P : Program) (E : Env) (Q : KQ) (st : St) :
  (True) :=
  trivial
attribute [go_sem] rrev_vc rrev_1o rrev_0o
noncomputable def rrevB : Code := (Tryd.f22.body).getD .skip
theorem rrev_eq : trCode Tryd.prog 10 67000 rrevB = rrev.erase 67000 := by kernel_rfl
theorem rrev_body : Tryd.f22.body = some rrevB := by kernel_rfl
theorem rrev_n : Tryd.f22.ntmps = 10 := by kernel_rfl
theorem rrev_r : Tryd.f22.results.toList.map (trRes Tryd.prog) = [.tmp 2] := by kernel_rfl
theorem rrev_spec {h : HP} {a0 : AV} {Post : HP → AV → List AV → Prop} (hp : ∀ (E : Env) (R : HP → AV → List AV → Prop), E.N ≤ 1000000 → PostTo Post R → vcW Tryd.prog E rrev (KQ.post [.tmp 2] 1 R) ⟨[(0, a0)], h⟩) : Eng.Spec Tryd.prog 22 h [a0] Post := spec_wk (
  spec_of (c := rrev.erase 67000) (B := 67000) Tryd.func22 rrev_body (by rw [rrev_n, rrev_eq]) (by rw [rrev_n]; decide) (by rw [rrev_n]; exact (by decide : 1 ≤ 10)) (fun E hE hB hrd => by
    have hN : E.N ≤ 1000000 := by
      rw [hE, rrev_n]; decide
    rw [rrev_r, ← hB]
    exact awp_slots [(0, a0)] ⟨rfl, trivial⟩ (vcW_sound hN _ (hp E _ hN fin_self))))
/- cartulary/cartularyref21.More -/
def rmore_6o : List ROp := [.val 32 true 68032 (.mov (.t 0)),
   .val 33 true 68033 (.mov (.t 3)),
   .val 34 true 68034 (.bin .sub (.t 33) (.c (.int .i64 1))),
   .val 35 true 68035 (.slcS (.t 32) none (some (.t 34))),
   .val 36 true 68036 (.mov (.t 0)),
   .val 37 true 68037 (.mov (.t 3)),
   .val 38 true 68038 (.bin .sub (.t 37) (.c (.int .i64 1))),
   .val 39 true 68039 (.sidx (.t 36) (.t 38)),
   .val 40 true 68040 (.bin .add (.t 39) (.c (.int .u8 1))),
   .val 44 true 68044 (.mov (.t 4)),
   .eff 41 true 68041 (.bsl 1 [(.t 40)]),
   .val 42 true 68042 (.bts (.t 41)),
   .v 43 (.bin .add (.t 35) (.t 42)),
   .v 45 (.bin .add (.t 43) (.t 44)),
   .v 2 (.mov (.t 45))]
def rmore_6 : AK := .seq (.reg rmore_6o [2]) .ret
def rmore_9o : List ROp := [.v 30 (.mov (.t 4)),
   .v 31 (.bin .add (.c (.str [49])) (.t 30)),
   .v 2 (.mov (.t 31))]
def rmore_9 : AK := .seq (.reg rmore_9o [2]) .ret
def rmore_8 : AK := .cond (.t 29) rmore_9 .skip
def rmore_7o : List ROp := [.v 28 (.mov (.t 3)),
   .v 29 (.bin .eql (.t 28) (.c (.int .i64 0)))]
def rmore_7 : AK := .seq (.reg rmore_7o [0, 3, 4, 29]) rmore_8
def rmore_5 : AK := .seq rmore_7 rmore_6
def rmore_14o : List ROp := [.v 24 (.mov (.t 5)),
   .v 25 (.bin .add (.t 24) (.c (.int .i64 1))),
   .v 5 (.mov (.t 25))]
def rmore_14 : AK := .reg rmore_14o [0, 3, 4, 5]
def rmore_16o : List ROp := [.v 26 (.mov (.t 4)),
   .v 27 (.bin .add (.t 26) (.c (.str [48]))),
   .v 4 (.mov (.t 27))]
def rmore_16 : AK := .reg rmore_16o [0, 3, 4, 5]
def rmore_15 : AK := .block 3 rmore_16
def rmore_13 : AK := .seq rmore_15 rmore_14
def rmore_18 : AK := .cond (.t 23) .skip (.exit 2)
def rmore_17o : List ROp := [.v 20 (.mov (.t 5)),
   .v 21 (.mov (.t 0)),
   .v 22 (.len true (.t 21)),
   .v 23 (.bin .lss (.t 20) (.t 22))]
def rmore_17 : AK := .seq (.reg rmore_17o [0, 3, 4, 5, 23]) rmore_18
def rmore_12 : AK := .seq rmore_17 rmore_13
def rmore_L0 : AK := .loop rmore_12
def rmore_11 : AK := .block 2 rmore_L0
def rmore_10o : List ROp := [.v 19 (.mov (.t 3)),
   .v 5 (.mov (.t 19))]
def rmore_10 : AK := .seq (.reg rmore_10o [0, 3, 4, 5]) rmore_11
def rmore_4 : AK := .seq rmore_10 rmore_5
def rmore_3o : List ROp := [.v 4 (.mov (.c (.str [])))]
def rmore_3 : AK := .seq (.reg rmore_3o [0, 3, 4]) rmore_4
def rmore_22o : List ROp := [.v 17 (.mov (.t 3)),
   .v 18 (.bin .sub (.t 17) (.c (.int .i64 1))),
   .v 3 (.mov (.t 18))]
def rmore_22 : AK := .reg rmore_22o [0, 3]
def rmore_21 : AK := .block 1 rmore_22
def rmore_24 : AK := .cond (.t 16) .skip (.exit 0)
def rmore_23o : List ROp := [.v 8 (.mov (.t 3)),
   .v 9 (.bin .gtr (.t 8) (.c (.int .i64 0))),
   .v 10 (.mov (.t 9)),
   .gval 11 10 true false 68011 (.mov (.t 0)),
   .gval 12 10 true false 68012 (.mov (.t 3)),
   .gval 13 10 true false 68013 (.bin .sub (.t 12) (.c (.int .i64 1))),
   .gval 14 10 true false 68014 (.sidx (.t 11) (.t 13)),
   .gval 15 10 true false 68015 (.bin .eql (.t 14) (.c (.int .u8 57))),
   .v 16 (.pick (.t 10) (.t 15) (.c (.bool false)))]
def rmore_23 : AK := .seq (.reg rmore_23o [0, 3, 16]) rmore_24
def rmore_20 : AK := .seq rmore_23 rmore_21
def rmore_L1 : AK := .loop rmore_20
def rmore_19 : AK := .block 0 rmore_L1
def rmore_2 : AK := .seq rmore_19 rmore_3
def rmore_1o : List ROp := [.v 6 (.mov (.t 0)),
   .v 7 (.len true (.t 6)),
   .v 3 (.mov (.t 7))]
def rmore_1 : AK := .seq (.reg rmore_1o [0, 3]) rmore_2
def rmore_0o : List ROp := [.v 2 (.mov (.c (.str [])))]
def rmore_0 : AK := .seq (.reg rmore_0o [0]) rmore_1
def rmore : AK := rmore_0
theorem rmore_vc (P : Program) (E : Env) (Q : KQ) (st : St) :
  (vcW P E rmore_6 Q st = aopsW P rmore_6o st (KS.reg [2] (KQ.seq P E .ret Q))) ∧
  (vcW P E rmore_9 Q st = aopsW P rmore_9o st (KS.reg [2] (KQ.seq P E .ret Q))) ∧
  (vcW P E rmore_8 Q st = cndW P E (ev st (.t 29)) rmore_9 .skip Q st) ∧
  (vcW P E rmore_7 Q st = aopsW P rmore_7o st (KS.reg [0, 3, 4, 29] (KQ.seq P E rmore_8 Q))) ∧
  (vcW P E rmore_5 Q st = vcW P E rmore_7 (KQ.seq P E rmore_6 Q) st) ∧
  (vcW P E rmore_14 Q st = aopsW P rmore_14o st (KS.reg [0, 3, 4, 5] Q)) ∧
  (vcW P E rmore_16 Q st = aopsW P rmore_16o st (KS.reg [0, 3, 4, 5] Q)) ∧
  (vcW P E rmore_15 Q st = vcW P E rmore_16 (KQ.blk 3 Q) st) ∧
  (vcW P E rmore_13 Q st = vcW P E rmore_15 (KQ.seq P E rmore_14 Q) st) ∧
  (vcW P E rmore_18 Q st = cndW P E (ev st (.t 23)) .skip (.exit 2) Q st) ∧
  (vcW P E rmore_17 Q st = aopsW P rmore_17o st (KS.reg [0, 3, 4, 5, 23] (KQ.seq P E rmore_18 Q))) ∧
  (vcW P E rmore_12 Q st = vcW P E rmore_17 (KQ.seq P E rmore_13 Q) st) ∧
  (vcW P E rmore_11 Q st = vcW P E rmore_L0 (KQ.blk 2 Q) st) ∧
  (vcW P E rmore_10 Q st = aopsW P rmore_10o st (KS.reg [0, 3, 4, 5] (KQ.seq P E rmore_11 Q))) ∧
  (vcW P E rmore_4 Q st = vcW P E rmore_10 (KQ.seq P E rmore_5 Q) st) ∧
  (vcW P E rmore_3 Q st = aopsW P rmore_3o st (KS.reg [0, 3, 4] (KQ.seq P E rmore_4 Q))) ∧
  (vcW P E rmore_22 Q st = aopsW P rmore_22o st (KS.reg [0, 3] Q)) ∧
  (vcW P E rmore_21 Q st = vcW P E rmore_22 (KQ.blk 1 Q) st) ∧
  (vcW P E rmore_24 Q st = cndW P E (ev st (.t 16)) .skip (.exit 0) Q st) ∧
  (vcW P E rmore_23 Q st = aopsW P rmore_23o st (KS.reg [0, 3, 16] (KQ.seq P E rmore_24 Q))) ∧
  (vcW P E rmore_20 Q st = vcW P E rmore_23 (KQ.seq P E rmore_21 Q) st) ∧
  (vcW P E rmore_19 Q st = vcW P E rmore_L1 (KQ.blk 0 Q) st) ∧
  (vcW P E rmore_2 Q st = vcW P E rmore_19 (KQ.seq P E rmore_3 Q) st) ∧
  (vcW P E rmore_1 Q st = aopsW P rmore_1o st (KS.reg [0, 3] (KQ.seq P E rmore_2 Q))) ∧
  (vcW P E rmore_0 Q st = aopsW P rmore_0o st (KS.reg [0] (KQ.seq P E rmore_1 Q))) ∧
  (vcW P E rmore Q st = vcW P E rmore_0 Q st) :=
  ⟨rfl, rfl, vcW_cond, rfl, rfl, rfl, rfl, rfl, rfl, vcW_cond, rfl, rfl, rfl, rfl, rfl, rfl, rfl, rfl, vcW_cond, rfl, rfl, rfl, rfl, rfl, rfl, rfl⟩
theorem rmore_jn (P : Program) (E : Env) (Q : KQ) (st : St) :
  (True) :=
  trivial
attribute [go_sem] rmore_vc rmore_6o rmore_9o rmore_7o rmore_14o rmore_16o rmore_17o rmore_10o rmore_3o rmore_22o rmore_23o rmore_1o rmore_0o
noncomputable def rmoreB : Code := (Tryd.f12.body).getD .skip
theorem rmore_eq : trCode Tryd.prog 46 68000 rmoreB = rmore.erase 68000 := by kernel_rfl
theorem rmore_body : Tryd.f12.body = some rmoreB := by kernel_rfl
theorem rmore_n : Tryd.f12.ntmps = 46 := by kernel_rfl
theorem rmore_r : Tryd.f12.results.toList.map (trRes Tryd.prog) = [.tmp 2] := by kernel_rfl
theorem rmore_spec {h : HP} {a0 : AV} {Post : HP → AV → List AV → Prop} (hp : ∀ (E : Env) (R : HP → AV → List AV → Prop), E.N ≤ 1000000 → PostTo Post R → vcW Tryd.prog E rmore (KQ.post [.tmp 2] 1 R) ⟨[(0, a0)], h⟩) : Eng.Spec Tryd.prog 12 h [a0] Post := spec_wk (
  spec_of (c := rmore.erase 68000) (B := 68000) Tryd.func12 rmore_body (by rw [rmore_n, rmore_eq]) (by rw [rmore_n]; decide) (by rw [rmore_n]; exact (by decide : 1 ≤ 46)) (fun E hE hB hrd => by
    have hN : E.N ≤ 1000000 := by
      rw [hE, rmore_n]; decide
    rw [rmore_r, ← hB]
    exact awp_slots [(0, a0)] ⟨rfl, trivial⟩ (vcW_sound hN _ (hp E _ hN fin_self))))
/- cartulary/cartularyref21.second -/
def second_4o : List ROp := [.v 38 (.mov (.t 4)),
   .cal (some 39) false 69039 46 [(.t 38)],
   .v 40 (.ext (.t 39) 0),
   .v 41 (.ext (.t 39) 1),
   .v 2 (.mov (.t 40)),
   .v 3 (.mov (.t 41))]
def second_4 : AK := .seq (.reg second_4o [2, 3]) .ret
def second_9o : List ROp := [.v 18 (.mov (.t 5)),
   .v 19 (.bin .add (.t 18) (.c (.int .i64 1))),
   .v 5 (.mov (.t 19))]
def second_9 : AK := .reg second_9o [0, 4, 5]
def second_12o : List ROp := [.val 24 true 69024 (.mov (.t 4)),
   .val 25 true 69025 (.mov (.t 6)),
   .val 26 true 69026 (.mov (.t 4)),
   .val 27 true 69027 (.mov (.t 6)),
   .val 28 true 69028 (.idxA 1 (.t 26) (.t 27)),
   .val 29 true 69029 (.ld false 1 (.t 28)),
   .val 30 true 69030 (.bin .mul (.c (.int .i64 10)) (.t 29)),
   .val 31 true 69031 (.mov (.t 0)),
   .val 32 true 69032 (.mov (.t 5)),
   .val 33 true 69033 (.sidx (.t 31) (.t 32)),
   .val 34 true 69034 (.bin .sub (.t 33) (.c (.int .u8 48))),
   .val 35 true 69035 (.cvi .i64 (.t 34)),
   .v 36 (.bin .add (.t 30) (.t 35)),
   .v 37 (.idxA 1 (.t 24) (.t 25)),
   .effN false 69000 (.st 1 (.t 37) (.t 36))]
def second_12 : AK := .reg second_12o [0, 4, 5]
def second_11o : List ROp := [.v 20 (.mov (.t 5)),
   .v 21 (.bin .quo (.t 20) (.c (.int .i64 2))),
   .v 22 (.bin .sub (.t 21) (.c (.int .i64 1))),
   .v 23 (.mm true (.c (.int .i64 0)) (.t 22)),
   .v 6 (.mov (.t 23))]
def second_11 : AK := .seq (.reg second_11o [0, 4, 5, 6]) second_12
def second_10 : AK := .block 1 second_11
def second_8 : AK := .seq second_10 second_9
def second_14 : AK := .cond (.t 17) .skip (.exit 0)
def second_13o : List ROp := [.v 16 (.mov (.t 5)),
   .v 17 (.bin .lss (.t 16) (.c (.int .i64 14)))]
def second_13 : AK := .seq (.reg second_13o [0, 4, 5, 17]) second_14
def second_7 : AK := .seq second_13 second_8
def second_L0 : AK := .loop second_7
def second_6 : AK := .block 0 second_L0
def second_5o : List ROp := [.v 5 (.mov (.c (.int .i64 0)))]
def second_5 : AK := .seq (.reg second_5o [0, 4, 5]) second_6
def second_3 : AK := .seq second_5 second_4
def second_2o : List ROp := [.eff 15 false 69015 (.bsl 1 [(.c (.int .i64 0)), (.c (.int .i64 0)), (.c (.int .i64 0)), (.c (.int .i64 0)), (.c (.int .i64 0)), (.c (.int .i64 0))]),
   .v 4 (.mov (.t 15))]
def second_2 : AK := .seq (.reg second_2o [0, 4]) second_3
def second_17o : List ROp := [.v 2 (.mov (.c (.int .i64 0))),
   .v 3 (.mov (.c (.bool false)))]
def second_17 : AK := .seq (.reg second_17o [2, 3]) .ret
def second_16 : AK := .cond (.t 14) second_17 .skip
def second_15o : List ROp := [.v 7 (.mov (.t 0)),
   .v 8 (.len true (.t 7)),
   .v 9 (.bin .neq (.t 8) (.c (.int .i64 14))),
   .v 10 (.mov (.t 9)),
   .gval 11 10 false false 69011 (.mov (.t 0)),
   .gcal 12 10 false false 69012 45 [(.t 11)],
   .gval 13 10 false false 69013 (.un .not (.t 12)),
   .v 14 (.pick (.t 10) (.c (.bool true)) (.t 13))]
def second_15 : AK := .seq (.reg second_15o [0, 14]) second_16
def second_1 : AK := .seq second_15 second_2
def second_0o : List ROp := [.v 2 (.mov (.c (.int .i64 0))),
   .v 3 (.mov (.c (.bool false)))]
def second_0 : AK := .seq (.reg second_0o [0]) second_1
def second : AK := second_0
theorem second_vc (P : Program) (E : Env) (Q : KQ) (st : St) :
  (vcW P E second_4 Q st = aopsW P second_4o st (KS.reg [2, 3] (KQ.seq P E .ret Q))) ∧
  (vcW P E second_9 Q st = aopsW P second_9o st (KS.reg [0, 4, 5] Q)) ∧
  (vcW P E second_12 Q st = aopsW P second_12o st (KS.reg [0, 4, 5] Q)) ∧
  (vcW P E second_11 Q st = aopsW P second_11o st (KS.reg [0, 4, 5, 6] (KQ.seq P E second_12 Q))) ∧
  (vcW P E second_10 Q st = vcW P E second_11 (KQ.blk 1 Q) st) ∧
  (vcW P E second_8 Q st = vcW P E second_10 (KQ.seq P E second_9 Q) st) ∧
  (vcW P E second_14 Q st = cndW P E (ev st (.t 17)) .skip (.exit 0) Q st) ∧
  (vcW P E second_13 Q st = aopsW P second_13o st (KS.reg [0, 4, 5, 17] (KQ.seq P E second_14 Q))) ∧
  (vcW P E second_7 Q st = vcW P E second_13 (KQ.seq P E second_8 Q) st) ∧
  (vcW P E second_6 Q st = vcW P E second_L0 (KQ.blk 0 Q) st) ∧
  (vcW P E second_5 Q st = aopsW P second_5o st (KS.reg [0, 4, 5] (KQ.seq P E second_6 Q))) ∧
  (vcW P E second_3 Q st = vcW P E second_5 (KQ.seq P E second_4 Q) st) ∧
  (vcW P E second_2 Q st = aopsW P second_2o st (KS.reg [0, 4] (KQ.seq P E second_3 Q))) ∧
  (vcW P E second_17 Q st = aopsW P second_17o st (KS.reg [2, 3] (KQ.seq P E .ret Q))) ∧
  (vcW P E second_16 Q st = cndW P E (ev st (.t 14)) second_17 .skip Q st) ∧
  (vcW P E second_15 Q st = aopsW P second_15o st (KS.reg [0, 14] (KQ.seq P E second_16 Q))) ∧
  (vcW P E second_1 Q st = vcW P E second_15 (KQ.seq P E second_2 Q) st) ∧
  (vcW P E second_0 Q st = aopsW P second_0o st (KS.reg [0] (KQ.seq P E second_1 Q))) ∧
  (vcW P E second Q st = vcW P E second_0 Q st) :=
  ⟨rfl, rfl, rfl, rfl, rfl, rfl, vcW_cond, rfl, rfl, rfl, rfl, rfl, rfl, rfl, vcW_cond, rfl, rfl, rfl, rfl⟩
theorem second_jn (P : Program) (E : Env) (Q : KQ) (st : St) :
  (True) :=
  trivial
attribute [go_sem] second_vc second_4o second_9o second_12o second_11o second_13o second_5o second_2o second_17o second_15o second_0o
noncomputable def secondB : Code := (Tryd.f23.body).getD .skip
theorem second_eq : trCode Tryd.prog 42 69000 secondB = second.erase 69000 := by kernel_rfl
theorem second_body : Tryd.f23.body = some secondB := by kernel_rfl
theorem second_n : Tryd.f23.ntmps = 42 := by kernel_rfl
theorem second_r : Tryd.f23.results.toList.map (trRes Tryd.prog) = [.tmp 2, .tmp 3] := by kernel_rfl
theorem second_spec {h : HP} {a0 : AV} {Post : HP → AV → List AV → Prop} (hp : ∀ (E : Env) (R : HP → AV → List AV → Prop), E.N ≤ 1000000 → PostTo Post R → vcW Tryd.prog E second (KQ.post [.tmp 2, .tmp 3] 1 R) ⟨[(0, a0)], h⟩) : Eng.Spec Tryd.prog 23 h [a0] Post := spec_wk (
  spec_of (c := second.erase 69000) (B := 69000) Tryd.func23 second_body (by rw [second_n, second_eq]) (by rw [second_n]; decide) (by rw [second_n]; exact (by decide : 1 ≤ 42)) (fun E hE hB hrd => by
    have hN : E.N ≤ 1000000 := by
      rw [hE, second_n]; decide
    rw [second_r, ← hB]
    exact awp_slots [(0, a0)] ⟨rfl, trivial⟩ (vcW_sound hN _ (hp E _ hN fin_self))))
/- cartulary/cartularyref21.build -/
def rbuild_2o : List ROp := [.v 6 (.fldA false 4 1 (.t 1)),
   .v 7 (.ld false 1 (.t 6)),
   .v 8 (.bin .add (.c (.str [43])) (.t 7)),
   .v 2 (.mov (.t 8))]
def rbuild_2 : AK := .seq (.reg rbuild_2o [2]) .ret
def rbuild_5o : List ROp := [.v 2 (.mov (.c (.str [])))]
def rbuild_5 : AK := .seq (.reg rbuild_5o [2]) .ret
def rbuild_4 : AK := .cond (.t 5) rbuild_5 .skip
def rbuild_3o : List ROp := [.v 3 (.fldA false 4 1 (.t 1)),
   .v 4 (.ld false 1 (.t 3)),
   .v 5 (.bin .eql (.t 4) (.c (.str [])))]
def rbuild_3 : AK := .seq (.reg rbuild_3o [1, 5]) rbuild_4
def rbuild_1 : AK := .seq rbuild_3 rbuild_2
def rbuild_0o : List ROp := [.eff 1 false 70001 (.box 6 (.t 0)),
   .v 2 (.mov (.c (.str [])))]
def rbuild_0 : AK := .seq (.reg rbuild_0o [1]) rbuild_1
def rbuild : AK := rbuild_0
theorem rbuild_vc (P : Program) (E : Env) (Q : KQ) (st : St) :
  (vcW P E rbuild_2 Q st = aopsW P rbuild_2o st (KS.reg [2] (KQ.seq P E .ret Q))) ∧
  (vcW P E rbuild_5 Q st = aopsW P rbuild_5o st (KS.reg [2] (KQ.seq P E .ret Q))) ∧
  (vcW P E rbuild_4 Q st = cndW P E (ev st (.t 5)) rbuild_5 .skip Q st) ∧
  (vcW P E rbuild_3 Q st = aopsW P rbuild_3o st (KS.reg [1, 5] (KQ.seq P E rbuild_4 Q))) ∧
  (vcW P E rbuild_1 Q st = vcW P E rbuild_3 (KQ.seq P E rbuild_2 Q) st) ∧
  (vcW P E rbuild_0 Q st = aopsW P rbuild_0o st (KS.reg [1] (KQ.seq P E rbuild_1 Q))) ∧
  (vcW P E rbuild Q st = vcW P E rbuild_0 Q st) :=
  ⟨rfl, rfl, vcW_cond, rfl, rfl, rfl, rfl⟩
theorem rbuild_jn (P : Program) (E : Env) (Q : KQ) (st : St) :
  (True) :=
  trivial
attribute [go_sem] rbuild_vc rbuild_2o rbuild_5o rbuild_3o rbuild_0o
noncomputable def rbuildB : Code := (Tryd.f25.body).getD .skip
theorem rbuild_eq : trCode Tryd.prog 9 70000 rbuildB = rbuild.erase 70000 := by kernel_rfl
theorem rbuild_body : Tryd.f25.body = some rbuildB := by kernel_rfl
theorem rbuild_n : Tryd.f25.ntmps = 9 := by kernel_rfl
theorem rbuild_r : Tryd.f25.results.toList.map (trRes Tryd.prog) = [.tmp 2] := by kernel_rfl
theorem rbuild_spec {h : HP} {a0 : AV} {Post : HP → AV → List AV → Prop} (hp : ∀ (E : Env) (R : HP → AV → List AV → Prop), E.N ≤ 1000000 → PostTo Post R → vcW Tryd.prog E rbuild (KQ.post [.tmp 2] 1 R) ⟨[(0, a0)], h⟩) : Eng.Spec Tryd.prog 25 h [a0] Post := spec_wk (
  spec_of (c := rbuild.erase 70000) (B := 70000) Tryd.func25 rbuild_body (by rw [rbuild_n, rbuild_eq]) (by rw [rbuild_n]; decide) (by rw [rbuild_n]; exact (by decide : 1 ≤ 9)) (fun E hE hB hrd => by
    have hN : E.N ≤ 1000000 := by
      rw [hE, rbuild_n]; decide
    rw [rbuild_r, ← hB]
    exact awp_slots [(0, a0)] ⟨rfl, trivial⟩ (vcW_sound hN _ (hp E _ hN fin_self))))
/- cartulary/cartularyref21.Parse -/
def rpparse_12o : List ROp := [.val 119 true 71119 (.mov (.t 13)),
   .val 120 true 71120 (.fldA false 2 1 (.t 6)),
   .val 121 true 71121 (.ld false 1 (.t 120)),
   .val 122 true 71122 (.bin .add (.t 119) (.t 121)),
   .val 123 true 71123 (.bin .add (.t 122) (.c (.str [45]))),
   .val 124 true 71124 (.mov (.t 11)),
   .val 125 true 71125 (.mov (.t 11)),
   .val 126 true 71126 (.len true (.t 125)),
   .val 127 true 71127 (.bin .sub (.t 126) (.c (.int .i64 3))),
   .val 128 true 71128 (.slcS (.t 124) none (some (.t 127))),
   .val 129 true 71129 (.bin .add (.t 123) (.t 128)),
   .val 130 true 71130 (.ld true 6 (.t 6)),
   .val 133 true 71133 (.mov (.t 9)),
   .val 134 true 71134 (.mov (.t 12)),
   .cal (some 131) true 71131 25 [(.t 130)],
   .v 132 (.bin .add (.t 129) (.t 131)),
   .v 2 (.mov (.t 132)),
   .v 3 (.mov (.t 133)),
   .v 4 (.mov (.t 134)),
   .v 5 (.mov (.c (.int .i64 0)))]
def rpparse_12 : AK := .seq (.reg rpparse_12o [2, 3, 4, 5]) .ret
def rpparse_15o : List ROp := [.v 2 (.mov (.c (.str []))),
   .v 3 (.mov (.c (.int .i64 0))),
   .v 4 (.mov (.c (.str []))),
   .v 5 (.mov (.c (.int .i64 3)))]
def rpparse_15 : AK := .seq (.reg rpparse_15o [2, 3, 4, 5]) .ret
def rpparse_14 : AK := .cond (.t 118) rpparse_15 .skip
def rpparse_13o : List ROp := [.v 111 (.mov (.t 11)),
   .cal (some 112) false 71112 26 [(.t 111), (.c (.str [46, 48, 46]))],
   .v 113 (.un .not (.t 112)),
   .v 114 (.mov (.t 113)),
   .gval 115 114 false false 71115 (.mov (.t 11)),
   .gval 116 114 false false 71116 (.len true (.t 115)),
   .gval 117 114 false false 71117 (.bin .eql (.t 116) (.c (.int .i64 3))),
   .v 118 (.pick (.t 114) (.c (.bool true)) (.t 117))]
def rpparse_13 : AK := .seq (.reg rpparse_13o [6, 9, 11, 12, 13, 118]) rpparse_14
def rpparse_11 : AK := .seq rpparse_13 rpparse_12
def rpparse_19o : List ROp := [.val 101 true 71101 (.mov (.t 13)),
   .val 102 true 71102 (.fldA false 2 1 (.t 6)),
   .val 103 true 71103 (.ld false 1 (.t 102)),
   .val 106 true 71106 (.ld true 6 (.t 6)),
   .val 109 true 71109 (.mov (.t 9)),
   .val 110 true 71110 (.mov (.t 12)),
   .cal (some 104) true 71104 24 [(.t 103)],
   .val 105 true 71105 (.bin .add (.t 101) (.t 104)),
   .cal (some 107) false 71107 25 [(.t 106)],
   .v 108 (.bin .add (.t 105) (.t 107)),
   .v 2 (.mov (.t 108)),
   .v 3 (.mov (.t 109)),
   .v 4 (.mov (.t 110)),
   .v 5 (.mov (.c (.int .i64 0)))]
def rpparse_19 : AK := .seq (.reg rpparse_19o [2, 3, 4, 5]) .ret
def rpparse_22o : List ROp := [.v 2 (.mov (.c (.str []))),
   .v 3 (.mov (.c (.int .i64 0))),
   .v 4 (.mov (.c (.str []))),
   .v 5 (.mov (.c (.int .i64 3)))]
def rpparse_22 : AK := .seq (.reg rpparse_22o [2, 3, 4, 5]) .ret
def rpparse_21 : AK := .cond (.t 100) rpparse_22 .skip
def rpparse_20o : List ROp := [.v 98 (.fldA false 2 1 (.t 6)),
   .v 99 (.ld false 1 (.t 98)),
   .v 100 (.bin .eql (.t 99) (.c (.str [48])))]
def rpparse_20 : AK := .seq (.reg rpparse_20o [6, 9, 12, 13, 100]) rpparse_21
def rpparse_18 : AK := .seq rpparse_20 rpparse_19
def rpparse_17 : AK := .cond (.t 97) rpparse_18 .skip
def rpparse_16o : List ROp := [.v 96 (.mov (.t 11)),
   .v 97 (.bin .eql (.t 96) (.c (.str [48, 46])))]
def rpparse_16 : AK := .seq (.reg rpparse_16o [6, 9, 11, 12, 13, 97]) rpparse_17
def rpparse_10 : AK := .seq rpparse_16 rpparse_11
def rpparse_9o : List ROp := [.v 88 (.fldA false 0 1 (.t 6)),
   .v 89 (.ld false 1 (.t 88)),
   .v 90 (.bin .add (.c (.str [118])) (.t 89)),
   .v 91 (.bin .add (.t 90) (.c (.str [46]))),
   .v 92 (.fldA false 1 1 (.t 6)),
   .v 93 (.ld false 1 (.t 92)),
   .v 94 (.bin .add (.t 91) (.t 93)),
   .v 95 (.bin .add (.t 94) (.c (.str [46]))),
   .v 13 (.mov (.t 95))]
def rpparse_9 : AK := .seq (.reg rpparse_9o [6, 9, 11, 12, 13]) rpparse_10
def rpparse_26o : List ROp := [.v 86 (.mov (.t 9)),
   .v 87 (.mov (.t 12)),
   .v 2 (.mov (.c (.str []))),
   .v 3 (.mov (.t 86)),
   .v 4 (.mov (.t 87)),
   .v 5 (.mov (.c (.int .i64 0)))]
def rpparse_26 : AK := .seq (.reg rpparse_26o [2, 3, 4, 5]) .ret
def rpparse_29o : List ROp := [.v 2 (.mov (.c (.str []))),
   .v 3 (.mov (.c (.int .i64 0))),
   .v 4 (.mov (.c (.str []))),
   .v 5 (.mov (.c (.int .i64 3)))]
def rpparse_29 : AK := .seq (.reg rpparse_29o [2, 3, 4, 5]) .ret
def rpparse_28 : AK := .cond (.t 85) rpparse_29 .skip
def rpparse_27o : List ROp := [.v 73 (.fldA false 1 1 (.t 6)),
   .v 74 (.ld false 1 (.t 73)),
   .v 75 (.bin .neq (.t 74) (.c (.str [48]))),
   .v 76 (.mov (.t 75)),
   .gval 77 76 false false 71077 (.fldA false 2 1 (.t 6)),
   .gval 78 76 false false 71078 (.ld false 1 (.t 77)),
   .gval 79 76 false false 71079 (.bin .neq (.t 78) (.c (.str [48]))),
   .v 80 (.pick (.t 76) (.c (.bool true)) (.t 79)),
   .v 81 (.mov (.t 80)),
   .gval 82 81 false false 71082 (.fldA false 4 1 (.t 6)),
   .gval 83 81 false false 71083 (.ld false 1 (.t 82)),
   .gval 84 81 false false 71084 (.bin .neq (.t 83) (.c (.str []))),
   .v 85 (.pick (.t 81) (.c (.bool true)) (.t 84))]
def rpparse_27 : AK := .seq (.reg rpparse_27o [9, 12, 85]) rpparse_28
def rpparse_25 : AK := .seq rpparse_27 rpparse_26
def rpparse_24 : AK := .cond (.t 72) rpparse_25 .skip
def rpparse_23o : List ROp := [.v 71 (.mov (.t 11)),
   .v 72 (.bin .eql (.t 71) (.c (.str [])))]
def rpparse_23 : AK := .seq (.reg rpparse_23o [6, 9, 11, 12, 72]) rpparse_24
def rpparse_8 : AK := .seq rpparse_23 rpparse_9
def rpparse_7o : List ROp := [.val 61 true 71061 (.fldA false 3 1 (.t 6)),
   .val 62 true 71062 (.ld false 1 (.t 61)),
   .val 63 true 71063 (.mov (.t 8)),
   .val 64 true 71064 (.bin .sub (.t 63) (.c (.int .i64 27))),
   .val 65 true 71065 (.slcS (.t 62) none (some (.t 64))),
   .val 66 true 71066 (.fldA false 3 1 (.t 6)),
   .val 67 true 71067 (.ld false 1 (.t 66)),
   .val 68 true 71068 (.mov (.t 8)),
   .val 69 true 71069 (.bin .sub (.t 68) (.c (.int .i64 12))),
   .val 70 true 71070 (.slcS (.t 67) (some (.t 69)) none),
   .val 11 true 71011 (.mov (.t 65)),
   .v 12 (.mov (.t 70))]
def rpparse_7 : AK := .seq (.reg rpparse_7o [6, 9, 11, 12]) rpparse_8
def rpparse_32o : List ROp := [.v 2 (.mov (.c (.str []))),
   .v 3 (.mov (.c (.int .i64 0))),
   .v 4 (.mov (.c (.str []))),
   .v 5 (.mov (.c (.int .i64 3)))]
def rpparse_32 : AK := .seq (.reg rpparse_32o [2, 3, 4, 5]) .ret
def rpparse_31 : AK := .cond (.t 60) rpparse_32 .skip
def rpparse_30o : List ROp := [.v 59 (.mov (.t 10)),
   .v 60 (.un .not (.t 59))]
def rpparse_30 : AK := .seq (.reg rpparse_30o [6, 8, 9, 60]) rpparse_31
def rpparse_6 : AK := .seq rpparse_30 rpparse_7
def rpparse_5o : List ROp := [.v 49 (.fldA false 3 1 (.t 6)),
   .v 50 (.ld false 1 (.t 49)),
   .v 51 (.mov (.t 8)),
   .v 52 (.bin .sub (.t 51) (.c (.int .i64 27))),
   .v 53 (.mov (.t 8)),
   .v 54 (.bin .sub (.t 53) (.c (.int .i64 13))),
   .v 55 (.slcS (.t 50) (some (.t 52)) (some (.t 54))),
   .cal (some 56) false 71056 23 [(.t 55)],
   .v 48 (.mov (.t 56)),
   .v 57 (.ext (.t 48) 0),
   .v 58 (.ext (.t 48) 1),
   .v 9 (.mov (.t 57)),
   .v 10 (.mov (.t 58))]
def rpparse_5 : AK := .seq (.reg rpparse_5o [6, 8, 9, 10]) rpparse_6
def rpparse_35o : List ROp := [.v 2 (.mov (.c (.str []))),
   .v 3 (.mov (.c (.int .i64 0))),
   .v 4 (.mov (.c (.str []))),
   .v 5 (.mov (.c (.int .i64 3)))]
def rpparse_35 : AK := .seq (.reg rpparse_35o [2, 3, 4, 5]) .ret
def rpparse_34 : AK := .cond (.t 47) rpparse_35 .skip
def rpparse_33o : List ROp := [.v 29 (.mov (.t 8)),
   .v 30 (.bin .lss (.t 29) (.c (.int .i64 27))),
   .v 31 (.mov (.t 30)),
   .gval 32 31 false false 71032 (.fldA false 3 1 (.t 6)),
   .gval 33 31 false false 71033 (.ld false 1 (.t 32)),
   .gval 34 31 false false 71034 (.mov (.t 8)),
   .gval 35 31 false false 71035 (.bin .sub (.t 34) (.c (.int .i64 13))),
   .gval 36 31 false false 71036 (.sidx (.t 33) (.t 35)),
   .gval 37 31 false false 71037 (.bin .neq (.t 36) (.c (.int .u8 45))),
   .v 38 (.pick (.t 31) (.c (.bool true)) (.t 37)),
   .v 39 (.mov (.t 38)),
   .gval 40 39 false false 71040 (.fldA false 3 1 (.t 6)),
   .gval 41 39 false false 71041 (.ld false 1 (.t 40)),
   .gval 42 39 false false 71042 (.mov (.t 8)),
   .gval 43 39 false false 71043 (.bin .sub (.t 42) (.c (.int .i64 12))),
   .gval 44 39 false false 71044 (.slcS (.t 41) (some (.t 43)) none),
   .gcal 45 39 false false 71045 22 [(.t 44)],
   .gval 46 39 false false 71046 (.un .not (.t 45)),
   .v 47 (.pick (.t 39) (.c (.bool true)) (.t 46))]
def rpparse_33 : AK := .seq (.reg rpparse_33o [6, 8, 47]) rpparse_34
def rpparse_4 : AK := .seq rpparse_33 rpparse_5
def rpparse_3o : List ROp := [.v 26 (.fldA false 3 1 (.t 6)),
   .v 27 (.ld false 1 (.t 26)),
   .v 28 (.len true (.t 27)),
   .v 8 (.mov (.t 28))]
def rpparse_3 : AK := .seq (.reg rpparse_3o [6, 8]) rpparse_4
def rpparse_38o : List ROp := [.v 2 (.mov (.c (.str []))),
   .v 3 (.mov (.c (.int .i64 0))),
   .v 4 (.mov (.c (.str []))),
   .v 5 (.mov (.c (.int .i64 4)))]
def rpparse_38 : AK := .seq (.reg rpparse_38o [2, 3, 4, 5]) .ret
def rpparse_37 : AK := .cond (.t 25) rpparse_38 .skip
def rpparse_36o : List ROp := [.v 19 (.mov (.t 7)),
   .v 20 (.un .not (.t 19)),
   .v 21 (.mov (.t 20)),
   .gval 22 21 false false 71022 (.fldA false 5 1 (.t 6)),
   .gval 23 21 false false 71023 (.ld false 1 (.t 22)),
   .gval 24 21 false false 71024 (.bin .gtr (.t 23) (.c (.int .i64 0))),
   .v 25 (.pick (.t 21) (.c (.bool true)) (.t 24))]
def rpparse_36 : AK := .seq (.reg rpparse_36o [6, 25]) rpparse_37
def rpparse_2 : AK := .seq rpparse_36 rpparse_3
def rpparse_1o : List ROp := [.v 15 (.mov (.t 0)),
   .cal (some 16) false 71016 11 [(.t 15)],
   .v 14 (.mov (.t 16)),
   .v 17 (.ext (.t 14) 0),
   .v 18 (.ext (.t 14) 1),
   .eff 6 false 71006 (.alloc [.str [], .str [], .str [], .str [], .str [], .int .i64 0]),
   .effN false 71000 (.st 6 (.t 6) (.t 17)),
   .v 7 (.mov (.t 18))]
def rpparse_1 : AK := .seq (.reg rpparse_1o [6, 7]) rpparse_2
def rpparse_0o : List ROp := [.v 2 (.mov (.c (.str []))),
   .v 3 (.mov (.c (.int .i64 0))),
   .v 4 (.mov (.c (.str []))),
   .v 5 (.mov (.c (.int .i64 0)))]
def rpparse_0 : AK := .seq (.reg rpparse_0o [0]) rpparse_1
def rpparse : AK := rpparse_0
theorem rpparse_vc (P : Program) (E : Env) (Q : KQ) (st : St) :
  (vcW P E rpparse_12 Q st = aopsW P rpparse_12o st (KS.reg [2, 3, 4, 5] (KQ.seq P E .ret Q))) ∧
  (vcW P E rpparse_15 Q st = aopsW P rpparse_15o st (KS.reg [2, 3, 4, 5] (KQ.seq P E .ret Q))) ∧
  (vcW P E rpparse_14 Q st = cndW P E (ev st (.t 118)) rpparse_15 .skip Q st) ∧
  (vcW P E rpparse_13 Q st = aopsW P rpparse_13o st (KS.reg [6, 9, 11, 12, 13, 118] (KQ.seq P E rpparse_14 Q))) ∧
  (vcW P E rpparse_11 Q st = vcW P E rpparse_13 (KQ.seq P E rpparse_12 Q) st) ∧
  (vcW P E rpparse_19 Q st = aopsW P rpparse_19o st (KS.reg [2, 3, 4, 5] (KQ.seq P E .ret Q))) ∧
  (vcW P E rpparse_22 Q st = aopsW P rpparse_22o st (KS.reg [2, 3, 4, 5] (KQ.seq P E .ret Q))) ∧
  (vcW P E rpparse_21 Q st = cndW P E (ev st (.t 100)) rpparse_22 .skip Q st) ∧
  (vcW P E rpparse_20 Q st = aopsW P rpparse_20o st (KS.reg [6, 9, 12, 13, 100] (KQ.seq P E rpparse_21 Q))) ∧
  (vcW P E rpparse_18 Q st = vcW P E rpparse_20 (KQ.seq P E rpparse_19 Q) st) ∧
  (vcW P E rpparse_17 Q st = cndW P E (ev st (.t 97)) rpparse_18 .skip Q st) ∧
  (vcW P E rpparse_16 Q st = aopsW P rpparse_16o st (KS.reg [6, 9, 11, 12, 13, 97] (KQ.seq P E rpparse_17 Q))) ∧
  (vcW P E rpparse_10 Q st = vcW P E rpparse_16 (KQ.seq P E rpparse_11 Q) st) ∧
  (vcW P E rpparse_9 Q st = aopsW P rpparse_9o st (KS.reg [6, 9, 11, 12, 13] (KQ.seq P E rpparse_10 Q))) ∧
  (vcW P E rpparse_26 Q st = aopsW P rpparse_26o st (KS.reg [2, 3, 4, 5] (KQ.seq P E .ret Q))) ∧
  (vcW P E rpparse_29 Q st = aopsW P rpparse_29o st (KS.reg [2, 3, 4, 5] (KQ.seq P E .ret Q))) ∧
  (vcW P E rpparse_28 Q st = cndW P E (ev st (.t 85)) rpparse_29 .skip Q st) ∧
  (vcW P E rpparse_27 Q st = aopsW P rpparse_27o st (KS.reg [9, 12, 85] (KQ.seq P E rpparse_28 Q))) ∧
  (vcW P E rpparse_25 Q st = vcW P E rpparse_27 (KQ.seq P E rpparse_26 Q) st) ∧
  (vcW P E rpparse_24 Q st = cndW P E (ev st (.t 72)) rpparse_25 .skip Q st) ∧
  (vcW P E rpparse_23 Q st = aopsW P rpparse_23o st (KS.reg [6, 9, 11, 12, 72] (KQ.seq P E rpparse_24 Q))) ∧
  (vcW P E rpparse_8 Q st = vcW P E rpparse_23 (KQ.seq P E rpparse_9 Q) st) ∧
  (vcW P E rpparse_7 Q st = aopsW P rpparse_7o st (KS.reg [6, 9, 11, 12] (KQ.seq P E rpparse_8 Q))) ∧
  (vcW P E rpparse_32 Q st = aopsW P rpparse_32o st (KS.reg [2, 3, 4, 5] (KQ.seq P E .ret Q))) ∧
  (vcW P E rpparse_31 Q st = cndW P E (ev st (.t 60)) rpparse_32 .skip Q st) ∧
  (vcW P E rpparse_30 Q st = aopsW P rpparse_30o st (KS.reg [6, 8, 9, 60] (KQ.seq P E rpparse_31 Q))) ∧
  (vcW P E rpparse_6 Q st = vcW P E rpparse_30 (KQ.seq P E rpparse_7 Q) st) ∧
  (vcW P E rpparse_5 Q st = aopsW P rpparse_5o st (KS.reg [6, 8, 9, 10] (KQ.seq P E rpparse_6 Q))) ∧
  (vcW P E rpparse_35 Q st = aopsW P rpparse_35o st (KS.reg [2, 3, 4, 5] (KQ.seq P E .ret Q))) ∧
  (vcW P E rpparse_34 Q st = cndW P E (ev st (.t 47)) rpparse_35 .skip Q st) ∧
  (vcW P E rpparse_33 Q st = aopsW P rpparse_33o st (KS.reg [6, 8, 47] (KQ.seq P E rpparse_34 Q))) ∧
  (vcW P E rpparse_4 Q st = vcW P E rpparse_33 (KQ.seq P E rpparse_5 Q) st) ∧
  (vcW P E rpparse_3 Q st = aopsW P rpparse_3o st (KS.reg [6, 8] (KQ.seq P E rpparse_4 Q))) ∧
  (vcW P E rpparse_38 Q st = aopsW P rpparse_38o st (KS.reg [2, 3, 4, 5] (KQ.seq P E .ret Q))) ∧
  (vcW P E rpparse_37 Q st = cndW P E (ev st (.t 25)) rpparse_38 .skip Q st) ∧
  (vcW P E rpparse_36 Q st = aopsW P rpparse_36o st (KS.reg [6, 25] (KQ.seq P E rpparse_37 Q))) ∧
  (vcW P E rpparse_2 Q st = vcW P E rpparse_36 (KQ.seq P E rpparse_3 Q) st) ∧
  (vcW P E rpparse_1 Q st = aopsW P rpparse_1o st (KS.reg [6, 7] (KQ.seq P E rpparse_2 Q))) ∧
  (vcW P E rpparse_0 Q st = aopsW P rpparse_0o st (KS.reg [0] (KQ.seq P E rpparse_1 Q))) ∧
  (vcW P E rpparse Q st = vcW P E rpparse_0 Q st) :=
  ⟨rfl, rfl, vcW_cond, rfl, rfl, rfl, rfl, vcW_cond, rfl, rfl, vcW_cond, rfl, rfl, rfl, rfl, rfl, vcW_cond, rfl, rfl, vcW_cond, rfl, rfl, rfl, rfl, vcW_cond, rfl, rfl, rfl, rfl, vcW_cond, rfl, rfl, rfl, rfl, vcW_cond, rfl, rfl, rfl, rfl, rfl⟩
theorem rpparse_jn (P : Program) (E : Env) (Q : KQ) (st : St) :
  (True) :=
  trivial
attribute [go_sem] rpparse_vc rpparse_12o rpparse_15o rpparse_13o rpparse_19o rpparse_22o rpparse_20o rpparse_16o rpparse_9o rpparse_26o rpparse_29o rpparse_27o rpparse_23o rpparse_7o rpparse_32o rpparse_30o rpparse_5o rpparse_35o rpparse_33o rpparse_3o rpparse_38o rpparse_36o rpparse_1o rpparse_0o
noncomputable def rpparseB : Code := (Tryd.f7.body).getD .skip
theorem rpparse_eq : trCode Tryd.prog 135 71000 rpparseB = rpparse.erase 71000 := by kernel_rfl
theorem rpparse_body : Tryd.f7.body = some rpparseB := by kernel_rfl
theorem rpparse_n : Tryd.f7.ntmps = 135 := by kernel_rfl
theorem rpparse_r : Tryd.f7.results.toList.map (trRes Tryd.prog) = [.tmp 2, .tmp 3, .tmp 4, .tmp 5] := by kernel_rfl
theorem rpparse_spec {h : HP} {a0 : AV} {Post : HP → AV → List AV → Prop} (hp : ∀ (E : Env) (R : HP → AV → List AV → Prop), E.N ≤ 1000000 → PostTo Post R → vcW Tryd.prog E rpparse (KQ.post [.tmp 2, .tmp 3, .tmp 4, .tmp 5] 1 R) ⟨[(0, a0)], h⟩) : Eng.Spec Tryd.prog 7 h [a0] Post := spec_wk (
  spec_of (c := rpparse.erase 71000) (B := 71000) Tryd.func7 rpparse_body (by rw [rpparse_n, rpparse_eq]) (by rw [rpparse_n]; decide) (by rw [rpparse_n]; exact (by decide : 1 ≤ 135)) (fun E hE hB hrd => by
    have hN : E.N ≤ 1000000 := by
      rw [hE, rpparse_n]; decide
    rw [rpparse_r, ← hB]
    exact awp_slots [(0, a0)] ⟨rfl, trivial⟩ (vcW_sound hN _ (hp E _ hN fin_self))))
/- cartulary/cartularyref21.below -/
def below_7o : List ROp := [.v 49 (.mov (.t 6)),
   .v 2 (.mov (.t 49))]
def below_7 : AK := .seq (.reg below_7o [2]) .ret
def below_10o : List ROp := [.v 47 (.mov (.t 6)),
   .v 48 (.slcS (.t 47) (some (.c (.int .i64 1))) none),
   .v 2 (.mov (.t 48))]
def below_10 : AK := .seq (.reg below_10o [2]) .ret
def below_9 : AK := .cond (.t 46) below_10 .skip
def below_8o : List ROp := [.v 39 (.mov (.t 6)),
   .v 40 (.len true (.t 39)),
   .v 41 (.bin .gtr (.t 40) (.c (.int .i64 1))),
   .v 42 (.mov (.t 41)),
   .gval 43 42 true false 72043 (.mov (.t 6)),
   .gval 44 42 true false 72044 (.sidx (.t 43) (.c (.int .i64 0))),
   .gval 45 42 true false 72045 (.bin .eql (.t 44) (.c (.int .u8 48))),
   .v 46 (.pick (.t 42) (.t 45) (.c (.bool false)))]
def below_8 : AK := .seq (.reg below_8o [6, 46]) below_9
def below_6 : AK := .seq below_8 below_7
def below_5o : List ROp := [.val 25 true 72025 (.mov (.t 0)),
   .val 26 true 72026 (.mov (.t 3)),
   .val 27 true 72027 (.bin .sub (.t 26) (.c (.int .i64 1))),
   .val 28 true 72028 (.slcS (.t 25) none (some (.t 27))),
   .val 29 true 72029 (.mov (.t 0)),
   .val 30 true 72030 (.mov (.t 3)),
   .val 31 true 72031 (.bin .sub (.t 30) (.c (.int .i64 1))),
   .val 32 true 72032 (.sidx (.t 29) (.t 31)),
   .val 33 true 72033 (.bin .sub (.t 32) (.c (.int .u8 1))),
   .val 37 true 72037 (.mov (.t 4)),
   .eff 34 true 72034 (.bsl 1 [(.t 33)]),
   .val 35 true 72035 (.bts (.t 34)),
   .v 36 (.bin .add (.t 28) (.t 35)),
   .v 38 (.bin .add (.t 36) (.t 37)),
   .v 6 (.mov (.t 38))]
def below_5 : AK := .seq (.reg below_5o [6]) below_6
def below_15o : List ROp := [.v 21 (.mov (.t 5)),
   .v 22 (.bin .add (.t 21) (.c (.int .i64 1))),
   .v 5 (.mov (.t 22))]
def below_15 : AK := .reg below_15o [0, 3, 4, 5]
def below_17o : List ROp := [.v 23 (.mov (.t 4)),
   .v 24 (.bin .add (.t 23) (.c (.str [57]))),
   .v 4 (.mov (.t 24))]
def below_17 : AK := .reg below_17o [0, 3, 4, 5]
def below_16 : AK := .block 3 below_17
def below_14 : AK := .seq below_16 below_15
def below_19 : AK := .cond (.t 20) .skip (.exit 2)
def below_18o : List ROp := [.v 17 (.mov (.t 5)),
   .v 18 (.mov (.t 0)),
   .v 19 (.len true (.t 18)),
   .v 20 (.bin .lss (.t 17) (.t 19))]
def below_18 : AK := .seq (.reg below_18o [0, 3, 4, 5, 20]) below_19
def below_13 : AK := .seq below_18 below_14
def below_L0 : AK := .loop below_13
def below_12 : AK := .block 2 below_L0
def below_11o : List ROp := [.v 16 (.mov (.t 3)),
   .v 5 (.mov (.t 16))]
def below_11 : AK := .seq (.reg below_11o [0, 3, 4, 5]) below_12
def below_4 : AK := .seq below_11 below_5
def below_3o : List ROp := [.v 4 (.mov (.c (.str [])))]
def below_3 : AK := .seq (.reg below_3o [0, 3, 4]) below_4
def below_23o : List ROp := [.v 14 (.mov (.t 3)),
   .v 15 (.bin .sub (.t 14) (.c (.int .i64 1))),
   .v 3 (.mov (.t 15))]
def below_23 : AK := .reg below_23o [0, 3]
def below_22 : AK := .block 1 below_23
def below_25 : AK := .cond (.t 13) .skip (.exit 0)
def below_24o : List ROp := [.v 9 (.mov (.t 0)),
   .v 10 (.mov (.t 3)),
   .v 11 (.bin .sub (.t 10) (.c (.int .i64 1))),
   .v 12 (.sidx (.t 9) (.t 11)),
   .v 13 (.bin .eql (.t 12) (.c (.int .u8 48)))]
def below_24 : AK := .seq (.reg below_24o [0, 3, 13]) below_25
def below_21 : AK := .seq below_24 below_22
def below_L1 : AK := .loop below_21
def below_20 : AK := .block 0 below_L1
def below_2 : AK := .seq below_20 below_3
def below_1o : List ROp := [.v 7 (.mov (.t 0)),
   .v 8 (.len true (.t 7)),
   .v 3 (.mov (.t 8))]
def below_1 : AK := .seq (.reg below_1o [0, 3]) below_2
def below_0o : List ROp := [.v 2 (.mov (.c (.str [])))]
def below_0 : AK := .seq (.reg below_0o [0]) below_1
def below : AK := below_0
theorem below_vc (P : Program) (E : Env) (Q : KQ) (st : St) :
  (vcW P E below_7 Q st = aopsW P below_7o st (KS.reg [2] (KQ.seq P E .ret Q))) ∧
  (vcW P E below_10 Q st = aopsW P below_10o st (KS.reg [2] (KQ.seq P E .ret Q))) ∧
  (vcW P E below_9 Q st = cndW P E (ev st (.t 46)) below_10 .skip Q st) ∧
  (vcW P E below_8 Q st = aopsW P below_8o st (KS.reg [6, 46] (KQ.seq P E below_9 Q))) ∧
  (vcW P E below_6 Q st = vcW P E below_8 (KQ.seq P E below_7 Q) st) ∧
  (vcW P E below_5 Q st = aopsW P below_5o st (KS.reg [6] (KQ.seq P E below_6 Q))) ∧
  (vcW P E below_15 Q st = aopsW P below_15o st (KS.reg [0, 3, 4, 5] Q)) ∧
  (vcW P E below_17 Q st = aopsW P below_17o st (KS.reg [0, 3, 4, 5] Q)) ∧
  (vcW P E below_16 Q st = vcW P E below_17 (KQ.blk 3 Q) st) ∧
  (vcW P E below_14 Q st = vcW P E below_16 (KQ.seq P E below_15 Q) st) ∧
  (vcW P E below_19 Q st = cndW P E (ev st (.t 20)) .skip (.exit 2) Q st) ∧
  (vcW P E below_18 Q st = aopsW P below_18o st (KS.reg [0, 3, 4, 5, 20] (KQ.seq P E below_19 Q))) ∧
  (vcW P E below_13 Q st = vcW P E below_18 (KQ.seq P E below_14 Q) st) ∧
  (vcW P E below_12 Q st = vcW P E below_L0 (KQ.blk 2 Q) st) ∧
  (vcW P E below_11 Q st = aopsW P below_11o st (KS.reg [0, 3, 4, 5] (KQ.seq P E below_12 Q))) ∧
  (vcW P E below_4 Q st = vcW P E below_11 (KQ.seq P E below_5 Q) st) ∧
  (vcW P E below_3 Q st = aopsW P below_3o st (KS.reg [0, 3, 4] (KQ.seq P E below_4 Q))) ∧
  (vcW P E below_23 Q st = aopsW P below_23o st (KS.reg [0, 3] Q)) ∧
  (vcW P E below_22 Q st = vcW P E below_23 (KQ.blk 1 Q) st) ∧
  (vcW P E below_25 Q st = cndW P E (ev st (.t 13)) .skip (.exit 0) Q st) ∧
  (vcW P E below_24 Q st = aopsW P below_24o st (KS.reg [0, 3, 13] (KQ.seq P E below_25 Q))) ∧
  (vcW P E below_21 Q st = vcW P E below_24 (KQ.seq P E below_22 Q) st) ∧
  (vcW P E below_20 Q st = vcW P E below_L1 (KQ.blk 0 Q) st) ∧
  (vcW P E below_2 Q st = vcW P E below_20 (KQ.seq P E below_3 Q) st) ∧
  (vcW P E below_1 Q st = aopsW P below_1o st (KS.reg [0, 3] (KQ.seq P E below_2 Q))) ∧
  (vcW P E below_0 Q st = aopsW P below_0o st (KS.reg [0] (KQ.seq P E below_1 Q))) ∧
  (vcW P E below Q st = vcW P E below_0 Q st) :=
  ⟨rfl, rfl, vcW_cond, rfl, rfl, rfl, rfl, rfl, rfl, rfl, vcW_cond, rfl, rfl, rfl, rfl, rfl, rfl, rfl, rfl, vcW_cond, rfl, rfl, rfl, rfl, rfl, rfl, rfl⟩
theorem below_jn (P : Program) (E : Env) (Q : KQ) (st : St) :
  (True) :=
  trivial
attribute [go_sem] below_vc below_7o below_10o below_8o below_5o below_15o below_17o below_18o below_11o below_3o below_23o below_24o below_1o below_0o
noncomputable def belowB : Code := (Tryd.f24.body).getD .skip
theorem below_eq : trCode Tryd.prog 50 72000 belowB = below.erase 72000 := by kernel_rfl
theorem below_body : Tryd.f24.body = some belowB := by kernel_rfl
theorem below_n : Tryd.f24.ntmps = 50 := by kernel_rfl
theorem below_r : Tryd.f24.results.toList.map (trRes Tryd.prog) = [.tmp 2] := by kernel_rfl
theorem below_spec {h : HP} {a0 : AV} {Post : HP → AV → List AV → Prop} (hp : ∀ (E : Env) (R : HP → AV → List AV → Prop), E.N ≤ 1000000 → PostTo Post R → vcW Tryd.prog E below (KQ.post [.tmp 2] 1 R) ⟨[(0, a0)], h⟩) : Eng.Spec Tryd.prog 24 h [a0] Post := spec_wk (
  spec_of (c := below.erase 72000) (B := 72000) Tryd.func24 below_body (by rw [below_n, below_eq]) (by rw [below_n]; decide) (by rw [below_n]; exact (by decide : 1 ≤ 50)) (fun E hE hB hrd => by
    have hN : E.N ≤ 1000000 := by
      rw [hE, below_n]; decide
    rw [below_r, ← hB]
    exact awp_slots [(0, a0)] ⟨rfl, trivial⟩ (vcW_sound hN _ (hp E _ hN fin_self))))
/- cartulary/calendar.leap -/
def leap_1o : List ROp := [.v 3 (.mov (.t 0)),
   .v 4 (.bin .rem (.t 3) (.c (.int .i64 4))),
   .v 5 (.bin .eql (.t 4) (.c (.int .i64 0))),
   .v 6 (.mov (.t 5)),
   .gval 7 6 true false 73007 (.mov (.t 0)),
   .gval 8 6 true false 73008 (.bin .rem (.t 7) (.c (.int .i64 100))),
   .gval 9 6 true false 73009 (.bin .neq (.t 8) (.c (.int .i64 0))),
   .gval 10 6 true false 73010 (.mov (.t 9)),
   .gval 11 10 false false 73011 (.mov (.t 0)),
   .gval 12 10 false false 73012 (.bin .rem (.t 11) (.c (.int .i64 400))),
   .gval 13 10 false false 73013 (.bin .eql (.t 12) (.c (.int .i64 0))),
   .gval 14 6 true false 73014 (.pick (.t 10) (.c (.bool true)) (.t 13)),
   .v 15 (.pick (.t 6) (.t 14) (.c (.bool false))),
   .v 2 (.mov (.t 15))]
def leap_1 : AK := .seq (.reg leap_1o [2]) .ret
def leap_0o : List ROp := [.v 2 (.mov (.c (.bool false)))]
def leap_0 : AK := .seq (.reg leap_0o [0]) leap_1
def leap : AK := leap_0
theorem leap_vc (P : Program) (E : Env) (Q : KQ) (st : St) :
  (vcW P E leap_1 Q st = aopsW P leap_1o st (KS.reg [2] (KQ.seq P E .ret Q))) ∧
  (vcW P E leap_0 Q st = aopsW P leap_0o st (KS.reg [0] (KQ.seq P E leap_1 Q))) ∧
  (vcW P E leap Q st = vcW P E leap_0 Q st) :=
  ⟨rfl, rfl, rfl⟩
theorem leap_jn (P : Program) (E : Env) (Q : KQ) (st : St) :
  (True) :=
  trivial
attribute [go_sem] leap_vc leap_1o leap_0o
noncomputable def leapB : Code := (Tryd.f66.body).getD .skip
theorem leap_eq : trCode Tryd.prog 16 73000 leapB = leap.erase 73000 := by kernel_rfl
theorem leap_body : Tryd.f66.body = some leapB := by kernel_rfl
theorem leap_n : Tryd.f66.ntmps = 16 := by kernel_rfl
theorem leap_r : Tryd.f66.results.toList.map (trRes Tryd.prog) = [.tmp 2] := by kernel_rfl
theorem leap_spec {h : HP} {a0 : AV} {Post : HP → AV → List AV → Prop} (hp : ∀ (E : Env) (R : HP → AV → List AV → Prop), E.N ≤ 1000000 → PostTo Post R → vcW Tryd.prog E leap (KQ.post [.tmp 2] 1 R) ⟨[(0, a0)], h⟩) : Eng.Spec Tryd.prog 66 h [a0] Post := spec_wk (
  spec_of (c := leap.erase 73000) (B := 73000) Tryd.func66 leap_body (by rw [leap_n, leap_eq]) (by rw [leap_n]; decide) (by rw [leap_n]; exact (by decide : 1 ≤ 16)) (fun E hE hB hrd => by
    have hN : E.N ≤ 1000000 := by
      rw [hE, leap_n]; decide
    rw [leap_r, ← hB]
    exact awp_slots [(0, a0)] ⟨rfl, trivial⟩ (vcW_sound hN _ (hp E _ hN fin_self))))
/- cartulary/calendar.Days -/
def cdays_2o : List ROp := [.v 4 (.mov (.c (.int .i64 0)))]
def cdays_2 : AK := .seq (.reg cdays_2o [4]) .ret
def cdays_8o : List ROp := [.v 4 (.mov (.c (.int .i64 28)))]
def cdays_8 : AK := .seq (.reg cdays_8o [4]) .ret
def cdays_11o : List ROp := [.v 4 (.mov (.c (.int .i64 29)))]
def cdays_11 : AK := .seq (.reg cdays_11o [4]) .ret
def cdays_10 : AK := .cond (.t 9) cdays_11 .skip
def cdays_9o : List ROp := [.v 8 (.mov (.t 0)),
   .cal (some 9) false 74009 66 [(.t 8)]]
def cdays_9 : AK := .seq (.reg cdays_9o [9]) cdays_10
def cdays_7 : AK := .seq cdays_9 cdays_8
def cdays_14o : List ROp := [.v 4 (.mov (.c (.int .i64 30)))]
def cdays_14 : AK := .seq (.reg cdays_14o [4]) .ret
def cdays_17o : List ROp := [.v 4 (.mov (.c (.int .i64 31)))]
def cdays_17 : AK := .seq (.reg cdays_17o [4]) .ret
def cdays_16 : AK := .cond (.t 15) cdays_17 .skip
def cdays_30o : List ROp := [.v 22 (.bin .eql (.t 5) (.c (.int .i64 12))),
   .v 15 (.mov (.t 22))]
def cdays_30 : AK := .reg cdays_30o [15]
def cdays_29 : AK := .cond (.t 15) .skip cdays_30
def cdays_28o : List ROp := [.v 21 (.bin .eql (.t 5) (.c (.int .i64 10))),
   .v 15 (.mov (.t 21))]
def cdays_28 : AK := .seq (.reg cdays_28o [5, 15]) cdays_29
def cdays_27 : AK := .cond (.t 15) .skip cdays_28
def cdays_26o : List ROp := [.v 20 (.bin .eql (.t 5) (.c (.int .i64 8))),
   .v 15 (.mov (.t 20))]
def cdays_26 : AK := .seq (.reg cdays_26o [5, 15]) cdays_27
def cdays_25 : AK := .cond (.t 15) .skip cdays_26
def cdays_24o : List ROp := [.v 19 (.bin .eql (.t 5) (.c (.int .i64 7))),
   .v 15 (.mov (.t 19))]
def cdays_24 : AK := .seq (.reg cdays_24o [5, 15]) cdays_25
def cdays_23 : AK := .cond (.t 15) .skip cdays_24
def cdays_22o : List ROp := [.v 18 (.bin .eql (.t 5) (.c (.int .i64 5))),
   .v 15 (.mov (.t 18))]
def cdays_22 : AK := .seq (.reg cdays_22o [5, 15]) cdays_23
def cdays_21 : AK := .cond (.t 15) .skip cdays_22
def cdays_20o : List ROp := [.v 17 (.bin .eql (.t 5) (.c (.int .i64 3))),
   .v 15 (.mov (.t 17))]
def cdays_20 : AK := .seq (.reg cdays_20o [5, 15]) cdays_21
def cdays_19 : AK := .cond (.t 15) .skip cdays_20
def cdays_18o : List ROp := [.v 16 (.bin .eql (.t 5) (.c (.int .i64 1))),
   .v 15 (.mov (.t 16))]
def cdays_18 : AK := .seq (.reg cdays_18o [5, 15]) cdays_19
def cdays_15 : AK := .seq cdays_18 cdays_16
def cdays_13 : AK := .cond (.t 10) cdays_14 cdays_15
def cdays_37o : List ROp := [.v 14 (.bin .eql (.t 5) (.c (.int .i64 11))),
   .v 10 (.mov (.t 14))]
def cdays_37 : AK := .reg cdays_37o [5, 10]
def cdays_36 : AK := .cond (.t 10) .skip cdays_37
def cdays_35o : List ROp := [.v 13 (.bin .eql (.t 5) (.c (.int .i64 9))),
   .v 10 (.mov (.t 13))]
def cdays_35 : AK := .seq (.reg cdays_35o [5, 10]) cdays_36
def cdays_34 : AK := .cond (.t 10) .skip cdays_35
def cdays_33o : List ROp := [.v 12 (.bin .eql (.t 5) (.c (.int .i64 6))),
   .v 10 (.mov (.t 12))]
def cdays_33 : AK := .seq (.reg cdays_33o [5, 10]) cdays_34
def cdays_32 : AK := .cond (.t 10) .skip cdays_33
def cdays_31o : List ROp := [.v 11 (.bin .eql (.t 5) (.c (.int .i64 4))),
   .v 10 (.mov (.t 11))]
def cdays_31 : AK := .seq (.reg cdays_31o [5, 10]) cdays_32
def cdays_12 : AK := .seq cdays_31 (.mid cdays_13)
def cdays_6 : AK := .cond (.t 6) cdays_7 cdays_12
def cdays_5o : List ROp := [.v 7 (.bin .eql (.t 5) (.c (.int .i64 2))),
   .v 6 (.mov (.t 7))]
def cdays_5 : AK := .seq (.reg cdays_5o [0, 5, 6]) cdays_6
def cdays_4 : AK := .block 0 cdays_5
def cdays_3o : List ROp := [.v 5 (.mov (.t 1))]
def cdays_3 : AK := .seq (.reg cdays_3o [0, 5]) cdays_4
def cdays_1 : AK := .seq cdays_3 cdays_2
def cdays_0o : List ROp := [.v 4 (.mov (.c (.int .i64 0)))]
def cdays_0 : AK := .seq (.reg cdays_0o [0, 1]) cdays_1
def cdays : AK := cdays_0
theorem cdays_vc (P : Program) (E : Env) (Q : KQ) (st : St) :
  (vcW P E cdays_2 Q st = aopsW P cdays_2o st (KS.reg [4] (KQ.seq P E .ret Q))) ∧
  (vcW P E cdays_8 Q st = aopsW P cdays_8o st (KS.reg [4] (KQ.seq P E .ret Q))) ∧
  (vcW P E cdays_11 Q st = aopsW P cdays_11o st (KS.reg [4] (KQ.seq P E .ret Q))) ∧
  (vcW P E cdays_10 Q st = cndW P E (ev st (.t 9)) cdays_11 .skip Q st) ∧
  (vcW P E cdays_9 Q st = aopsW P cdays_9o st (KS.reg [9] (KQ.seq P E cdays_10 Q))) ∧
  (vcW P E cdays_7 Q st = vcW P E cdays_9 (KQ.seq P E cdays_8 Q) st) ∧
  (vcW P E cdays_14 Q st = aopsW P cdays_14o st (KS.reg [4] (KQ.seq P E .ret Q))) ∧
  (vcW P E cdays_17 Q st = aopsW P cdays_17o st (KS.reg [4] (KQ.seq P E .ret Q))) ∧
  (vcW P E cdays_16 Q st = cndW P E (ev st (.t 15)) cdays_17 .skip Q st) ∧
  (vcW P E cdays_30 Q st = aopsW P cdays_30o st (KS.reg [15] Q)) ∧
  (vcW P E cdays_29 Q st = cndW P E (ev st (.t 15)) .skip cdays_30 Q st) ∧
  (vcW P E cdays_28 Q st = aopsW P cdays_28o st (KS.reg [5, 15] (KQ.seq P E cdays_29 Q))) ∧
  (vcW P E cdays_27 Q st = cndW P E (ev st (.t 15)) .skip cdays_28 Q st) ∧
  (vcW P E cdays_26 Q st = aopsW P cdays_26o st (KS.reg [5, 15] (KQ.seq P E cdays_27 Q))) ∧
  (vcW P E cdays_25 Q st = cndW P E (ev st (.t 15)) .skip cdays_26 Q st) ∧
  (vcW P E cdays_24 Q st = aopsW P cdays_24o st (KS.reg [5, 15] (KQ.seq P E cdays_25 Q))) ∧
  (vcW P E cdays_23 Q st = cndW P E (ev st (.t 15)) .skip cdays_24 Q st) ∧
  (vcW P E cdays_22 Q st = aopsW P cdays_22o st (KS.reg [5, 15] (KQ.seq P E cdays_23 Q))) ∧
  (vcW P E cdays_21 Q st = cndW P E (ev st (.t 15)) .skip cdays_22 Q st) ∧
  (vcW P E cdays_20 Q st = aopsW P cdays_20o st (KS.reg [5, 15] (KQ.seq P E cdays_21 Q))) ∧
  (vcW P E cdays_19 Q st = cndW P E (ev st (.t 15)) .skip cdays_20 Q st) ∧
  (vcW P E cdays_18 Q st = aopsW P cdays_18o st (KS.reg [5, 15] (KQ.seq P E cdays_19 Q))) ∧
  (vcW P E cdays_15 Q st = vcW P E cdays_18 (KQ.seq P E cdays_16 Q) st) ∧
  (vcW P E cdays_13 Q st = cndW P E (ev st (.t 10)) cdays_14 cdays_15 Q st) ∧
  (vcW P E cdays_37 Q st = aopsW P cdays_37o st (KS.reg [5, 10] Q)) ∧
  (vcW P E cdays_36 Q st = cndW P E (ev st (.t 10)) .skip cdays_37 Q st) ∧
  (vcW P E cdays_35 Q st = aopsW P cdays_35o st (KS.reg [5, 10] (KQ.seq P E cdays_36 Q))) ∧
  (vcW P E cdays_34 Q st = cndW P E (ev st (.t 10)) .skip cdays_35 Q st) ∧
  (vcW P E cdays_33 Q st = aopsW P cdays_33o st (KS.reg [5, 10] (KQ.seq P E cdays_34 Q))) ∧
  (vcW P E cdays_32 Q st = cndW P E (ev st (.t 10)) .skip cdays_33 Q st) ∧
  (vcW P E cdays_31 Q st = aopsW P cdays_31o st (KS.reg [5, 10] (KQ.seq P E cdays_32 Q))) ∧
  (vcW P E cdays_6 Q st = cndW P E (ev st (.t 6)) cdays_7 cdays_12 Q st) ∧
  (vcW P E cdays_5 Q st = aopsW P cdays_5o st (KS.reg [0, 5, 6] (KQ.seq P E cdays_6 Q))) ∧
  (vcW P E cdays_4 Q st = vcW P E cdays_5 (KQ.blk 0 Q) st) ∧
  (vcW P E cdays_3 Q st = aopsW P cdays_3o st (KS.reg [0, 5] (KQ.seq P E cdays_4 Q))) ∧
  (vcW P E cdays_1 Q st = vcW P E cdays_3 (KQ.seq P E cdays_2 Q) st) ∧
  (vcW P E cdays_0 Q st = aopsW P cdays_0o st (KS.reg [0, 1] (KQ.seq P E cdays_1 Q))) ∧
  (vcW P E cdays Q st = vcW P E cdays_0 Q st) :=
  ⟨rfl, rfl, rfl, vcW_cond, rfl, rfl, rfl, rfl, vcW_cond, rfl, vcW_cond, rfl, vcW_cond, rfl, vcW_cond, rfl, vcW_cond, rfl, vcW_cond, rfl, vcW_cond, rfl, rfl, vcW_cond, rfl, vcW_cond, rfl, vcW_cond, rfl, vcW_cond, rfl, vcW_cond, rfl, rfl, rfl, rfl, rfl, rfl⟩
theorem cdays_jn (P : Program) (E : Env) (Q : KQ) (st : St) :
  (vcW P E cdays_12 Q st = vcW P E cdays_31 (KQ.seq P E (.mid cdays_13) Q) st) :=
  rfl
attribute [go_sem] cdays_vc cdays_2o cdays_8o cdays_11o cdays_9o cdays_14o cdays_17o cdays_30o cdays_28o cdays_26o cdays_24o cdays_22o cdays_20o cdays_18o cdays_37o cdays_35o cdays_33o cdays_31o cdays_5o cdays_3o cdays_0o
noncomputable def cdaysB : Code := (Tryd.f56.body).getD .skip
theorem cdays_eq : trCode Tryd.prog 23 74000 cdaysB = cdays.erase 74000 := by kernel_rfl
theorem cdays_body : Tryd.f56.body = some cdaysB := by kernel_rfl
theorem cdays_n : Tryd.f56.ntmps = 23 := by kernel_rfl
theorem cdays_r : Tryd.f56.results.toList.map (trRes Tryd.prog) = [.tmp 4] := by kernel_rfl
theorem cdays_spec {h : HP} {a0 a1 : AV} {Post : HP → AV → List AV → Prop} (hp : ∀ (E : Env) (R : HP → AV → List AV → Prop), E.N ≤ 1000000 → PostTo Post R → vcW Tryd.prog E cdays (KQ.post [.tmp 4] 2 R) ⟨[(0, a0), (1, a1)], h⟩) : Eng.Spec Tryd.prog 56 h [a0, a1] Post := spec_wk (
  spec_of (c := cdays.erase 74000) (B := 74000) Tryd.func56 cdays_body (by rw [cdays_n, cdays_eq]) (by rw [cdays_n]; decide) (by rw [cdays_n]; exact (by decide : 2 ≤ 23)) (fun E hE hB hrd => by
    have hN : E.N ≤ 1000000 := by
      rw [hE, cdays_n]; decide
    rw [cdays_r, ← hB]
    exact awp_slots [(0, a0), (1, a1)] ⟨rfl, rfl, trivial⟩ (vcW_sound hN _ (hp E _ hN fin_self))))
/- cartulary/calendar.From -/
def cfrom_11o : List ROp := [.v 91 (.ld true 7 (.t 11)),
   .effN false 75000 (.st 7 (.t 2) (.t 91)),
   .v 3 (.mov (.c (.int .i64 0)))]
def cfrom_11 : AK := .seq (.reg cfrom_11o [2, 3]) .ret
def cfrom_15o : List ROp := [.v 87 (.fldA false 0 1 (.t 11)),
   .v 88 (.ld false 1 (.t 87)),
   .v 89 (.bin .add (.t 88) (.c (.int .i64 1))),
   .v 90 (.fldA false 0 1 (.t 11)),
   .effN false 75000 (.st 1 (.t 90) (.t 89))]
def cfrom_15 : AK := .reg cfrom_15o [2, 11]
def cfrom_14o : List ROp := [.v 83 (.fldA false 1 1 (.t 11)),
   .v 84 (.ld false 1 (.t 83)),
   .v 85 (.bin .sub (.t 84) (.c (.int .i64 12))),
   .v 86 (.fldA false 1 1 (.t 11)),
   .effN false 75000 (.st 1 (.t 86) (.t 85))]
def cfrom_14 : AK := .seq (.reg cfrom_14o [2, 11]) cfrom_15
def cfrom_13 : AK := .cond (.t 82) cfrom_14 .skip
def cfrom_12o : List ROp := [.v 80 (.fldA false 1 1 (.t 11)),
   .v 81 (.ld false 1 (.t 80)),
   .v 82 (.bin .gtr (.t 81) (.c (.int .i64 12)))]
def cfrom_12 : AK := .seq (.reg cfrom_12o [2, 11, 82]) cfrom_13
def cfrom_10 : AK := .seq cfrom_12 cfrom_11
def cfrom_9o : List ROp := [.v 56 (.mov (.t 7)),
   .v 57 (.bin .mul (.c (.int .i64 400)) (.t 56)),
   .v 58 (.mov (.t 9)),
   .v 59 (.bin .add (.t 57) (.t 58)),
   .v 60 (.mov (.t 10)),
   .v 61 (.bin .add (.t 60) (.c (.int .i64 3))),
   .v 62 (.mov (.t 8)),
   .v 63 (.mov (.t 10)),
   .v 64 (.bin .mul (.c (.int .i64 153)) (.t 63)),
   .v 65 (.bin .add (.t 64) (.c (.int .i64 2))),
   .v 66 (.bin .quo (.t 65) (.c (.int .i64 5))),
   .v 67 (.bin .sub (.t 62) (.t 66)),
   .v 68 (.bin .add (.t 67) (.c (.int .i64 1))),
   .v 69 (.mov (.t 5)),
   .v 70 (.bin .quo (.t 69) (.c (.int .i64 3600))),
   .v 71 (.mov (.t 5)),
   .v 72 (.bin .quo (.t 71) (.c (.int .i64 60))),
   .v 73 (.bin .rem (.t 72) (.c (.int .i64 60))),
   .v 74 (.mov (.t 5)),
   .v 75 (.bin .rem (.t 74) (.c (.int .i64 60))),
   .v 76 (.mov (.t 4)),
   .v 77 (.bin .add (.t 76) (.c (.int .i64 1))),
   .v 78 (.bin .rem (.t 77) (.c (.int .i64 7))),
   .v 79 (.bld [.int .i64 0, .int .i64 0, .int .i64 0, .int .i64 0, .int .i64 0, .int .i64 0, .int .i64 0] [(0, 1, (.t 59)), (1, 1, (.t 61)), (2, 1, (.t 68)), (3, 1, (.t 70)), (4, 1, (.t 73)), (5, 1, (.t 75)), (6, 1, (.t 78))]),
   .eff 11 false 75011 (.alloc [.int .i64 0, .int .i64 0, .int .i64 0, .int .i64 0, .int .i64 0, .int .i64 0, .int .i64 0]),
   .effN false 75000 (.st 7 (.t 11) (.t 79))]
def cfrom_9 : AK := .seq (.reg cfrom_9o [2, 11]) cfrom_10
def cfrom_8o : List ROp := [.v 52 (.mov (.t 8)),
   .v 53 (.bin .mul (.c (.int .i64 5)) (.t 52)),
   .v 54 (.bin .add (.t 53) (.c (.int .i64 2))),
   .v 55 (.bin .quo (.t 54) (.c (.int .i64 153))),
   .v 10 (.mov (.t 55))]
def cfrom_8 : AK := .seq (.reg cfrom_8o [2, 4, 5, 7, 8, 9, 10]) cfrom_9
def cfrom_7o : List ROp := [.v 42 (.mov (.t 8)),
   .v 43 (.mov (.t 9)),
   .v 44 (.bin .mul (.c (.int .i64 365)) (.t 43)),
   .v 45 (.mov (.t 9)),
   .v 46 (.bin .quo (.t 45) (.c (.int .i64 4))),
   .v 47 (.bin .add (.t 44) (.t 46)),
   .v 48 (.mov (.t 9)),
   .v 49 (.bin .quo (.t 48) (.c (.int .i64 100))),
   .v 50 (.bin .sub (.t 47) (.t 49)),
   .v 51 (.bin .sub (.t 42) (.t 50)),
   .v 8 (.mov (.t 51))]
def cfrom_7 : AK := .seq (.reg cfrom_7o [2, 4, 5, 7, 8, 9]) cfrom_8
def cfrom_6o : List ROp := [.v 31 (.mov (.t 8)),
   .v 32 (.mov (.t 8)),
   .v 33 (.bin .quo (.t 32) (.c (.int .i64 1460))),
   .v 34 (.bin .sub (.t 31) (.t 33)),
   .v 35 (.mov (.t 8)),
   .v 36 (.bin .quo (.t 35) (.c (.int .i64 36524))),
   .v 37 (.bin .add (.t 34) (.t 36)),
   .v 38 (.mov (.t 8)),
   .v 39 (.bin .quo (.t 38) (.c (.int .i64 146096))),
   .v 40 (.bin .sub (.t 37) (.t 39)),
   .v 41 (.bin .quo (.t 40) (.c (.int .i64 365))),
   .v 9 (.mov (.t 41))]
def cfrom_6 : AK := .seq (.reg cfrom_6o [2, 4, 5, 7, 8, 9]) cfrom_7
def cfrom_5o : List ROp := [.v 27 (.mov (.t 6)),
   .v 28 (.bin .quo (.t 27) (.c (.int .i64 146097))),
   .v 29 (.mov (.t 6)),
   .v 30 (.bin .rem (.t 29) (.c (.int .i64 146097))),
   .v 7 (.mov (.t 28)),
   .v 8 (.mov (.t 30))]
def cfrom_5 : AK := .seq (.reg cfrom_5o [2, 4, 5, 7, 8]) cfrom_6
def cfrom_4o : List ROp := [.v 25 (.mov (.t 4)),
   .v 26 (.bin .add (.t 25) (.c (.int .i64 306))),
   .v 6 (.mov (.t 26))]
def cfrom_4 : AK := .seq (.reg cfrom_4o [2, 4, 5, 6]) cfrom_5
def cfrom_3o : List ROp := [.v 21 (.mov (.t 0)),
   .v 22 (.bin .quo (.t 21) (.c (.int .i64 86400))),
   .v 23 (.mov (.t 0)),
   .v 24 (.bin .rem (.t 23) (.c (.int .i64 86400))),
   .v 4 (.mov (.t 22)),
   .v 5 (.mov (.t 24))]
def cfrom_3 : AK := .seq (.reg cfrom_3o [2, 4, 5]) cfrom_4
def cfrom_2o : List ROp := [.v 19 (.mov (.t 0)),
   .v 20 (.bin .sub (.t 19) (.c (.int .i64 (-62135596800)))),
   .v 0 (.mov (.t 20))]
def cfrom_2 : AK := .seq (.reg cfrom_2o [0, 2]) cfrom_3
def cfrom_18o : List ROp := [.v 18 (.bld [.int .i64 0, .int .i64 0, .int .i64 0, .int .i64 0, .int .i64 0, .int .i64 0, .int .i64 0] []),
   .effN false 75000 (.st 7 (.t 2) (.t 18)),
   .v 3 (.mov (.c (.int .i64 1)))]
def cfrom_18 : AK := .seq (.reg cfrom_18o [2, 3]) .ret
def cfrom_17 : AK := .cond (.t 17) cfrom_18 .skip
def cfrom_16o : List ROp := [.v 12 (.mov (.t 0)),
   .v 13 (.bin .lss (.t 12) (.c (.int .i64 (-62135596800)))),
   .v 14 (.mov (.t 13)),
   .gval 15 14 false false 75015 (.mov (.t 0)),
   .gval 16 14 false false 75016 (.bin .gtr (.t 15) (.c (.int .i64 253402300799))),
   .v 17 (.pick (.t 14) (.c (.bool true)) (.t 16))]
def cfrom_16 : AK := .seq (.reg cfrom_16o [0, 2, 17]) cfrom_17
def cfrom_1 : AK := .seq cfrom_16 cfrom_2
def cfrom_0o : List ROp := [.eff 2 false 75002 (.alloc [.int .i64 0, .int .i64 0, .int .i64 0, .int .i64 0, .int .i64 0, .int .i64 0, .int .i64 0]),
   .v 3 (.mov (.c (.int .i64 0)))]
def cfrom_0 : AK := .seq (.reg cfrom_0o [0, 2]) cfrom_1
def cfrom : AK := cfrom_0
theorem cfrom_vc (P : Program) (E : Env) (Q : KQ) (st : St) :
  (vcW P E cfrom_11 Q st = aopsW P cfrom_11o st (KS.reg [2, 3] (KQ.seq P E .ret Q))) ∧
  (vcW P E cfrom_15 Q st = aopsW P cfrom_15o st (KS.reg [2, 11] Q)) ∧
  (vcW P E cfrom_14 Q st = aopsW P cfrom_14o st (KS.reg [2, 11] (KQ.seq P E cfrom_15 Q))) ∧
  (vcW P E cfrom_13 Q st = cndW P E (ev st (.t 82)) cfrom_14 .skip Q st) ∧
  (vcW P E cfrom_12 Q st = aopsW P cfrom_12o st (KS.reg [2, 11, 82] (KQ.seq P E cfrom_13 Q))) ∧
  (vcW P E cfrom_10 Q st = vcW P E cfrom_12 (KQ.seq P E cfrom_11 Q) st) ∧
  (vcW P E cfrom_9 Q st = aopsW P cfrom_9o st (KS.reg [2, 11] (KQ.seq P E cfrom_10 Q))) ∧
  (vcW P E cfrom_8 Q st = aopsW P cfrom_8o st (KS.reg [2, 4, 5, 7, 8, 9, 10] (KQ.seq P E cfrom_9 Q))) ∧
  (vcW P E cfrom_7 Q st = aopsW P cfrom_7o st (KS.reg [2, 4, 5, 7, 8, 9] (KQ.seq P E cfrom_8 Q))) ∧
  (vcW P E cfrom_6 Q st = aopsW P cfrom_6o st (KS.reg [2, 4, 5, 7, 8, 9] (KQ.seq P E cfrom_7 Q))) ∧
  (vcW P E cfrom_5 Q st = aopsW P cfrom_5o st (KS.reg [2, 4, 5, 7, 8] (KQ.seq P E cfrom_6 Q))) ∧
  (vcW P E cfrom_4 Q st = aopsW P cfrom_4o st (KS.reg [2, 4, 5, 6] (KQ.seq P E cfrom_5 Q))) ∧
  (vcW P E cfrom_3 Q st = aopsW P cfrom_3o st (KS.reg [2, 4, 5] (KQ.seq P E cfrom_4 Q))) ∧
  (vcW P E cfrom_2 Q st = aopsW P cfrom_2o st (KS.reg [0, 2] (KQ.seq P E cfrom_3 Q))) ∧
  (vcW P E cfrom_18 Q st = aopsW P cfrom_18o st (KS.reg [2, 3] (KQ.seq P E .ret Q))) ∧
  (vcW P E cfrom_17 Q st = cndW P E (ev st (.t 17)) cfrom_18 .skip Q st) ∧
  (vcW P E cfrom_16 Q st = aopsW P cfrom_16o st (KS.reg [0, 2, 17] (KQ.seq P E cfrom_17 Q))) ∧
  (vcW P E cfrom_1 Q st = vcW P E cfrom_16 (KQ.seq P E cfrom_2 Q) st) ∧
  (vcW P E cfrom_0 Q st = aopsW P cfrom_0o st (KS.reg [0, 2] (KQ.seq P E cfrom_1 Q))) ∧
  (vcW P E cfrom Q st = vcW P E cfrom_0 Q st) :=
  ⟨rfl, rfl, rfl, vcW_cond, rfl, rfl, rfl, rfl, rfl, rfl, rfl, rfl, rfl, rfl, rfl, vcW_cond, rfl, rfl, rfl, rfl⟩
theorem cfrom_jn (P : Program) (E : Env) (Q : KQ) (st : St) :
  (True) :=
  trivial
attribute [go_sem] cfrom_vc cfrom_11o cfrom_15o cfrom_14o cfrom_12o cfrom_9o cfrom_8o cfrom_7o cfrom_6o cfrom_5o cfrom_4o cfrom_3o cfrom_2o cfrom_18o cfrom_16o cfrom_0o
noncomputable def cfromB : Code := (Tryd.f47.body).getD .skip
theorem cfrom_eq : trCode Tryd.prog 92 75000 cfromB = cfrom.erase 75000 := by kernel_rfl
theorem cfrom_body : Tryd.f47.body = some cfromB := by kernel_rfl
theorem cfrom_n : Tryd.f47.ntmps = 92 := by kernel_rfl
theorem cfrom_r : Tryd.f47.results.toList.map (trRes Tryd.prog) = [.cell 2 true 7, .tmp 3] := by kernel_rfl
theorem cfrom_spec {h : HP} {a0 : AV} {Post : HP → AV → List AV → Prop} (hp : ∀ (E : Env) (R : HP → AV → List AV → Prop), E.N ≤ 1000000 → PostTo Post R → vcW Tryd.prog E cfrom (KQ.post [.cell 2 true 7, .tmp 3] 1 R) ⟨[(0, a0)], h⟩) : Eng.Spec Tryd.prog 47 h [a0] Post := spec_wk (
  spec_of (c := cfrom.erase 75000) (B := 75000) Tryd.func47 cfrom_body (by rw [cfrom_n, cfrom_eq]) (by rw [cfrom_n]; decide) (by rw [cfrom_n]; exact (by decide : 1 ≤ 92)) (fun E hE hB hrd => by
    have hN : E.N ≤ 1000000 := by
      rw [hE, cfrom_n]; decide
    rw [cfrom_r, ← hB]
    exact awp_slots [(0, a0)] ⟨rfl, trivial⟩ (vcW_sound hN _ (hp E _ hN fin_self))))
/- cartulary/calendar.Unix -/
def cunix_5o : List ROp := [.v 92 (.mov (.t 6)),
   .v 93 (.bin .mul (.c (.int .i64 86400)) (.t 92)),
   .v 94 (.bin .add (.c (.int .i64 (-62135596800))) (.t 93)),
   .v 95 (.fldA false 3 1 (.t 1)),
   .v 96 (.ld false 1 (.t 95)),
   .v 97 (.bin .mul (.c (.int .i64 3600)) (.t 96)),
   .v 98 (.bin .add (.t 94) (.t 97)),
   .v 99 (.fldA false 4 1 (.t 1)),
   .v 100 (.ld false 1 (.t 99)),
   .v 101 (.bin .mul (.c (.int .i64 60)) (.t 100)),
   .v 102 (.bin .add (.t 98) (.t 101)),
   .v 103 (.fldA false 5 1 (.t 1)),
   .v 104 (.ld false 1 (.t 103)),
   .v 105 (.bin .add (.t 102) (.t 104)),
   .v 2 (.mov (.t 105)),
   .v 3 (.mov (.c (.int .i64 0)))]
def cunix_5 : AK := .seq (.reg cunix_5o [2, 3]) .ret
def cunix_4o : List ROp := [.v 71 (.mov (.t 4)),
   .v 72 (.bin .mul (.c (.int .i64 365)) (.t 71)),
   .v 73 (.mov (.t 4)),
   .v 74 (.bin .quo (.t 73) (.c (.int .i64 4))),
   .v 75 (.bin .add (.t 72) (.t 74)),
   .v 76 (.mov (.t 4)),
   .v 77 (.bin .quo (.t 76) (.c (.int .i64 100))),
   .v 78 (.bin .sub (.t 75) (.t 77)),
   .v 79 (.mov (.t 4)),
   .v 80 (.bin .quo (.t 79) (.c (.int .i64 400))),
   .v 81 (.bin .add (.t 78) (.t 80)),
   .v 82 (.mov (.t 5)),
   .v 83 (.bin .mul (.c (.int .i64 153)) (.t 82)),
   .v 84 (.bin .add (.t 83) (.c (.int .i64 2))),
   .v 85 (.bin .quo (.t 84) (.c (.int .i64 5))),
   .v 86 (.bin .add (.t 81) (.t 85)),
   .v 87 (.fldA false 2 1 (.t 1)),
   .v 88 (.ld false 1 (.t 87)),
   .v 89 (.bin .add (.t 86) (.t 88)),
   .v 90 (.bin .sub (.t 89) (.c (.int .i64 1))),
   .v 91 (.bin .sub (.t 90) (.c (.int .i64 306))),
   .v 6 (.mov (.t 91))]
def cunix_4 : AK := .seq (.reg cunix_4o [1, 6]) cunix_5
def cunix_8o : List ROp := [.v 67 (.mov (.t 4)),
   .v 68 (.bin .sub (.t 67) (.c (.int .i64 1))),
   .v 69 (.mov (.t 5)),
   .v 70 (.bin .add (.t 69) (.c (.int .i64 12))),
   .v 4 (.mov (.t 68)),
   .v 5 (.mov (.t 70))]
def cunix_8 : AK := .reg cunix_8o [1, 4, 5]
def cunix_7 : AK := .cond (.t 66) cunix_8 .skip
def cunix_6o : List ROp := [.v 65 (.mov (.t 5)),
   .v 66 (.bin .lss (.t 65) (.c (.int .i64 0)))]
def cunix_6 : AK := .seq (.reg cunix_6o [1, 4, 5, 66]) cunix_7
def cunix_3 : AK := .seq cunix_6 (.mid cunix_4)
def cunix_2o : List ROp := [.val 60 true 76060 (.fldA false 0 1 (.t 1)),
   .val 61 true 76061 (.ld false 1 (.t 60)),
   .val 62 true 76062 (.fldA false 1 1 (.t 1)),
   .val 63 true 76063 (.ld false 1 (.t 62)),
   .val 64 true 76064 (.bin .sub (.t 63) (.c (.int .i64 3))),
   .val 4 true 76004 (.mov (.t 61)),
   .v 5 (.mov (.t 64))]
def cunix_2 : AK := .seq (.reg cunix_2o [1, 4, 5]) cunix_3
def cunix_11o : List ROp := [.v 2 (.mov (.c (.int .i64 0))),
   .v 3 (.mov (.c (.int .i64 1)))]
def cunix_11 : AK := .seq (.reg cunix_11o [2, 3]) .ret
def cunix_10 : AK := .cond (.t 59) cunix_11 .skip
def cunix_9o : List ROp := [.v 7 (.fldA false 0 1 (.t 1)),
   .v 8 (.ld false 1 (.t 7)),
   .v 9 (.bin .lss (.t 8) (.c (.int .i64 1))),
   .v 10 (.mov (.t 9)),
   .gval 11 10 false false 76011 (.fldA false 0 1 (.t 1)),
   .gval 12 10 false false 76012 (.ld false 1 (.t 11)),
   .gval 13 10 false false 76013 (.bin .gtr (.t 12) (.c (.int .i64 9999))),
   .v 14 (.pick (.t 10) (.c (.bool true)) (.t 13)),
   .v 15 (.mov (.t 14)),
   .gval 16 15 false false 76016 (.fldA false 2 1 (.t 1)),
   .gval 17 15 false false 76017 (.ld false 1 (.t 16)),
   .gval 18 15 false false 76018 (.bin .lss (.t 17) (.c (.int .i64 1))),
   .v 19 (.pick (.t 15) (.c (.bool true)) (.t 18)),
   .v 20 (.mov (.t 19)),
   .gval 21 20 false true 76021 (.fldA false 2 1 (.t 1)),
   .gval 22 20 false true 76022 (.ld false 1 (.t 21)),
   .gval 23 20 false true 76023 (.fldA false 0 1 (.t 1)),
   .gval 24 20 false true 76024 (.ld false 1 (.t 23)),
   .gval 25 20 false true 76025 (.fldA false 1 1 (.t 1)),
   .gval 26 20 false true 76026 (.ld false 1 (.t 25)),
   .gcal 27 20 false true 76027 56 [(.t 24), (.t 26)],
   .gval 28 20 false false 76028 (.bin .gtr (.t 22) (.t 27)),
   .v 29 (.pick (.t 20) (.c (.bool true)) (.t 28)),
   .v 30 (.mov (.t 29)),
   .gval 31 30 false false 76031 (.fldA false 3 1 (.t 1)),
   .gval 32 30 false false 76032 (.ld false 1 (.t 31)),
   .gval 33 30 false false 76033 (.bin .lss (.t 32) (.c (.int .i64 0))),
   .v 34 (.pick (.t 30) (.c (.bool true)) (.t 33)),
   .v 35 (.mov (.t 34)),
   .gval 36 35 false false 76036 (.fldA false 3 1 (.t 1)),
   .gval 37 35 false false 76037 (.ld false 1 (.t 36)),
   .gval 38 35 false false 76038 (.bin .gtr (.t 37) (.c (.int .i64 23))),
   .v 39 (.pick (.t 35) (.c (.bool true)) (.t 38)),
   .v 40 (.mov (.t 39)),
   .gval 41 40 false false 76041 (.fldA false 4 1 (.t 1)),
   .gval 42 40 false false 76042 (.ld false 1 (.t 41)),
   .gval 43 40 false false 76043 (.bin .lss (.t 42) (.c (.int .i64 0))),
   .v 44 (.pick (.t 40) (.c (.bool true)) (.t 43)),
   .v 45 (.mov (.t 44)),
   .gval 46 45 false false 76046 (.fldA false 4 1 (.t 1)),
   .gval 47 45 false false 76047 (.ld false 1 (.t 46)),
   .gval 48 45 false false 76048 (.bin .gtr (.t 47) (.c (.int .i64 59))),
   .v 49 (.pick (.t 45) (.c (.bool true)) (.t 48)),
   .v 50 (.mov (.t 49)),
   .gval 51 50 false false 76051 (.fldA false 5 1 (.t 1)),
   .gval 52 50 false false 76052 (.ld false 1 (.t 51)),
   .gval 53 50 false false 76053 (.bin .lss (.t 52) (.c (.int .i64 0))),
   .v 54 (.pick (.t 50) (.c (.bool true)) (.t 53)),
   .v 55 (.mov (.t 54)),
   .gval 56 55 false false 76056 (.fldA false 5 1 (.t 1)),
   .gval 57 55 false false 76057 (.ld false 1 (.t 56)),
   .gval 58 55 false false 76058 (.bin .gtr (.t 57) (.c (.int .i64 59))),
   .v 59 (.pick (.t 55) (.c (.bool true)) (.t 58))]
def cunix_9 : AK := .seq (.reg cunix_9o [1, 59]) cunix_10
def cunix_1 : AK := .seq cunix_9 cunix_2
def cunix_0o : List ROp := [.eff 1 false 76001 (.box 7 (.t 0)),
   .v 2 (.mov (.c (.int .i64 0))),
   .v 3 (.mov (.c (.int .i64 0)))]
def cunix_0 : AK := .seq (.reg cunix_0o [1]) cunix_1
def cunix : AK := cunix_0
theorem cunix_vc (P : Program) (E : Env) (Q : KQ) (st : St) :
  (vcW P E cunix_5 Q st = aopsW P cunix_5o st (KS.reg [2, 3] (KQ.seq P E .ret Q))) ∧
  (vcW P E cunix_4 Q st = aopsW P cunix_4o st (KS.reg [1, 6] (KQ.seq P E cunix_5 Q))) ∧
  (vcW P E cunix_8 Q st = aopsW P cunix_8o st (KS.reg [1, 4, 5] Q)) ∧
  (vcW P E cunix_7 Q st = cndW P E (ev st (.t 66)) cunix_8 .skip Q st) ∧
  (vcW P E cunix_6 Q st = aopsW P cunix_6o st (KS.reg [1, 4, 5, 66] (KQ.seq P E cunix_7 Q))) ∧
  (vcW P E cunix_2 Q st = aopsW P cunix_2o st (KS.reg [1, 4, 5] (KQ.seq P E cunix_3 Q))) ∧
  (vcW P E cunix_11 Q st = aopsW P cunix_11o st (KS.reg [2, 3] (KQ.seq P E .ret Q))) ∧
  (vcW P E cunix_10 Q st = cndW P E (ev st (.t 59)) cunix_11 .skip Q st) ∧
  (vcW P E cunix_9 Q st = aopsW P cunix_9o st (KS.reg [1, 59] (KQ.seq P E cunix_10 Q))) ∧
  (vcW P E cunix_1 Q st = vcW P E cunix_9 (KQ.seq P E cunix_2 Q) st) ∧
  (vcW P E cunix_0 Q st = aopsW P cunix_0o st (KS.reg [1] (KQ.seq P E cunix_1 Q))) ∧
  (vcW P E cunix Q st = vcW P E cunix_0 Q st) :=
  ⟨rfl, rfl, rfl, vcW_cond, rfl, rfl, rfl, vcW_cond, rfl, rfl, rfl, rfl⟩
theorem cunix_jn (P : Program) (E : Env) (Q : KQ) (st : St) :
  (vcW P E cunix_3 Q st = vcW P E cunix_6 (KQ.seq P E (.mid cunix_4) Q) st) :=
  rfl
attribute [go_sem] cunix_vc cunix_5o cunix_4o cunix_8o cunix_6o cunix_2o cunix_11o cunix_9o cunix_0o
noncomputable def cunixB : Code := (Tryd.f42.body).getD .skip
theorem cunix_eq : trCode Tryd.prog 106 76000 cunixB = cunix.erase 76000 := by kernel_rfl
theorem cunix_body : Tryd.f42.body = some cunixB := by kernel_rfl
theorem cunix_n : Tryd.f42.ntmps = 106 := by kernel_rfl
theorem cunix_r : Tryd.f42.results.toList.map (trRes Tryd.prog) = [.tmp 2, .tmp 3] := by kernel_rfl
theorem cunix_spec {h : HP} {a0 : AV} {Post : HP → AV → List AV → Prop} (hp : ∀ (E : Env) (R : HP → AV → List AV → Prop), E.N ≤ 1000000 → PostTo Post R → vcW Tryd.prog E cunix (KQ.post [.tmp 2, .tmp 3] 1 R) ⟨[(0, a0)], h⟩) : Eng.Spec Tryd.prog 42 h [a0] Post := spec_wk (
  spec_of (c := cunix.erase 76000) (B := 76000) Tryd.func42 cunix_body (by rw [cunix_n, cunix_eq]) (by rw [cunix_n]; decide) (by rw [cunix_n]; exact (by decide : 1 ≤ 106)) (fun E hE hB hrd => by
    have hN : E.N ≤ 1000000 := by
      rw [hE, cunix_n]; decide
    rw [cunix_r, ← hB]
    exact awp_slots [(0, a0)] ⟨rfl, trivial⟩ (vcW_sound hN _ (hp E _ hN fin_self))))
/- cartulary/calendar.digits -/
def cdigits_3o : List ROp := [.v 14 (.mov (.t 5)),
   .v 4 (.mov (.t 14))]
def cdigits_3 : AK := .seq (.reg cdigits_3o [4]) .ret
def cdigits_7o : List ROp := [.v 12 (.mov (.t 5)),
   .v 13 (.bin .add (.c (.str [48])) (.t 12)),
   .v 5 (.mov (.t 13))]
def cdigits_7 : AK := .reg cdigits_7o [1, 5]
def cdigits_6 : AK := .block 1 cdigits_7
def cdigits_9 : AK := .cond (.t 11) .skip (.exit 0)
def cdigits_8o : List ROp := [.v 8 (.mov (.t 5)),
   .v 9 (.len true (.t 8)),
   .v 10 (.mov (.t 1)),
   .v 11 (.bin .lss (.t 9) (.t 10))]
def cdigits_8 : AK := .seq (.reg cdigits_8o [1, 5, 11]) cdigits_9
def cdigits_5 : AK := .seq cdigits_8 cdigits_6
def cdigits_L0 : AK := .loop cdigits_5
def cdigits_4 : AK := .block 0 cdigits_L0
def cdigits_2 : AK := .seq cdigits_4 cdigits_3
def cdigits_1o : List ROp := [.v 6 (.mov (.t 0)),
   .cal (some 7) false 77007 60 [(.t 6)],
   .v 5 (.mov (.t 7))]
def cdigits_1 : AK := .seq (.reg cdigits_1o [1, 5]) cdigits_2
def cdigits_0o : List ROp := [.v 4 (.mov (.c (.str [])))]
def cdigits_0 : AK := .seq (.reg cdigits_0o [0, 1]) cdigits_1
def cdigits : AK := cdigits_0
theorem cdigits_vc (P : Program) (E : Env) (Q : KQ) (st : St) :
  (vcW P E cdigits_3 Q st = aopsW P cdigits_3o st (KS.reg [4] (KQ.seq P E .ret Q))) ∧
  (vcW P E cdigits_7 Q st = aopsW P cdigits_7o st (KS.reg [1, 5] Q)) ∧
  (vcW P E cdigits_6 Q st = vcW P E cdigits_7 (KQ.blk 1 Q) st) ∧
  (vcW P E cdigits_9 Q st = cndW P E (ev st (.t 11)) .skip (.exit 0) Q st) ∧
  (vcW P E cdigits_8 Q st = aopsW P cdigits_8o st (KS.reg [1, 5, 11] (KQ.seq P E cdigits_9 Q))) ∧
  (vcW P E cdigits_5 Q st = vcW P E cdigits_8 (KQ.seq P E cdigits_6 Q) st) ∧
  (vcW P E cdigits_4 Q st = vcW P E cdigits_L0 (KQ.blk 0 Q) st) ∧
  (vcW P E cdigits_2 Q st = vcW P E cdigits_4 (KQ.seq P E cdigits_3 Q) st) ∧
  (vcW P E cdigits_1 Q st = aopsW P cdigits_1o st (KS.reg [1, 5] (KQ.seq P E cdigits_2 Q))) ∧
  (vcW P E cdigits_0 Q st = aopsW P cdigits_0o st (KS.reg [0, 1] (KQ.seq P E cdigits_1 Q))) ∧
  (vcW P E cdigits Q st = vcW P E cdigits_0 Q st) :=
  ⟨rfl, rfl, rfl, vcW_cond, rfl, rfl, rfl, rfl, rfl, rfl, rfl⟩
theorem cdigits_jn (P : Program) (E : Env) (Q : KQ) (st : St) :
  (True) :=
  trivial
attribute [go_sem] cdigits_vc cdigits_3o cdigits_7o cdigits_8o cdigits_1o cdigits_0o
noncomputable def cdigitsB : Code := (Tryd.f48.body).getD .skip
theorem cdigits_eq : trCode Tryd.prog 15 77000 cdigitsB = cdigits.erase 77000 := by kernel_rfl
theorem cdigits_body : Tryd.f48.body = some cdigitsB := by kernel_rfl
theorem cdigits_n : Tryd.f48.ntmps = 15 := by kernel_rfl
theorem cdigits_r : Tryd.f48.results.toList.map (trRes Tryd.prog) = [.tmp 4] := by kernel_rfl
theorem cdigits_spec {h : HP} {a0 a1 : AV} {Post : HP → AV → List AV → Prop} (hp : ∀ (E : Env) (R : HP → AV → List AV → Prop), E.N ≤ 1000000 → PostTo Post R → vcW Tryd.prog E cdigits (KQ.post [.tmp 4] 2 R) ⟨[(0, a0), (1, a1)], h⟩) : Eng.Spec Tryd.prog 48 h [a0, a1] Post := spec_wk (
  spec_of (c := cdigits.erase 77000) (B := 77000) Tryd.func48 cdigits_body (by rw [cdigits_n, cdigits_eq]) (by rw [cdigits_n]; decide) (by rw [cdigits_n]; exact (by decide : 2 ≤ 15)) (fun E hE hB hrd => by
    have hN : E.N ≤ 1000000 := by
      rw [hE, cdigits_n]; decide
    rw [cdigits_r, ← hB]
    exact awp_slots [(0, a0), (1, a1)] ⟨rfl, rfl, trivial⟩ (vcW_sound hN _ (hp E _ hN fin_self))))
/- cartulary/calendar.Stamp -/
def stamp_3o : List ROp := [.val 14 true 78014 (.fldA false 0 1 (.t 4)),
   .val 15 true 78015 (.ld false 1 (.t 14)),
   .val 17 true 78017 (.fldA false 1 1 (.t 4)),
   .val 18 true 78018 (.ld false 1 (.t 17)),
   .val 21 true 78021 (.fldA false 2 1 (.t 4)),
   .val 22 true 78022 (.ld false 1 (.t 21)),
   .val 25 true 78025 (.fldA false 3 1 (.t 4)),
   .val 26 true 78026 (.ld false 1 (.t 25)),
   .val 29 true 78029 (.fldA false 4 1 (.t 4)),
   .val 30 true 78030 (.ld false 1 (.t 29)),
   .val 33 true 78033 (.fldA false 5 1 (.t 4)),
   .val 34 true 78034 (.ld false 1 (.t 33)),
   .cal (some 16) true 78016 48 [(.t 15), (.c (.int .i64 4))],
   .cal (some 19) true 78019 48 [(.t 18), (.c (.int .i64 2))],
   .val 20 true 78020 (.bin .add (.t 16) (.t 19)),
   .cal (some 23) true 78023 48 [(.t 22), (.c (.int .i64 2))],
   .val 24 true 78024 (.bin .add (.t 20) (.t 23)),
   .cal (some 27) true 78027 48 [(.t 26), (.c (.int .i64 2))],
   .val 28 true 78028 (.bin .add (.t 24) (.t 27)),
   .cal (some 31) true 78031 48 [(.t 30), (.c (.int .i64 2))],
   .val 32 true 78032 (.bin .add (.t 28) (.t 31)),
   .cal (some 35) false 78035 48 [(.t 34), (.c (.int .i64 2))],
   .v 36 (.bin .add (.t 32) (.t 35)),
   .v 2 (.mov (.t 36)),
   .v 3 (.mov (.c (.int .i64 0)))]
def stamp_3 : AK := .seq (.reg stamp_3o [2, 3]) .ret
def stamp_6o : List ROp := [.v 13 (.mov (.t 5)),
   .v 2 (.mov (.c (.str []))),
   .v 3 (.mov (.t 13))]
def stamp_6 : AK := .seq (.reg stamp_6o [2, 3]) .ret
def stamp_5 : AK := .cond (.t 12) stamp_6 .skip
def stamp_4o : List ROp := [.v 11 (.mov (.t 5)),
   .v 12 (.bin .neq (.t 11) (.c (.int .i64 0)))]
def stamp_4 : AK := .seq (.reg stamp_4o [4, 5, 12]) stamp_5
def stamp_2 : AK := .seq stamp_4 stamp_3
def stamp_1o : List ROp := [.v 7 (.mov (.t 0)),
   .cal (some 8) false 78008 47 [(.t 7)],
   .v 6 (.mov (.t 8)),
   .v 9 (.ext (.t 6) 0),
   .v 10 (.ext (.t 6) 1),
   .eff 4 false 78004 (.alloc [.int .i64 0, .int .i64 0, .int .i64 0, .int .i64 0, .int .i64 0, .int .i64 0, .int .i64 0]),
   .effN false 78000 (.st 7 (.t 4) (.t 9)),
   .v 5 (.mov (.t 10))]
def stamp_1 : AK := .seq (.reg stamp_1o [4, 5]) stamp_2
def stamp_0o : List ROp := [.v 2 (.mov (.c (.str []))),
   .v 3 (.mov (.c (.int .i64 0)))]
def stamp_0 : AK := .seq (.reg stamp_0o [0]) stamp_1
def stamp : AK := stamp_0
theorem stamp_vc (P : Program) (E : Env) (Q : KQ) (st : St) :
  (vcW P E stamp_3 Q st = aopsW P stamp_3o st (KS.reg [2, 3] (KQ.seq P E .ret Q))) ∧
  (vcW P E stamp_6 Q st = aopsW P stamp_6o st (KS.reg [2, 3] (KQ.seq P E .ret Q))) ∧
  (vcW P E stamp_5 Q st = cndW P E (ev st (.t 12)) stamp_6 .skip Q st) ∧
  (vcW P E stamp_4 Q st = aopsW P stamp_4o st (KS.reg [4, 5, 12] (KQ.seq P E stamp_5 Q))) ∧
  (vcW P E stamp_2 Q st = vcW P E stamp_4 (KQ.seq P E stamp_3 Q) st) ∧
  (vcW P E stamp_1 Q st = aopsW P stamp_1o st (KS.reg [4, 5] (KQ.seq P E stamp_2 Q))) ∧
  (vcW P E stamp_0 Q st = aopsW P stamp_0o st (KS.reg [0] (KQ.seq P E stamp_1 Q))) ∧
  (vcW P E stamp Q st = vcW P E stamp_0 Q st) :=
  ⟨rfl, rfl, vcW_cond, rfl, rfl, rfl, rfl, rfl⟩
theorem stamp_jn (P : Program) (E : Env) (Q : KQ) (st : St) :
  (True) :=
  trivial
attribute [go_sem] stamp_vc stamp_3o stamp_6o stamp_4o stamp_1o stamp_0o
noncomputable def stampB : Code := (Tryd.f27.body).getD .skip
theorem stamp_eq : trCode Tryd.prog 37 78000 stampB = stamp.erase 78000 := by kernel_rfl
theorem stamp_body : Tryd.f27.body = some stampB := by kernel_rfl
theorem stamp_n : Tryd.f27.ntmps = 37 := by kernel_rfl
theorem stamp_r : Tryd.f27.results.toList.map (trRes Tryd.prog) = [.tmp 2, .tmp 3] := by kernel_rfl
theorem stamp_spec {h : HP} {a0 : AV} {Post : HP → AV → List AV → Prop} (hp : ∀ (E : Env) (R : HP → AV → List AV → Prop), E.N ≤ 1000000 → PostTo Post R → vcW Tryd.prog E stamp (KQ.post [.tmp 2, .tmp 3] 1 R) ⟨[(0, a0)], h⟩) : Eng.Spec Tryd.prog 27 h [a0] Post := spec_wk (
  spec_of (c := stamp.erase 78000) (B := 78000) Tryd.func27 stamp_body (by rw [stamp_n, stamp_eq]) (by rw [stamp_n]; decide) (by rw [stamp_n]; exact (by decide : 1 ≤ 37)) (fun E hE hB hrd => by
    have hN : E.N ≤ 1000000 := by
      rw [hE, stamp_n]; decide
    rw [stamp_r, ← hB]
    exact awp_slots [(0, a0)] ⟨rfl, trivial⟩ (vcW_sound hN _ (hp E _ hN fin_self))))
/- cartulary/calendar.Unstamp -/
def unstamp_5o : List ROp := [.v 32 (.mov (.t 6)),
   .dyn (some 33) false 79033 (.t 32) [(.c (.int .i64 0))],
   .v 34 (.bin .mul (.c (.int .i64 100)) (.t 33)),
   .v 35 (.mov (.t 6)),
   .dyn (some 36) false 79036 (.t 35) [(.c (.int .i64 2))],
   .v 37 (.bin .add (.t 34) (.t 36)),
   .v 38 (.mov (.t 6)),
   .dyn (some 39) false 79039 (.t 38) [(.c (.int .i64 4))],
   .v 40 (.mov (.t 6)),
   .dyn (some 41) false 79041 (.t 40) [(.c (.int .i64 6))],
   .v 42 (.mov (.t 6)),
   .dyn (some 43) false 79043 (.t 42) [(.c (.int .i64 8))],
   .v 44 (.mov (.t 6)),
   .dyn (some 45) false 79045 (.t 44) [(.c (.int .i64 10))],
   .v 46 (.mov (.t 6)),
   .dyn (some 47) false 79047 (.t 46) [(.c (.int .i64 12))],
   .v 48 (.bld [.int .i64 0, .int .i64 0, .int .i64 0, .int .i64 0, .int .i64 0, .int .i64 0, .int .i64 0] [(0, 1, (.t 37)), (1, 1, (.t 39)), (2, 1, (.t 41)), (3, 1, (.t 43)), (4, 1, (.t 45)), (5, 1, (.t 47))]),
   .cal (some 49) false 79049 42 [(.t 48)],
   .v 50 (.ext (.t 49) 0),
   .v 51 (.ext (.t 49) 1),
   .v 2 (.mov (.t 50)),
   .v 3 (.mov (.t 51))]
def unstamp_5 : AK := .seq (.reg unstamp_5o [2, 3]) .ret
def unstamp_4o : List ROp := [.v 31 (.mkf 41 [(.t 4)]),
   .v 6 (.mov (.t 31))]
def unstamp_4 : AK := .seq (.reg unstamp_4o [6]) unstamp_5
def unstamp_11o : List ROp := [.v 30 (.bin .add (.t 10) (.c (.int .i64 1))),
   .v 10 (.mov (.t 30))]
def unstamp_11 : AK := .reg unstamp_11o [0, 4, 10]
def unstamp_15o : List ROp := [.v 23 (.mov (.t 5)),
   .v 24 (.mov (.t 0)),
   .v 25 (.mov (.t 5)),
   .v 26 (.sidx (.t 24) (.t 25)),
   .v 27 (.bin .sub (.t 26) (.c (.int .u8 48))),
   .v 28 (.cvi .i64 (.t 27)),
   .v 29 (.idxP 14 1 (.t 4) (.t 23)),
   .effN false 79000 (.st 1 (.t 29) (.t 28))]
def unstamp_15 : AK := .reg unstamp_15o [0, 4, 10]
def unstamp_18o : List ROp := [.v 2 (.mov (.c (.int .i64 0))),
   .v 3 (.mov (.c (.int .i64 3)))]
def unstamp_18 : AK := .seq (.reg unstamp_18o [2, 3]) .ret
def unstamp_17 : AK := .cond (.t 22) unstamp_18 .skip
def unstamp_16o : List ROp := [.v 13 (.mov (.t 0)),
   .v 14 (.mov (.t 5)),
   .v 15 (.sidx (.t 13) (.t 14)),
   .v 16 (.bin .lss (.t 15) (.c (.int .u8 48))),
   .v 17 (.mov (.t 16)),
   .gval 18 17 false false 79018 (.mov (.t 0)),
   .gval 19 17 false false 79019 (.mov (.t 5)),
   .gval 20 17 false false 79020 (.sidx (.t 18) (.t 19)),
   .gval 21 17 false false 79021 (.bin .gtr (.t 20) (.c (.int .u8 57))),
   .v 22 (.pick (.t 17) (.c (.bool true)) (.t 21))]
def unstamp_16 : AK := .seq (.reg unstamp_16o [0, 4, 5, 10, 22]) unstamp_17
def unstamp_14 : AK := .seq unstamp_16 unstamp_15
def unstamp_13o : List ROp := [.v 12 (.mov (.t 10)),
   .v 5 (.mov (.t 12))]
def unstamp_13 : AK := .seq (.reg unstamp_13o [0, 4, 5, 10]) unstamp_14
def unstamp_12 : AK := .block 1 unstamp_13
def unstamp_10 : AK := .seq unstamp_12 unstamp_11
def unstamp_19 : AK := .cond (.t 11) .skip (.exit 0)
def unstamp_9 : AK := .seq unstamp_19 unstamp_10
def unstamp_8o : List ROp := [.v 11 (.bin .lss (.t 10) (.c (.int .i64 14)))]
def unstamp_8 : AK := .seq (.reg unstamp_8o [0, 4, 10, 11]) unstamp_9
def unstamp_L0 : AK := .loop unstamp_8
def unstamp_7 : AK := .block 0 unstamp_L0
def unstamp_6o : List ROp := [.v 10 (.mov (.c (.int .i64 0)))]
def unstamp_6 : AK := .seq (.reg unstamp_6o [0, 4, 10]) unstamp_7
def unstamp_3 : AK := .seq unstamp_6 unstamp_4
def unstamp_2o : List ROp := [.eff 4 false 79004 (.alloc [.int .i64 0, .int .i64 0, .int .i64 0, .int .i64 0, .int .i64 0, .int .i64 0, .int .i64 0, .int .i64 0, .int .i64 0, .int .i64 0, .int .i64 0, .int .i64 0, .int .i64 0, .int .i64 0])]
def unstamp_2 : AK := .seq (.reg unstamp_2o [0, 4]) unstamp_3
def unstamp_22o : List ROp := [.v 2 (.mov (.c (.int .i64 0))),
   .v 3 (.mov (.c (.int .i64 3)))]
def unstamp_22 : AK := .seq (.reg unstamp_22o [2, 3]) .ret
def unstamp_21 : AK := .cond (.t 9) unstamp_22 .skip
def unstamp_20o : List ROp := [.v 7 (.mov (.t 0)),
   .v 8 (.len true (.t 7)),
   .v 9 (.bin .neq (.t 8) (.c (.int .i64 14)))]
def unstamp_20 : AK := .seq (.reg unstamp_20o [0, 9]) unstamp_21
def unstamp_1 : AK := .seq unstamp_20 unstamp_2
def unstamp_0o : List ROp := [.v 2 (.mov (.c (.int .i64 0))),
   .v 3 (.mov (.c (.int .i64 0)))]
def unstamp_0 : AK := .seq (.reg unstamp_0o [0]) unstamp_1
def unstamp : AK := unstamp_0
theorem unstamp_vc (P : Program) (E : Env) (Q : KQ) (st : St) :
  (vcW P E unstamp_5 Q st = aopsW P unstamp_5o st (KS.reg [2, 3] (KQ.seq P E .ret Q))) ∧
  (vcW P E unstamp_4 Q st = aopsW P unstamp_4o st (KS.reg [6] (KQ.seq P E unstamp_5 Q))) ∧
  (vcW P E unstamp_11 Q st = aopsW P unstamp_11o st (KS.reg [0, 4, 10] Q)) ∧
  (vcW P E unstamp_15 Q st = aopsW P unstamp_15o st (KS.reg [0, 4, 10] Q)) ∧
  (vcW P E unstamp_18 Q st = aopsW P unstamp_18o st (KS.reg [2, 3] (KQ.seq P E .ret Q))) ∧
  (vcW P E unstamp_17 Q st = cndW P E (ev st (.t 22)) unstamp_18 .skip Q st) ∧
  (vcW P E unstamp_16 Q st = aopsW P unstamp_16o st (KS.reg [0, 4, 5, 10, 22] (KQ.seq P E unstamp_17 Q))) ∧
  (vcW P E unstamp_14 Q st = vcW P E unstamp_16 (KQ.seq P E unstamp_15 Q) st) ∧
  (vcW P E unstamp_13 Q st = aopsW P unstamp_13o st (KS.reg [0, 4, 5, 10] (KQ.seq P E unstamp_14 Q))) ∧
  (vcW P E unstamp_12 Q st = vcW P E unstamp_13 (KQ.blk 1 Q) st) ∧
  (vcW P E unstamp_10 Q st = vcW P E unstamp_12 (KQ.seq P E unstamp_11 Q) st) ∧
  (vcW P E unstamp_19 Q st = cndW P E (ev st (.t 11)) .skip (.exit 0) Q st) ∧
  (vcW P E unstamp_9 Q st = vcW P E unstamp_19 (KQ.seq P E unstamp_10 Q) st) ∧
  (vcW P E unstamp_8 Q st = aopsW P unstamp_8o st (KS.reg [0, 4, 10, 11] (KQ.seq P E unstamp_9 Q))) ∧
  (vcW P E unstamp_7 Q st = vcW P E unstamp_L0 (KQ.blk 0 Q) st) ∧
  (vcW P E unstamp_6 Q st = aopsW P unstamp_6o st (KS.reg [0, 4, 10] (KQ.seq P E unstamp_7 Q))) ∧
  (vcW P E unstamp_3 Q st = vcW P E unstamp_6 (KQ.seq P E unstamp_4 Q) st) ∧
  (vcW P E unstamp_2 Q st = aopsW P unstamp_2o st (KS.reg [0, 4] (KQ.seq P E unstamp_3 Q))) ∧
  (vcW P E unstamp_22 Q st = aopsW P unstamp_22o st (KS.reg [2, 3] (KQ.seq P E .ret Q))) ∧
  (vcW P E unstamp_21 Q st = cndW P E (ev st (.t 9)) unstamp_22 .skip Q st) ∧
  (vcW P E unstamp_20 Q st = aopsW P unstamp_20o st (KS.reg [0, 9] (KQ.seq P E unstamp_21 Q))) ∧
  (vcW P E unstamp_1 Q st = vcW P E unstamp_20 (KQ.seq P E unstamp_2 Q) st) ∧
  (vcW P E unstamp_0 Q st = aopsW P unstamp_0o st (KS.reg [0] (KQ.seq P E unstamp_1 Q))) ∧
  (vcW P E unstamp Q st = vcW P E unstamp_0 Q st) :=
  ⟨rfl, rfl, rfl, rfl, rfl, vcW_cond, rfl, rfl, rfl, rfl, rfl, vcW_cond, rfl, rfl, rfl, rfl, rfl, rfl, rfl, vcW_cond, rfl, rfl, rfl, rfl⟩
theorem unstamp_jn (P : Program) (E : Env) (Q : KQ) (st : St) :
  (True) :=
  trivial
attribute [go_sem] unstamp_vc unstamp_5o unstamp_4o unstamp_11o unstamp_15o unstamp_18o unstamp_16o unstamp_13o unstamp_8o unstamp_6o unstamp_2o unstamp_22o unstamp_20o unstamp_0o
noncomputable def unstampB : Code := (Tryd.f18.body).getD .skip
theorem unstamp_eq : trCode Tryd.prog 52 79000 unstampB = unstamp.erase 79000 := by kernel_rfl
theorem unstamp_body : Tryd.f18.body = some unstampB := by kernel_rfl
theorem unstamp_n : Tryd.f18.ntmps = 52 := by kernel_rfl
theorem unstamp_r : Tryd.f18.results.toList.map (trRes Tryd.prog) = [.tmp 2, .tmp 3] := by kernel_rfl
theorem unstamp_spec {h : HP} {a0 : AV} {Post : HP → AV → List AV → Prop} (hp : ∀ (E : Env) (R : HP → AV → List AV → Prop), E.N ≤ 1000000 → PostTo Post R → vcW Tryd.prog E unstamp (KQ.post [.tmp 2, .tmp 3] 1 R) ⟨[(0, a0)], h⟩) : Eng.Spec Tryd.prog 18 h [a0] Post := spec_wk (
  spec_of (c := unstamp.erase 79000) (B := 79000) Tryd.func18 unstamp_body (by rw [unstamp_n, unstamp_eq]) (by rw [unstamp_n]; decide) (by rw [unstamp_n]; exact (by decide : 1 ≤ 52)) (fun E hE hB hrd => by
    have hN : E.N ≤ 1000000 := by
      rw [hE, unstamp_n]; decide
    rw [unstamp_r, ← hB]
    exact awp_slots [(0, a0)] ⟨rfl, trivial⟩ (vcW_sound hN _ (hp E _ hN fin_self))))
/- cartulary/calendar.Unstamp$1 -/
def pair_1o : List ROp := [.val 4 true 80004 (.mov (.t 0)),
   .val 5 true 80005 (.idxP 14 1 (.t 1) (.t 4)),
   .val 6 true 80006 (.ld false 1 (.t 5)),
   .val 7 true 80007 (.bin .mul (.c (.int .i64 10)) (.t 6)),
   .val 8 true 80008 (.mov (.t 0)),
   .val 9 true 80009 (.bin .add (.t 8) (.c (.int .i64 1))),
   .val 10 true 80010 (.idxP 14 1 (.t 1) (.t 9)),
   .val 11 true 80011 (.ld false 1 (.t 10)),
   .v 12 (.bin .add (.t 7) (.t 11)),
   .v 3 (.mov (.t 12))]
def pair_1 : AK := .seq (.reg pair_1o [3, 2000000, 2000001]) .ret
def pair_0o : List ROp := [.v 3 (.mov (.c (.int .i64 0)))]
def pair_0 : AK := .seq (.reg pair_0o [0, 1, 2000000, 2000001]) pair_1
def pair : AK := pair_0
theorem pair_vc (P : Program) (E : Env) (Q : KQ) (st : St) :
  (vcW P E pair_1 Q st = aopsW P pair_1o st (KS.reg [3, 2000000, 2000001] (KQ.seq P E .ret Q))) ∧
  (vcW P E pair_0 Q st = aopsW P pair_0o st (KS.reg [0, 1, 2000000, 2000001] (KQ.seq P E pair_1 Q))) ∧
  (vcW P E pair Q st = vcW P E pair_0 Q st) :=
  ⟨rfl, rfl, rfl⟩
theorem pair_jn (P : Program) (E : Env) (Q : KQ) (st : St) :
  (True) :=
  trivial
attribute [go_sem] pair_vc pair_1o pair_0o
noncomputable def pairB : Code := (Tryd.f41.body).getD .skip
theorem pair_eq : trCode Tryd.prog 13 80000 pairB = pair.erase 80000 := by kernel_rfl
theorem pair_body : Tryd.f41.body = some pairB := by kernel_rfl
theorem pair_n : Tryd.f41.ntmps = 13 := by kernel_rfl
theorem pair_r : Tryd.f41.results.toList.map (trRes Tryd.prog) = [.tmp 3] := by kernel_rfl
theorem pair_spec {h : HP} {a0 a1 : AV} {Post : HP → AV → List AV → Prop} (hp : ∀ (E : Env) (R : HP → AV → List AV → Prop), E.N ≤ 1000000 → PostTo Post R → vcW Tryd.prog E pair (KQ.post [.tmp 3] 2 R) ⟨[(0, a0), (1, a1), (2000000, a0), (2000001, a1)], h⟩) : Eng.Spec Tryd.prog 41 h [a0, a1] Post := spec_wk (
  spec_of (c := pair.erase 80000) (B := 80000) Tryd.func41 pair_body (by rw [pair_n, pair_eq]) (by rw [pair_n]; decide) (by rw [pair_n]; exact (by decide : 2 ≤ 13)) (fun E hE hB hrd => by
    have hN : E.N ≤ 1000000 := by
      rw [hE, pair_n]; decide
    rw [pair_r, ← hB]
    exact awp_slots [(0, a0), (1, a1), (2000000, a0), (2000001, a1)] ⟨rfl, rfl, rfl, rfl, trivial⟩ (vcW_sound hN _ (hp E _ hN fin_self))))
/- cartulary/cartularyref19.Leap -/
def rleap_1o : List ROp := [.v 3 (.mov (.t 0)),
   .v 4 (.bin .rem (.t 3) (.c (.int .i64 4))),
   .v 5 (.bin .eql (.t 4) (.c (.int .i64 0))),
   .v 6 (.mov (.t 5)),
   .gval 7 6 true false 81007 (.mov (.t 0)),
   .gval 8 6 true false 81008 (.bin .rem (.t 7) (.c (.int .i64 100))),
   .gval 9 6 true false 81009 (.bin .neq (.t 8) (.c (.int .i64 0))),
   .v 10 (.pick (.t 6) (.t 9) (.c (.bool false))),
   .v 11 (.mov (.t 10)),
   .gval 12 11 false false 81012 (.mov (.t 0)),
   .gval 13 11 false false 81013 (.bin .rem (.t 12) (.c (.int .i64 400))),
   .gval 14 11 false false 81014 (.bin .eql (.t 13) (.c (.int .i64 0))),
   .v 15 (.pick (.t 11) (.c (.bool true)) (.t 14)),
   .v 2 (.mov (.t 15))]
def rleap_1 : AK := .seq (.reg rleap_1o [2]) .ret
def rleap_0o : List ROp := [.v 2 (.mov (.c (.bool false)))]
def rleap_0 : AK := .seq (.reg rleap_0o [0]) rleap_1
def rleap : AK := rleap_0
theorem rleap_vc (P : Program) (E : Env) (Q : KQ) (st : St) :
  (vcW P E rleap_1 Q st = aopsW P rleap_1o st (KS.reg [2] (KQ.seq P E .ret Q))) ∧
  (vcW P E rleap_0 Q st = aopsW P rleap_0o st (KS.reg [0] (KQ.seq P E rleap_1 Q))) ∧
  (vcW P E rleap Q st = vcW P E rleap_0 Q st) :=
  ⟨rfl, rfl, rfl⟩
theorem rleap_jn (P : Program) (E : Env) (Q : KQ) (st : St) :
  (True) :=
  trivial
attribute [go_sem] rleap_vc rleap_1o rleap_0o
noncomputable def rleapB : Code := (Tryd.f67.body).getD .skip
theorem rleap_eq : trCode Tryd.prog 16 81000 rleapB = rleap.erase 81000 := by kernel_rfl
theorem rleap_body : Tryd.f67.body = some rleapB := by kernel_rfl
theorem rleap_n : Tryd.f67.ntmps = 16 := by kernel_rfl
theorem rleap_r : Tryd.f67.results.toList.map (trRes Tryd.prog) = [.tmp 2] := by kernel_rfl
theorem rleap_spec {h : HP} {a0 : AV} {Post : HP → AV → List AV → Prop} (hp : ∀ (E : Env) (R : HP → AV → List AV → Prop), E.N ≤ 1000000 → PostTo Post R → vcW Tryd.prog E rleap (KQ.post [.tmp 2] 1 R) ⟨[(0, a0)], h⟩) : Eng.Spec Tryd.prog 67 h [a0] Post := spec_wk (
  spec_of (c := rleap.erase 81000) (B := 81000) Tryd.func67 rleap_body (by rw [rleap_n, rleap_eq]) (by rw [rleap_n]; decide) (by rw [rleap_n]; exact (by decide : 1 ≤ 16)) (fun E hE hB hrd => by
    have hN : E.N ≤ 1000000 := by
      rw [hE, rleap_n]; decide
    rw [rleap_r, ← hB]
    exact awp_slots [(0, a0)] ⟨rfl, trivial⟩ (vcW_sound hN _ (hp E _ hN fin_self))))
/- cartulary/cartularyref19.Days -/
def rdays_4o : List ROp := [.v 25 (.mov (.t 5)),
   .v 4 (.mov (.t 25))]
def rdays_4 : AK := .seq (.reg rdays_4o [4]) .ret
def rdays_7o : List ROp := [.v 23 (.mov (.t 5)),
   .v 24 (.bin .add (.t 23) (.c (.int .i64 1))),
   .v 5 (.mov (.t 24))]
def rdays_7 : AK := .reg rdays_7o [5]
def rdays_6 : AK := .cond (.t 22) rdays_7 .skip
def rdays_5o : List ROp := [.v 17 (.mov (.t 1)),
   .v 18 (.bin .eql (.t 17) (.c (.int .i64 2))),
   .v 19 (.mov (.t 18)),
   .gval 20 19 true false 82020 (.mov (.t 0)),
   .gcal 21 19 true false 82021 67 [(.t 20)],
   .v 22 (.pick (.t 19) (.t 21) (.c (.bool false)))]
def rdays_5 : AK := .seq (.reg rdays_5o [5, 22]) rdays_6
def rdays_3 : AK := .seq rdays_5 rdays_4
def rdays_2o : List ROp := [.eff 12 false 82012 (.bsl 1 [(.c (.int .i64 31)), (.c (.int .i64 28)), (.c (.int .i64 31)), (.c (.int .i64 30)), (.c (.int .i64 31)), (.c (.int .i64 30)), (.c (.int .i64 31)), (.c (.int .i64 31)), (.c (.int .i64 30)), (.c (.int .i64 31)), (.c (.int .i64 30)), (.c (.int .i64 31))]),
   .v 13 (.mov (.t 1)),
   .v 14 (.bin .sub (.t 13) (.c (.int .i64 1))),
   .v 15 (.idxA 1 (.t 12) (.t 14)),
   .v 16 (.ld false 1 (.t 15)),
   .v 5 (.mov (.t 16))]
def rdays_2 : AK := .seq (.reg rdays_2o [0, 1, 5]) rdays_3
def rdays_10o : List ROp := [.v 4 (.mov (.c (.int .i64 0)))]
def rdays_10 : AK := .seq (.reg rdays_10o [4]) .ret
def rdays_9 : AK := .cond (.t 11) rdays_10 .skip
def rdays_8o : List ROp := [.v 6 (.mov (.t 1)),
   .v 7 (.bin .lss (.t 6) (.c (.int .i64 1))),
   .v 8 (.mov (.t 7)),
   .gval 9 8 false false 82009 (.mov (.t 1)),
   .gval 10 8 false false 82010 (.bin .gtr (.t 9) (.c (.int .i64 12))),
   .v 11 (.pick (.t 8) (.c (.bool true)) (.t 10))]
def rdays_8 : AK := .seq (.reg rdays_8o [0, 1, 11]) rdays_9
def rdays_1 : AK := .seq rdays_8 rdays_2
def rdays_0o : List ROp := [.v 4 (.mov (.c (.int .i64 0)))]
def rdays_0 : AK := .seq (.reg rdays_0o [0, 1]) rdays_1
def rdays : AK := rdays_0
theorem rdays_vc (P : Program) (E : Env) (Q : KQ) (st : St) :
  (vcW P E rdays_4 Q st = aopsW P rdays_4o st (KS.reg [4] (KQ.seq P E .ret Q))) ∧
  (vcW P E rdays_7 Q st = aopsW P rdays_7o st (KS.reg [5] Q)) ∧
  (vcW P E rdays_6 Q st = cndW P E (ev st (.t 22)) rdays_7 .skip Q st) ∧
  (vcW P E rdays_5 Q st = aopsW P rdays_5o st (KS.reg [5, 22] (KQ.seq P E rdays_6 Q))) ∧
  (vcW P E rdays_3 Q st = vcW P E rdays_5 (KQ.seq P E rdays_4 Q) st) ∧
  (vcW P E rdays_2 Q st = aopsW P rdays_2o st (KS.reg [0, 1, 5] (KQ.seq P E rdays_3 Q))) ∧
  (vcW P E rdays_10 Q st = aopsW P rdays_10o st (KS.reg [4] (KQ.seq P E .ret Q))) ∧
  (vcW P E rdays_9 Q st = cndW P E (ev st (.t 11)) rdays_10 .skip Q st) ∧
  (vcW P E rdays_8 Q st = aopsW P rdays_8o st (KS.reg [0, 1, 11] (KQ.seq P E rdays_9 Q))) ∧
  (vcW P E rdays_1 Q st = vcW P E rdays_8 (KQ.seq P E rdays_2 Q) st) ∧
  (vcW P E rdays_0 Q st = aopsW P rdays_0o st (KS.reg [0, 1] (KQ.seq P E rdays_1 Q))) ∧
  (vcW P E rdays Q st = vcW P E rdays_0 Q st) :=
  ⟨rfl, rfl, vcW_cond, rfl, rfl, rfl, rfl, vcW_cond, rfl, rfl, rfl, rfl⟩
theorem rdays_jn (P : Program) (E : Env) (Q : KQ) (st : St) :
  (True) :=
  trivial
attribute [go_sem] rdays_vc rdays_4o rdays_7o rdays_5o rdays_2o rdays_10o rdays_8o rdays_0o
noncomputable def rdaysB : Code := (Tryd.f58.body).getD .skip
theorem rdays_eq : trCode Tryd.prog 26 82000 rdaysB = rdays.erase 82000 := by kernel_rfl
theorem rdays_body : Tryd.f58.body = some rdaysB := by kernel_rfl
theorem rdays_n : Tryd.f58.ntmps = 26 := by kernel_rfl
theorem rdays_r : Tryd.f58.results.toList.map (trRes Tryd.prog) = [.tmp 4] := by kernel_rfl
theorem rdays_spec {h : HP} {a0 a1 : AV} {Post : HP → AV → List AV → Prop} (hp : ∀ (E : Env) (R : HP → AV → List AV → Prop), E.N ≤ 1000000 → PostTo Post R → vcW Tryd.prog E rdays (KQ.post [.tmp 4] 2 R) ⟨[(0, a0), (1, a1)], h⟩) : Eng.Spec Tryd.prog 58 h [a0, a1] Post := spec_wk (
  spec_of (c := rdays.erase 82000) (B := 82000) Tryd.func58 rdays_body (by rw [rdays_n, rdays_eq]) (by rw [rdays_n]; decide) (by rw [rdays_n]; exact (by decide : 2 ≤ 26)) (fun E hE hB hrd => by
    have hN : E.N ≤ 1000000 := by
      rw [hE, rdays_n]; decide
    rw [rdays_r, ← hB]
    exact awp_slots [(0, a0), (1, a1)] ⟨rfl, rfl, trivial⟩ (vcW_sound hN _ (hp E _ hN fin_self))))
/- cartulary/cartularyref19.length -/
def rlength_2o : List ROp := [.v 2 (.mov (.c (.int .i64 365)))]
def rlength_2 : AK := .seq (.reg rlength_2o [2]) .ret
def rlength_5o : List ROp := [.v 2 (.mov (.c (.int .i64 366)))]
def rlength_5 : AK := .seq (.reg rlength_5o [2]) .ret
def rlength_4 : AK := .cond (.t 4) rlength_5 .skip
def rlength_3o : List ROp := [.v 3 (.mov (.t 0)),
   .cal (some 4) false 83004 67 [(.t 3)]]
def rlength_3 : AK := .seq (.reg rlength_3o [4]) rlength_4
def rlength_1 : AK := .seq rlength_3 rlength_2
def rlength_0o : List ROp := [.v 2 (.mov (.c (.int .i64 0)))]
def rlength_0 : AK := .seq (.reg rlength_0o [0]) rlength_1
def rlength : AK := rlength_0
theorem rlength_vc (P : Program) (E : Env) (Q : KQ) (st : St) :
  (vcW P E rlength_2 Q st = aopsW P rlength_2o st (KS.reg [2] (KQ.seq P E .ret Q))) ∧
  (vcW P E rlength_5 Q st = aopsW P rlength_5o st (KS.reg [2] (KQ.seq P E .ret Q))) ∧
  (vcW P E rlength_4 Q st = cndW P E (ev st (.t 4)) rlength_5 .skip Q st) ∧
  (vcW P E rlength_3 Q st = aopsW P rlength_3o st (KS.reg [4] (KQ.seq P E rlength_4 Q))) ∧
  (vcW P E rlength_1 Q st = vcW P E rlength_3 (KQ.seq P E rlength_2 Q) st) ∧
  (vcW P E rlength_0 Q st = aopsW P rlength_0o st (KS.reg [0] (KQ.seq P E rlength_1 Q))) ∧
  (vcW P E rlength Q st = vcW P E rlength_0 Q st) :=
  ⟨rfl, rfl, vcW_cond, rfl, rfl, rfl, rfl⟩
theorem rlength_jn (P : Program) (E : Env) (Q : KQ) (st : St) :
  (True) :=
  trivial
attribute [go_sem] rlength_vc rlength_2o rlength_5o rlength_3o rlength_0o
noncomputable def rlengthB : Code := (Tryd.f59.body).getD .skip
theorem rlength_eq : trCode Tryd.prog 5 83000 rlengthB = rlength.erase 83000 := by kernel_rfl
theorem rlength_body : Tryd.f59.body = some rlengthB := by kernel_rfl
theorem rlength_n : Tryd.f59.ntmps = 5 := by kernel_rfl
theorem rlength_r : Tryd.f59.results.toList.map (trRes Tryd.prog) = [.tmp 2] := by kernel_rfl
theorem rlength_spec {h : HP} {a0 : AV} {Post : HP → AV → List AV → Prop} (hp : ∀ (E : Env) (R : HP → AV → List AV → Prop), E.N ≤ 1000000 → PostTo Post R → vcW Tryd.prog E rlength (KQ.post [.tmp 2] 1 R) ⟨[(0, a0)], h⟩) : Eng.Spec Tryd.prog 59 h [a0] Post := spec_wk (
  spec_of (c := rlength.erase 83000) (B := 83000) Tryd.func59 rlength_body (by rw [rlength_n, rlength_eq]) (by rw [rlength_n]; decide) (by rw [rlength_n]; exact (by decide : 1 ≤ 5)) (fun E hE hB hrd => by
    have hN : E.N ≤ 1000000 := by
      rw [hE, rlength_n]; decide
    rw [rlength_r, ← hB]
    exact awp_slots [(0, a0)] ⟨rfl, trivial⟩ (vcW_sound hN _ (hp E _ hN fin_self))))
/- cartulary/cartularyref19.Unix -/
def runix_6o : List ROp := [.val 116 true 84116 (.mov (.t 4)),
   .val 117 true 84117 (.bin .mul (.c (.int .i64 86400)) (.t 116)),
   .val 118 true 84118 (.mov (.t 0)),
   .val 119 true 84119 (.idxA 1 (.t 118) (.c (.int .i64 3))),
   .val 120 true 84120 (.ld false 1 (.t 119)),
   .val 121 true 84121 (.bin .mul (.c (.int .i64 3600)) (.t 120)),
   .val 122 true 84122 (.bin .add (.t 117) (.t 121)),
   .val 123 true 84123 (.mov (.t 0)),
   .val 124 true 84124 (.idxA 1 (.t 123) (.c (.int .i64 4))),
   .val 125 true 84125 (.ld false 1 (.t 124)),
   .val 126 true 84126 (.bin .mul (.c (.int .i64 60)) (.t 125)),
   .val 127 true 84127 (.bin .add (.t 122) (.t 126)),
   .val 128 true 84128 (.mov (.t 0)),
   .val 129 true 84129 (.idxA 1 (.t 128) (.c (.int .i64 5))),
   .val 130 true 84130 (.ld false 1 (.t 129)),
   .v 131 (.bin .add (.t 127) (.t 130)),
   .v 132 (.bin .sub (.t 131) (.c (.int .i64 62135596800))),
   .v 2 (.mov (.t 132)),
   .v 3 (.mov (.c (.bool true)))]
def runix_6 : AK := .seq (.reg runix_6o [2, 3]) .ret
def runix_5o : List ROp := [.v 110 (.mov (.t 4)),
   .v 111 (.mov (.t 0)),
   .v 112 (.idxA 1 (.t 111) (.c (.int .i64 2))),
   .v 113 (.ld false 1 (.t 112)),
   .v 114 (.bin .sub (.t 113) (.c (.int .i64 1))),
   .v 115 (.bin .add (.t 110) (.t 114)),
   .v 4 (.mov (.t 115))]
def runix_5 : AK := .seq (.reg runix_5o [0, 4]) runix_6
def runix_11o : List ROp := [.v 101 (.mov (.t 6)),
   .v 102 (.bin .add (.t 101) (.c (.int .i64 1))),
   .v 6 (.mov (.t 102))]
def runix_11 : AK := .reg runix_11o [0, 4, 6]
def runix_13o : List ROp := [.v 103 (.mov (.t 4)),
   .v 104 (.mov (.t 0)),
   .v 105 (.idxA 1 (.t 104) (.c (.int .i64 0))),
   .v 106 (.ld false 1 (.t 105)),
   .v 107 (.mov (.t 6)),
   .cal (some 108) false 84108 58 [(.t 106), (.t 107)],
   .v 109 (.bin .add (.t 103) (.t 108)),
   .v 4 (.mov (.t 109))]
def runix_13 : AK := .reg runix_13o [0, 4, 6]
def runix_12 : AK := .block 3 runix_13
def runix_10 : AK := .seq runix_12 runix_11
def runix_15 : AK := .cond (.t 100) .skip (.exit 2)
def runix_14o : List ROp := [.v 96 (.mov (.t 6)),
   .v 97 (.mov (.t 0)),
   .v 98 (.idxA 1 (.t 97) (.c (.int .i64 1))),
   .v 99 (.ld false 1 (.t 98)),
   .v 100 (.bin .lss (.t 96) (.t 99))]
def runix_14 : AK := .seq (.reg runix_14o [0, 4, 6, 100]) runix_15
def runix_9 : AK := .seq runix_14 runix_10
def runix_L0 : AK := .loop runix_9
def runix_8 : AK := .block 2 runix_L0
def runix_7o : List ROp := [.v 6 (.mov (.c (.int .i64 1)))]
def runix_7 : AK := .seq (.reg runix_7o [0, 4, 6]) runix_8
def runix_4 : AK := .seq runix_7 runix_5
def runix_20o : List ROp := [.v 90 (.mov (.t 5)),
   .v 91 (.bin .add (.t 90) (.c (.int .i64 1))),
   .v 5 (.mov (.t 91))]
def runix_20 : AK := .reg runix_20o [0, 4, 5]
def runix_22o : List ROp := [.v 92 (.mov (.t 4)),
   .v 93 (.mov (.t 5)),
   .cal (some 94) false 84094 59 [(.t 93)],
   .v 95 (.bin .add (.t 92) (.t 94)),
   .v 4 (.mov (.t 95))]
def runix_22 : AK := .reg runix_22o [0, 4, 5]
def runix_21 : AK := .block 1 runix_22
def runix_19 : AK := .seq runix_21 runix_20
def runix_24 : AK := .cond (.t 89) .skip (.exit 0)
def runix_23o : List ROp := [.v 85 (.mov (.t 5)),
   .v 86 (.mov (.t 0)),
   .v 87 (.idxA 1 (.t 86) (.c (.int .i64 0))),
   .v 88 (.ld false 1 (.t 87)),
   .v 89 (.bin .lss (.t 85) (.t 88))]
def runix_23 : AK := .seq (.reg runix_23o [0, 4, 5, 89]) runix_24
def runix_18 : AK := .seq runix_23 runix_19
def runix_L1 : AK := .loop runix_18
def runix_17 : AK := .block 0 runix_L1
def runix_16o : List ROp := [.v 78 (.mov (.t 0)),
   .v 79 (.idxA 1 (.t 78) (.c (.int .i64 0))),
   .v 80 (.ld false 1 (.t 79)),
   .v 81 (.bin .sub (.t 80) (.c (.int .i64 1))),
   .v 82 (.bin .quo (.t 81) (.c (.int .i64 400))),
   .v 83 (.bin .mul (.t 82) (.c (.int .i64 400))),
   .v 84 (.bin .add (.c (.int .i64 1)) (.t 83)),
   .v 5 (.mov (.t 84))]
def runix_16 : AK := .seq (.reg runix_16o [0, 4, 5]) runix_17
def runix_3 : AK := .seq runix_16 runix_4
def runix_2o : List ROp := [.v 72 (.mov (.t 0)),
   .v 73 (.idxA 1 (.t 72) (.c (.int .i64 0))),
   .v 74 (.ld false 1 (.t 73)),
   .v 75 (.bin .sub (.t 74) (.c (.int .i64 1))),
   .v 76 (.bin .quo (.t 75) (.c (.int .i64 400))),
   .v 77 (.bin .mul (.t 76) (.c (.int .i64 146097))),
   .v 4 (.mov (.t 77))]
def runix_2 : AK := .seq (.reg runix_2o [0, 4]) runix_3
def runix_27o : List ROp := [.v 2 (.mov (.c (.int .i64 0))),
   .v 3 (.mov (.c (.bool false)))]
def runix_27 : AK := .seq (.reg runix_27o [2, 3]) .ret
def runix_26 : AK := .cond (.t 71) runix_27 .skip
def runix_25o : List ROp := [.v 7 (.mov (.t 0)),
   .v 8 (.idxA 1 (.t 7) (.c (.int .i64 0))),
   .v 9 (.ld false 1 (.t 8)),
   .v 10 (.bin .lss (.t 9) (.c (.int .i64 1))),
   .v 11 (.mov (.t 10)),
   .gval 12 11 false false 84012 (.mov (.t 0)),
   .gval 13 11 false false 84013 (.idxA 1 (.t 12) (.c (.int .i64 0))),
   .gval 14 11 false false 84014 (.ld false 1 (.t 13)),
   .gval 15 11 false false 84015 (.bin .gtr (.t 14) (.c (.int .i64 9999))),
   .v 16 (.pick (.t 11) (.c (.bool true)) (.t 15)),
   .v 17 (.mov (.t 16)),
   .gval 18 17 false false 84018 (.mov (.t 0)),
   .gval 19 17 false false 84019 (.idxA 1 (.t 18) (.c (.int .i64 2))),
   .gval 20 17 false false 84020 (.ld false 1 (.t 19)),
   .gval 21 17 false false 84021 (.bin .lss (.t 20) (.c (.int .i64 1))),
   .v 22 (.pick (.t 17) (.c (.bool true)) (.t 21)),
   .v 23 (.mov (.t 22)),
   .gval 24 23 false true 84024 (.mov (.t 0)),
   .gval 25 23 false true 84025 (.idxA 1 (.t 24) (.c (.int .i64 2))),
   .gval 26 23 false true 84026 (.ld false 1 (.t 25)),
   .gval 27 23 false true 84027 (.mov (.t 0)),
   .gval 28 23 false true 84028 (.idxA 1 (.t 27) (.c (.int .i64 0))),
   .gval 29 23 false true 84029 (.ld false 1 (.t 28)),
   .gval 30 23 false true 84030 (.mov (.t 0)),
   .gval 31 23 false true 84031 (.idxA 1 (.t 30) (.c (.int .i64 1))),
   .gval 32 23 false true 84032 (.ld false 1 (.t 31)),
   .gcal 33 23 false true 84033 58 [(.t 29), (.t 32)],
   .gval 34 23 false false 84034 (.bin .gtr (.t 26) (.t 33)),
   .v 35 (.pick (.t 23) (.c (.bool true)) (.t 34)),
   .v 36 (.mov (.t 35)),
   .gval 37 36 false false 84037 (.mov (.t 0)),
   .gval 38 36 false false 84038 (.idxA 1 (.t 37) (.c (.int .i64 3))),
   .gval 39 36 false false 84039 (.ld false 1 (.t 38)),
   .gval 40 36 false false 84040 (.bin .lss (.t 39) (.c (.int .i64 0))),
   .v 41 (.pick (.t 36) (.c (.bool true)) (.t 40)),
   .v 42 (.mov (.t 41)),
   .gval 43 42 false false 84043 (.mov (.t 0)),
   .gval 44 42 false false 84044 (.idxA 1 (.t 43) (.c (.int .i64 3))),
   .gval 45 42 false false 84045 (.ld false 1 (.t 44)),
   .gval 46 42 false false 84046 (.bin .gtr (.t 45) (.c (.int .i64 23))),
   .v 47 (.pick (.t 42) (.c (.bool true)) (.t 46)),
   .v 48 (.mov (.t 47)),
   .gval 49 48 false false 84049 (.mov (.t 0)),
   .gval 50 48 false false 84050 (.idxA 1 (.t 49) (.c (.int .i64 4))),
   .gval 51 48 false false 84051 (.ld false 1 (.t 50)),
   .gval 52 48 false false 84052 (.bin .lss (.t 51) (.c (.int .i64 0))),
   .v 53 (.pick (.t 48) (.c (.bool true)) (.t 52)),
   .v 54 (.mov (.t 53)),
   .gval 55 54 false false 84055 (.mov (.t 0)),
   .gval 56 54 false false 84056 (.idxA 1 (.t 55) (.c (.int .i64 4))),
   .gval 57 54 false false 84057 (.ld false 1 (.t 56)),
   .gval 58 54 false false 84058 (.bin .gtr (.t 57) (.c (.int .i64 59))),
   .v 59 (.pick (.t 54) (.c (.bool true)) (.t 58)),
   .v 60 (.mov (.t 59)),
   .gval 61 60 false false 84061 (.mov (.t 0)),
   .gval 62 60 false false 84062 (.idxA 1 (.t 61) (.c (.int .i64 5))),
   .gval 63 60 false false 84063 (.ld false 1 (.t 62)),
   .gval 64 60 false false 84064 (.bin .lss (.t 63) (.c (.int .i64 0))),
   .v 65 (.pick (.t 60) (.c (.bool true)) (.t 64)),
   .v 66 (.mov (.t 65)),
   .gval 67 66 false false 84067 (.mov (.t 0)),
   .gval 68 66 false false 84068 (.idxA 1 (.t 67) (.c (.int .i64 5))),
   .gval 69 66 false false 84069 (.ld false 1 (.t 68)),
   .gval 70 66 false false 84070 (.bin .gtr (.t 69) (.c (.int .i64 59))),
   .v 71 (.pick (.t 66) (.c (.bool true)) (.t 70))]
def runix_25 : AK := .seq (.reg runix_25o [0, 71]) runix_26
def runix_1 : AK := .seq runix_25 runix_2
def runix_0o : List ROp := [.v 2 (.mov (.c (.int .i64 0))),
   .v 3 (.mov (.c (.bool false)))]
def runix_0 : AK := .seq (.reg runix_0o [0]) runix_1
def runix : AK := runix_0
theorem runix_vc (P : Program) (E : Env) (Q : KQ) (st : St) :
  (vcW P E runix_6 Q st = aopsW P runix_6o st (KS.reg [2, 3] (KQ.seq P E .ret Q))) ∧
  (vcW P E runix_5 Q st = aopsW P runix_5o st (KS.reg [0, 4] (KQ.seq P E runix_6 Q))) ∧
  (vcW P E runix_11 Q st = aopsW P runix_11o st (KS.reg [0, 4, 6] Q)) ∧
  (vcW P E runix_13 Q st = aopsW P runix_13o st (KS.reg [0, 4, 6] Q)) ∧
  (vcW P E runix_12 Q st = vcW P E runix_13 (KQ.blk 3 Q) st) ∧
  (vcW P E runix_10 Q st = vcW P E runix_12 (KQ.seq P E runix_11 Q) st) ∧
  (vcW P E runix_15 Q st = cndW P E (ev st (.t 100)) .skip (.exit 2) Q st) ∧
  (vcW P E runix_14 Q st = aopsW P runix_14o st (KS.reg [0, 4, 6, 100] (KQ.seq P E runix_15 Q))) ∧
  (vcW P E runix_9 Q st = vcW P E runix_14 (KQ.seq P E runix_10 Q) st) ∧
  (vcW P E runix_8 Q st = vcW P E runix_L0 (KQ.blk 2 Q) st) ∧
  (vcW P E runix_7 Q st = aopsW P runix_7o st (KS.reg [0, 4, 6] (KQ.seq P E runix_8 Q))) ∧
  (vcW P E runix_4 Q st = vcW P E runix_7 (KQ.seq P E runix_5 Q) st) ∧
  (vcW P E runix_20 Q st = aopsW P runix_20o st (KS.reg [0, 4, 5] Q)) ∧
  (vcW P E runix_22 Q st = aopsW P runix_22o st (KS.reg [0, 4, 5] Q)) ∧
  (vcW P E runix_21 Q st = vcW P E runix_22 (KQ.blk 1 Q) st) ∧
  (vcW P E runix_19 Q st = vcW P E runix_21 (KQ.seq P E runix_20 Q) st) ∧
  (vcW P E runix_24 Q st = cndW P E (ev st (.t 89)) .skip (.exit 0) Q st) ∧
  (vcW P E runix_23 Q st = aopsW P runix_23o st (KS.reg [0, 4, 5, 89] (KQ.seq P E runix_24 Q))) ∧
  (vcW P E runix_18 Q st = vcW P E runix_23 (KQ.seq P E runix_19 Q) st) ∧
  (vcW P E runix_17 Q st = vcW P E runix_L1 (KQ.blk 0 Q) st) ∧
  (vcW P E runix_16 Q st = aopsW P runix_16o st (KS.reg [0, 4, 5] (KQ.seq P E runix_17 Q))) ∧
  (vcW P E runix_3 Q st = vcW P E runix_16 (KQ.seq P E runix_4 Q) st) ∧
  (vcW P E runix_2 Q st = aopsW P runix_2o st (KS.reg [0, 4] (KQ.seq P E runix_3 Q))) ∧
  (vcW P E runix_27 Q st = aopsW P runix_27o st (KS.reg [2, 3] (KQ.seq P E .ret Q))) ∧
  (vcW P E runix_26 Q st = cndW P E (ev st (.t 71)) runix_27 .skip Q st) ∧
  (vcW P E runix_25 Q st = aopsW P runix_25o st (KS.reg [0, 71] (KQ.seq P E runix_26 Q))) ∧
  (vcW P E runix_1 Q st = vcW P E runix_25 (KQ.seq P E runix_2 Q) st) ∧
  (vcW P E runix_0 Q st = aopsW P runix_0o st (KS.reg [0] (KQ.seq P E runix_1 Q))) ∧
  (vcW P E runix Q st = vcW P E runix_0 Q st) :=
  ⟨rfl, rfl, rfl, rfl, rfl, rfl, vcW_cond, rfl, rfl, rfl, rfl, rfl, rfl, rfl, rfl, rfl, vcW_cond, rfl, rfl, rfl, rfl, rfl, rfl, rfl, vcW_cond, rfl, rfl, rfl, rfl⟩
theorem runix_jn (P : Program) (E : Env) (Q : KQ) (st : St) :
  (True) :=
  trivial
attribute [go_sem] runix_vc runix_6o runix_5o runix_11o runix_13o runix_14o runix_7o runix_20o runix_22o runix_23o runix_16o runix_2o runix_27o runix_25o runix_0o
noncomputable def runixB : Code := (Tryd.f46.body).getD .skip
theorem runix_eq : trCode Tryd.prog 133 84000 runixB = runix.erase 84000 := by kernel_rfl
theorem runix_body : Tryd.f46.body = some runixB := by kernel_rfl
theorem runix_n : Tryd.f46.ntmps = 133 := by kernel_rfl
theorem runix_r : Tryd.f46.results.toList.map (trRes Tryd.prog) = [.tmp 2, .tmp 3] := by kernel_rfl
theorem runix_spec {h : HP} {a0 : AV} {Post : HP → AV → List AV → Prop} (hp : ∀ (E : Env) (R : HP → AV → List AV → Prop), E.N ≤ 1000000 → PostTo Post R → vcW Tryd.prog E runix (KQ.post [.tmp 2, .tmp 3] 1 R) ⟨[(0, a0)], h⟩) : Eng.Spec Tryd.prog 46 h [a0] Post := spec_wk (
  spec_of (c := runix.erase 84000) (B := 84000) Tryd.func46 runix_body (by rw [runix_n, runix_eq]) (by rw [runix_n]; decide) (by rw [runix_n]; exact (by decide : 1 ≤ 133)) (fun E hE hB hrd => by
    have hN : E.N ≤ 1000000 := by
      rw [hE, runix_n]; decide
    rw [runix_r, ← hB]
    exact awp_slots [(0, a0)] ⟨rfl, trivial⟩ (vcW_sound hN _ (hp E _ hN fin_self))))
/- cartulary/cartularyref16.Ends -/
def ends_1o : List ROp := [.v 5 (.mov (.t 0)),
   .v 6 (.len true (.t 5)),
   .v 7 (.mov (.t 1)),
   .v 8 (.len true (.t 7)),
   .v 9 (.bin .geq (.t 6) (.t 8)),
   .v 10 (.mov (.t 9)),
   .gval 11 10 true false 85011 (.mov (.t 0)),
   .gval 12 10 true false 85012 (.mov (.t 0)),
   .gval 13 10 true false 85013 (.len true (.t 12)),
   .gval 14 10 true false 85014 (.mov (.t 1)),
   .gval 15 10 true false 85015 (.len true (.t 14)),
   .gval 16 10 true false 85016 (.bin .sub (.t 13) (.t 15)),
   .gval 17 10 true false 85017 (.slcS (.t 11) (some (.t 16)) none),
   .gval 18 10 true false 85018 (.mov (.t 1)),
   .gval 19 10 true false 85019 (.bin .eql (.t 17) (.t 18)),
   .v 20 (.pick (.t 10) (.t 19) (.c (.bool false))),
   .v 4 (.mov (.t 20))]
def ends_1 : AK := .seq (.reg ends_1o [4]) .ret
def ends_0o : List ROp := [.v 4 (.mov (.c (.bool false)))]
def ends_0 : AK := .seq (.reg ends_0o [0, 1]) ends_1
def ends : AK := ends_0
theorem ends_vc (P : Program) (E : Env) (Q : KQ) (st : St) :
  (vcW P E ends_1 Q st = aopsW P ends_1o st (KS.reg [4] (KQ.seq P E .ret Q))) ∧
  (vcW P E ends_0 Q st = aopsW P ends_0o st (KS.reg [0, 1] (KQ.seq P E ends_1 Q))) ∧
  (vcW P E ends Q st = vcW P E ends_0 Q st) :=
  ⟨rfl, rfl, rfl⟩
theorem ends_jn (P : Program) (E : Env) (Q : KQ) (st : St) :
  (True) :=
  trivial
attribute [go_sem] ends_vc ends_1o ends_0o
noncomputable def endsB : Code := (Tryd.f26.body).getD .skip
theorem ends_eq : trCode Tryd.prog 21 85000 endsB = ends.erase 85000 := by kernel_rfl
theorem ends_body : Tryd.f26.body = some endsB := by kernel_rfl
theorem ends_n : Tryd.f26.ntmps = 21 := by kernel_rfl
theorem ends_r : Tryd.f26.results.toList.map (trRes Tryd.prog) = [.tmp 4] := by kernel_rfl
theorem ends_spec {h : HP} {a0 a1 : AV} {Post : HP → AV → List AV → Prop} (hp : ∀ (E : Env) (R : HP → AV → List AV → Prop), E.N ≤ 1000000 → PostTo Post R → vcW Tryd.prog E ends (KQ.post [.tmp 4] 2 R) ⟨[(0, a0), (1, a1)], h⟩) : Eng.Spec Tryd.prog 26 h [a0, a1] Post := spec_wk (
  spec_of (c := ends.erase 85000) (B := 85000) Tryd.func26 ends_body (by rw [ends_n, ends_eq]) (by rw [ends_n]; decide) (by rw [ends_n]; exact (by decide : 2 ≤ 21)) (fun E hE hB hrd => by
    have hN : E.N ≤ 1000000 := by
      rw [hE, ends_n]; decide
    rw [ends_r, ← hB]
    exact awp_slots [(0, a0), (1, a1)] ⟨rfl, rfl, trivial⟩ (vcW_sound hN _ (hp E _ hN fin_self))))
/- cartulary/cartularyref01.Hexed -/
def hexed_2o : List ROp := [.v 33 (.mov (.t 0)),
   .v 34 (.len true (.t 33)),
   .v 35 (.bin .rem (.t 34) (.c (.int .i64 2))),
   .v 36 (.bin .eql (.t 35) (.c (.int .i64 0))),
   .v 2 (.mov (.t 36))]
def hexed_2 : AK := .seq (.reg hexed_2o [2]) .ret
def hexed_7o : List ROp := [.v 8 (.mov (.t 3)),
   .v 9 (.bin .add (.t 8) (.c (.int .i64 1))),
   .v 3 (.mov (.t 9))]
def hexed_7 : AK := .reg hexed_7o [0, 3]
def hexed_11o : List ROp := [.v 2 (.mov (.c (.bool false)))]
def hexed_11 : AK := .seq (.reg hexed_11o [2]) .ret
def hexed_10 : AK := .cond (.t 32) hexed_11 .skip
def hexed_9o : List ROp := [.v 10 (.mov (.t 0)),
   .v 11 (.mov (.t 3)),
   .v 12 (.sidx (.t 10) (.t 11)),
   .v 13 (.bin .geq (.t 12) (.c (.int .u8 48))),
   .v 14 (.mov (.t 13)),
   .gval 15 14 true false 33015 (.mov (.t 0)),
   .gval 16 14 true false 33016 (.mov (.t 3)),
   .gval 17 14 true false 33017 (.sidx (.t 15) (.t 16)),
   .gval 18 14 true false 33018 (.bin .leq (.t 17) (.c (.int .u8 57))),
   .v 19 (.pick (.t 14) (.t 18) (.c (.bool false))),
   .v 20 (.mov (.t 19)),
   .gval 21 20 false false 33021 (.mov (.t 0)),
   .gval 22 20 false false 33022 (.mov (.t 3)),
   .gval 23 20 false false 33023 (.sidx (.t 21) (.t 22)),
   .gval 24 20 false false 33024 (.bin .geq (.t 23) (.c (.int .u8 97))),
   .gval 25 20 false false 33025 (.mov (.t 24)),
   .gval 26 25 true false 33026 (.mov (.t 0)),
   .gval 27 25 true false 33027 (.mov (.t 3)),
   .gval 28 25 true false 33028 (.sidx (.t 26) (.t 27)),
   .gval 29 25 true false 33029 (.bin .leq (.t 28) (.c (.int .u8 102))),
   .gval 30 20 false false 33030 (.pick (.t 25) (.t 29) (.c (.bool false))),
   .v 31 (.pick (.t 20) (.c (.bool true)) (.t 30)),
   .v 32 (.un .not (.t 31))]
def hexed_9 : AK := .seq (.reg hexed_9o [0, 3, 32]) hexed_10
def hexed_8 : AK := .block 1 hexed_9
def hexed_6 : AK := .seq hexed_8 hexed_7
def hexed_13 : AK := .cond (.t 7) .skip (.exit 0)
def hexed_12o : List ROp := [.v 4 (.mov (.t 3)),
   .v 5 (.mov (.t 0)),
   .v 6 (.len true (.t 5)),
   .v 7 (.bin .lss (.t 4) (.t 6))]
def hexed_12 : AK := .seq (.reg hexed_12o [0, 3, 7]) hexed_13
def hexed_5 : AK := .seq hexed_12 hexed_6
def hexed_L0 : AK := .loop hexed_5
def hexed_4 : AK := .block 0 hexed_L0
def hexed_3o : List ROp := [.v 3 (.mov (.c (.int .i64 0)))]
def hexed_3 : AK := .seq (.reg hexed_3o [0, 3]) hexed_4
def hexed_1 : AK := .seq hexed_3 hexed_2
def hexed_0o : List ROp := [.v 2 (.mov (.c (.bool false)))]
def hexed_0 : AK := .seq (.reg hexed_0o [0]) hexed_1
def hexed : AK := hexed_0
theorem hexed_vc (P : Program) (E : Env) (Q : KQ) (st : St) :
  (vcW P E hexed_2 Q st = aopsW P hexed_2o st (KS.reg [2] (KQ.seq P E .ret Q))) ∧
  (vcW P E hexed_7 Q st = aopsW P hexed_7o st (KS.reg [0, 3] Q)) ∧
  (vcW P E hexed_11 Q st = aopsW P hexed_11o st (KS.reg [2] (KQ.seq P E .ret Q))) ∧
  (vcW P E hexed_10 Q st = cndW P E (ev st (.t 32)) hexed_11 .skip Q st) ∧
  (vcW P E hexed_9 Q st = aopsW P hexed_9o st (KS.reg [0, 3, 32] (KQ.seq P E hexed_10 Q))) ∧
  (vcW P E hexed_8 Q st = vcW P E hexed_9 (KQ.blk 1 Q) st) ∧
  (vcW P E hexed_6 Q st = vcW P E hexed_8 (KQ.seq P E hexed_7 Q) st) ∧
  (vcW P E hexed_13 Q st = cndW P E (ev st (.t 7)) .skip (.exit 0) Q st) ∧
  (vcW P E hexed_12 Q st = aopsW P hexed_12o st (KS.reg [0, 3, 7] (KQ.seq P E hexed_13 Q))) ∧
  (vcW P E hexed_5 Q st = vcW P E hexed_12 (KQ.seq P E hexed_6 Q) st) ∧
  (vcW P E hexed_4 Q st = vcW P E hexed_L0 (KQ.blk 0 Q) st) ∧
  (vcW P E hexed_3 Q st = aopsW P hexed_3o st (KS.reg [0, 3] (KQ.seq P E hexed_4 Q))) ∧
  (vcW P E hexed_1 Q st = vcW P E hexed_3 (KQ.seq P E hexed_2 Q) st) ∧
  (vcW P E hexed_0 Q st = aopsW P hexed_0o st (KS.reg [0] (KQ.seq P E hexed_1 Q))) ∧
  (vcW P E hexed Q st = vcW P E hexed_0 Q st) :=
  ⟨rfl, rfl, rfl, vcW_cond, rfl, rfl, rfl, vcW_cond, rfl, rfl, rfl, rfl, rfl, rfl, rfl⟩
theorem hexed_jn (P : Program) (E : Env) (Q : KQ) (st : St) :
  (True) :=
  trivial
attribute [go_sem] hexed_vc hexed_2o hexed_7o hexed_11o hexed_9o hexed_12o hexed_3o hexed_0o
noncomputable def hexedB : Code := (Tryd.f44.body).getD .skip
theorem hexed_eq : trCode Tryd.prog 37 33000 hexedB = hexed.erase 33000 := by kernel_rfl
theorem hexed_body : Tryd.f44.body = some hexedB := by kernel_rfl
theorem hexed_n : Tryd.f44.ntmps = 37 := by kernel_rfl
theorem hexed_r : Tryd.f44.results.toList.map (trRes Tryd.prog) = [.tmp 2] := by kernel_rfl
theorem hexed_spec {h : HP} {a0 : AV} {Post : HP → AV → List AV → Prop} (hp : ∀ (E : Env) (R : HP → AV → List AV → Prop), E.N ≤ 1000000 → PostTo Post R → vcW Tryd.prog E hexed (KQ.post [.tmp 2] 1 R) ⟨[(0, a0)], h⟩) : Eng.Spec Tryd.prog 44 h [a0] Post := spec_wk (
  spec_of (c := hexed.erase 33000) (B := 33000) Tryd.func44 hexed_body (by rw [hexed_n, hexed_eq]) (by rw [hexed_n]; decide) (by rw [hexed_n]; exact (by decide : 1 ≤ 37)) (fun E hE hB hrd => by
    have hN : E.N ≤ 1000000 := by
      rw [hE, hexed_n]; decide
    rw [hexed_r, ← hB]
    exact awp_slots [(0, a0)] ⟨rfl, trivial⟩ (vcW_sound hN _ (hp E _ hN fin_self))))
/- cartulary/sums.Unhex -/
def unhex_4o : List ROp := [.v 42 (.mov (.t 4)),
   .v 43 (.bts (.t 42)),
   .v 2 (.mov (.t 43)),
   .v 3 (.mov (.c (.bool true)))]
def unhex_4 : AK := .seq (.reg unhex_4o [2, 3]) .ret
def unhex_7o : List ROp := [.v 2 (.mov (.c (.str []))),
   .v 3 (.mov (.c (.bool false)))]
def unhex_7 : AK := .seq (.reg unhex_7o [2, 3]) .ret
def unhex_6 : AK := .cond (.t 41) unhex_7 .skip
def unhex_5o : List ROp := [.v 38 (.mov (.t 0)),
   .v 39 (.len true (.t 38)),
   .v 40 (.bin .rem (.t 39) (.c (.int .i64 2))),
   .v 41 (.bin .neq (.t 40) (.c (.int .i64 0)))]
def unhex_5 : AK := .seq (.reg unhex_5o [4, 41]) unhex_6
def unhex_3 : AK := .seq unhex_5 unhex_4
def unhex_12o : List ROp := [.v 13 (.mov (.t 5)),
   .v 14 (.bin .add (.t 13) (.c (.int .i64 2))),
   .v 5 (.mov (.t 14))]
def unhex_12 : AK := .reg unhex_12o [0, 4, 5]
def unhex_16o : List ROp := [.v 30 (.mov (.t 4)),
   .v 31 (.mov (.t 6)),
   .v 32 (.bin .shl (.t 31) (.c (.int .u64 4))),
   .v 33 (.mov (.t 7)),
   .v 34 (.bin .or (.t 32) (.t 33)),
   .v 35 (.cvi .u8 (.t 34)),
   .eff 36 false 35036 (.bsl 1 [(.t 35)]),
   .eff 37 false 35037 (.app 1 1 (.t 30) (.t 36)),
   .v 4 (.mov (.t 37))]
def unhex_16 : AK := .reg unhex_16o [0, 4, 5]
def unhex_19o : List ROp := [.v 2 (.mov (.c (.str []))),
   .v 3 (.mov (.c (.bool false)))]
def unhex_19 : AK := .seq (.reg unhex_19o [2, 3]) .ret
def unhex_18 : AK := .cond (.t 29) unhex_19 .skip
def unhex_17o : List ROp := [.v 24 (.mov (.t 6)),
   .v 25 (.bin .lss (.t 24) (.c (.int .i64 0))),
   .v 26 (.mov (.t 25)),
   .gval 27 26 false false 35027 (.mov (.t 7)),
   .gval 28 26 false false 35028 (.bin .lss (.t 27) (.c (.int .i64 0))),
   .v 29 (.pick (.t 26) (.c (.bool true)) (.t 28))]
def unhex_17 : AK := .seq (.reg unhex_17o [0, 4, 5, 6, 7, 29]) unhex_18
def unhex_15 : AK := .seq unhex_17 unhex_16
def unhex_14o : List ROp := [.val 15 true 35015 (.mov (.t 0)),
   .val 16 true 35016 (.mov (.t 5)),
   .val 17 true 35017 (.sidx (.t 15) (.t 16)),
   .val 19 true 35019 (.mov (.t 0)),
   .val 20 true 35020 (.mov (.t 5)),
   .val 21 true 35021 (.bin .add (.t 20) (.c (.int .i64 1))),
   .val 22 true 35022 (.sidx (.t 19) (.t 21)),
   .cal (some 18) true 35018 55 [(.t 17)],
   .cal (some 23) false 35023 55 [(.t 22)],
   .v 6 (.mov (.t 18)),
   .v 7 (.mov (.t 23))]
def unhex_14 : AK := .seq (.reg unhex_14o [0, 4, 5, 6, 7]) unhex_15
def unhex_13 : AK := .block 1 unhex_14
def unhex_11 : AK := .seq unhex_13 unhex_12
def unhex_21 : AK := .cond (.t 12) .skip (.exit 0)
def unhex_20o : List ROp := [.v 8 (.mov (.t 5)),
   .v 9 (.bin .add (.t 8) (.c (.int .i64 1))),
   .v 10 (.mov (.t 0)),
   .v 11 (.len true (.t 10)),
   .v 12 (.bin .lss (.t 9) (.t 11))]
def unhex_20 : AK := .seq (.reg unhex_20o [0, 4, 5, 12]) unhex_21
def unhex_10 : AK := .seq unhex_20 unhex_11
def unhex_L0 : AK := .loop unhex_10
def unhex_9 : AK := .block 0 unhex_L0
def unhex_8o : List ROp := [.v 5 (.mov (.c (.int .i64 0)))]
def unhex_8 : AK := .seq (.reg unhex_8o [0, 4, 5]) unhex_9
def unhex_2 : AK := .seq unhex_8 unhex_3
def unhex_1o : List ROp := [.v 4 (.mov (.c (.nilsl)))]
def unhex_1 : AK := .seq (.reg unhex_1o [0, 4]) unhex_2
def unhex_0o : List ROp := [.v 2 (.mov (.c (.str []))),
   .v 3 (.mov (.c (.bool false)))]
def unhex_0 : AK := .seq (.reg unhex_0o [0]) unhex_1
def unhex : AK := unhex_0
theorem unhex_vc (P : Program) (E : Env) (Q : KQ) (st : St) :
  (vcW P E unhex_4 Q st = aopsW P unhex_4o st (KS.reg [2, 3] (KQ.seq P E .ret Q))) ∧
  (vcW P E unhex_7 Q st = aopsW P unhex_7o st (KS.reg [2, 3] (KQ.seq P E .ret Q))) ∧
  (vcW P E unhex_6 Q st = cndW P E (ev st (.t 41)) unhex_7 .skip Q st) ∧
  (vcW P E unhex_5 Q st = aopsW P unhex_5o st (KS.reg [4, 41] (KQ.seq P E unhex_6 Q))) ∧
  (vcW P E unhex_3 Q st = vcW P E unhex_5 (KQ.seq P E unhex_4 Q) st) ∧
  (vcW P E unhex_12 Q st = aopsW P unhex_12o st (KS.reg [0, 4, 5] Q)) ∧
  (vcW P E unhex_16 Q st = aopsW P unhex_16o st (KS.reg [0, 4, 5] Q)) ∧
  (vcW P E unhex_19 Q st = aopsW P unhex_19o st (KS.reg [2, 3] (KQ.seq P E .ret Q))) ∧
  (vcW P E unhex_18 Q st = cndW P E (ev st (.t 29)) unhex_19 .skip Q st) ∧
  (vcW P E unhex_17 Q st = aopsW P unhex_17o st (KS.reg [0, 4, 5, 6, 7, 29] (KQ.seq P E unhex_18 Q))) ∧
  (vcW P E unhex_15 Q st = vcW P E unhex_17 (KQ.seq P E unhex_16 Q) st) ∧
  (vcW P E unhex_14 Q st = aopsW P unhex_14o st (KS.reg [0, 4, 5, 6, 7] (KQ.seq P E unhex_15 Q))) ∧
  (vcW P E unhex_13 Q st = vcW P E unhex_14 (KQ.blk 1 Q) st) ∧
  (vcW P E unhex_11 Q st = vcW P E unhex_13 (KQ.seq P E unhex_12 Q) st) ∧
  (vcW P E unhex_21 Q st = cndW P E (ev st (.t 12)) .skip (.exit 0) Q st) ∧
  (vcW P E unhex_20 Q st = aopsW P unhex_20o st (KS.reg [0, 4, 5, 12] (KQ.seq P E unhex_21 Q))) ∧
  (vcW P E unhex_10 Q st = vcW P E unhex_20 (KQ.seq P E unhex_11 Q) st) ∧
  (vcW P E unhex_9 Q st = vcW P E unhex_L0 (KQ.blk 0 Q) st) ∧
  (vcW P E unhex_8 Q st = aopsW P unhex_8o st (KS.reg [0, 4, 5] (KQ.seq P E unhex_9 Q))) ∧
  (vcW P E unhex_2 Q st = vcW P E unhex_8 (KQ.seq P E unhex_3 Q) st) ∧
  (vcW P E unhex_1 Q st = aopsW P unhex_1o st (KS.reg [0, 4] (KQ.seq P E unhex_2 Q))) ∧
  (vcW P E unhex_0 Q st = aopsW P unhex_0o st (KS.reg [0] (KQ.seq P E unhex_1 Q))) ∧
  (vcW P E unhex Q st = vcW P E unhex_0 Q st) :=
  ⟨rfl, rfl, vcW_cond, rfl, rfl, rfl, rfl, rfl, vcW_cond, rfl, rfl, rfl, rfl, rfl, vcW_cond, rfl, rfl, rfl, rfl, rfl, rfl, rfl, rfl⟩
theorem unhex_jn (P : Program) (E : Env) (Q : KQ) (st : St) :
  (True) :=
  trivial
attribute [go_sem] unhex_vc unhex_4o unhex_7o unhex_5o unhex_12o unhex_16o unhex_19o unhex_17o unhex_14o unhex_20o unhex_8o unhex_1o unhex_0o
noncomputable def unhexB : Code := (Tryd.f40.body).getD .skip
theorem unhex_eq : trCode Tryd.prog 44 35000 unhexB = unhex.erase 35000 := by kernel_rfl
theorem unhex_body : Tryd.f40.body = some unhexB := by kernel_rfl
theorem unhex_n : Tryd.f40.ntmps = 44 := by kernel_rfl
theorem unhex_r : Tryd.f40.results.toList.map (trRes Tryd.prog) = [.tmp 2, .tmp 3] := by kernel_rfl
theorem unhex_spec {h : HP} {a0 : AV} {Post : HP → AV → List AV → Prop} (hp : ∀ (E : Env) (R : HP → AV → List AV → Prop), E.N ≤ 1000000 → PostTo Post R → vcW Tryd.prog E unhex (KQ.post [.tmp 2, .tmp 3] 1 R) ⟨[(0, a0)], h⟩) : Eng.Spec Tryd.prog 40 h [a0] Post := spec_wk (
  spec_of (c := unhex.erase 35000) (B := 35000) Tryd.func40 unhex_body (by rw [unhex_n, unhex_eq]) (by rw [unhex_n]; decide) (by rw [unhex_n]; exact (by decide : 1 ≤ 44)) (fun E hE hB hrd => by
    have hN : E.N ≤ 1000000 := by
      rw [hE, unhex_n]; decide
    rw [unhex_r, ← hB]
    exact awp_slots [(0, a0)] ⟨rfl, trivial⟩ (vcW_sound hN _ (hp E _ hN fin_self))))
/- cartulary/sums.digit -/
def sdigit_2o : List ROp := [.v 2 (.mov (.c (.int .i64 (-1))))]
def sdigit_2 : AK := .seq (.reg sdigit_2o [2]) .ret
def sdigit_6o : List ROp := [.v 10 (.mov (.t 0)),
   .v 11 (.bin .sub (.t 10) (.c (.int .u8 48))),
   .v 12 (.cvi .i64 (.t 11)),
   .v 2 (.mov (.t 12))]
def sdigit_6 : AK := .seq (.reg sdigit_6o [2]) .ret
def sdigit_9o : List ROp := [.v 20 (.mov (.t 0)),
   .v 21 (.bin .sub (.t 20) (.c (.int .u8 97))),
   .v 22 (.cvi .i64 (.t 21)),
   .v 23 (.bin .add (.t 22) (.c (.int .i64 10))),
   .v 2 (.mov (.t 23))]
def sdigit_9 : AK := .seq (.reg sdigit_9o [2]) .ret
def sdigit_8 : AK := .cond (.t 13) sdigit_9 .skip
def sdigit_7o : List ROp := [.v 14 (.mov (.t 0)),
   .v 15 (.bin .geq (.t 14) (.c (.int .u8 97))),
   .v 16 (.mov (.t 15)),
   .gval 17 16 true false 36017 (.mov (.t 0)),
   .gval 18 16 true false 36018 (.bin .leq (.t 17) (.c (.int .u8 102))),
   .v 19 (.pick (.t 16) (.t 18) (.c (.bool false))),
   .v 13 (.mov (.t 19))]
def sdigit_7 : AK := .seq (.reg sdigit_7o [0, 13]) sdigit_8
def sdigit_5 : AK := .cond (.t 3) sdigit_6 sdigit_7
def sdigit_4o : List ROp := [.v 4 (.mov (.t 0)),
   .v 5 (.bin .geq (.t 4) (.c (.int .u8 48))),
   .v 6 (.mov (.t 5)),
   .gval 7 6 true false 36007 (.mov (.t 0)),
   .gval 8 6 true false 36008 (.bin .leq (.t 7) (.c (.int .u8 57))),
   .v 9 (.pick (.t 6) (.t 8) (.c (.bool false))),
   .v 3 (.mov (.t 9))]
def sdigit_4 : AK := .seq (.reg sdigit_4o [0, 3]) sdigit_5
def sdigit_3 : AK := .block 0 sdigit_4
def sdigit_1 : AK := .seq sdigit_3 sdigit_2
def sdigit_0o : List ROp := [.v 2 (.mov (.c (.int .i64 0)))]
def sdigit_0 : AK := .seq (.reg sdigit_0o [0]) sdigit_1
def sdigit : AK := sdigit_0
theorem sdigit_vc (P : Program) (E : Env) (Q : KQ) (st : St) :
  (vcW P E sdigit_2 Q st = aopsW P sdigit_2o st (KS.reg [2] (KQ.seq P E .ret Q))) ∧
  (vcW P E sdigit_6 Q st = aopsW P sdigit_6o st (KS.reg [2] (KQ.seq P E .ret Q))) ∧
  (vcW P E sdigit_9 Q st = aopsW P sdigit_9o st (KS.reg [2] (KQ.seq P E .ret Q))) ∧
  (vcW P E sdigit_8 Q st = cndW P E (ev st (.t 13)) sdigit_9 .skip Q st) ∧
  (vcW P E sdigit_7 Q st = aopsW P sdigit_7o st (KS.reg [0, 13] (KQ.seq P E sdigit_8 Q))) ∧
  (vcW P E sdigit_5 Q st = cndW P E (ev st (.t 3)) sdigit_6 sdigit_7 Q st) ∧
  (vcW P E sdigit_4 Q st = aopsW P sdigit_4o st (KS.reg [0, 3] (KQ.seq P E sdigit_5 Q))) ∧
  (vcW P E sdigit_3 Q st = vcW P E sdigit_4 (KQ.blk 0 Q) st) ∧
  (vcW P E sdigit_1 Q st = vcW P E sdigit_3 (KQ.seq P E sdigit_2 Q) st) ∧
  (vcW P E sdigit_0 Q st = aopsW P sdigit_0o st (KS.reg [0] (KQ.seq P E sdigit_1 Q))) ∧
  (vcW P E sdigit Q st = vcW P E sdigit_0 Q st) :=
  ⟨rfl, rfl, rfl, vcW_cond, rfl, vcW_cond, rfl, rfl, rfl, rfl, rfl⟩
theorem sdigit_jn (P : Program) (E : Env) (Q : KQ) (st : St) :
  (True) :=
  trivial
attribute [go_sem] sdigit_vc sdigit_2o sdigit_6o sdigit_9o sdigit_7o sdigit_4o sdigit_0o
noncomputable def sdigitB : Code := (Tryd.f55.body).getD .skip
theorem sdigit_eq : trCode Tryd.prog 24 36000 sdigitB = sdigit.erase 36000 := by kernel_rfl
theorem sdigit_body : Tryd.f55.body = some sdigitB := by kernel_rfl
theorem sdigit_n : Tryd.f55.ntmps = 24 := by kernel_rfl
theorem sdigit_r : Tryd.f55.results.toList.map (trRes Tryd.prog) = [.tmp 2] := by kernel_rfl
theorem sdigit_spec {h : HP} {a0 : AV} {Post : HP → AV → List AV → Prop} (hp : ∀ (E : Env) (R : HP → AV → List AV → Prop), E.N ≤ 1000000 → PostTo Post R → vcW Tryd.prog E sdigit (KQ.post [.tmp 2] 1 R) ⟨[(0, a0)], h⟩) : Eng.Spec Tryd.prog 55 h [a0] Post := spec_wk (
  spec_of (c := sdigit.erase 36000) (B := 36000) Tryd.func55 sdigit_body (by rw [sdigit_n, sdigit_eq]) (by rw [sdigit_n]; decide) (by rw [sdigit_n]; exact (by decide : 1 ≤ 24)) (fun E hE hB hrd => by
    have hN : E.N ≤ 1000000 := by
      rw [hE, sdigit_n]; decide
    rw [sdigit_r, ← hB]
    exact awp_slots [(0, a0)] ⟨rfl, trivial⟩ (vcW_sound hN _ (hp E _ hN fin_self))))
/- strings.CutSuffix -/
def cutsuffix_1o : List ROp := [.v 6 (.mov (.t 0)),
   .v 7 (.mov (.t 1)),
   .cal (some 8) false 86008 43 [(.t 6), (.t 7)],
   .v 9 (.ext (.t 8) 0),
   .v 10 (.ext (.t 8) 1),
   .v 4 (.mov (.t 9)),
   .v 5 (.mov (.t 10))]
def cutsuffix_1 : AK := .seq (.reg cutsuffix_1o [4, 5]) .ret
def cutsuffix_0o : List ROp := [.v 4 (.mov (.c (.str []))),
   .v 5 (.mov (.c (.bool false)))]
def cutsuffix_0 : AK := .seq (.reg cutsuffix_0o [0, 1]) cutsuffix_1
def cutsuffix : AK := cutsuffix_0
theorem cutsuffix_vc (P : Program) (E : Env) (Q : KQ) (st : St) :
  (vcW P E cutsuffix_1 Q st = aopsW P cutsuffix_1o st (KS.reg [4, 5] (KQ.seq P E .ret Q))) ∧
  (vcW P E cutsuffix_0 Q st = aopsW P cutsuffix_0o st (KS.reg [0, 1] (KQ.seq P E cutsuffix_1 Q))) ∧
  (vcW P E cutsuffix Q st = vcW P E cutsuffix_0 Q st) :=
  ⟨rfl, rfl, rfl⟩
theorem cutsuffix_jn (P : Program) (E : Env) (Q : KQ) (st : St) :
  (True) :=
  trivial
attribute [go_sem] cutsuffix_vc cutsuffix_1o cutsuffix_0o
noncomputable def cutsuffixB : Code := (Tryd.f21.body).getD .skip
theorem cutsuffix_eq : trCode Tryd.prog 11 86000 cutsuffixB = cutsuffix.erase 86000 := by kernel_rfl
theorem cutsuffix_body : Tryd.f21.body = some cutsuffixB := by kernel_rfl
theorem cutsuffix_n : Tryd.f21.ntmps = 11 := by kernel_rfl
theorem cutsuffix_r : Tryd.f21.results.toList.map (trRes Tryd.prog) = [.tmp 4, .tmp 5] := by kernel_rfl
theorem cutsuffix_spec {h : HP} {a0 a1 : AV} {Post : HP → AV → List AV → Prop} (hp : ∀ (E : Env) (R : HP → AV → List AV → Prop), E.N ≤ 1000000 → PostTo Post R → vcW Tryd.prog E cutsuffix (KQ.post [.tmp 4, .tmp 5] 2 R) ⟨[(0, a0), (1, a1)], h⟩) : Eng.Spec Tryd.prog 21 h [a0, a1] Post := spec_wk (
  spec_of (c := cutsuffix.erase 86000) (B := 86000) Tryd.func21 cutsuffix_body (by rw [cutsuffix_n, cutsuffix_eq]) (by rw [cutsuffix_n]; decide) (by rw [cutsuffix_n]; exact (by decide : 2 ≤ 11)) (fun E hE hB hrd => by
    have hN : E.N ≤ 1000000 := by
      rw [hE, cutsuffix_n]; decide
    rw [cutsuffix_r, ← hB]
    exact awp_slots [(0, a0), (1, a1)] ⟨rfl, rfl, trivial⟩ (vcW_sound hN _ (hp E _ hN fin_self))))
/- cartulary/cartularylaw21.awake -/
def lawake_3o : List ROp := [.v 14 (.mov (.t 2)),
   .v 15 (.bin .eql (.t 14) (.c (.int .i64 0))),
   .v 16 (.mov (.t 15)),
   .gval 17 16 true false 90017 (.mov (.t 4)),
   .gval 18 16 true false 90018 (.bin .eql (.t 17) (.c (.int .i64 0))),
   .v 19 (.pick (.t 16) (.t 18) (.c (.bool false))),
   .v 20 (.mov (.t 19)),
   .gval 21 20 true false 90021 (.mov (.t 1)),
   .gval 22 20 true false 90022 (.bin .eql (.t 21) (.c (.str [118, 50, 46, 48, 46, 49, 48, 45, 48, 46, 50, 48, 48, 54, 48, 49, 48, 50, 49, 53, 48, 52, 48, 53, 45, 97, 98, 99, 100, 101, 102, 97, 98, 99, 100, 101, 102, 43, 105, 110, 99, 111, 109, 112, 97, 116, 105, 98, 108, 101]))),
   .v 23 (.pick (.t 20) (.t 22) (.c (.bool false))),
   .v 24 (.mov (.t 23)),
   .gval 25 24 true false 90025 (.fldA false 0 1 (.t 3)),
   .gval 26 24 true false 90026 (.ld false 1 (.t 25)),
   .gval 27 24 true false 90027 (.bin .eql (.t 26) (.c (.str [118, 50, 46, 48, 46, 57, 43, 105, 110, 99, 111, 109, 112, 97, 116, 105, 98, 108, 101]))),
   .v 28 (.pick (.t 24) (.t 27) (.c (.bool false))),
   .v 29 (.mov (.t 28)),
   .gval 30 29 true false 90030 (.fldA false 1 1 (.t 3)),
   .gval 31 29 true false 90031 (.ld false 1 (.t 30)),
   .gval 32 29 true false 90032 (.bin .eql (.t 31) (.c (.int .i64 1136214245))),
   .v 33 (.pick (.t 29) (.t 32) (.c (.bool false))),
   .v 34 (.mov (.t 33)),
   .gcal 35 34 true false 90035 9 [(.c (.str [118, 49, 46, 50, 46, 51]))],
   .gval 36 34 true false 90036 (.un .not (.t 35)),
   .v 37 (.pick (.t 34) (.t 36) (.c (.bool false))),
   .v 0 (.mov (.t 37))]
def lawake_3 : AK := .seq (.reg lawake_3o [0]) .ret
def lawake_2o : List ROp := [.v 10 (.mov (.t 1)),
   .cal (some 11) false 90011 6 [(.t 10)],
   .v 9 (.mov (.t 11)),
   .v 12 (.ext (.t 9) 0),
   .v 13 (.ext (.t 9) 1),
   .eff 3 false 90003 (.alloc [.str [], .int .i64 0, .str []]),
   .effN false 90000 (.st 3 (.t 3) (.t 12)),
   .v 4 (.mov (.t 13))]
def lawake_2 : AK := .seq (.reg lawake_2o [1, 2, 3, 4]) lawake_3
def lawake_1o : List ROp := [.cal (some 6) false 90006 10 [(.c (.str [])), (.c (.str [118, 50, 46, 48, 46, 57, 43, 105, 110, 99, 111, 109, 112, 97, 116, 105, 98, 108, 101])), (.c (.int .i64 1136214245)), (.c (.str [97, 98, 99, 100, 101, 102, 97, 98, 99, 100, 101, 102]))],
   .v 5 (.mov (.t 6)),
   .v 7 (.ext (.t 5) 0),
   .v 8 (.ext (.t 5) 1),
   .v 1 (.mov (.t 7)),
   .v 2 (.mov (.t 8))]
def lawake_1 : AK := .seq (.reg lawake_1o [1, 2]) lawake_2
def lawake_0o : List ROp := [.v 0 (.mov (.c (.bool false)))]
def lawake_0 : AK := .seq (.reg lawake_0o []) lawake_1
def lawake : AK := lawake_0
theorem lawake_vc (P : Program) (E : Env) (Q : KQ) (st : St) :
  (vcW P E lawake_3 Q st = aopsW P lawake_3o st (KS.reg [0] (KQ.seq P E .ret Q))) ∧
  (vcW P E lawake_2 Q st = aopsW P lawake_2o st (KS.reg [1, 2, 3, 4] (KQ.seq P E lawake_3 Q))) ∧
  (vcW P E lawake_1 Q st = aopsW P lawake_1o st (KS.reg [1, 2] (KQ.seq P E lawake_2 Q))) ∧
  (vcW P E lawake_0 Q st = aopsW P lawake_0o st (KS.reg [] (KQ.seq P E lawake_1 Q))) ∧
  (vcW P E lawake Q st = vcW P E lawake_0 Q st) :=
  ⟨rfl, rfl, rfl, rfl, rfl⟩
theorem lawake_jn (P : Program) (E : Env) (Q : KQ) (st : St) :
  (True) :=
  trivial
attribute [go_sem] lawake_vc lawake_3o lawake_2o lawake_1o lawake_0o
noncomputable def lawakeB : Code := (Tryd.f8.body).getD .skip
theorem lawake_eq : trCode Tryd.prog 38 90000 lawakeB = lawake.erase 90000 := by kernel_rfl
theorem lawake_body : Tryd.f8.body = some lawakeB := by kernel_rfl
theorem lawake_n : Tryd.f8.ntmps = 38 := by kernel_rfl
theorem lawake_r : Tryd.f8.results.toList.map (trRes Tryd.prog) = [.tmp 0] := by kernel_rfl
theorem lawake_spec {h : HP} {Post : HP → AV → List AV → Prop} (hp : ∀ (E : Env) (R : HP → AV → List AV → Prop), E.N ≤ 1000000 → PostTo Post R → vcW Tryd.prog E lawake (KQ.post [.tmp 0] 0 R) ⟨[], h⟩) : Eng.Spec Tryd.prog 8 h [] Post := spec_wk (
  spec_of (c := lawake.erase 90000) (B := 90000) Tryd.func8 lawake_body (by rw [lawake_n, lawake_eq]) (by rw [lawake_n]; decide) (by rw [lawake_n]; exact (by decide : 0 ≤ 38)) (fun E hE hB hrd => by
    have hN : E.N ≤ 1000000 := by
      rw [hE, lawake_n]; decide
    rw [lawake_r, ← hB]
    exact awp_slots [] trivial (vcW_sound hN _ (hp E _ hN fin_self))))
/- cartulary/cartularylaw21.PseudoReads -/
def lreads_3o : List ROp := [.cal (some 21) false 91021 8 [],
   .v 22 (.mov (.t 21)),
   .gval 23 22 true false 91023 (.fldA false 0 1 (.t 3)),
   .gval 24 22 true false 91024 (.ld false 1 (.t 23)),
   .gval 25 22 true false 91025 (.mov (.t 5)),
   .gval 26 22 true false 91026 (.bin .eql (.t 24) (.t 25)),
   .v 27 (.pick (.t 22) (.t 26) (.c (.bool false))),
   .v 28 (.mov (.t 27)),
   .gval 29 28 true false 91029 (.fldA false 1 1 (.t 3)),
   .gval 30 28 true false 91030 (.ld false 1 (.t 29)),
   .gval 31 28 true false 91031 (.mov (.t 6)),
   .gval 32 28 true false 91032 (.bin .eql (.t 30) (.t 31)),
   .v 33 (.pick (.t 28) (.t 32) (.c (.bool false))),
   .v 34 (.mov (.t 33)),
   .gval 35 34 true false 91035 (.fldA false 2 1 (.t 3)),
   .gval 36 34 true false 91036 (.ld false 1 (.t 35)),
   .gval 37 34 true false 91037 (.mov (.t 7)),
   .gval 38 34 true false 91038 (.bin .eql (.t 36) (.t 37)),
   .v 39 (.pick (.t 34) (.t 38) (.c (.bool false))),
   .v 40 (.mov (.t 39)),
   .gval 41 40 true false 91041 (.mov (.t 4)),
   .gval 42 40 true false 91042 (.mov (.t 8)),
   .gval 43 40 true false 91043 (.bin .eql (.t 41) (.t 42)),
   .v 44 (.pick (.t 40) (.t 43) (.c (.bool false))),
   .v 45 (.mov (.t 44)),
   .gval 46 45 true false 91046 (.mov (.t 0)),
   .gcal 47 45 true false 91047 9 [(.t 46)],
   .gval 48 45 true false 91048 (.mov (.t 8)),
   .gval 49 45 true false 91049 (.bin .eql (.t 48) (.c (.int .i64 0))),
   .gval 50 45 true false 91050 (.beq false (.t 47) (.t 49)),
   .v 51 (.pick (.t 45) (.t 50) (.c (.bool false))),
   .v 2 (.mov (.t 51))]
def lreads_3 : AK := .seq (.reg lreads_3o [2]) .ret
def lreads_2o : List ROp := [.v 15 (.mov (.t 0)),
   .cal (some 16) false 91016 7 [(.t 15)],
   .v 14 (.mov (.t 16)),
   .v 17 (.ext (.t 14) 0),
   .v 18 (.ext (.t 14) 1),
   .v 19 (.ext (.t 14) 2),
   .v 20 (.ext (.t 14) 3),
   .v 5 (.mov (.t 17)),
   .v 6 (.mov (.t 18)),
   .v 7 (.mov (.t 19)),
   .v 8 (.mov (.t 20))]
def lreads_2 : AK := .seq (.reg lreads_2o [0, 3, 4, 5, 6, 7, 8]) lreads_3
def lreads_1o : List ROp := [.v 10 (.mov (.t 0)),
   .cal (some 11) false 91011 6 [(.t 10)],
   .v 9 (.mov (.t 11)),
   .v 12 (.ext (.t 9) 0),
   .v 13 (.ext (.t 9) 1),
   .eff 3 false 91003 (.alloc [.str [], .int .i64 0, .str []]),
   .effN false 91000 (.st 3 (.t 3) (.t 12)),
   .v 4 (.mov (.t 13))]
def lreads_1 : AK := .seq (.reg lreads_1o [0, 3, 4]) lreads_2
def lreads_0o : List ROp := [.v 2 (.mov (.c (.bool false)))]
def lreads_0 : AK := .seq (.reg lreads_0o [0]) lreads_1
def lreads : AK := lreads_0
theorem lreads_vc (P : Program) (E : Env) (Q : KQ) (st : St) :
  (vcW P E lreads_3 Q st = aopsW P lreads_3o st (KS.reg [2] (KQ.seq P E .ret Q))) ∧
  (vcW P E lreads_2 Q st = aopsW P lreads_2o st (KS.reg [0, 3, 4, 5, 6, 7, 8] (KQ.seq P E lreads_3 Q))) ∧
  (vcW P E lreads_1 Q st = aopsW P lreads_1o st (KS.reg [0, 3, 4] (KQ.seq P E lreads_2 Q))) ∧
  (vcW P E lreads_0 Q st = aopsW P lreads_0o st (KS.reg [0] (KQ.seq P E lreads_1 Q))) ∧
  (vcW P E lreads Q st = vcW P E lreads_0 Q st) :=
  ⟨rfl, rfl, rfl, rfl, rfl⟩
theorem lreads_jn (P : Program) (E : Env) (Q : KQ) (st : St) :
  (True) :=
  trivial
attribute [go_sem] lreads_vc lreads_3o lreads_2o lreads_1o lreads_0o
noncomputable def lreadsB : Code := (Tryd.f3.body).getD .skip
theorem lreads_eq : trCode Tryd.prog 52 91000 lreadsB = lreads.erase 91000 := by kernel_rfl
theorem lreads_body : Tryd.f3.body = some lreadsB := by kernel_rfl
theorem lreads_n : Tryd.f3.ntmps = 52 := by kernel_rfl
theorem lreads_r : Tryd.f3.results.toList.map (trRes Tryd.prog) = [.tmp 2] := by kernel_rfl
theorem lreads_spec {h : HP} {a0 : AV} {Post : HP → AV → List AV → Prop} (hp : ∀ (E : Env) (R : HP → AV → List AV → Prop), E.N ≤ 1000000 → PostTo Post R → vcW Tryd.prog E lreads (KQ.post [.tmp 2] 1 R) ⟨[(0, a0)], h⟩) : Eng.Spec Tryd.prog 3 h [a0] Post := spec_wk (
  spec_of (c := lreads.erase 91000) (B := 91000) Tryd.func3 lreads_body (by rw [lreads_n, lreads_eq]) (by rw [lreads_n]; decide) (by rw [lreads_n]; exact (by decide : 1 ≤ 52)) (fun E hE hB hrd => by
    have hN : E.N ≤ 1000000 := by
      rw [hE, lreads_n]; decide
    rw [lreads_r, ← hB]
    exact awp_slots [(0, a0)] ⟨rfl, trivial⟩ (vcW_sound hN _ (hp E _ hN fin_self))))
/- cartulary/cartularylaw21.PseudoBetween -/
def lbetween_9o : List ROp := [.cal (some 86) false 92086 8 [],
   .v 87 (.mov (.t 86)),
   .gval 88 87 true false 92088 (.mov (.t 0)),
   .gval 89 87 true false 92089 (.mov (.t 11)),
   .gcal 90 87 true false 92090 13 [(.t 88), (.t 89)],
   .gval 91 87 true false 92091 (.bin .eql (.t 90) (.c (.int .i64 (-1)))),
   .v 92 (.pick (.t 87) (.t 91) (.c (.bool false))),
   .v 93 (.mov (.t 92)),
   .gval 94 93 true false 92094 (.mov (.t 11)),
   .gval 95 93 true false 92095 (.mov (.t 17)),
   .gcal 96 93 true false 92096 13 [(.t 94), (.t 95)],
   .gval 97 93 true false 92097 (.bin .eql (.t 96) (.c (.int .i64 (-1)))),
   .v 98 (.pick (.t 93) (.t 97) (.c (.bool false))),
   .v 99 (.mov (.t 98)),
   .gval 100 99 true false 92100 (.mov (.t 11)),
   .gcal 101 99 true false 92101 14 [(.t 100)],
   .gval 102 99 true false 92102 (.bin .neq (.t 101) (.c (.str []))),
   .v 103 (.pick (.t 99) (.t 102) (.c (.bool false))),
   .v 10 (.mov (.t 103))]
def lbetween_9 : AK := .seq (.reg lbetween_9o [10]) .ret
def lbetween_12o : List ROp := [.v 10 (.mov (.c (.bool false)))]
def lbetween_12 : AK := .seq (.reg lbetween_12o [10]) .ret
def lbetween_11 : AK := .cond (.t 85) lbetween_12 .skip
def lbetween_10o : List ROp := [.v 77 (.mov (.t 1)),
   .v 78 (.mov (.t 2)),
   .v 79 (.bin .lss (.t 77) (.t 78)),
   .v 80 (.mov (.t 79)),
   .gval 81 80 true false 92081 (.mov (.t 11)),
   .gval 82 80 true false 92082 (.mov (.t 13)),
   .gcal 83 80 true false 92083 13 [(.t 81), (.t 82)],
   .gval 84 80 true false 92084 (.bin .neq (.t 83) (.c (.int .i64 (-1)))),
   .v 85 (.pick (.t 80) (.t 84) (.c (.bool false)))]
def lbetween_10 : AK := .seq (.reg lbetween_10o [0, 11, 17, 85]) lbetween_11
def lbetween_8 : AK := .seq lbetween_10 lbetween_9
def lbetween_15o : List ROp := [.v 17 (.mov (.c (.str [118, 48, 46, 48, 46, 48])))]
def lbetween_15 : AK := .reg lbetween_15o [0, 1, 2, 11, 13, 17]
def lbetween_14 : AK := .cond (.t 76) lbetween_15 .skip
def lbetween_13o : List ROp := [.v 75 (.mov (.t 0)),
   .v 76 (.bin .eql (.t 75) (.c (.str [])))]
def lbetween_13 : AK := .seq (.reg lbetween_13o [0, 1, 2, 11, 13, 17, 76]) lbetween_14
def lbetween_7 : AK := .seq lbetween_13 (.mid lbetween_8)
def lbetween_18o : List ROp := [.val 63 true 92063 (.fldA false 0 1 (.t 15)),
   .val 64 true 92064 (.ld false 1 (.t 63)),
   .val 65 true 92065 (.bin .add (.c (.str [118])) (.t 64)),
   .val 66 true 92066 (.bin .add (.t 65) (.c (.str [46]))),
   .val 67 true 92067 (.fldA false 1 1 (.t 15)),
   .val 68 true 92068 (.ld false 1 (.t 67)),
   .val 69 true 92069 (.bin .add (.t 66) (.t 68)),
   .val 70 true 92070 (.bin .add (.t 69) (.c (.str [46]))),
   .val 71 true 92071 (.fldA false 2 1 (.t 15)),
   .val 72 true 92072 (.ld false 1 (.t 71)),
   .cal (some 73) true 92073 12 [(.t 72)],
   .v 74 (.bin .add (.t 70) (.t 73)),
   .v 17 (.mov (.t 74))]
def lbetween_18 : AK := .reg lbetween_18o [0, 1, 2, 11, 13, 17]
def lbetween_17 : AK := .cond (.t 62) lbetween_18 .skip
def lbetween_16o : List ROp := [.v 60 (.fldA false 3 1 (.t 15)),
   .v 61 (.ld false 1 (.t 60)),
   .v 62 (.bin .eql (.t 61) (.c (.str [])))]
def lbetween_16 : AK := .seq (.reg lbetween_16o [0, 1, 2, 11, 13, 15, 17, 62]) lbetween_17
def lbetween_6 : AK := .seq lbetween_16 (.mid lbetween_7)
def lbetween_5o : List ROp := [.v 49 (.fldA false 0 1 (.t 15)),
   .v 50 (.ld false 1 (.t 49)),
   .v 51 (.bin .add (.c (.str [118])) (.t 50)),
   .v 52 (.bin .add (.t 51) (.c (.str [46]))),
   .v 53 (.fldA false 1 1 (.t 15)),
   .v 54 (.ld false 1 (.t 53)),
   .v 55 (.bin .add (.t 52) (.t 54)),
   .v 56 (.bin .add (.t 55) (.c (.str [46]))),
   .v 57 (.fldA false 2 1 (.t 15)),
   .v 58 (.ld false 1 (.t 57)),
   .v 59 (.bin .add (.t 56) (.t 58)),
   .v 17 (.mov (.t 59))]
def lbetween_5 : AK := .seq (.reg lbetween_5o [0, 1, 2, 11, 13, 15, 17]) lbetween_6
def lbetween_4o : List ROp := [.v 45 (.mov (.t 0)),
   .cal (some 46) false 92046 11 [(.t 45)],
   .v 44 (.mov (.t 46)),
   .v 47 (.ext (.t 44) 0),
   .v 48 (.ext (.t 44) 1),
   .eff 15 false 92015 (.alloc [.str [], .str [], .str [], .str [], .str [], .int .i64 0]),
   .effN false 92000 (.st 6 (.t 15) (.t 47)),
   .v 16 (.mov (.t 48))]
def lbetween_4 : AK := .seq (.reg lbetween_4o [0, 1, 2, 11, 13, 15]) lbetween_5
def lbetween_21o : List ROp := [.cal (some 43) false 92043 8 [],
   .v 10 (.mov (.t 43))]
def lbetween_21 : AK := .seq (.reg lbetween_21o [10]) .ret
def lbetween_20 : AK := .cond (.t 42) lbetween_21 .skip
def lbetween_19o : List ROp := [.v 32 (.mov (.t 12)),
   .v 33 (.bin .neq (.t 32) (.c (.int .i64 0))),
   .v 34 (.mov (.t 33)),
   .gval 35 34 false false 92035 (.mov (.t 14)),
   .gval 36 34 false false 92036 (.bin .neq (.t 35) (.c (.int .i64 0))),
   .v 37 (.pick (.t 34) (.c (.bool true)) (.t 36)),
   .v 38 (.mov (.t 37)),
   .gval 39 38 false false 92039 (.mov (.t 0)),
   .gval 40 38 false false 92040 (.len true (.t 39)),
   .gval 41 38 false false 92041 (.bin .gtr (.t 40) (.c (.int .i64 90))),
   .v 42 (.pick (.t 38) (.c (.bool true)) (.t 41))]
def lbetween_19 : AK := .seq (.reg lbetween_19o [0, 1, 2, 11, 13, 42]) lbetween_20
def lbetween_3 : AK := .seq lbetween_19 lbetween_4
def lbetween_2o : List ROp := [.v 26 (.mov (.t 0)),
   .v 27 (.mov (.t 2)),
   .v 28 (.mov (.t 4)),
   .cal (some 29) false 92029 10 [(.c (.str [118, 48])), (.t 26), (.t 27), (.t 28)],
   .v 25 (.mov (.t 29)),
   .v 30 (.ext (.t 25) 0),
   .v 31 (.ext (.t 25) 1),
   .v 13 (.mov (.t 30)),
   .v 14 (.mov (.t 31))]
def lbetween_2 : AK := .seq (.reg lbetween_2o [0, 1, 2, 11, 12, 13, 14]) lbetween_3
def lbetween_1o : List ROp := [.v 19 (.mov (.t 0)),
   .v 20 (.mov (.t 1)),
   .v 21 (.mov (.t 3)),
   .cal (some 22) false 92022 10 [(.c (.str [118, 48])), (.t 19), (.t 20), (.t 21)],
   .v 18 (.mov (.t 22)),
   .v 23 (.ext (.t 18) 0),
   .v 24 (.ext (.t 18) 1),
   .v 11 (.mov (.t 23)),
   .v 12 (.mov (.t 24))]
def lbetween_1 : AK := .seq (.reg lbetween_1o [0, 1, 2, 4, 11, 12]) lbetween_2
def lbetween_0o : List ROp := [.v 10 (.mov (.c (.bool false)))]
def lbetween_0 : AK := .seq (.reg lbetween_0o [0, 1, 2, 3, 4]) lbetween_1
def lbetween : AK := lbetween_0
theorem lbetween_vc (P : Program) (E : Env) (Q : KQ) (st : St) :
  (vcW P E lbetween_9 Q st = aopsW P lbetween_9o st (KS.reg [10] (KQ.seq P E .ret Q))) ∧
  (vcW P E lbetween_12 Q st = aopsW P lbetween_12o st (KS.reg [10] (KQ.seq P E .ret Q))) ∧
  (vcW P E lbetween_11 Q st = cndW P E (ev st (.t 85)) lbetween_12 .skip Q st) ∧
  (vcW P E lbetween_10 Q st = aopsW P lbetween_10o st (KS.reg [0, 11, 17, 85] (KQ.seq P E lbetween_11 Q))) ∧
  (vcW P E lbetween_8 Q st = vcW P E lbetween_10 (KQ.seq P E lbetween_9 Q) st) ∧
  (vcW P E lbetween_15 Q st = aopsW P lbetween_15o st (KS.reg [0, 1, 2, 11, 13, 17] Q)) ∧
  (vcW P E lbetween_14 Q st = cndW P E (ev st (.t 76)) lbetween_15 .skip Q st) ∧
  (vcW P E lbetween_13 Q st = aopsW P lbetween_13o st (KS.reg [0, 1, 2, 11, 13, 17, 76] (KQ.seq P E lbetween_14 Q))) ∧
  (vcW P E lbetween_18 Q st = aopsW P lbetween_18o st (KS.reg [0, 1, 2, 11, 13, 17] Q)) ∧
  (vcW P E lbetween_17 Q st = cndW P E (ev st (.t 62)) lbetween_18 .skip Q st) ∧
  (vcW P E lbetween_16 Q st = aopsW P lbetween_16o st (KS.reg [0, 1, 2, 11, 13, 15, 17, 62] (KQ.seq P E lbetween_17 Q))) ∧
  (vcW P E lbetween_5 Q st = aopsW P lbetween_5o st (KS.reg [0, 1, 2, 11, 13, 15, 17] (KQ.seq P E lbetween_6 Q))) ∧
  (vcW P E lbetween_4 Q st = aopsW P lbetween_4o st (KS.reg [0, 1, 2, 11, 13, 15] (KQ.seq P E lbetween_5 Q))) ∧
  (vcW P E lbetween_21 Q st = aopsW P lbetween_21o st (KS.reg [10] (KQ.seq P E .ret Q))) ∧
  (vcW P E lbetween_20 Q st = cndW P E (ev st (.t 42)) lbetween_21 .skip Q st) ∧
  (vcW P E lbetween_19 Q st = aopsW P lbetween_19o st (KS.reg [0, 1, 2, 11, 13, 42] (KQ.seq P E lbetween_20 Q))) ∧
  (vcW P E lbetween_3 Q st = vcW P E lbetween_19 (KQ.seq P E lbetween_4 Q) st) ∧
  (vcW P E lbetween_2 Q st = aopsW P lbetween_2o st (KS.reg [0, 1, 2, 11, 12, 13, 14] (KQ.seq P E lbetween_3 Q))) ∧
  (vcW P E lbetween_1 Q st = aopsW P lbetween_1o st (KS.reg [0, 1, 2, 4, 11, 12] (KQ.seq P E lbetween_2 Q))) ∧
  (vcW P E lbetween_0 Q st = aopsW P lbetween_0o st (KS.reg [0, 1, 2, 3, 4] (KQ.seq P E lbetween_1 Q))) ∧
  (vcW P E lbetween Q st = vcW P E lbetween_0 Q st) :=
  ⟨rfl, rfl, vcW_cond, rfl, rfl, rfl, vcW_cond, rfl, rfl, vcW_cond, rfl, rfl, rfl, rfl, vcW_cond, rfl, rfl, rfl, rfl, rfl, rfl⟩
theorem lbetween_jn (P : Program) (E : Env) (Q : KQ) (st : St) :
  (vcW P E lbetween_7 Q st = vcW P E lbetween_13 (KQ.seq P E (.mid lbetween_8) Q) st) ∧
  (vcW P E lbetween_6 Q st = vcW P E lbetween_16 (KQ.seq P E (.mid lbetween_7) Q) st) :=
  ⟨rfl, rfl⟩
attribute [go_sem] lbetween_vc lbetween_9o lbetween_12o lbetween_10o lbetween_15o lbetween_13o lbetween_18o lbetween_16o lbetween_5o lbetween_4o lbetween_21o lbetween_19o lbetween_2o lbetween_1o lbetween_0o
noncomputable def lbetweenB : Code := (Tryd.f4.body).getD .skip
theorem lbetween_eq : trCode Tryd.prog 104 92000 lbetweenB = lbetween.erase 92000 := by kernel_rfl
theorem lbetween_body : Tryd.f4.body = some lbetweenB := by kernel_rfl
theorem lbetween_n : Tryd.f4.ntmps = 104 := by kernel_rfl
theorem lbetween_r : Tryd.f4.results.toList.map (trRes Tryd.prog) = [.tmp 10] := by kernel_rfl
theorem lbetween_spec {h : HP} {a0 a1 a2 a3 a4 : AV} {Post : HP → AV → List AV → Prop} (hp : ∀ (E : Env) (R : HP → AV → List AV → Prop), E.N ≤ 1000000 → PostTo Post R → vcW Tryd.prog E lbetween (KQ.post [.tmp 10] 5 R) ⟨[(0, a0), (1, a1), (2, a2), (3, a3), (4, a4)], h⟩) : Eng.Spec Tryd.prog 4 h [a0, a1, a2, a3, a4] Post := spec_wk (
  spec_of (c := lbetween.erase 92000) (B := 92000) Tryd.func4 lbetween_body (by rw [lbetween_n, lbetween_eq]) (by rw [lbetween_n]; decide) (by rw [lbetween_n]; exact (by decide : 5 ≤ 104)) (fun E hE hB hrd => by
    have hN : E.N ≤ 1000000 := by
      rw [hE, lbetween_n]; decide
    rw [lbetween_r, ← hB]
    exact awp_slots [(0, a0), (1, a1), (2, a2), (3, a3), (4, a4)] ⟨rfl, rfl, rfl, rfl, rfl, trivial⟩ (vcW_sound hN _ (hp E _ hN fin_self))))
/- cartulary/cartularylaw21.PseudoPlain -/
def lplain_6o : List ROp := [.cal (some 56) false 93056 8 [],
   .v 57 (.mov (.t 56)),
   .gval 58 57 true false 93058 (.fldA false 0 1 (.t 3)),
   .gval 59 57 true false 93059 (.ld false 1 (.t 58)),
   .gval 60 57 true false 93060 (.bin .eql (.t 59) (.c (.str []))),
   .gval 61 57 true false 93061 (.mov (.t 60)),
   .gval 62 61 false false 93062 (.mov (.t 8)),
   .gval 63 61 false false 93063 (.mov (.t 62)),
   .gval 64 63 true false 93064 (.fldA false 0 1 (.t 3)),
   .gval 65 63 true false 93065 (.ld false 1 (.t 64)),
   .gval 66 63 true false 93066 (.mov (.t 0)),
   .gcal 67 63 true false 93067 13 [(.t 65), (.t 66)],
   .gval 68 63 true false 93068 (.bin .eql (.t 67) (.c (.int .i64 (-1)))),
   .gval 69 61 false false 93069 (.pick (.t 63) (.t 68) (.c (.bool false))),
   .gval 70 57 true false 93070 (.pick (.t 61) (.c (.bool true)) (.t 69)),
   .v 71 (.pick (.t 57) (.t 70) (.c (.bool false))),
   .v 72 (.mov (.t 71)),
   .gval 73 72 true false 93073 (.mov (.t 0)),
   .gcal 74 72 true false 93074 14 [(.t 73)],
   .gval 75 72 true false 93075 (.bin .add (.t 74) (.c (.str []))),
   .gcal 76 72 true false 93076 9 [(.t 75)],
   .gval 77 72 true false 93077 (.mov (.t 0)),
   .gcal 78 72 true false 93078 14 [(.t 77)],
   .gval 79 72 true false 93079 (.bin .neq (.t 78) (.c (.str []))),
   .gval 80 72 true false 93080 (.beq false (.t 76) (.t 79)),
   .v 81 (.pick (.t 72) (.t 80) (.c (.bool false))),
   .v 2 (.mov (.t 81))]
def lplain_6 : AK := .seq (.reg lplain_6o [2]) .ret
def lplain_5o : List ROp := [.v 51 (.fldA false 0 1 (.t 3)),
   .v 52 (.ld false 1 (.t 51)),
   .cal (some 53) false 93053 15 [(.t 52)],
   .v 50 (.mov (.t 53)),
   .v 54 (.ext (.t 50) 0),
   .v 55 (.ext (.t 50) 1),
   .eff 7 false 93007 (.alloc [.str [], .str [], .str [], .str [], .str [], .int .i64 0]),
   .effN false 93000 (.st 6 (.t 7) (.t 54)),
   .v 8 (.mov (.t 55))]
def lplain_5 : AK := .seq (.reg lplain_5o [0, 3, 8]) lplain_6
def lplain_9o : List ROp := [.v 2 (.mov (.c (.bool false)))]
def lplain_9 : AK := .seq (.reg lplain_9o [2]) .ret
def lplain_8 : AK := .cond (.t 49) lplain_9 .skip
def lplain_7o : List ROp := [.v 32 (.mov (.t 6)),
   .v 33 (.un .not (.t 32)),
   .v 34 (.mov (.t 33)),
   .gval 35 34 false false 93035 (.fldA false 5 1 (.t 5)),
   .gval 36 34 false false 93036 (.ld false 1 (.t 35)),
   .gval 37 34 false false 93037 (.bin .neq (.t 36) (.c (.int .i64 0))),
   .v 38 (.pick (.t 34) (.c (.bool true)) (.t 37)),
   .v 39 (.mov (.t 38)),
   .gval 40 39 false false 93040 (.fldA false 3 1 (.t 5)),
   .gval 41 39 false false 93041 (.ld false 1 (.t 40)),
   .gval 42 39 false false 93042 (.bin .eql (.t 41) (.c (.str []))),
   .v 43 (.pick (.t 39) (.c (.bool true)) (.t 42)),
   .v 44 (.mov (.t 43)),
   .gval 45 44 false false 93045 (.fldA false 2 1 (.t 3)),
   .gval 46 44 false false 93046 (.ld false 1 (.t 45)),
   .gval 47 44 false false 93047 (.len true (.t 46)),
   .gval 48 44 false false 93048 (.bin .neq (.t 47) (.c (.int .i64 12))),
   .v 49 (.pick (.t 44) (.c (.bool true)) (.t 48))]
def lplain_7 : AK := .seq (.reg lplain_7o [0, 3, 49]) lplain_8
def lplain_4 : AK := .seq lplain_7 lplain_5
def lplain_3o : List ROp := [.v 28 (.mov (.t 0)),
   .cal (some 29) false 93029 15 [(.t 28)],
   .v 27 (.mov (.t 29)),
   .v 30 (.ext (.t 27) 0),
   .v 31 (.ext (.t 27) 1),
   .eff 5 false 93005 (.alloc [.str [], .str [], .str [], .str [], .str [], .int .i64 0]),
   .effN false 93000 (.st 6 (.t 5) (.t 30)),
   .v 6 (.mov (.t 31))]
def lplain_3 : AK := .seq (.reg lplain_3o [0, 3, 5, 6]) lplain_4
def lplain_12o : List ROp := [.cal (some 16) false 93016 8 [],
   .v 17 (.mov (.t 16)),
   .gval 18 17 true false 93018 (.mov (.t 0)),
   .gcal 19 17 true false 93019 9 [(.t 18)],
   .gval 20 17 true false 93020 (.un .not (.t 19)),
   .v 21 (.pick (.t 17) (.t 20) (.c (.bool false))),
   .v 22 (.mov (.t 21)),
   .gval 23 22 true false 93023 (.ld true 3 (.t 3)),
   .gval 24 22 true false 93024 (.bld [.str [], .int .i64 0, .str []] []),
   .gval 25 22 true false 93025 (.aeq false [2, 1, 2] (.t 23) (.t 24)),
   .v 26 (.pick (.t 22) (.t 25) (.c (.bool false))),
   .v 2 (.mov (.t 26))]
def lplain_12 : AK := .seq (.reg lplain_12o [2]) .ret
def lplain_11 : AK := .cond (.t 15) lplain_12 .skip
def lplain_10o : List ROp := [.v 14 (.mov (.t 4)),
   .v 15 (.bin .neq (.t 14) (.c (.int .i64 0)))]
def lplain_10 : AK := .seq (.reg lplain_10o [0, 3, 15]) lplain_11
def lplain_2 : AK := .seq lplain_10 lplain_3
def lplain_1o : List ROp := [.v 10 (.mov (.t 0)),
   .cal (some 11) false 93011 6 [(.t 10)],
   .v 9 (.mov (.t 11)),
   .v 12 (.ext (.t 9) 0),
   .v 13 (.ext (.t 9) 1),
   .eff 3 false 93003 (.alloc [.str [], .int .i64 0, .str []]),
   .effN false 93000 (.st 3 (.t 3) (.t 12)),
   .v 4 (.mov (.t 13))]
def lplain_1 : AK := .seq (.reg lplain_1o [0, 3, 4]) lplain_2
def lplain_0o : List ROp := [.v 2 (.mov (.c (.bool false)))]
def lplain_0 : AK := .seq (.reg lplain_0o [0]) lplain_1
def lplain : AK := lplain_0
theorem lplain_vc (P : Program) (E : Env) (Q : KQ) (st : St) :
  (vcW P E lplain_6 Q st = aopsW P lplain_6o st (KS.reg [2] (KQ.seq P E .ret Q))) ∧
  (vcW P E lplain_5 Q st = aopsW P lplain_5o st (KS.reg [0, 3, 8] (KQ.seq P E lplain_6 Q))) ∧
  (vcW P E lplain_9 Q st = aopsW P lplain_9o st (KS.reg [2] (KQ.seq P E .ret Q))) ∧
  (vcW P E lplain_8 Q st = cndW P E (ev st (.t 49)) lplain_9 .skip Q st) ∧
  (vcW P E lplain_7 Q st = aopsW P lplain_7o st (KS.reg [0, 3, 49] (KQ.seq P E lplain_8 Q))) ∧
  (vcW P E lplain_4 Q st = vcW P E lplain_7 (KQ.seq P E lplain_5 Q) st) ∧
  (vcW P E lplain_3 Q st = aopsW P lplain_3o st (KS.reg [0, 3, 5, 6] (KQ.seq P E lplain_4 Q))) ∧
  (vcW P E lplain_12 Q st = aopsW P lplain_12o st (KS.reg [2] (KQ.seq P E .ret Q))) ∧
  (vcW P E lplain_11 Q st = cndW P E (ev st (.t 15)) lplain_12 .skip Q st) ∧
  (vcW P E lplain_10 Q st = aopsW P lplain_10o st (KS.reg [0, 3, 15] (KQ.seq P E lplain_11 Q))) ∧
  (vcW P E lplain_2 Q st = vcW P E lplain_10 (KQ.seq P E lplain_3 Q) st) ∧
  (vcW P E lplain_1 Q st = aopsW P lplain_1o st (KS.reg [0, 3, 4] (KQ.seq P E lplain_2 Q))) ∧
  (vcW P E lplain_0 Q st = aopsW P lplain_0o st (KS.reg [0] (KQ.seq P E lplain_1 Q))) ∧
  (vcW P E lplain Q st = vcW P E lplain_0 Q st) :=
  ⟨rfl, rfl, rfl, vcW_cond, rfl, rfl, rfl, rfl, vcW_cond, rfl, rfl, rfl, rfl, rfl⟩
theorem lplain_jn (P : Program) (E : Env) (Q : KQ) (st : St) :
  (True) :=
  trivial
attribute [go_sem] lplain_vc lplain_6o lplain_5o lplain_9o lplain_7o lplain_3o lplain_12o lplain_10o lplain_1o lplain_0o
noncomputable def lplainB : Code := (Tryd.f5.body).getD .skip
theorem lplain_eq : trCode Tryd.prog 82 93000 lplainB = lplain.erase 93000 := by kernel_rfl
theorem lplain_body : Tryd.f5.body = some lplainB := by kernel_rfl
theorem lplain_n : Tryd.f5.ntmps = 82 := by kernel_rfl
theorem lplain_r : Tryd.f5.results.toList.map (trRes Tryd.prog) = [.tmp 2] := by kernel_rfl
theorem lplain_spec {h : HP} {a0 : AV} {Post : HP → AV → List AV → Prop} (hp : ∀ (E : Env) (R : HP → AV → List AV → Prop), E.N ≤ 1000000 → PostTo Post R → vcW Tryd.prog E lplain (KQ.post [.tmp 2] 1 R) ⟨[(0, a0)], h⟩) : Eng.Spec Tryd.prog 5 h [a0] Post := spec_wk (
  spec_of (c := lplain.erase 93000) (B := 93000) Tryd.func5 lplain_body (by rw [lplain_n, lplain_eq]) (by rw [lplain_n]; decide) (by rw [lplain_n]; exact (by decide : 1 ≤ 82)) (fun E hE hB hrd => by
    have hN : E.N ≤ 1000000 := by
      rw [hE, lplain_n]; decide
    rw [lplain_r, ← hB]
    exact awp_slots [(0, a0)] ⟨rfl, trivial⟩ (vcW_sound hN _ (hp E _ hN fin_self))))
end Go.Proofs.YtgkcbhdpenmogaaDoor.Cod
