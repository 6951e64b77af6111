/- semver: what it calls of the library; numbers, digits. semver: the words of a prerelease or a build. semver: Parse. semver: Compare and what hangs on it. semver: Canonical, Major, Max; awake. semver: the order is a total preorder. SemverTotal: the law. SemverMajor: the law. semver: a version's canonical form is read back; SemverPlain, SemverNext. semver, the document's answer: Cut, Digits, Number, Words. semver, the document's answer: Parse. semver: the document's parse and the program's are one; Canonical; SemverParses. -/
import Derived.Test.YtgkcbhdpenmogaaDoorPsSvCode
import Derived.Test.YtgkcbhdpenmogaaDoorSvIter
set_option linter.all false
namespace Go.Proofs.YtgkcbhdpenmogaaDoor.Sv
open Eng
set_option maxRecDepth 10000
abbrev Bs := List UInt8
theorem compareS_ok (a b : Bs) : SpecR Tryd.prog 50 [.str a, .str b] (.int .i64 (Lib.compareBytes a b)) :=
  spec_same rfl rfl (fun w => Tryd.strings_Compare ⟨a.toArray⟩ ⟨b.toArray⟩ w)
theorem index1_ok (s : Bs) (c : UInt8) : SpecR Tryd.prog 64 [.str s, .str [c]] (.int .i64 (Lib.indexByte s c)) :=
  spec_same rfl rfl (fun w => Tryd.stringslite_Index_one ⟨s.toArray⟩ c w)
def decs : Bs := [48, 49, 50, 51, 52, 53, 54, 55, 56, 57]
theorem trim_ok (s : Bs) (hs : s.length ≤ 9223372036854775807) : SpecR Tryd.prog 62 [.str s, .str decs] (.str (Lib.trimS s decs)) :=
  spec_below rfl rfl (fun w => Any.strings_Trim_laid Tryd.lays160 (by kernel_rfl) ⟨s.toArray⟩ ⟨decs.toArray⟩ w (by simpa [ByteArray.size] using hs) (by decide) (ascii_of_all (by decide)))
/-- cut at the first c -/
def cutP (c : UInt8) : Bs → Bs × Bs × Bool
  | [] => ([], [], false)
  | x :: r => if x = c then ([], r, true) else (x :: (cutP c r).1, (cutP c r).2)
theorem cutP_index (c : UInt8) : ∀ s : Bs, (Lib.indexByte s c = -1 ∧ cutP c s = (s, [], false)) ∨ ∃ j : Nat, j < s.length ∧ Lib.indexByte s c = (j : Int) ∧ cutP c s = (s.take j, s.drop (j + 1), true)
  | [] => .inl ⟨rfl, rfl⟩
  | x :: r => by
    by_cases hx : x = c
    · subst hx
      exact .inr ⟨0, by simp, by simp [Lib.indexByte], by simp [cutP]⟩
    · have hb : (x == c) = false := by simp [hx]
      rcases cutP_index c r with ⟨h1, h2⟩ | ⟨j, h1, h2, h3⟩
      · refine .inl ⟨by simp [Lib.indexByte, hb, h1], by simp [cutP, hx, h2]⟩
      · refine .inr ⟨j + 1, by simp; omega, ?_, by simp [cutP, hx, h3]⟩
        have hne : (Lib.indexByte r c == -1) = false := by rw [h2]; simp
        simp [Lib.indexByte, hb, hne, h2]
def cutA (q : Bs × Bs × Bool) : AV := .tup [.str q.1, .str q.2.1, .bool q.2.2]
theorem lcut_ok (s : Bs) (c : UInt8) (hs : s.length ≤ 9223372036854775807) : SpecR Tryd.prog 53 [.str s, .str [c]] (cutA (cutP c s)) := by
  refine Cod.lcut_spec (fun E R hN hR => ?_)
  simp (disch := first | omega | (simp only [Lx]; omega)) only [go_sem, simprocAttr]
  refine call_ro (index1_ok s c) rfl rfl ?_
  rcases cutP_index c s with ⟨h1, h2⟩ | ⟨j, h1, h2, h3⟩
  · simp (disch := first | omega | (simp only [Lx]; omega)) only [go_sem, simprocAttr, h1]
    exact hR.ro ⟨rfl, by rw [h2]; rfl⟩
  · simp (disch := first | omega | (simp only [Lx]; omega)) only [go_sem, simprocAttr, h2]
    exact hR.ro ⟨rfl, by rw [h3]; rfl⟩
theorem cut_ok (s : Bs) (c : UInt8) (hs : s.length ≤ 9223372036854775807) : SpecR Tryd.prog 37 [.str s, .str [c]] (cutA (cutP c s)) := by
  refine Cod.scut_spec (fun E R hN hR => ?_)
  simp (disch := first | omega | (simp only [Lx]; omega)) only [go_sem, simprocAttr]
  refine call_ro (lcut_ok s c hs) rfl rfl ?_
  simp (disch := first | omega | (simp only [Lx]; omega)) only [go_sem, simprocAttr, cutA]
  exact hR.ro ⟨rfl, rfl⟩
def prefP (c : UInt8) : Bs → Bs × Bool
  | [] => ([], false)
  | x :: r => if x = c then (r, true) else (x :: r, false)
theorem hasPrefix_ok (s : Bs) (c : UInt8) (hs : s.length ≤ 9223372036854775807) : SpecR Tryd.prog 63 [.str s, .str [c]] (.bool (prefP c s).2) := by
  refine Cod.hasPrefix_spec (fun E R hN hR => ?_)
  cases s with
  | nil =>
    simp (disch := first | omega | (simp only [Lx]; omega)) only [go_sem, simprocAttr]
    (repeat (first | (with_reducible refine gskip_of ?_) | (with_reducible refine gcskip_of ?_) | (with_reducible refine gopen_of ?_)) <;> simp (disch := first | omega | (simp only [Lx]; omega)) only [go_sem, simprocAttr])
    exact hR.ro ⟨rfl, rfl⟩
  | cons x r =>
    simp (disch := first | omega | (simp only [Lx]; omega)) only [go_sem, simprocAttr]
    refine hR.ro ⟨rfl, ?_⟩
    simp only [prefP]
    split
    · rename_i h; simp [h]
    · rename_i h; simp [h]
theorem cutPrefix_ok (s : Bs) (c : UInt8) (hs : s.length ≤ 9223372036854775807) : SpecR Tryd.prog 35 [.str s, .str [c]] (.tup [.str (prefP c s).1, .bool (prefP c s).2]) := by
  have key : SpecR Tryd.prog 52 [.str s, .str [c]] (.tup [.str (prefP c s).1, .bool (prefP c s).2]) := by
    refine Cod.lcutPrefix_spec (fun E R hN hR => ?_)
    simp (disch := first | omega | (simp only [Lx]; omega)) only [go_sem, simprocAttr]
    refine call_ro (hasPrefix_ok s c hs) rfl rfl ?_
    cases s with
    | nil =>
      simp (disch := first | omega | (simp only [Lx]; omega)) only [go_sem, simprocAttr, prefP]
      exact hR.ro ⟨rfl, rfl⟩
    | cons x r =>
      by_cases hx : x = c
      · have hp : prefP c (x :: r) = (r, true) := by simp [prefP, hx]
        simp (disch := first | omega | (simp only [Lx]; omega)) only [go_sem, simprocAttr, hp]
        exact hR.ro ⟨rfl, by rw [hp]⟩
      · have hp : prefP c (x :: r) = (x :: r, false) := by simp [prefP, hx]
        simp (disch := first | omega | (simp only [Lx]; omega)) only [go_sem, simprocAttr, hp]
        exact hR.ro ⟨rfl, by rw [hp]⟩
  refine Cod.cutPrefix_spec (fun E R hN hR => ?_)
  simp (disch := first | omega | (simp only [Lx]; omega)) only [go_sem, simprocAttr]
  refine call_ro key rfl rfl ?_
  simp (disch := first | omega | (simp only [Lx]; omega)) only [go_sem, simprocAttr]
  exact hR.ro ⟨rfl, rfl⟩
/- NUMBERS -/
def isD (b : UInt8) : Bool := decide (48 ≤ b.toNat ∧ b.toNat ≤ 57)
/-- how many digits stand at the front -/
def dlen (s : Bs) : Nat := (s.takeWhile isD).length
theorem dlen_le (s : Bs) : dlen s ≤ s.length := (List.takeWhile_sublist _).length_le
theorem dlen_step : ∀ {s : Bs} {k : Nat}, k ≤ dlen s → k < s.length → (isD (s.getD k 0) = true ↔ k < dlen s)
  | [], k, _, h => by simp at h
  | x :: r, k, h1, h2 => by
    unfold dlen at h1 ⊢
    rw [List.takeWhile_cons] at h1 ⊢
    by_cases hx : isD x = true
    · rw [if_pos hx] at h1 ⊢
      rcases k with _ | k
      · simp [hx]
      · have := dlen_step (s := r) (k := k) (by unfold dlen; simpa using h1) (by simpa using h2)
        unfold dlen at this
        simpa using this
    · rw [if_neg hx] at h1 ⊢
      obtain rfl : k = 0 := by simpa using h1
      simp [hx]
def numP (s : Bs) : Bs × Bs × Bool := if dlen s = 0 ∨ (1 < dlen s ∧ s.getD 0 0 = 48) then ([], [], false) else (s.take (dlen s), s.drop (dlen s), true)
theorem number_tail {E : Env} {s : Bs} {k : Nat} {R : HP → AV → List AV → Prop} (hR : PostTo (fun h r _ => h = [] ∧ r = cutA (numP s)) R) (hs : s.length ≤ 9223372036854775807) (hk : dlen s = k) (x : List (Nat × AV)) :
    vcW Tryd.prog E Cod.number_3 (KQ.post [RVar.tmp 2, RVar.tmp 3, RVar.tmp 4] 1 R) ⟨(0, .str s) :: (5, .int .i64 k) :: x, []⟩ := by
  have hdl := dlen_le s
  have fin : (dlen s = 0 ∨ (1 < dlen s ∧ s.getD 0 0 = 48)) → numP s = ([], [], false) := fun h => if_pos h
  have fin' : ¬ (dlen s = 0 ∨ (1 < dlen s ∧ s.getD 0 0 = 48)) → numP s = (s.take (dlen s), s.drop (dlen s), true) := fun h => if_neg h
  by_cases h0 : k = 0
  · simp (disch := first | omega | (simp only [Lx]; omega)) only [go_sem, simprocAttr]
    (repeat (first | (with_reducible refine gskip_of ?_) | (with_reducible refine gcskip_of ?_) | (with_reducible refine gopen_of ?_)) <;> simp (disch := first | omega | (simp only [Lx]; omega)) only [go_sem, simprocAttr])
    exact hR.ro ⟨rfl, by rw [fin (.inl (by omega))]; rfl⟩
  · by_cases h1 : 1 < k
    · by_cases h2 : (s.getD 0 0).toNat = 48
      · simp (disch := first | omega | (simp only [Lx]; omega)) only [go_sem, simprocAttr]
        exact hR.ro ⟨rfl, by rw [fin (.inr ⟨by omega, UInt8.toNat.inj h2⟩)]; rfl⟩
      · simp (disch := first | omega | (simp only [Lx]; omega)) only [go_sem, simprocAttr]
        exact hR.ro ⟨rfl, by rw [fin' (fun h => h.elim (by omega) (fun h => h2 (by rw [h.2]; rfl))), hk]; rfl⟩
    · simp (disch := first | omega | (simp only [Lx]; omega)) only [go_sem, simprocAttr]
      (repeat (first | (with_reducible refine gskip_of ?_) | (with_reducible refine gcskip_of ?_) | (with_reducible refine gopen_of ?_)) <;> simp (disch := first | omega | (simp only [Lx]; omega)) only [go_sem, simprocAttr])
      exact hR.ro ⟨rfl, by rw [fin' (fun h => h.elim (by omega) (fun h => by omega)), hk]; rfl⟩
theorem number_ok (s : Bs) (hs : s.length ≤ 9223372036854775807) : SpecR Tryd.prog 36 [.str s] (cutA (numP s)) := by
  refine Cod.number_spec (fun E R hN hR => ?_)
  have hdl := dlen_le s
  simp (disch := first | omega | (simp only [Lx]; omega)) only [go_sem, simprocAttr]
  generalize hQ : KQ.seq Tryd.prog E Cod.number_3 _ = Q3
  refine vcW_loop hN (fun k : Nat => ⟨[(0, .str s), (5, .int .i64 k)], []⟩) (fun k => k ≤ dlen s) (fun k => s.length - k) 0 (.le (by simp (disch := first | omega | (simp only [Lx]; omega)) only [go_sem, simprocAttr])) (by omega) ?_
  rintro k R1 hk hR1
  by_cases hl : k < s.length
  · have hst := dlen_step hk hl
    obtain ⟨b, hb⟩ : ∃ b, b = s.getD k 0 := ⟨_, rfl⟩
    rw [← hb] at hst
    unfold isD at hst
    rw [decide_eq_true_eq] at hst
    by_cases h1 : 48 ≤ b.toNat
    · by_cases h2 : b.toNat ≤ 57
      · simp (disch := first | omega | (simp only [Lx]; omega)) only [go_sem, simprocAttr, ← hb]
        exact hR1 (k + 1) _ (by omega) (by have := hst.1 ⟨h1, h2⟩; omega) (.le (by simp (disch := first | omega | (simp only [Lx]; omega)) only [go_sem, simprocAttr]))
      · simp (disch := first | omega | (simp only [Lx]; omega)) only [go_sem, simprocAttr, ← hb]
        subst hQ
        exact number_tail hR hs (by omega) _
    · simp (disch := first | omega | (simp only [Lx]; omega)) only [go_sem, simprocAttr, ← hb]
      (repeat (first | (with_reducible refine gskip_of ?_) | (with_reducible refine gcskip_of ?_) | (with_reducible refine gopen_of ?_)) <;> simp (disch := first | omega | (simp only [Lx]; omega)) only [go_sem, simprocAttr, ← hb])
      subst hQ
      exact number_tail hR hs (by omega) _
  · simp (disch := first | omega | (simp only [Lx]; omega)) only [go_sem, simprocAttr]
    (repeat (first | (with_reducible refine gskip_of ?_) | (with_reducible refine gcskip_of ?_) | (with_reducible refine gopen_of ?_)) <;> simp (disch := first | omega | (simp only [Lx]; omega)) only [go_sem, simprocAttr])
    subst hQ
    exact number_tail hR hs (by omega) _
def digB (s : Bs) : Bool := !s.isEmpty && s.all isD
theorem dw_nil (p : UInt8 → Bool) : ∀ l : Bs, l.dropWhile p = [] ↔ l.all p = true
  | [] => by simp
  | x :: r => by
    rw [List.dropWhile_cons]
    cases h : p x <;> simp [h, dw_nil p r]
theorem dw_all (p : UInt8 → Bool) : ∀ l : Bs, (l.dropWhile p).all p = true → l.dropWhile p = []
  | [], _ => rfl
  | x :: r, h => by
    rw [List.dropWhile_cons] at h ⊢
    cases hp : p x with
    | true => rw [hp] at h; simpa using dw_all p r (by simpa using h)
    | false => rw [hp] at h; simp [hp] at h
theorem isD_decs (b : UInt8) : decs.contains b = isD b := by
  have : ∀ b : Fin 256, decs.contains (UInt8.ofNat b.val) = isD (UInt8.ofNat b.val) := by decide
  have h := this ⟨b.toNat, b.toNat_lt⟩
  simpa using h
theorem trimS_nil (s : Bs) : (Lib.trimS s decs = []) ↔ s.all isD = true := by
  have hf : (fun b => decs.contains b) = isD := funext isD_decs
  unfold Lib.trimS Lib.trimLeftS Lib.trimRightS
  rw [show (decs.contains · : UInt8 → Bool) = isD from hf, dw_nil, List.all_reverse]
  constructor
  · intro h
    have := (dw_nil isD _).1 (dw_all isD _ h)
    rwa [List.all_reverse] at this
  · intro h
    rw [(dw_nil isD s.reverse).2 (by rw [List.all_reverse]; exact h)]
    rfl
theorem digits_ok (s : Bs) (hs : s.length ≤ 9223372036854775807) : SpecR Tryd.prog 51 [.str s] (.bool (digB s)) := by
  refine Cod.digits_spec (fun E R hN hR => ?_)
  cases s with
  | nil =>
    simp (disch := first | omega | (simp only [Lx]; omega)) only [go_sem, simprocAttr]
    (repeat (first | (with_reducible refine gskip_of ?_) | (with_reducible refine gcskip_of ?_) | (with_reducible refine gopen_of ?_)) <;> simp (disch := first | omega | (simp only [Lx]; omega)) only [go_sem, simprocAttr])
    exact hR.ro ⟨rfl, rfl⟩
  | cons x r =>
    have htr := trim_ok (x :: r) hs
    rw [decs] at htr
    simp (disch := first | omega | (simp only [Lx]; omega)) only [go_sem, simprocAttr]
    refine gcyes_of (callT_ro (by simp (disch := first | omega | (simp only [Lx]; omega)) only [go_sem, simprocAttr]) htr (by simp (disch := first | omega | (simp only [Lx]; omega)) only [go_sem, simprocAttr]) rfl rfl ?_)
    simp (disch := first | omega | (simp only [Lx]; omega)) only [go_sem, simprocAttr]
    refine hR.ro ⟨rfl, ?_⟩
    congr 1
    have := trimS_nil (x :: r)
    rw [decs] at this
    by_cases h : (x :: r).all isD = true
    · rw [this.2 h, digB, h]; rfl
    · rw [digB]
      simp only [Bool.not_eq_true] at h
      rw [h]
      simp only [Bool.and_false]
      rw [decide_eq_false_iff_not]
      intro e
      rw [this.1 e] at h; cases h
def signP (n : Int) : Int := max (-1) (min n 1)
theorem sign_ok (n : Int) (h : -9223372036854775808 ≤ n ∧ n ≤ 9223372036854775807) : SpecR Tryd.prog 49 [.int .i64 n] (.int .i64 (signP n)) := by
  refine Cod.sign_spec (fun E R hN hR => ?_)
  simp (disch := first | omega | (simp only [Lx]; omega)) only [go_sem, simprocAttr]
  exact hR.ro ⟨rfl, by unfold signP; congr 1⟩
/-- numbers as they are written -/
def numCmp (a b : Bs) : Int := if a.length = b.length then Lib.compareBytes a b else if a.length < b.length then -1 else 1
theorem byNumber_ok (a b : Bs) (ha : a.length ≤ 9223372036854775807) (hb : b.length ≤ 9223372036854775807) : SpecR Tryd.prog 33 [.str a, .str b] (.int .i64 (numCmp a b)) := by
  refine Cod.byNumber_spec (fun E R hN hR => ?_)
  by_cases hl : a.length = b.length
  · simp (disch := first | omega | (simp only [Lx]; omega)) only [go_sem, simprocAttr]
    refine call_ro (compareS_ok a b) rfl rfl ?_
    simp (disch := first | omega | (simp only [Lx]; omega)) only [go_sem, simprocAttr]
    exact hR.ro ⟨rfl, by rw [numCmp, if_pos hl]⟩
  · simp (disch := first | omega | (simp only [Lx]; omega)) only [go_sem, simprocAttr]
    refine call_ro (sign_ok _ (by omega)) rfl rfl ?_
    simp (disch := first | omega | (simp only [Lx]; omega)) only [go_sem, simprocAttr]
    refine hR.ro ⟨rfl, ?_⟩
    rw [numCmp, if_neg hl, signP]
    split
    · congr 1; omega
    · congr 1; omega
end Go.Proofs.YtgkcbhdpenmogaaDoor.Sv
namespace Go.Proofs.YtgkcbhdpenmogaaDoor.Sv
open Eng
set_option maxRecDepth 10000
def chOK (c : UInt8) : Bool := decide ((((48 ≤ c.toNat ∧ c.toNat ≤ 57) ∨ (97 ≤ c.toNat ∧ c.toNat ≤ 122)) ∨ (65 ≤ c.toNat ∧ c.toNat ≤ 90)) ∨ c.toNat = 45)
def wbad (pre : Bool) (w : Bs) : Bool := decide (w = []) || (pre && digB w && decide (1 < w.length) && decide ((w.getD 0 0).toNat = 48))
def wordOK (pre : Bool) (w : Bs) : Bool := !wbad pre w && w.all chOK
def wordsP (s : Bs) (pre : Bool) : Bool := (splitB 46 s).all (wordOK pre)
theorem splitB_len (c : UInt8) : ∀ (s : Bs), ∀ w ∈ splitB c s, w.length ≤ s.length
  | [], w, h => by simp [splitB] at h; simp [h]
  | x :: r, w, h => by
    unfold splitB at h
    split at h
    · rcases List.mem_cons.1 h with rfl | h
      · simp
      · have := splitB_len c r w h; simp; omega
    · split at h
      · rename_i e; exact absurd e (splitB_ne c r)
      · rename_i p ps e
        have ih := splitB_len c r
        rw [e] at ih
        rcases List.mem_cons.1 h with rfl | h
        · have := ih p (List.mem_cons_self ..); simp; omega
        · have := ih w (List.mem_cons_of_mem _ h); simp; omega
theorem getD_memB {l : List Bs} {k : Nat} (h : k < l.length) : l.getD k [] ∈ l := by
  rw [List.getD_eq_getElem?_getD, List.getElem?_eq_getElem h]; exact List.getElem_mem h
theorem take_succB {α : Type} (d : α) : ∀ (l : List α) {k : Nat}, k < l.length → l.take (k + 1) = l.take k ++ [l.getD k d]
  | [], k, h => by simp at h
  | x :: r, 0, h => by simp
  | x :: r, k + 1, h => by
    rw [List.take_succ_cons, take_succB d r (by simpa using h)]; simp
theorem not_all {α : Type} {p : α → Bool} {l : List α} {x : α} (h : x ∈ l) (hp : p x = false) : l.all p = false := by
  rw [Bool.eq_false_iff]
  intro h'
  rw [List.all_eq_true.1 h' x h] at hp; cases hp
set_option maxHeartbeats 1000000 in
theorem words_ok (s : Bs) (pre : Bool) (hs : s.length ≤ 9223372036854775807) : SpecR Tryd.prog 38 [.str s, .bool pre] (.bool (wordsP s pre)) := by
  refine Cod.words_spec (fun E R hN hrd hR => ?_)
  simp (disch := first | omega | (simp only [Lx]; omega)) only [go_sem, simprocAttr]
  refine splitW_of hN hrd splitSeq_ok (by decide) (s := s) (by simp (disch := first | omega | (simp only [Lx]; omega)) only [go_sem, simprocAttr]) hs [(3, .vptr 3003 0), (4, .vptr 3004 0)] (fun _ : Unit => [(3003, .var [.bool pre]), (3004, .var [.bool false])]) (fun k _ => ((splitB 46 s).take k).all (wordOK pre) = true) () (.le (by simp (disch := first | omega | (simp only [Lx]; omega)) only [go_sem, simprocAttr])) (by simp) rfl rfl ?_ ?_
  · rintro E2 k _ R2 hN2 hinv hk hn hr hx
    have hwm := getD_memB hk
    have hwl := splitB_len 46 s _ hwm
    have htk := take_succB [] (splitB 46 s) hk
    obtain ⟨w, hw⟩ : ∃ w, w = (splitB 46 s).getD k [] := ⟨_, rfl⟩
    rw [← hw] at hwm hwl htk
    rw [← hw]
    have bad : ∀ st', Wk st' ⟨ghost [(3, .vptr 3003 0), (4, .vptr 3004 0)], [(3003, .var [.bool pre]), (3004, .var [.bool false])]⟩ → wordOK pre w = false → R2.ap .ret st' := by
      intro st' hwk hno
      refine hr st' _ hwk ?_
      simp (disch := first | omega | (simp only [Lx]; omega)) only [go_sem, simprocAttr]
      exact hR.wk (h' := []) (r' := .bool false) (ar' := [.undef, .undef]) rfl (.le (by simp (disch := first | omega | (simp only [Lx]; omega)) only [go_sem, simprocAttr])) ⟨rfl, by rw [wordsP, not_all hwm hno]⟩
    clear hr
    have good : wbad pre w = false → ∀ st', Wk st' ⟨[(4, .vptr 3004 0), (31, .sl 3031 0 w.length), (32, .int .i64 w.length), (33, .int .i64 (0 : Nat)), (3000003, .vptr 3003 0), (3000004, .vptr 3004 0)], [(3003, .var [.bool pre]), (3004, .var [.bool false]), (3031, .arr 1 (w.map ub))]⟩ →
        vcW Tryd.prog E2 Cod.words_L0 (KQ.blk 2 (KQ.blk 1 R2)) st' := by
      intro hno st' hwk
      refine vcW_loop hN2 (fun j : Nat => ⟨[(4, .vptr 3004 0), (31, .sl 3031 0 w.length), (32, .int .i64 w.length), (33, .int .i64 j), (3000003, .vptr 3003 0), (3000004, .vptr 3004 0)], [(3003, .var [.bool pre]), (3004, .var [.bool false]), (3031, .arr 1 (w.map ub))]⟩)
        (fun j => j ≤ w.length ∧ (w.take j).all chOK = true) (fun j => w.length - j) 0 hwk ⟨by omega, by simp⟩ ?_
      rintro j R3 ⟨hj, hc⟩ hR3
      by_cases hlt : j < w.length
      · have htj := take_succB 0 w hlt
        have hmem : w.getD j 0 ∈ w := by
          rw [List.getD_eq_getElem?_getD, List.getElem?_eq_getElem hlt]; exact List.getElem_mem hlt
        obtain ⟨x, hx0⟩ : ∃ x, x = w.getD j 0 := ⟨_, rfl⟩
        rw [← hx0] at htj hmem
        simp (disch := first | omega | (simp only [Lx]; omega)) only [go_sem, simprocAttr, ← hx0]
        (repeat (first | (with_reducible refine gskip_of ?_) | (with_reducible refine gcskip_of ?_) | (with_reducible refine gopen_of ?_)) <;> simp (disch := first | omega | (simp only [Lx]; omega)) only [go_sem, simprocAttr, ← hx0])
        refine ifW_dec (fun he => ?_) (fun he => ?_)
        · simp (disch := first | omega | (simp only [Lx]; omega)) only [go_sem, simprocAttr]
          refine bad _ (.le (by simp (disch := first | omega | (simp only [Lx]; omega)) only [go_sem, simprocAttr])) ?_
          have : chOK x = false := by
            rw [chOK, decide_eq_false_iff_not]
            omega
          unfold wordOK
          rw [not_all hmem this, Bool.and_false]
        · simp (disch := first | omega | (simp only [Lx]; omega)) only [go_sem, simprocAttr]
          refine hR3 (j + 1) _ (by omega) ⟨by omega, ?_⟩ (.le (by simp (disch := first | omega | (simp only [Lx]; omega)) only [go_sem, simprocAttr]))
          rw [htj, List.all_append, hc]
          have : chOK x = true := by
            rw [chOK, decide_eq_true_iff]
            omega
          simp [this]
      · obtain rfl : j = w.length := by omega
        rw [List.take_of_length_le (Nat.le_refl _)] at hc
        have hok : wordOK pre w = true := by unfold wordOK; rw [hno, hc]; rfl
        simp (disch := first | omega | (simp only [Lx]; omega)) only [go_sem, simprocAttr]
        exact hn () _ (by rw [htk, List.all_append, hinv]; simp [hok]) (.le (by simp (disch := first | omega | (simp only [Lx]; omega)) only [go_sem, simprocAttr]))
    have yes : wbad pre w = true → wordOK pre w = false := fun h => by unfold wordOK; rw [h]; rfl
    by_cases hw0 : w = []
    · subst hw0
      simp (disch := first | omega | (simp only [Lx]; omega)) only [go_sem, simprocAttr]
      (repeat (first | (with_reducible refine gskip_of ?_) | (with_reducible refine gcskip_of ?_) | (with_reducible refine gopen_of ?_)) <;> simp (disch := first | omega | (simp only [Lx]; omega)) only [go_sem, simprocAttr])
      exact bad _ (.le (by simp (disch := first | omega | (simp only [Lx]; omega)) only [go_sem, simprocAttr])) (yes (by simp [wbad]))
    · have hwl0 : 0 < w.length := List.length_pos_iff.2 hw0
      cases pre with
      | false =>
        simp (disch := first | omega | (simp only [Lx]; omega)) only [go_sem, simprocAttr, hw0]
        (repeat (first | (with_reducible refine gskip_of ?_) | (with_reducible refine gcskip_of ?_) | (with_reducible refine gopen_of ?_)) <;> simp (disch := first | omega | (simp only [Lx]; omega)) only [go_sem, simprocAttr, hw0])
        exact good (by simp [wbad, hw0]) _ (.le (by simp (disch := first | omega | (simp only [Lx]; omega)) only [go_sem, simprocAttr]))
      | true =>
        simp (disch := first | omega | (simp only [Lx]; omega)) only [go_sem, simprocAttr, hw0]
        refine gcyes_of (callT_ro (by simp (disch := first | omega | (simp only [Lx]; omega)) only [go_sem, simprocAttr]) (digits_ok w (by omega)) (by simp (disch := first | omega | (simp only [Lx]; omega)) only [go_sem, simprocAttr]) rfl rfl ?_)
        cases hd : digB w with
        | false =>
          simp (disch := first | omega | (simp only [Lx]; omega)) only [go_sem, simprocAttr, hw0]
          (repeat (first | (with_reducible refine gskip_of ?_) | (with_reducible refine gcskip_of ?_) | (with_reducible refine gopen_of ?_)) <;> simp (disch := first | omega | (simp only [Lx]; omega)) only [go_sem, simprocAttr, hw0])
          exact good (by simp [wbad, hw0, hd]) _ (.le (by simp (disch := first | omega | (simp only [Lx]; omega)) only [go_sem, simprocAttr]))
        | true =>
          by_cases h1 : 1 < w.length
          · by_cases h2 : (w.getD 0 0).toNat = 48
            · simp (disch := first | omega | (simp only [Lx]; omega)) only [go_sem, simprocAttr, hw0]
              exact bad _ (.le (by simp (disch := first | omega | (simp only [Lx]; omega)) only [go_sem, simprocAttr])) (yes (by unfold wbad; rw [hd, h2]; simp [h1]))
            · simp (disch := first | omega | (simp only [Lx]; omega)) only [go_sem, simprocAttr, hw0]
              exact good (by unfold wbad; simp only [hd, h2, hw0]; simp) _ (.le (by simp (disch := first | omega | (simp only [Lx]; omega)) only [go_sem, simprocAttr]))
          · simp (disch := first | omega | (simp only [Lx]; omega)) only [go_sem, simprocAttr, hw0]
            (repeat (first | (with_reducible refine gskip_of ?_) | (with_reducible refine gcskip_of ?_) | (with_reducible refine gopen_of ?_)) <;> simp (disch := first | omega | (simp only [Lx]; omega)) only [go_sem, simprocAttr, hw0])
            exact good (by unfold wbad; simp only [hd, h1, hw0]; simp) _ (.le (by simp (disch := first | omega | (simp only [Lx]; omega)) only [go_sem, simprocAttr]))
  · rintro _ hinv
    rw [List.take_of_length_le (Nat.le_refl _)] at hinv
    simp (disch := first | omega | (simp only [Lx]; omega)) only [go_sem, simprocAttr]
    exact hR.wk (h' := []) (r' := .bool true) (ar' := [.undef, .undef]) rfl (.le (by simp (disch := first | omega | (simp only [Lx]; omega)) only [go_sem, simprocAttr])) ⟨rfl, by rw [wordsP, hinv]⟩
end Go.Proofs.YtgkcbhdpenmogaaDoor.Sv
namespace Go.Proofs.YtgkcbhdpenmogaaDoor.Sv
open Eng
set_option maxRecDepth 10000
structure Ver where
  mj : Bs
  mi : Bs
  pa : Bs
  pr : Bs
  bu : Bs
  sh : Int
def verA (v : Ver) : AV := .agg [.str v.mj, .str v.mi, .str v.pa, .str v.pr, .str v.bu, .int .i64 v.sh]
def noV : Ver := ⟨[], [], [], [], [], 0⟩
def parseA (o : Option Ver) : AV := .tup [verA (o.getD noV), .bool o.isSome]
def parse7 (mj mi pa bu r : Bs) : Option Ver := if r = [] then some ⟨mj, mi, pa, [], bu, 0⟩ else if (prefP 45 r).2 = true ∧ wordsP (prefP 45 r).1 true = true then some ⟨mj, mi, pa, (prefP 45 r).1, bu, 0⟩ else none
def parse6 (mj mi pa r : Bs) : Option Ver := if (cutP 43 r).2.2 = true ∧ wordsP (cutP 43 r).2.1 false = false then none else parse7 mj mi pa (cutP 43 r).2.1 (cutP 43 r).1
def parse5 (mj mi r : Bs) : Option Ver := if (numP r).2.2 = false then none else parse6 mj mi (numP r).1 (numP r).2.1
def parse4 (mj mi r : Bs) : Option Ver := if r = [] then some ⟨mj, mi, [48], [], [], 1⟩ else if ¬ (r.getD 0 0).toNat = 46 then none else parse5 mj mi (r.drop 1)
def parse3 (mj r : Bs) : Option Ver := if (numP r).2.2 = false then none else parse4 mj (numP r).1 (numP r).2.1
def parse2 (mj r : Bs) : Option Ver := if r = [] then some ⟨mj, [48], [48], [], [], 2⟩ else if ¬ (r.getD 0 0).toNat = 46 then none else parse3 mj (r.drop 1)
def parse1 (r : Bs) : Option Ver := if (numP r).2.2 = false then none else parse2 (numP r).1 (numP r).2.1
def parseP (s : Bs) : Option Ver := if (prefP 118 s).2 = false ∨ 100 < s.length then none else parse1 (prefP 118 s).1
theorem prefP_len (c : UInt8) (s : Bs) : (prefP c s).1.length ≤ s.length := by
  cases s with
  | nil => simp [prefP]
  | cons x r => simp only [prefP]; split <;> simp
theorem numP_len (s : Bs) : (numP s).1.length ≤ s.length ∧ (numP s).2.1.length ≤ s.length := by
  unfold numP
  split
  · simp
  · simp only [List.length_take, List.length_drop]; omega
theorem cutP_len (c : UInt8) : ∀ s : Bs, (cutP c s).1.length ≤ s.length ∧ (cutP c s).2.1.length ≤ s.length
  | [] => by simp [cutP]
  | x :: r => by
    have := cutP_len c r
    simp only [cutP]
    split
    · simp
    · simp; omega
def zeroC : List AV := [.str [], .str [], .str [], .str [], .str [], .int .i64 0]
theorem parse_ok (s : Bs) (hs : s.length ≤ 9223372036854775807) : SpecR Tryd.prog 15 [.str s] (parseA (parseP s)) := by
  refine Cod.parse_spec (fun E R hN hR => ?_)
  have fin : ∀ v : Ver, parseP s = some v → PostTo (fun h r _ => h = [] ∧ r = .tup [verA v, .bool true]) R := fun v hv => by
    have := hR
    rw [hv] at this
    exact this
  simp (disch := first | omega | (simp only [Lx]; omega)) only [go_sem, simprocAttr]
  refine vcW_scope (y := .seq .skip Cod.parse_16) hN 0 rfl (fun _ : Unit => ⟨[(2, .vptr 4002 0)], [(4002, .var zeroC)]⟩) (fun _ => parseP s = none) (fun R2 hgo => ?_) (fun _ hno => ?_)
  rotate_left
  · simp (disch := first | omega | (simp only [Lx]; omega)) only [go_sem, simprocAttr, vcW_seq, zeroC]
    exact hR.wk (h' := []) (r' := .tup [verA noV, .bool false]) (ar' := [.undef]) rfl (.le (by simp (disch := first | omega | (simp only [Lx]; omega)) only [go_sem, simprocAttr, verA, noV])) ⟨rfl, by rw [hno]; rfl⟩
  have hpf := cutPrefix_ok s 118 hs
  obtain ⟨r0, is, hq0⟩ : ∃ a b, prefP 118 s = (a, b) := ⟨_, _, rfl⟩
  have hl0 := prefP_len 118 s
  rw [hq0] at hpf hl0
  simp (disch := first | omega | (simp only [Lx]; omega)) only [go_sem, simprocAttr]
  refine call_ro hpf rfl rfl ?_
  have hP : parseP s = if is = false ∨ 100 < s.length then none else parse1 r0 := by rw [parseP, hq0]
  clear hq0
  simp only at hpf hl0
  cases is with
  | false =>
    simp (disch := first | omega | (simp only [Lx]; omega)) only [go_sem, simprocAttr]
    (repeat (first | (with_reducible refine gskip_of ?_) | (with_reducible refine gcskip_of ?_) | (with_reducible refine gopen_of ?_)) <;> simp (disch := first | omega | (simp only [Lx]; omega)) only [go_sem, simprocAttr])
    exact hgo () _ (by rw [hP, if_pos (.inl rfl)]) (.le (by simp (disch := first | omega | (simp only [Lx]; omega)) only [go_sem, simprocAttr, zeroC]))
  | true =>
    by_cases h100 : 100 < s.length
    · simp (disch := first | omega | (simp only [Lx]; omega)) only [go_sem, simprocAttr]
      exact hgo () _ (by rw [hP, if_pos (.inr h100)]) (.le (by simp (disch := first | omega | (simp only [Lx]; omega)) only [go_sem, simprocAttr, zeroC]))
    rw [if_neg (fun h => h.elim (fun h => by cases h) h100), parse1] at hP
    have hn := number_ok r0 (by omega)
    have hnl := numP_len r0
    obtain ⟨mj, r1, ok1, hq1⟩ : ∃ a b c, numP r0 = (a, b, c) := ⟨_, _, _, rfl⟩
    rw [hq1] at hn hnl hP
    simp only [cutA] at hn hnl hP
    simp (disch := first | omega | (simp only [Lx]; omega)) only [go_sem, simprocAttr]
    refine call_ro hn rfl rfl ?_
    cases ok1 with
    | false =>
      simp (disch := first | omega | (simp only [Lx]; omega)) only [go_sem, simprocAttr]
      exact hgo () _ (by rw [hP, if_pos rfl]) (.le (by simp (disch := first | omega | (simp only [Lx]; omega)) only [go_sem, simprocAttr, zeroC]))
    | true =>
    rw [if_neg (by decide), parse2] at hP
    by_cases hr1 : r1 = []
    · rw [if_pos hr1] at hP
      simp (disch := first | omega | (simp only [Lx]; omega)) only [go_sem, simprocAttr, hr1]
      exact (fin _ hP).wk (h' := []) (r' := .tup [verA ⟨mj, [48], [48], [], [], 2⟩, .bool true]) (ar' := [.undef]) rfl (.le (by simp (disch := first | omega | (simp only [Lx]; omega)) only [go_sem, simprocAttr, verA])) ⟨rfl, rfl⟩
    have hl1 : 0 < r1.length := List.length_pos_iff.2 hr1
    rw [if_neg hr1] at hP
    by_cases hd1 : (r1.getD 0 0).toNat = 46
    rotate_left
    · simp (disch := first | omega | (simp only [Lx]; omega)) only [go_sem, simprocAttr, hr1]
      exact hgo () _ (by rw [hP, if_pos hd1]) (.le (by simp (disch := first | omega | (simp only [Lx]; omega)) only [go_sem, simprocAttr, zeroC]))
    rw [if_neg (fun h => h hd1), parse3] at hP
    have hn2 := number_ok (r1.drop 1) (by simp; omega)
    have hnl2 := numP_len (r1.drop 1)
    rw [List.length_drop] at hnl2
    obtain ⟨mi, r2, ok2, hq2⟩ : ∃ a b c, numP (r1.drop 1) = (a, b, c) := ⟨_, _, _, rfl⟩
    rw [hq2] at hn2 hnl2 hP
    simp only [cutA] at hn2 hnl2 hP
    simp (disch := first | omega | (simp only [Lx]; omega)) only [go_sem, simprocAttr, hr1]
    refine call_ro hn2 rfl rfl ?_
    cases ok2 with
    | false =>
      simp (disch := first | omega | (simp only [Lx]; omega)) only [go_sem, simprocAttr]
      exact hgo () _ (by rw [hP, if_pos rfl]) (.le (by simp (disch := first | omega | (simp only [Lx]; omega)) only [go_sem, simprocAttr, zeroC]))
    | true =>
    rw [if_neg (by decide), parse4] at hP
    by_cases hr2 : r2 = []
    · rw [if_pos hr2] at hP
      simp (disch := first | omega | (simp only [Lx]; omega)) only [go_sem, simprocAttr, hr2]
      exact (fin _ hP).wk (h' := []) (r' := .tup [verA ⟨mj, mi, [48], [], [], 1⟩, .bool true]) (ar' := [.undef]) rfl (.le (by simp (disch := first | omega | (simp only [Lx]; omega)) only [go_sem, simprocAttr, verA])) ⟨rfl, rfl⟩
    have hl2 : 0 < r2.length := List.length_pos_iff.2 hr2
    rw [if_neg hr2] at hP
    by_cases hd2 : (r2.getD 0 0).toNat = 46
    rotate_left
    · simp (disch := first | omega | (simp only [Lx]; omega)) only [go_sem, simprocAttr, hr2]
      exact hgo () _ (by rw [hP, if_pos hd2]) (.le (by simp (disch := first | omega | (simp only [Lx]; omega)) only [go_sem, simprocAttr, zeroC]))
    rw [if_neg (fun h => h hd2), parse5] at hP
    have hn3 := number_ok (r2.drop 1) (by simp; omega)
    have hnl3 := numP_len (r2.drop 1)
    rw [List.length_drop] at hnl3
    obtain ⟨pa, r3, ok3, hq3⟩ : ∃ a b c, numP (r2.drop 1) = (a, b, c) := ⟨_, _, _, rfl⟩
    rw [hq3] at hn3 hnl3 hP
    simp only [cutA] at hn3 hnl3 hP
    simp (disch := first | omega | (simp only [Lx]; omega)) only [go_sem, simprocAttr, hr2]
    refine call_ro hn3 rfl rfl ?_
    cases ok3 with
    | false =>
      simp (disch := first | omega | (simp only [Lx]; omega)) only [go_sem, simprocAttr]
      exact hgo () _ (by rw [hP, if_pos rfl]) (.le (by simp (disch := first | omega | (simp only [Lx]; omega)) only [go_sem, simprocAttr, zeroC]))
    | true =>
    rw [if_neg (by decide), parse6] at hP
    have hc := cut_ok r3 43 (by omega)
    have hcl := cutP_len 43 r3
    obtain ⟨r4, bu, hasb, hq4⟩ : ∃ a b c, cutP 43 r3 = (a, b, c) := ⟨_, _, _, rfl⟩
    rw [hq4] at hc hcl hP
    simp only [cutA] at hc hcl hP
    simp (disch := first | omega | (simp only [Lx]; omega)) only [go_sem, simprocAttr]
    refine call_ro hc rfl rfl ?_
    have tail : parseP s = parse7 mj mi pa bu r4 → ifW Tryd.prog E (decide (r4 = [])) Cod.parse_23 .skip (KQ.seq Tryd.prog E Cod.parse_14 (KQ.jmp 0 R2 (KQ.post [RVar.cell 2 true 6, RVar.tmp 3] 1 R)))
        ⟨[(2, .vptr 4002 0), (4, .vptr 4004 0), (6, .str r4), (81, .bool (decide (r4 = [])))], [(4004, .var [.str mj, .str mi, .str pa, .str [], .str bu, .int .i64 0]), (4002, .var [.str [], .str [], .str [], .str [], .str [], .int .i64 0])]⟩ := by
      intro hP
      rw [parse7] at hP
      by_cases hr4 : r4 = []
      · rw [if_pos hr4] at hP
        simp (disch := first | omega | (simp only [Lx]; omega)) only [go_sem, simprocAttr, hr4]
        exact (fin _ hP).wk (h' := []) (r' := .tup [verA ⟨mj, mi, pa, [], bu, 0⟩, .bool true]) (ar' := [.undef]) rfl (.le (by simp (disch := first | omega | (simp only [Lx]; omega)) only [go_sem, simprocAttr, verA])) ⟨rfl, rfl⟩
      rw [if_neg hr4] at hP
      have hpf := cutPrefix_ok r4 45 (by omega)
      have hpl := prefP_len 45 r4
      obtain ⟨pr, hasp, hq5⟩ : ∃ a b, prefP 45 r4 = (a, b) := ⟨_, _, rfl⟩
      rw [hq5] at hpf hpl hP
      simp only at hpf hpl hP
      simp (disch := first | omega | (simp only [Lx]; omega)) only [go_sem, simprocAttr, hr4]
      refine call_ro hpf rfl rfl ?_
      cases hasp with
      | false =>
        simp (disch := first | omega | (simp only [Lx]; omega)) only [go_sem, simprocAttr]
        (repeat (first | (with_reducible refine gskip_of ?_) | (with_reducible refine gcskip_of ?_) | (with_reducible refine gopen_of ?_)) <;> simp (disch := first | omega | (simp only [Lx]; omega)) only [go_sem, simprocAttr])
        exact hR.wk (h' := []) (r' := .tup [verA noV, .bool false]) (ar' := [.undef]) rfl (.le (by simp (disch := first | omega | (simp only [Lx]; omega)) only [go_sem, simprocAttr, verA, noV])) ⟨rfl, by rw [hP, if_neg (fun h => by cases h.1)]; rfl⟩
      | true =>
        simp (disch := first | omega | (simp only [Lx]; omega)) only [go_sem, simprocAttr]
        refine gcyes_of (callT_ro (by simp (disch := first | omega | (simp only [Lx]; omega)) only [go_sem, simprocAttr]) (words_ok pr true (by omega)) (by simp (disch := first | omega | (simp only [Lx]; omega)) only [go_sem, simprocAttr]) rfl rfl ?_)
        cases hw : wordsP pr true with
        | false =>
          simp (disch := first | omega | (simp only [Lx]; omega)) only [go_sem, simprocAttr]
          exact hR.wk (h' := []) (r' := .tup [verA noV, .bool false]) (ar' := [.undef]) rfl (.le (by simp (disch := first | omega | (simp only [Lx]; omega)) only [go_sem, simprocAttr, verA, noV])) ⟨rfl, by rw [hP, if_neg (fun h => by rw [hw] at h; cases h.2)]; rfl⟩
        | true =>
          rw [if_pos ⟨rfl, hw⟩] at hP
          simp (disch := first | omega | (simp only [Lx]; omega)) only [go_sem, simprocAttr]
          exact (fin _ hP).wk (h' := []) (r' := .tup [verA ⟨mj, mi, pa, pr, bu, 0⟩, .bool true]) (ar' := [.undef]) rfl (.le (by simp (disch := first | omega | (simp only [Lx]; omega)) only [go_sem, simprocAttr, verA])) ⟨rfl, rfl⟩
    cases hasb with
    | false =>
      simp (disch := first | omega | (simp only [Lx]; omega)) only [go_sem, simprocAttr]
      (repeat (first | (with_reducible refine gskip_of ?_) | (with_reducible refine gcskip_of ?_) | (with_reducible refine gopen_of ?_)) <;> simp (disch := first | omega | (simp only [Lx]; omega)) only [go_sem, simprocAttr])
      exact tail (by rw [hP, if_neg (fun h => by cases h.1)])
    | true =>
      simp (disch := first | omega | (simp only [Lx]; omega)) only [go_sem, simprocAttr]
      refine gcyes_of (callT_ro (by simp (disch := first | omega | (simp only [Lx]; omega)) only [go_sem, simprocAttr]) (words_ok bu false (by omega)) (by simp (disch := first | omega | (simp only [Lx]; omega)) only [go_sem, simprocAttr]) rfl rfl ?_)
      cases hw : wordsP bu false with
      | false =>
        simp (disch := first | omega | (simp only [Lx]; omega)) only [go_sem, simprocAttr]
        exact hgo () _ (by rw [hP, if_pos ⟨rfl, hw⟩]) (.le (by simp (disch := first | omega | (simp only [Lx]; omega)) only [go_sem, simprocAttr, zeroC]))
      | true =>
        simp (disch := first | omega | (simp only [Lx]; omega)) only [go_sem, simprocAttr]
        exact tail (by rw [hP, if_neg (fun h => by rw [hw] at h; cases h.2)])
end Go.Proofs.YtgkcbhdpenmogaaDoor.Sv
namespace Go.Proofs.YtgkcbhdpenmogaaDoor.Sv
open Eng
set_option maxRecDepth 10000
def wordCmp (x y : Bs) : Int := if digB x = true ∧ digB y = true then numCmp x y else if digB x = true then -1 else if digB y = true then 1 else Lib.compareBytes x y
def wcmp : Nat → Bs → Bs → Int
  | 0, a, _ => if a = [] then -1 else 1
  | n + 1, a, b => if a = [] then -1 else if b = [] then 1 else
    if (cutP 46 a).1 = (cutP 46 b).1 then wcmp n (cutP 46 a).2.1 (cutP 46 b).2.1 else wordCmp (cutP 46 a).1 (cutP 46 b).1
def byWordsP (a b : Bs) : Int := if a = b then 0 else if a = [] then 1 else if b = [] then -1 else wcmp a.length a b
theorem cutP_short (c : UInt8) : ∀ {s : Bs}, s ≠ [] → (cutP c s).2.1.length < s.length
  | [], h => absurd rfl h
  | x :: r, _ => by
    simp only [cutP]
    split
    · simp
    · have := (cutP_len c r).2
      simp; omega
theorem byWords_ok (a b : Bs) (ha : a.length ≤ 9223372036854775807) (hb : b.length ≤ 9223372036854775807) : SpecR Tryd.prog 34 [.str a, .str b] (.int .i64 (byWordsP a b)) := by
  refine Cod.byWords_spec (fun E R hN hR => ?_)
  by_cases hab : a = b
  · simp (disch := first | omega | (simp only [Lx]; omega)) only [go_sem, simprocAttr, hab]
    exact hR.ro ⟨rfl, by rw [byWordsP, if_pos hab]⟩
  by_cases ha0 : a = []
  · subst ha0
    simp (disch := first | omega | (simp only [Lx]; omega)) only [go_sem, simprocAttr, hab]
    exact hR.ro ⟨rfl, by rw [byWordsP, if_neg hab, if_pos rfl]⟩
  by_cases hb0 : b = []
  · subst hb0
    simp (disch := first | omega | (simp only [Lx]; omega)) only [go_sem, simprocAttr, hab]
    exact hR.ro ⟨rfl, by rw [byWordsP, if_neg hab, if_neg ha0, if_pos rfl]⟩
  have hP : byWordsP a b = wcmp a.length a b := by rw [byWordsP, if_neg hab, if_neg ha0, if_neg hb0]
  rw [hP] at hR
  clear hP
  simp (disch := first | omega | (simp only [Lx]; omega)) only [go_sem, simprocAttr, hab, ha0, hb0]
  clear hab ha0 hb0
  obtain ⟨V, hV⟩ : ∃ V, V = wcmp a.length a b := ⟨_, rfl⟩
  rw [← hV] at hR
  refine vcW_loop hN (fun q : Nat × Bs × Bs => ⟨[(0, .str q.2.1), (1, .str q.2.2)], []⟩) (fun q => q.2.1.length ≤ q.1 ∧ q.2.1.length ≤ 9223372036854775807 ∧ q.2.2.length ≤ 9223372036854775807 ∧ wcmp q.1 q.2.1 q.2.2 = V) (fun q => q.1) (a.length, a, b) (.le (by simp (disch := first | omega | (simp only [Lx]; omega)) only [go_sem, simprocAttr])) ⟨Nat.le_refl _, ha, hb, hV.symm⟩ ?_
  rintro ⟨n, c, d⟩ R1 ⟨hn, hc, hd, hw⟩ hR1
  simp only at hn hc hd hw
  by_cases hc0 : c = []
  · subst hc0
    have hv : V = -1 := by
      rw [← hw]
      cases n <;> simp [wcmp]
    simp (disch := first | omega | (simp only [Lx]; omega)) only [go_sem, simprocAttr]
    (repeat (first | (with_reducible refine gskip_of ?_) | (with_reducible refine gcskip_of ?_) | (with_reducible refine gopen_of ?_)) <;> simp (disch := first | omega | (simp only [Lx]; omega)) only [go_sem, simprocAttr])
    exact hR.ro ⟨rfl, by rw [hv]⟩
  have hcl : 0 < c.length := List.length_pos_iff.2 hc0
  obtain ⟨n, rfl⟩ : ∃ m, n = m + 1 := ⟨n - 1, by omega⟩
  by_cases hd0 : d = []
  · subst hd0
    have hv : V = 1 := by
      rw [← hw, wcmp, if_neg hc0, if_pos rfl]
    simp (disch := first | omega | (simp only [Lx]; omega)) only [go_sem, simprocAttr, hc0]
    exact hR.ro ⟨rfl, by rw [hv]⟩
  rw [wcmp, if_neg hc0, if_neg hd0] at hw
  have h1 := cut_ok c 46 hc
  have h2 := cut_ok d 46 hd
  have s1 := cutP_short 46 hc0
  have l1 := cutP_len 46 c
  have l2 := cutP_len 46 d
  obtain ⟨x, c', fx, q1⟩ : ∃ x y z, cutP 46 c = (x, y, z) := ⟨_, _, _, rfl⟩
  obtain ⟨y, d', fy, q2⟩ : ∃ x y z, cutP 46 d = (x, y, z) := ⟨_, _, _, rfl⟩
  rw [q1] at h1 s1 l1 hw
  rw [q2] at h2 l2 hw
  simp only [cutA] at h1 h2 s1 l1 l2 hw
  simp (disch := first | omega | (simp only [Lx]; omega)) only [go_sem, simprocAttr, hc0, hd0]
  refine call_ro h1 rfl rfl ?_
  simp (disch := first | omega | (simp only [Lx]; omega)) only [go_sem, simprocAttr]
  refine call_ro h2 rfl rfl ?_
  by_cases hxy : x = y
  · rw [if_pos hxy] at hw
    simp (disch := first | omega | (simp only [Lx]; omega)) only [go_sem, simprocAttr, hxy]
    exact hR1 (n, c', d') _ (by simp only; omega) ⟨by simp only; omega, by simp only; omega, by simp only; omega, hw⟩ (.le (by simp (disch := first | omega | (simp only [Lx]; omega)) only [go_sem, simprocAttr]))
  rw [if_neg hxy] at hw
  simp (disch := first | omega | (simp only [Lx]; omega)) only [go_sem, simprocAttr, hxy]
  refine call_ro (digits_ok x (by omega)) rfl rfl ?_
  simp (disch := first | omega | (simp only [Lx]; omega)) only [go_sem, simprocAttr]
  refine call_ro (digits_ok y (by omega)) rfl rfl ?_
  cases hdx : digB x with
  | true =>
    cases hdy : digB y with
    | true =>
      simp (disch := first | omega | (simp only [Lx]; omega)) only [go_sem, simprocAttr]
      refine call_ro (byNumber_ok x y (by omega) (by omega)) rfl rfl ?_
      simp (disch := first | omega | (simp only [Lx]; omega)) only [go_sem, simprocAttr]
      exact hR.ro ⟨rfl, by rw [← hw, wordCmp, if_pos ⟨hdx, hdy⟩]⟩
    | false =>
      simp (disch := first | omega | (simp only [Lx]; omega)) only [go_sem, simprocAttr]
      exact hR.ro ⟨rfl, by rw [← hw, wordCmp, if_neg (fun h => by rw [hdy] at h; cases h.2), if_pos hdx]⟩
  | false =>
    cases hdy : digB y with
    | true =>
      simp (disch := first | omega | (simp only [Lx]; omega)) only [go_sem, simprocAttr]
      (repeat (first | (with_reducible refine gskip_of ?_) | (with_reducible refine gcskip_of ?_) | (with_reducible refine gopen_of ?_)) <;> simp (disch := first | omega | (simp only [Lx]; omega)) only [go_sem, simprocAttr])
      exact hR.ro ⟨rfl, by rw [← hw, wordCmp, if_neg (fun h => by rw [hdx] at h; cases h.1), if_neg (by rw [hdx]; simp), if_pos hdy]⟩
    | false =>
      simp (disch := first | omega | (simp only [Lx]; omega)) only [go_sem, simprocAttr]
      (repeat (first | (with_reducible refine gskip_of ?_) | (with_reducible refine gcskip_of ?_) | (with_reducible refine gopen_of ?_)) <;> simp (disch := first | omega | (simp only [Lx]; omega)) only [go_sem, simprocAttr])
      refine call_ro (compareS_ok x y) rfl rfl ?_
      simp (disch := first | omega | (simp only [Lx]; omega)) only [go_sem, simprocAttr]
      exact hR.ro ⟨rfl, by rw [← hw, wordCmp, if_neg (fun h => by rw [hdx] at h; cases h.1), if_neg (by rw [hdx]; simp), if_neg (by rw [hdy]; simp)]⟩
/- COMPARE -/
def cmpV (v w : Ver) : Int := if numCmp v.mj w.mj ≠ 0 then numCmp v.mj w.mj else if numCmp v.mi w.mi ≠ 0 then numCmp v.mi w.mi else if numCmp v.pa w.pa ≠ 0 then numCmp v.pa w.pa else byWordsP v.pr w.pr
def cmpO : Option Ver → Option Ver → Int
  | none, none => 0
  | some _, none => 1
  | none, some _ => -1
  | some v, some w => cmpV v w
def cmpP (a b : Bs) : Int := cmpO (parseP a) (parseP b)
theorem parse7_len {mj mi pa bu r : Bs} {v : Ver} (h : parse7 mj mi pa bu r = some v) : v.mj = mj ∧ v.mi = mi ∧ v.pa = pa ∧ v.bu = bu ∧ v.pr.length ≤ r.length := by
  unfold parse7 at h
  have := prefP_len 45 r
  split at h
  · cases h; simp
  · split at h
    · cases h; exact ⟨rfl, rfl, rfl, rfl, this⟩
    · cases h
theorem parse6_len {mj mi pa r : Bs} {v : Ver} (h : parse6 mj mi pa r = some v) : v.mj = mj ∧ v.mi = mi ∧ v.pa = pa ∧ v.bu.length ≤ r.length ∧ v.pr.length ≤ r.length := by
  unfold parse6 at h
  have := cutP_len 43 r
  split at h
  · cases h
  · obtain ⟨h1, h2, h3, h4, h5⟩ := parse7_len h
    exact ⟨h1, h2, h3, by rw [h4]; exact this.2, Nat.le_trans h5 this.1⟩
theorem parse5_len {mj mi r : Bs} {v : Ver} (h : parse5 mj mi r = some v) : v.mj = mj ∧ v.mi = mi ∧ v.pa.length ≤ r.length ∧ v.bu.length ≤ r.length ∧ v.pr.length ≤ r.length := by
  unfold parse5 at h
  have := numP_len r
  split at h
  · cases h
  · obtain ⟨h1, h2, h3, h4, h5⟩ := parse6_len h
    exact ⟨h1, h2, by rw [h3]; exact this.1, Nat.le_trans h4 this.2, Nat.le_trans h5 this.2⟩
theorem parse4_len {mj mi r : Bs} {v : Ver} (h : parse4 mj mi r = some v) : v.mj = mj ∧ v.mi = mi ∧ v.pa.length ≤ r.length + 1 ∧ v.bu.length ≤ r.length ∧ v.pr.length ≤ r.length := by
  unfold parse4 at h
  split at h
  · cases h; simp
  · split at h
    · cases h
    · obtain ⟨h1, h2, h3, h4, h5⟩ := parse5_len h
      simp only [List.length_drop] at h3 h4 h5
      exact ⟨h1, h2, by omega, by omega, by omega⟩
theorem parse3_len {mj r : Bs} {v : Ver} (h : parse3 mj r = some v) : v.mj = mj ∧ v.mi.length ≤ r.length ∧ v.pa.length ≤ r.length + 1 ∧ v.bu.length ≤ r.length ∧ v.pr.length ≤ r.length := by
  unfold parse3 at h
  have := numP_len r
  split at h
  · cases h
  · obtain ⟨h1, h2, h3, h4, h5⟩ := parse4_len h
    exact ⟨h1, by rw [h2]; exact this.1, by omega, by omega, by omega⟩
theorem parse2_len {mj r : Bs} {v : Ver} (h : parse2 mj r = some v) : v.mj = mj ∧ v.mi.length ≤ r.length + 1 ∧ v.pa.length ≤ r.length + 1 ∧ v.bu.length ≤ r.length ∧ v.pr.length ≤ r.length := by
  unfold parse2 at h
  split at h
  · cases h; simp
  · split at h
    · cases h
    · obtain ⟨h1, h2, h3, h4, h5⟩ := parse3_len h
      simp only [List.length_drop] at h2 h3 h4 h5
      exact ⟨h1, by omega, by omega, by omega, by omega⟩
theorem parseP_len {s : Bs} {v : Ver} (h : parseP s = some v) : s.length ≤ 100 ∧ v.mj.length ≤ 101 ∧ v.mi.length ≤ 101 ∧ v.pa.length ≤ 101 ∧ v.pr.length ≤ 101 ∧ v.bu.length ≤ 101 := by
  unfold parseP at h
  have p := prefP_len 118 s
  split at h
  · cases h
  · rename_i hn
    have hs : s.length ≤ 100 := by omega
    unfold parse1 at h
    have := numP_len (prefP 118 s).1
    split at h
    · cases h
    · obtain ⟨h1, h2, h3, h4, h5⟩ := parse2_len h
      exact ⟨hs, by rw [h1]; omega, by omega, by omega, by omega, by omega⟩
def firstNZ : List Int → Int
  | [] => 0
  | x :: r => if x ≠ 0 then x else firstNZ r
theorem firstNZ_at : ∀ (l : List Int) (j : Nat), (l.take j).all (fun x => decide (x = 0)) = true → j < l.length → l.getD j 0 ≠ 0 → firstNZ l = l.getD j 0
  | [], j, _, h, _ => by simp at h
  | x :: r, 0, _, _, h => by
    have h : x ≠ 0 := by simpa using h
    simp [firstNZ, h]
  | x :: r, j + 1, h1, h2, h3 => by
    simp only [List.take_succ_cons, List.all_cons, Bool.and_eq_true, decide_eq_true_eq] at h1
    rw [firstNZ, if_neg (by simp [h1.1]), firstNZ_at r j h1.2 (by simpa using h2) (by simpa using h3)]
    simp
theorem firstNZ_none : ∀ (l : List Int), l.all (fun x => decide (x = 0)) = true → firstNZ l = 0
  | [], _ => rfl
  | x :: r, h => by
    simp only [List.all_cons, Bool.and_eq_true, decide_eq_true_eq] at h
    rw [firstNZ, if_neg (by simp [h.1]), firstNZ_none r h.2]
theorem compare_ok (a b : Bs) (ha : a.length ≤ 9223372036854775807) (hb : b.length ≤ 9223372036854775807) : SpecR Tryd.prog 13 [.str a, .str b] (.int .i64 (cmpP a b)) := by
  refine Cod.compare_spec (fun E R hN hR => ?_)
  have h1 := parse_ok a ha
  have h2 := parse_ok b hb
  have l1 := @parseP_len a
  have l2 := @parseP_len b
  rw [cmpP] at hR
  cases hp : parseP a with
  | none =>
    rw [hp] at h1 hR
    cases hq : parseP b with
    | none =>
      rw [hq] at h2 hR
      simp only [parseA, verA, noV, Option.getD_none, Option.isSome_none] at h1 h2
      simp (disch := first | omega | (simp only [Lx]; omega)) only [go_sem, simprocAttr]
      refine call_ro h1 rfl rfl ?_
      simp (disch := first | omega | (simp only [Lx]; omega)) only [go_sem, simprocAttr]
      refine call_ro h2 rfl rfl ?_
      simp (disch := first | omega | (simp only [Lx]; omega)) only [go_sem, simprocAttr]
      (repeat (first | (with_reducible refine gskip_of ?_) | (with_reducible refine gcskip_of ?_) | (with_reducible refine gopen_of ?_)) <;> simp (disch := first | omega | (simp only [Lx]; omega)) only [go_sem, simprocAttr])
      exact hR.wk (h' := []) (r' := .int .i64 0) (ar' := [.undef, .undef]) rfl (.le (by simp (disch := first | omega | (simp only [Lx]; omega)) only [go_sem, simprocAttr])) ⟨rfl, rfl⟩
    | some w =>
      rw [hq] at h2 hR
      simp only [parseA, verA, noV, Option.getD_none, Option.isSome_none, Option.getD_some, Option.isSome_some] at h1 h2
      simp (disch := first | omega | (simp only [Lx]; omega)) only [go_sem, simprocAttr]
      refine call_ro h1 rfl rfl ?_
      simp (disch := first | omega | (simp only [Lx]; omega)) only [go_sem, simprocAttr]
      refine call_ro h2 rfl rfl ?_
      simp (disch := first | omega | (simp only [Lx]; omega)) only [go_sem, simprocAttr]
      (repeat (first | (with_reducible refine gskip_of ?_) | (with_reducible refine gcskip_of ?_) | (with_reducible refine gopen_of ?_)) <;> simp (disch := first | omega | (simp only [Lx]; omega)) only [go_sem, simprocAttr])
      exact hR.wk (h' := []) (r' := .int .i64 (-1)) (ar' := [.undef, .undef]) rfl (.le (by simp (disch := first | omega | (simp only [Lx]; omega)) only [go_sem, simprocAttr])) ⟨rfl, rfl⟩
  | some v =>
    rw [hp] at h1 hR
    cases hq : parseP b with
    | none =>
      rw [hq] at h2 hR
      simp only [parseA, verA, noV, Option.getD_none, Option.isSome_none, Option.getD_some, Option.isSome_some] at h1 h2
      simp (disch := first | omega | (simp only [Lx]; omega)) only [go_sem, simprocAttr]
      refine call_ro h1 rfl rfl ?_
      simp (disch := first | omega | (simp only [Lx]; omega)) only [go_sem, simprocAttr]
      refine call_ro h2 rfl rfl ?_
      simp (disch := first | omega | (simp only [Lx]; omega)) only [go_sem, simprocAttr]
      (repeat (first | (with_reducible refine gskip_of ?_) | (with_reducible refine gcskip_of ?_) | (with_reducible refine gopen_of ?_)) <;> simp (disch := first | omega | (simp only [Lx]; omega)) only [go_sem, simprocAttr])
      exact hR.wk (h' := []) (r' := .int .i64 1) (ar' := [.undef, .undef]) rfl (.le (by simp (disch := first | omega | (simp only [Lx]; omega)) only [go_sem, simprocAttr])) ⟨rfl, rfl⟩
    | some w =>
      rw [hq] at h2 hR
      obtain ⟨_, a1, a2, a3, a4, _⟩ := l1 hp
      obtain ⟨_, b1, b2, b3, b4, _⟩ := l2 hq
      simp only [parseA, verA, Option.getD_some, Option.isSome_some] at h1 h2
      simp (disch := first | omega | (simp only [Lx]; omega)) only [go_sem, simprocAttr]
      refine call_ro h1 rfl rfl ?_
      simp (disch := first | omega | (simp only [Lx]; omega)) only [go_sem, simprocAttr]
      refine call_ro h2 rfl rfl ?_
      simp (disch := first | omega | (simp only [Lx]; omega)) only [go_sem, simprocAttr]
      refine call_ro (byNumber_ok v.mj w.mj (by omega) (by omega)) rfl rfl ?_
      simp (disch := first | omega | (simp only [Lx]; omega)) only [go_sem, simprocAttr]
      refine call_ro (byNumber_ok v.mi w.mi (by omega) (by omega)) rfl rfl ?_
      simp (disch := first | omega | (simp only [Lx]; omega)) only [go_sem, simprocAttr]
      refine call_ro (byNumber_ok v.pa w.pa (by omega) (by omega)) rfl rfl ?_
      simp (disch := first | omega | (simp only [Lx]; omega)) only [go_sem, simprocAttr]
      refine call_ro (byWords_ok v.pr w.pr (by omega) (by omega)) rfl rfl ?_
      simp (disch := first | omega | (simp only [Lx]; omega)) only [go_sem, simprocAttr]
      have hc : cmpV v w = firstNZ [numCmp v.mj w.mj, numCmp v.mi w.mi, numCmp v.pa w.pa, byWordsP v.pr w.pr] := by
        simp only [cmpV, firstNZ]
        split <;> (try rfl) <;> split <;> (try rfl) <;> split <;> (try rfl) <;> split <;> omega
      have hR' : PostTo (fun h r _ => h = [] ∧ r = .int .i64 (firstNZ [numCmp v.mj w.mj, numCmp v.mi w.mi, numCmp v.pa w.pa, byWordsP v.pr w.pr])) R := by
        rw [← hc]; exact hR
      obtain ⟨L, hL⟩ : ∃ L, L = [numCmp v.mj w.mj, numCmp v.mi w.mi, numCmp v.pa w.pa, byWordsP v.pr w.pr] := ⟨_, rfl⟩
      have hLl : L.length = 4 := by rw [hL]; rfl
      rw [← hL] at hR'
      refine vcW_loop hN (fun j : Nat => ⟨[(51, .sl 10051 0 4), (52, .int .i64 4), (53, .int .i64 j)], [(10051, .arr 1 (ints L))]⟩) (fun j => j ≤ 4 ∧ (L.take j).all (fun x => decide (x = 0)) = true) (fun j => 4 - j) 0 (.le (by simp (disch := first | omega | (simp only [Lx]; omega)) only [go_sem, simprocAttr, hL])) ⟨by omega, by simp⟩ ?_
      rintro j R1 ⟨hj, hz⟩ hR1
      by_cases hlt : j < 4
      · have htj := take_succB 0 L (by omega : j < L.length)
        simp (disch := first | omega | (simp only [Lx]; omega)) only [go_sem, simprocAttr]
        refine ifW_dec (fun he => ?_) (fun he => ?_)
        · simp (disch := first | omega | (simp only [Lx]; omega)) only [go_sem, simprocAttr]
          exact hR'.wk (h' := []) (r' := .int .i64 (L.getD j 0)) (ar' := [.undef, .undef]) rfl (.le (by simp (disch := first | omega | (simp only [Lx]; omega)) only [go_sem, simprocAttr])) ⟨rfl, by rw [firstNZ_at L j hz (by omega) he]⟩
        · simp (disch := first | omega | (simp only [Lx]; omega)) only [go_sem, simprocAttr]
          exact hR1 (j + 1) _ (by omega) ⟨by omega, by rw [htj, List.all_append, hz]; simpa using he⟩ (.le (by simp (disch := first | omega | (simp only [Lx]; omega)) only [go_sem, simprocAttr]))
      · obtain rfl : j = 4 := by omega
        rw [List.take_of_length_le (by omega)] at hz
        simp (disch := first | omega | (simp only [Lx]; omega)) only [go_sem, simprocAttr]
        exact hR'.wk (h' := []) (r' := .int .i64 0) (ar' := [.undef, .undef]) rfl (.le (by simp (disch := first | omega | (simp only [Lx]; omega)) only [go_sem, simprocAttr])) ⟨rfl, by rw [firstNZ_none L hz]⟩
end Go.Proofs.YtgkcbhdpenmogaaDoor.Sv
namespace Go.Proofs.YtgkcbhdpenmogaaDoor.Sv
open Eng
set_option maxRecDepth 10000
def canonV (v : Ver) : Bs := if v.pr = [] then [118] ++ v.mj ++ [46] ++ v.mi ++ [46] ++ v.pa else [118] ++ v.mj ++ [46] ++ v.mi ++ [46] ++ v.pa ++ ([45] ++ v.pr)
def canonP (s : Bs) : Bs := match parseP s with
  | none => []
  | some v => canonV v
theorem canonical_ok (s : Bs) (hs : s.length ≤ 9223372036854775807) : SpecR Tryd.prog 14 [.str s] (.str (canonP s)) := by
  refine Cod.canonical_spec (fun E R hN hR => ?_)
  have h1 := parse_ok s hs
  have l1 := @parseP_len s
  rw [canonP] at hR
  cases hp : parseP s with
  | none =>
    rw [hp] at h1 hR
    simp only [parseA, verA, noV, Option.getD_none, Option.isSome_none] at h1
    simp (disch := first | omega | (simp only [Lx]; omega)) only [go_sem, simprocAttr]
    refine call_ro h1 rfl rfl ?_
    simp (disch := first | omega | (simp only [Lx]; omega)) only [go_sem, simprocAttr]
    exact hR.wk (h' := []) (r' := .str []) (ar' := [.undef]) rfl (.le (by simp (disch := first | omega | (simp only [Lx]; omega)) only [go_sem, simprocAttr])) ⟨rfl, rfl⟩
  | some v =>
    rw [hp] at h1 hR
    obtain ⟨_, a1, a2, a3, a4, _⟩ := l1 hp
    simp only [parseA, verA, Option.getD_some, Option.isSome_some] at h1
    simp (disch := first | omega | (simp only [Lx]; omega)) only [go_sem, simprocAttr]
    refine call_ro h1 rfl rfl ?_
    by_cases hpr : v.pr = []
    · simp (disch := first | omega | (simp only [Lx]; omega)) only [go_sem, simprocAttr, hpr]
      exact hR.wk (h' := []) (r' := .str (canonV v)) (ar' := [.undef]) rfl (.le (by rw [canonV, if_pos hpr]; simp (disch := first | omega | (simp only [Lx]; omega)) only [go_sem, simprocAttr])) ⟨rfl, rfl⟩
    · simp (disch := first | omega | (simp only [Lx]; omega)) only [go_sem, simprocAttr, hpr]
      exact hR.wk (h' := []) (r' := .str (canonV v)) (ar' := [.undef]) rfl (.le (by rw [canonV, if_neg hpr]; simp (disch := first | omega | (simp only [Lx]; omega)) only [go_sem, simprocAttr])) ⟨rfl, rfl⟩
end Go.Proofs.YtgkcbhdpenmogaaDoor.Sv
namespace Go.Proofs.YtgkcbhdpenmogaaDoor.Sv
open Eng
structure TP {α : Type} (D : α → Prop) (f : α → α → Int) : Prop where
  anti : ∀ a b, D a → D b → f b a = - f a b
  trans : ∀ a b c, D a → D b → D c → f a b ≤ 0 → f b c ≤ 0 → f a c ≤ 0
  unit : ∀ a b, D a → D b → -1 ≤ f a b ∧ f a b ≤ 1
theorem TP.eq0 {α : Type} {D : α → Prop} {f : α → α → Int} (h : TP D f) {a b c : α} (ha : D a) (hb : D b) (hc : D c) (h1 : f a b ≤ 0) (h2 : f b c ≤ 0) (h3 : f a c = 0) : f a b = 0 ∧ f b c = 0 := by
  have e1 := h.anti a c ha hc
  have e2 := h.trans b c a hb hc ha h2 (by omega)
  have e3 := h.anti a b ha hb
  have e4 := h.trans c a b hc ha hb (by omega) h1
  have e5 := h.anti b c hb hc
  omega
theorem TP.lex {α : Type} {D : α → Prop} {f g : α → α → Int} (h : TP D f) (k : TP D g) : TP D (fun a b => if f a b ≠ 0 then f a b else g a b) where
  anti := fun a b ha hb => by
    have e1 := h.anti a b ha hb
    have e2 := k.anti a b ha hb
    split <;> split <;> omega
  trans := fun a b c ha hb hc h1 h2 => by
    have hab : f a b ≤ 0 := by split at h1 <;> omega
    have hbc : f b c ≤ 0 := by split at h2 <;> omega
    have hac := h.trans a b c ha hb hc hab hbc
    split
    · exact hac
    · rename_i h0
      have h0 : f a c = 0 := by omega
      obtain ⟨e1, e2⟩ := h.eq0 ha hb hc hab hbc h0
      rw [if_neg (by omega)] at h1 h2
      exact k.trans a b c ha hb hc h1 h2
  unit := fun a b ha hb => by
    split
    · exact h.unit a b ha hb
    · exact k.unit a b ha hb
theorem TP.pull {α β : Type} {D : α → Prop} {f : α → α → Int} (h : TP D f) (g : β → α) (D' : β → Prop) (hD : ∀ b, D' b → D (g b)) : TP D' (fun a b => f (g a) (g b)) where
  anti := fun a b ha hb => h.anti _ _ (hD a ha) (hD b hb)
  trans := fun a b c ha hb hc => h.trans _ _ _ (hD a ha) (hD b hb) (hD c hc)
  unit := fun a b ha hb => h.unit _ _ (hD a ha) (hD b hb)
theorem cb_anti : ∀ a b : Bs, Lib.compareBytes b a = - Lib.compareBytes a b
  | [], [] => rfl
  | [], _ :: _ => rfl
  | _ :: _, [] => rfl
  | x :: r, y :: t => by
    simp only [Lib.compareBytes]
    have ih := cb_anti r t
    by_cases h1 : x < y
    · have h2 : ¬ y < x := by simp only [UInt8.lt_iff_toNat_lt] at *; omega
      simp [h1, h2]
    · by_cases h2 : y < x
      · simp [h1, h2]
      · simp [h1, h2, ih]
theorem cb_unit : ∀ a b : Bs, -1 ≤ Lib.compareBytes a b ∧ Lib.compareBytes a b ≤ 1
  | [], [] => by simp [Lib.compareBytes]
  | [], _ :: _ => by simp [Lib.compareBytes]
  | _ :: _, [] => by simp [Lib.compareBytes]
  | x :: r, y :: t => by
    simp only [Lib.compareBytes]
    split
    · omega
    · split
      · omega
      · exact cb_unit r t
theorem cb_zero : ∀ {a b : Bs}, Lib.compareBytes a b = 0 → a = b
  | [], [], _ => rfl
  | [], _ :: _, h => by simp [Lib.compareBytes] at h
  | _ :: _, [], h => by simp [Lib.compareBytes] at h
  | x :: r, y :: t, h => by
    simp only [Lib.compareBytes] at h
    split at h
    · omega
    · split at h
      · omega
      · rename_i h1 h2
        have : x = y := by
          simp only [UInt8.lt_iff_toNat_lt] at h1 h2
          exact UInt8.toNat.inj (by omega)
        rw [this, cb_zero h]
theorem cb_refl : ∀ a : Bs, Lib.compareBytes a a = 0
  | [] => rfl
  | x :: r => by
    have : ¬ x < x := by simp only [UInt8.lt_iff_toNat_lt]; omega
    simp [Lib.compareBytes, this, cb_refl r]
theorem cb_trans : ∀ a b c : Bs, Lib.compareBytes a b ≤ 0 → Lib.compareBytes b c ≤ 0 → Lib.compareBytes a c ≤ 0
  | [], _, [], _, _ => by simp [Lib.compareBytes]
  | [], _, _ :: _, _, _ => by simp [Lib.compareBytes]
  | _ :: _, [], _, h, _ => by simp [Lib.compareBytes] at h
  | _ :: _, _ :: _, [], _, h => by simp [Lib.compareBytes] at h
  | x :: r, y :: t, z :: u, h1, h2 => by
    simp only [Lib.compareBytes, UInt8.lt_iff_toNat_lt] at h1 h2 ⊢
    have ih := cb_trans r t u
    split at h1
    · split at h2
      · rw [if_pos (by omega)]; omega
      · split at h2
        · omega
        · rw [if_pos (by omega)]; omega
    · split at h1
      · omega
      · split at h2
        · rw [if_pos (by omega)]; omega
        · split at h2
          · omega
          · rw [if_neg (by omega), if_neg (by omega)]
            exact ih h1 h2
theorem cb_tp : TP (fun _ => True) Lib.compareBytes := ⟨fun a b _ _ => cb_anti a b, fun a b c _ _ _ => cb_trans a b c, fun a b _ _ => cb_unit a b⟩
def lenCmp (a b : Bs) : Int := if a.length = b.length then 0 else if a.length < b.length then -1 else 1
theorem lenCmp_tp : TP (fun _ => True) lenCmp := by
  refine ⟨fun a b _ _ => ?_, fun a b c _ _ _ h1 h2 => ?_, fun a b _ _ => ?_⟩
  · unfold lenCmp; split <;> split <;> (try split) <;> (try split) <;> omega
  · unfold lenCmp at *
    split at h1 <;> split at h2 <;> (try split at h1) <;> (try split at h2) <;> split <;> (try split) <;> omega
  · unfold lenCmp; split <;> (try split) <;> omega
theorem numCmp_lex (a b : Bs) : numCmp a b = if lenCmp a b ≠ 0 then lenCmp a b else Lib.compareBytes a b := by
  unfold numCmp lenCmp
  split
  · simp
  · split <;> simp
theorem numCmp_tp : TP (fun _ => True) numCmp := by
  have : numCmp = fun a b => if lenCmp a b ≠ 0 then lenCmp a b else Lib.compareBytes a b := by funext a b; exact numCmp_lex a b
  rw [this]
  exact lenCmp_tp.lex cb_tp
theorem numCmp_zero {a b : Bs} (h : numCmp a b = 0) : a = b := by
  unfold numCmp at h
  split at h
  · exact cb_zero h
  · split at h <;> omega
theorem numCmp_refl (a : Bs) : numCmp a a = 0 := by simp [numCmp, cb_refl]
theorem wc_tt {x y : Bs} (h1 : digB x = true) (h2 : digB y = true) : wordCmp x y = numCmp x y := by simp [wordCmp, h1, h2]
theorem wc_tf {x y : Bs} (h1 : digB x = true) (h2 : digB y = false) : wordCmp x y = -1 := by simp [wordCmp, h1, h2]
theorem wc_ft {x y : Bs} (h1 : digB x = false) (h2 : digB y = true) : wordCmp x y = 1 := by simp [wordCmp, h1, h2]
theorem wc_ff {x y : Bs} (h1 : digB x = false) (h2 : digB y = false) : wordCmp x y = Lib.compareBytes x y := by simp [wordCmp, h1, h2]
theorem wordCmp_tp : TP (fun _ => True) wordCmp := by
  refine ⟨fun a b _ _ => ?_, fun a b c _ _ _ h1 h2 => ?_, fun a b _ _ => ?_⟩
  · cases ha : digB a <;> cases hb : digB b
    · rw [wc_ff hb ha, wc_ff ha hb]; exact cb_anti a b
    · rw [wc_tf hb ha, wc_ft ha hb]
    · rw [wc_ft hb ha, wc_tf ha hb]; rfl
    · rw [wc_tt hb ha, wc_tt ha hb]; exact numCmp_tp.anti a b trivial trivial
  · cases ha : digB a <;> cases hb : digB b <;> cases hc : digB c
    · rw [wc_ff ha hb] at h1; rw [wc_ff hb hc] at h2; rw [wc_ff ha hc]; exact cb_trans a b c h1 h2
    · rw [wc_ft hb hc] at h2; omega
    · rw [wc_ft ha hb] at h1; omega
    · rw [wc_ft ha hb] at h1; omega
    · rw [wc_tf ha hc]; omega
    · rw [wc_ft hb hc] at h2; omega
    · rw [wc_tf ha hc]; omega
    · rw [wc_tt ha hb] at h1; rw [wc_tt hb hc] at h2; rw [wc_tt ha hc]; exact numCmp_tp.trans a b c trivial trivial trivial h1 h2
  · cases ha : digB a <;> cases hb : digB b
    · rw [wc_ff ha hb]; exact cb_unit a b
    · rw [wc_ft ha hb]; omega
    · rw [wc_tf ha hb]; omega
    · rw [wc_tt ha hb]; exact numCmp_tp.unit a b trivial trivial
theorem wordCmp_zero {a b : Bs} (h : wordCmp a b = 0) : a = b := by
  cases ha : digB a <;> cases hb : digB b
  · rw [wc_ff ha hb] at h; exact cb_zero h
  · rw [wc_ft ha hb] at h; omega
  · rw [wc_tf ha hb] at h; omega
  · rw [wc_tt ha hb] at h; exact numCmp_zero h
def lexL : List Bs → List Bs → Int
  | [], [] => 0
  | [], _ :: _ => -1
  | _ :: _, [] => 1
  | x :: r, y :: t => if x = y then lexL r t else wordCmp x y
theorem lexL_anti : ∀ a b, lexL b a = - lexL a b
  | [], [] => rfl
  | [], _ :: _ => rfl
  | _ :: _, [] => rfl
  | x :: r, y :: t => by
    simp only [lexL]
    by_cases h : x = y
    · rw [if_pos h, if_pos h.symm]; exact lexL_anti r t
    · rw [if_neg h, if_neg (fun e => h e.symm)]; exact wordCmp_tp.anti x y trivial trivial
theorem lexL_unit : ∀ a b, -1 ≤ lexL a b ∧ lexL a b ≤ 1
  | [], [] => by simp [lexL]
  | [], _ :: _ => by simp [lexL]
  | _ :: _, [] => by simp [lexL]
  | x :: r, y :: t => by
    simp only [lexL]
    split
    · exact lexL_unit r t
    · exact wordCmp_tp.unit x y trivial trivial
theorem lexL_trans : ∀ a b c, lexL a b ≤ 0 → lexL b c ≤ 0 → lexL a c ≤ 0
  | [], _, [], _, _ => by simp [lexL]
  | [], _, _ :: _, _, _ => by simp [lexL]
  | _ :: _, [], _, h, _ => by simp [lexL] at h
  | _ :: _, _ :: _, [], _, h => by simp [lexL] at h
  | x :: r, y :: t, z :: u, h1, h2 => by
    simp only [lexL] at h1 h2 ⊢
    by_cases hxy : x = y
    · rw [if_pos hxy] at h1
      by_cases hyz : y = z
      · rw [if_pos hyz] at h2
        rw [if_pos (hxy.trans hyz)]
        exact lexL_trans r t u h1 h2
      · rw [if_neg hyz] at h2
        rw [hxy, if_neg hyz]; exact h2
    · rw [if_neg hxy] at h1
      by_cases hyz : y = z
      · rw [if_pos hyz] at h2
        rw [← hyz, if_neg hxy]; exact h1
      · rw [if_neg hyz] at h2
        by_cases hxz : x = z
        · have := wordCmp_tp.anti x y trivial trivial
          rw [← hxz] at h2
          exact absurd (wordCmp_zero (by omega : wordCmp x y = 0)) hxy
        · rw [if_neg hxz]
          exact wordCmp_tp.trans x y z trivial trivial trivial h1 h2
/-- nothing stands behind all -/
def bw : List Bs → List Bs → Int
  | [], [] => 0
  | [], _ :: _ => 1
  | _ :: _, [] => -1
  | x :: r, y :: t => lexL (x :: r) (y :: t)
theorem bw_tp : TP (fun _ => True) bw := by
  refine ⟨fun a b _ _ => ?_, fun a b c _ _ _ h1 h2 => ?_, fun a b _ _ => ?_⟩
  · cases a <;> cases b
    · rfl
    · rfl
    · rfl
    · exact lexL_anti _ _
  · cases a <;> cases b <;> cases c
    all_goals first | exact lexL_trans _ _ _ h1 h2 | (simp [bw] at h1 h2 ⊢; done) | skip
    all_goals simp_all [bw]
  · cases a <;> cases b
    · simp [bw]
    · simp [bw]
    · simp [bw]
    · exact lexL_unit _ _
/- THE WORDS OF A PRERELEASE -/
def W (s : Bs) : List Bs := if s = [] then [] else splitB 46 s
def VP (s : Bs) : Prop := ∀ w ∈ W s, w ≠ []
theorem split_cut : ∀ s : Bs, ((cutP 46 s).2.2 = false ∧ splitB 46 s = [s] ∧ cutP 46 s = (s, [], false)) ∨ ((cutP 46 s).2.2 = true ∧ splitB 46 s = (cutP 46 s).1 :: splitB 46 (cutP 46 s).2.1)
  | [] => .inl ⟨rfl, rfl, rfl⟩
  | x :: r => by
    by_cases hx : x = 46
    · exact .inr ⟨by simp [cutP, hx], by simp [cutP, splitB, hx]⟩
    · rcases split_cut r with ⟨h1, h2, h3⟩ | ⟨h1, h2⟩
      · exact .inl ⟨by simp [cutP, hx, h3], by simp [splitB, hx, h2], by simp [cutP, hx, h3]⟩
      · exact .inr ⟨by simp [cutP, hx, h1], by simp [cutP, splitB, hx, h2]⟩
theorem W_step {s : Bs} (h : VP s) (hs : s ≠ []) : W s = (cutP 46 s).1 :: W (cutP 46 s).2.1 ∧ VP (cutP 46 s).2.1 := by
  unfold VP W at *
  rw [if_neg hs] at h ⊢
  rcases split_cut s with ⟨_, h2, h3⟩ | ⟨_, h2⟩
  · rw [h3]; simp [h2]
  · have hne : (cutP 46 s).2.1 ≠ [] := by
      intro e
      rw [h2, e] at h
      exact h [] (by simp [splitB]) rfl
    rw [if_neg hne, h2]
    rw [h2] at h
    exact ⟨rfl, fun w hw => h w (List.mem_cons_of_mem _ hw)⟩
theorem splitB_inj (c : UInt8) : ∀ a b : Bs, splitB c a = splitB c b → a = b
  | [], [], _ => rfl
  | [], y :: t, h => by
    unfold splitB at h
    split at h
    · simp at h; exact absurd h (splitB_ne c t)
    · split at h <;> simp at h
  | x :: r, [], h => by
    have h := h.symm
    unfold splitB at h
    split at h
    · simp at h; exact absurd h (splitB_ne c r)
    · split at h <;> simp at h
  | x :: r, y :: t, h => by
    rw [splitB, splitB] at h
    by_cases hx : x = c
    · by_cases hy : y = c
      · simp only [hx, hy, if_true, List.cons.injEq, true_and] at h
        rw [hx, hy, splitB_inj c r t h]
      · rw [if_pos hx, if_neg hy] at h
        split at h <;> simp at h
    · by_cases hy : y = c
      · rw [if_neg hx, if_pos hy] at h
        split at h <;> simp at h
      · rw [if_neg hx, if_neg hy] at h
        split at h
        · rename_i e; exact absurd e (splitB_ne c r)
        · split at h
          · rename_i e; exact absurd e (splitB_ne c t)
          · rename_i p ps e1 _ q qs e2
            simp only [List.cons.injEq] at h
            obtain ⟨⟨rfl, rfl⟩, rfl⟩ := h
            rw [splitB_inj c r t (e1.trans e2.symm)]
theorem W_inj {a b : Bs} (h : W a = W b) : a = b := by
  unfold W at h
  split at h
  · split at h
    · rename_i h1 h2; rw [h1, h2]
    · exact absurd h.symm (splitB_ne _ _)
  · split at h
    · exact absurd h (splitB_ne _ _)
    · exact splitB_inj 46 a b h
theorem W_nil {a : Bs} : W a = [] ↔ a = [] := by
  unfold W
  split
  · simp_all
  · rename_i h; simp [splitB_ne, h]
theorem wcmp_lex : ∀ (n : Nat) (a b : Bs), a.length ≤ n → VP a → VP b → a ≠ b → wcmp n a b = lexL (W a) (W b)
  | 0, a, b, hn, _, _, hab => by
    have : a = [] := List.eq_nil_of_length_eq_zero (by omega)
    subst this
    rw [wcmp, if_pos rfl, W_nil.2 rfl]
    cases hb : W b with
    | nil => exact absurd (W_nil.1 hb).symm hab
    | cons y t => rfl
  | n + 1, a, b, hn, ha, hb, hab => by
    by_cases ha0 : a = []
    · subst ha0
      rw [wcmp, if_pos rfl, W_nil.2 rfl]
      cases hb : W b with
      | nil => exact absurd (W_nil.1 hb).symm hab
      | cons y t => rfl
    · by_cases hb0 : b = []
      · subst hb0
        rw [wcmp, if_neg ha0, if_pos rfl, (W_step ha ha0).1, W_nil.2 rfl]
        rfl
      · obtain ⟨a1, a2⟩ := W_step ha ha0
        obtain ⟨b1, b2⟩ := W_step hb hb0
        have hs := cutP_short 46 ha0
        rw [wcmp, if_neg ha0, if_neg hb0, a1, b1, lexL]
        by_cases hh : (cutP 46 a).1 = (cutP 46 b).1
        · rw [if_pos hh, if_pos hh]
          refine wcmp_lex n _ _ (by omega) a2 b2 (fun e => hab (W_inj ?_))
          rw [a1, b1, hh, e]
        · rw [if_neg hh, if_neg hh]
theorem byWords_bw {a b : Bs} (ha : VP a) (hb : VP b) : byWordsP a b = bw (W a) (W b) := by
  unfold byWordsP
  by_cases hab : a = b
  · subst hab
    rw [if_pos rfl]
    have := bw_tp.anti (W a) (W a) trivial trivial
    omega
  rw [if_neg hab]
  by_cases ha0 : a = []
  · subst ha0
    rw [if_pos rfl, W_nil.2 rfl]
    cases hb : W b with
    | nil => exact absurd (W_nil.1 hb).symm hab
    | cons y t => rfl
  rw [if_neg ha0]
  by_cases hb0 : b = []
  · subst hb0
    rw [if_pos rfl, W_nil.2 rfl, (W_step ha ha0).1]
    rfl
  rw [if_neg hb0, wcmp_lex _ a b (Nat.le_refl _) ha hb hab, (W_step ha ha0).1, (W_step hb hb0).1]
  rfl
theorem byWords_tp : TP VP byWordsP := by
  refine ⟨fun a b ha hb => ?_, fun a b c ha hb hc h1 h2 => ?_, fun a b ha hb => ?_⟩
  · rw [byWords_bw ha hb, byWords_bw hb ha]; exact bw_tp.anti _ _ trivial trivial
  · rw [byWords_bw ha hb] at h1; rw [byWords_bw hb hc] at h2; rw [byWords_bw ha hc]; exact bw_tp.trans _ _ _ trivial trivial trivial h1 h2
  · rw [byWords_bw ha hb]; exact bw_tp.unit _ _ trivial trivial
theorem cmpV_tp : TP (fun v : Ver => VP v.pr) cmpV := by
  have : cmpV = fun v w => if numCmp v.mj w.mj ≠ 0 then numCmp v.mj w.mj else (fun v w : Ver => if numCmp v.mi w.mi ≠ 0 then numCmp v.mi w.mi else (fun v w : Ver => if numCmp v.pa w.pa ≠ 0 then numCmp v.pa w.pa else byWordsP v.pr w.pr) v w) v w := rfl
  rw [this]
  exact (numCmp_tp.pull Ver.mj _ (fun _ _ => trivial)).lex ((numCmp_tp.pull Ver.mi _ (fun _ _ => trivial)).lex ((numCmp_tp.pull Ver.pa _ (fun _ _ => trivial)).lex (byWords_tp.pull Ver.pr _ (fun _ h => h))))
def VO : Option Ver → Prop
  | none => True
  | some v => VP v.pr
theorem cmpO_tp : TP VO cmpO := by
  refine ⟨fun a b ha hb => ?_, fun a b c ha hb hc h1 h2 => ?_, fun a b ha hb => ?_⟩
  · cases a <;> cases b
    · rfl
    · rfl
    · rfl
    · exact cmpV_tp.anti _ _ ha hb
  · cases a <;> cases b <;> cases c
    all_goals first | exact cmpV_tp.trans _ _ _ ha hb hc h1 h2 | simp_all [cmpO]
  · cases a <;> cases b
    · simp [cmpO]
    · simp [cmpO]
    · simp [cmpO]
    · exact cmpV_tp.unit _ _ ha hb
theorem words_VP {s : Bs} (h : wordsP s true = true) : VP s := by
  intro w hw e
  unfold W at hw
  split at hw
  · cases hw
  · unfold wordsP at h
    have := List.all_eq_true.1 h w hw
    subst e
    simp [wordOK, wbad] at this
theorem parse7_VP {mj mi pa bu r : Bs} {v : Ver} (h : parse7 mj mi pa bu r = some v) : VP v.pr := by
  unfold parse7 at h
  split at h
  · cases h; intro w hw; simp [W] at hw
  · split at h
    · rename_i hc; cases h; exact words_VP hc.2
    · cases h
theorem VP_nil : VP [] := fun w hw => by simp [W] at hw
theorem parseP_VP (s : Bs) : VO (parseP s) := by
  cases h : parseP s with
  | none => trivial
  | some v =>
    show VP v.pr
    unfold parseP at h
    split at h
    · cases h
    unfold parse1 at h
    split at h
    · cases h
    unfold parse2 at h
    split at h
    · cases h; exact VP_nil
    split at h
    · cases h
    unfold parse3 at h
    split at h
    · cases h
    unfold parse4 at h
    split at h
    · cases h; exact VP_nil
    split at h
    · cases h
    unfold parse5 at h
    split at h
    · cases h
    unfold parse6 at h
    split at h
    · cases h
    exact parse7_VP h
theorem cmpP_tp : TP (fun _ => True) cmpP := cmpO_tp.pull parseP _ (fun s _ => parseP_VP s)
end Go.Proofs.YtgkcbhdpenmogaaDoor.Sv
namespace Go.Proofs.YtgkcbhdpenmogaaDoor.Sv
open Eng
set_option maxRecDepth 10000
theorem cmpP_facts (a b c : Bs) : (-1 ≤ cmpP a b ∧ cmpP a b ≤ 1) ∧ cmpP b a = - cmpP a b ∧ (cmpP a b ≤ 0 → cmpP b c ≤ 0 → cmpP a c ≤ 0) ∧ (0 ≤ cmpP a b → 0 ≤ cmpP b c → 0 ≤ cmpP a c) ∧ (cmpP a b = 0 → cmpP b c = cmpP a c) := by
  have h := cmpP_tp
  have u1 := h.unit a b trivial trivial
  have u2 := h.unit b c trivial trivial
  have u3 := h.unit a c trivial trivial
  have t1 := h.trans a b c trivial trivial trivial
  have t2 := h.trans c b a trivial trivial trivial
  have t3 := h.trans b a c trivial trivial trivial
  have t4 := h.trans c a b trivial trivial trivial
  have a1 := h.anti a b trivial trivial
  have a2 := h.anti b c trivial trivial
  have a3 := h.anti a c trivial trivial
  refine ⟨u1, a1, t1, fun _ _ => by omega, fun _ => by omega⟩
theorem cmpP_self (a : Bs) : cmpP a a = 0 := by
  have := cmpP_tp.anti a a trivial trivial
  omega
end Go.Proofs.YtgkcbhdpenmogaaDoor.Sv
namespace Go.Proofs.YtgkcbhdpenmogaaDoor.Sv
open Eng
set_option maxRecDepth 10000
theorem dlen_take (s : Bs) : s.take (dlen s) = s.takeWhile isD := by
  unfold dlen
  induction s with
  | nil => rfl
  | cons x r ih =>
    rw [List.takeWhile_cons]
    split
    · simp [ih]
    · rfl
theorem tw_all : ∀ {s : Bs}, s.all isD = true → ∀ t : Bs, (t = [] ∨ isD (t.getD 0 0) = false) → (s ++ t).takeWhile isD = s
  | [], _, t, ht => by
    cases t with
    | nil => rfl
    | cons y u =>
      rcases ht with ht | ht
      · cases ht
      · have : isD y = false := by simpa using ht
        simp [List.takeWhile_cons, this]
  | x :: r, h, t, ht => by
    simp only [List.all_cons, Bool.and_eq_true] at h
    rw [List.cons_append, List.takeWhile_cons, if_pos h.1, tw_all h.2 t ht]
/-- a number as it is written -/
def Num (x : Bs) : Prop := x.all isD = true ∧ x ≠ [] ∧ (1 < x.length → x.getD 0 0 ≠ 48)
theorem numP_num {r x y : Bs} (h : numP r = (x, y, true)) : Num x ∧ r = x ++ y := by
  unfold numP at h
  split at h
  · simp at h
  · rename_i hc
    simp only [Prod.mk.injEq, and_true] at h
    obtain ⟨h1, h2⟩ := h
    have hx : x = r.takeWhile isD := by rw [← h1, dlen_take]
    have hlen : x.length = dlen r := by rw [hx]; rfl
    refine ⟨⟨?_, fun e => hc (.inl (by rw [← hlen, e]; rfl)), fun hl he => hc (.inr ⟨by omega, ?_⟩)⟩, ?_⟩
    · rw [hx, List.all_eq_true]
      intro b hb
      exact List.all_eq_true.1 List.all_takeWhile b hb
    · rw [← he, ← h1]
      cases r with
      | nil => simp [dlen] at hc
      | cons z u =>
        cases hd : dlen (z :: u) with
        | zero => omega
        | succ n => simp
    · rw [← h1, ← h2, List.take_append_drop]
theorem numP_app {x t : Bs} (h : Num x) (ht : t = [] ∨ isD (t.getD 0 0) = false) : numP (x ++ t) = (x, t, true) := by
  obtain ⟨h1, h2, h3⟩ := h
  have hd : dlen (x ++ t) = x.length := by unfold dlen; rw [tw_all h1 t ht]
  have hpos : 0 < x.length := List.length_pos_iff.2 h2
  have h0 : (x ++ t).getD 0 0 = x.getD 0 0 := by
    cases x with
    | nil => exact absurd rfl h2
    | cons z u => rfl
  unfold numP
  rw [hd, h0, if_neg (fun hc => hc.elim (fun e => by omega) (fun e => h3 e.1 e.2))]
  simp
theorem parseP_mj {s : Bs} {v : Ver} (h : parseP s = some v) : Num v.mj ∧ v.mj.length + 1 ≤ s.length := by
  unfold parseP at h
  have hp : (prefP 118 s).2 = true → s.length = (prefP 118 s).1.length + 1 := by
    cases s with
    | nil => simp [prefP]
    | cons x r => simp only [prefP]; split <;> simp
  split at h
  · cases h
  · rename_i hc
    have hc2 : (prefP 118 s).2 = true := by
      cases h2 : (prefP 118 s).2 with
      | true => rfl
      | false => exact absurd (.inl h2) hc
    unfold parse1 at h
    obtain ⟨x, y, z, hq⟩ : ∃ x y z, numP (prefP 118 s).1 = (x, y, z) := ⟨_, _, _, rfl⟩
    have hl := (numP_len (prefP 118 s).1).1
    rw [hq] at h hl
    cases z with
    | false => simp at h
    | true =>
      simp only [Bool.true_eq_false, if_false] at h
      have := (parse2_len h).1
      rw [this]
      have := hp hc2
      exact ⟨(numP_num hq).1, by simp only at hl; omega⟩
theorem parse_major {x : Bs} (h : Num x) (hl : x.length + 1 ≤ 100) : parseP ([118] ++ x) = some ⟨x, [48], [48], [], [], 2⟩ := by
  have := numP_app h (.inl rfl : ([] : Bs) = [] ∨ _)
  rw [List.append_nil] at this
  have hp : prefP 118 ([118] ++ x) = (x, true) := rfl
  rw [parseP, hp, if_neg (by simp; omega), parse1]
  simp only [this]
  rfl
end Go.Proofs.YtgkcbhdpenmogaaDoor.Sv
namespace Go.Proofs.YtgkcbhdpenmogaaDoor.Sv
open Eng
set_option maxRecDepth 10000
structure VOK (v : Ver) : Prop where
  mj : Num v.mj
  mi : Num v.mi
  pa : Num v.pa
  pr : v.pr = [] ∨ wordsP v.pr true = true
  np : 43 ∉ v.pr
theorem num0 : Num [48] := ⟨rfl, by simp, by simp⟩
theorem cutP_not (c : UInt8) : ∀ (s : Bs), c ∉ (cutP c s).1 ∧ (cutP c s).1.length ≤ s.length
  | [] => by simp [cutP]
  | x :: r => by
    have := cutP_not c r
    simp only [cutP]
    split
    · simp
    · rename_i h
      simp only [List.mem_cons, not_or, List.length_cons]
      exact ⟨⟨fun e => h e.symm, this.1⟩, by omega⟩
theorem cutP_none {c : UInt8} : ∀ {s : Bs}, c ∉ s → cutP c s = (s, [], false)
  | [], _ => rfl
  | x :: r, h => by
    simp only [List.mem_cons, not_or] at h
    rw [cutP, if_neg (fun e => h.1 e.symm), cutP_none h.2]
theorem cutP_some {c : UInt8} : ∀ {s : Bs}, c ∉ s → ∀ b, cutP c (s ++ c :: b) = (s, b, true)
  | [], _, b => by simp [cutP]
  | x :: r, h, b => by
    simp only [List.mem_cons, not_or] at h
    rw [List.cons_append, cutP, if_neg (fun e => h.1 e.symm), cutP_some h.2]
theorem numP_ok {r : Bs} (h : ¬ (numP r).2.2 = false) : Num (numP r).1 ∧ r.length = (numP r).1.length + (numP r).2.1.length := by
  obtain ⟨x, y, z, hq⟩ : ∃ x y z, numP r = (x, y, z) := ⟨_, _, _, rfl⟩
  rw [hq] at h ⊢
  cases z with
  | false => exact absurd rfl h
  | true =>
    obtain ⟨h1, h2⟩ := numP_num hq
    refine ⟨h1, ?_⟩
    rw [h2]; simp
theorem parse7_ok {mj mi pa bu r : Bs} {v : Ver} (h : parse7 mj mi pa bu r = some v) (hr : 43 ∉ r) : v.mj = mj ∧ v.mi = mi ∧ v.pa = pa ∧ (v.pr = [] ∨ wordsP v.pr true = true) ∧ 43 ∉ v.pr ∧ v.pr.length ≤ r.length := by
  unfold parse7 at h
  split at h
  · cases h; simp
  · split at h
    · rename_i hc; cases h
      refine ⟨rfl, rfl, rfl, .inr hc.2, ?_, prefP_len 45 r⟩
      cases r with
      | nil => simp [prefP]
      | cons x t =>
        simp only [List.mem_cons, not_or] at hr
        simp only [prefP]
        split
        · exact hr.2
        · simp only [List.mem_cons, not_or]; exact hr
    · cases h
theorem parse6_ok {mj mi pa r : Bs} {v : Ver} (h : parse6 mj mi pa r = some v) : v.mj = mj ∧ v.mi = mi ∧ v.pa = pa ∧ (v.pr = [] ∨ wordsP v.pr true = true) ∧ 43 ∉ v.pr ∧ v.pr.length ≤ r.length := by
  unfold parse6 at h
  split at h
  · cases h
  · have hc := cutP_not 43 r
    obtain ⟨h1, h2, h3, h4, h5, h6⟩ := parse7_ok h hc.1
    exact ⟨h1, h2, h3, h4, h5, by omega⟩
theorem parse5_ok {mj mi r : Bs} {v : Ver} (h : parse5 mj mi r = some v) : v.mj = mj ∧ v.mi = mi ∧ Num v.pa ∧ (v.pr = [] ∨ wordsP v.pr true = true) ∧ 43 ∉ v.pr ∧ v.pa.length + v.pr.length ≤ r.length := by
  unfold parse5 at h
  split at h
  · cases h
  · rename_i hn
    obtain ⟨n1, n2⟩ := numP_ok hn
    obtain ⟨h1, h2, h3, h4, h5, h6⟩ := parse6_ok h
    exact ⟨h1, h2, by rw [h3]; exact n1, h4, h5, by rw [h3]; omega⟩
theorem parse4_ok {mj mi r : Bs} {v : Ver} (h : parse4 mj mi r = some v) : v.mj = mj ∧ v.mi = mi ∧ Num v.pa ∧ (v.pr = [] ∨ wordsP v.pr true = true) ∧ 43 ∉ v.pr ∧ v.pa.length + v.pr.length ≤ r.length + 1 := by
  unfold parse4 at h
  split at h
  · cases h; exact ⟨rfl, rfl, num0, .inl rfl, by simp, by simp⟩
  · split at h
    · cases h
    · obtain ⟨h1, h2, h3, h4, h5, h6⟩ := parse5_ok h
      rw [List.length_drop] at h6
      exact ⟨h1, h2, h3, h4, h5, by omega⟩
theorem parse3_ok {mj r : Bs} {v : Ver} (h : parse3 mj r = some v) : v.mj = mj ∧ Num v.mi ∧ Num v.pa ∧ (v.pr = [] ∨ wordsP v.pr true = true) ∧ 43 ∉ v.pr ∧ v.mi.length + v.pa.length + v.pr.length ≤ r.length + 1 := by
  unfold parse3 at h
  split at h
  · cases h
  · rename_i hn
    obtain ⟨n1, n2⟩ := numP_ok hn
    obtain ⟨h1, h2, h3, h4, h5, h6⟩ := parse4_ok h
    exact ⟨h1, by rw [h2]; exact n1, h3, h4, h5, by rw [h2]; omega⟩
theorem parse2_ok {mj r : Bs} {v : Ver} (h : parse2 mj r = some v) : v.mj = mj ∧ Num v.mi ∧ Num v.pa ∧ (v.pr = [] ∨ wordsP v.pr true = true) ∧ 43 ∉ v.pr ∧ v.mi.length + v.pa.length + v.pr.length ≤ r.length + 2 := by
  unfold parse2 at h
  split at h
  · cases h; exact ⟨rfl, num0, num0, .inl rfl, by simp, by simp⟩
  · split at h
    · cases h
    · obtain ⟨h1, h2, h3, h4, h5, h6⟩ := parse3_ok h
      rw [List.length_drop] at h6
      exact ⟨h1, h2, h3, h4, h5, by omega⟩
theorem parseP_ok {s : Bs} {v : Ver} (h : parseP s = some v) : VOK v ∧ v.mj.length + v.mi.length + v.pa.length + v.pr.length ≤ s.length + 2 := by
  unfold parseP at h
  have p := prefP_len 118 s
  split at h
  · cases h
  · unfold parse1 at h
    split at h
    · cases h
    · rename_i hn
      obtain ⟨n1, n2⟩ := numP_ok hn
      obtain ⟨h1, h2, h3, h4, h5, h6⟩ := parse2_ok h
      exact ⟨⟨by rw [h1]; exact n1, h2, h3, h4, h5⟩, by rw [h1]; omega⟩
/- READ BACK -/
theorem parse_from {mj mi pa t : Bs} (h1 : Num mj) (h2 : Num mi) (h3 : Num pa) (ht : t = [] ∨ isD (t.getD 0 0) = false) (hl : mj.length + mi.length + pa.length + t.length + 3 ≤ 100) :
    parseP ([118] ++ mj ++ [46] ++ mi ++ [46] ++ pa ++ t) = parse6 mj mi pa t := by
  have e : [118] ++ mj ++ [46] ++ mi ++ [46] ++ pa ++ t = 118 :: (mj ++ (46 :: (mi ++ (46 :: (pa ++ t))))) := by simp
  have d46 : isD 46 = false := rfl
  have n1 := numP_app (t := 46 :: (mi ++ (46 :: (pa ++ t)))) h1 (.inr d46)
  have n2 := numP_app (t := 46 :: (pa ++ t)) h2 (.inr d46)
  have n3 := numP_app h3 ht
  have hp : ∀ r : Bs, prefP 118 (118 :: r) = (r, true) := fun r => by simp [prefP]
  have g46 : ∀ r : Bs, ((46 :: r).getD 0 0).toNat = 46 := fun _ => rfl
  rw [e, parseP, hp, if_neg (by simp; omega), parse1, n1, if_neg (by simp), parse2, if_neg (by simp), if_neg (fun h => h (g46 _)), List.drop_one, List.tail_cons, parse3, n2, if_neg (by simp), parse4, if_neg (by simp), if_neg (fun h => h (g46 _)), List.drop_one, List.tail_cons, parse5, n3, if_neg (by simp)]
def prT (p : Bs) : Bs := if p = [] then [] else 45 :: p
theorem canonV_eq (v : Ver) : canonV v = [118] ++ v.mj ++ [46] ++ v.mi ++ [46] ++ v.pa ++ prT v.pr := by
  unfold canonV prT
  split <;> simp
theorem prT_np {p : Bs} (h : 43 ∉ p) : 43 ∉ prT p := by
  unfold prT
  split
  · simp
  · simp only [List.mem_cons, not_or]; exact ⟨by decide, h⟩
theorem parse7_pr (mj mi pa bu : Bs) {p : Bs} (h : p = [] ∨ wordsP p true = true) : parse7 mj mi pa bu (prT p) = some ⟨mj, mi, pa, p, bu, 0⟩ := by
  unfold parse7 prT
  by_cases hp : p = []
  · subst hp; simp
  · rw [if_neg hp, if_neg (by simp)]
    have : prefP 45 (45 :: p) = (p, true) := by simp [prefP]
    rw [this, if_pos ⟨rfl, h.resolve_left hp⟩]
theorem prT_len (p : Bs) : (prT p).length ≤ p.length + 1 := by unfold prT; split <;> simp
theorem canonV_len (v : Ver) : (canonV v).length ≤ v.mj.length + v.mi.length + v.pa.length + v.pr.length + 4 ∧ (canonV v).length = v.mj.length + v.mi.length + v.pa.length + (prT v.pr).length + 3 := by
  have := prT_len v.pr
  rw [canonV_eq]
  simp only [List.length_append, List.length_cons, List.length_nil]
  omega
theorem canonV_ne (v : Ver) : canonV v ≠ [] := by rw [canonV_eq]; simp
theorem parse_canon {v : Ver} (h : VOK v) (hl : (canonV v).length ≤ 100) : parseP (canonV v) = some ⟨v.mj, v.mi, v.pa, v.pr, [], 0⟩ := by
  rw [(canonV_len v).2] at hl
  have ht : prT v.pr = [] ∨ isD ((prT v.pr).getD 0 0) = false := by
    unfold prT; split
    · exact .inl rfl
    · exact .inr rfl
  rw [canonV_eq, parse_from h.mj h.mi h.pa ht (by omega), parse6, cutP_none (prT_np h.np), if_neg (fun e => by cases e.1)]
  exact parse7_pr _ _ _ _ h.pr
theorem parse_build {v : Ver} (h : VOK v) (b : Bs) : parseP (canonV v ++ [43] ++ b) = none ∨ parseP (canonV v ++ [43] ++ b) = some ⟨v.mj, v.mi, v.pa, v.pr, b, 0⟩ := by
  by_cases hl : 100 < (canonV v ++ [43] ++ b).length
  · exact .inl (by rw [parseP, if_pos (.inr hl)])
  have e : canonV v ++ [43] ++ b = [118] ++ v.mj ++ [46] ++ v.mi ++ [46] ++ v.pa ++ (prT v.pr ++ 43 :: b) := by rw [canonV_eq]; simp
  rw [e] at hl ⊢
  have ht : prT v.pr ++ 43 :: b = [] ∨ isD ((prT v.pr ++ 43 :: b).getD 0 0) = false := by
    unfold prT; split
    · exact .inr rfl
    · exact .inr rfl
  simp only [List.length_append, List.length_cons, List.length_nil] at hl
  rw [parse_from h.mj h.mi h.pa ht (by simp only [List.length_append, List.length_cons]; omega), parse6, cutP_some (prT_np h.np)]
  by_cases hw : wordsP b false = false
  · exact .inl (by rw [if_pos ⟨rfl, hw⟩])
  · rw [if_neg (fun e => hw e.2)]
    exact .inr (parse7_pr _ _ _ _ h.pr)
theorem byWordsP_refl (p : Bs) : byWordsP p p = 0 := by rw [byWordsP, if_pos rfl]
theorem cmpV_same {v w : Ver} (h1 : v.mj = w.mj) (h2 : v.mi = w.mi) (h3 : v.pa = w.pa) : cmpV v w = byWordsP v.pr w.pr := by
  rw [cmpV, h1, h2, h3, numCmp_refl, numCmp_refl, numCmp_refl]; rfl
theorem canonP_len (s : Bs) : (canonP s).length ≤ 500 := by
  unfold canonP
  split
  · simp
  · rename_i v h
    have := parseP_len h
    have := (canonV_len v).1
    omega
end Go.Proofs.YtgkcbhdpenmogaaDoor.Sv
namespace Go.Proofs.YtgkcbhdpenmogaaDoor.Sv
open Eng
set_option maxRecDepth 10000
theorem indexByte_no {c : UInt8} : ∀ {s : Bs}, c ∉ s → Lib.indexByte s c = -1
  | [], _ => rfl
  | x :: r, h => by
    simp only [List.mem_cons, not_or] at h
    have hb : (x == c) = false := by simp only [beq_eq_false_iff_ne]; exact fun e => h.1 e.symm
    simp [Lib.indexByte, hb, indexByte_no h.2]
theorem indexByte_at {c : UInt8} : ∀ {s : Bs} {k : Nat}, k < s.length → s.getD k 0 = c → c ∉ s.take k → Lib.indexByte s c = (k : Int)
  | [], _, h, _, _ => by simp at h
  | x :: r, 0, _, h, _ => by
    have h : x = c := by simpa using h
    simp [Lib.indexByte, h]
  | x :: r, k + 1, h1, h2, h3 => by
    simp only [List.take_succ_cons, List.mem_cons, not_or] at h3
    have hb : (x == c) = false := by simp only [beq_eq_false_iff_ne]; exact fun e => h3.1 e.symm
    have ih := indexByte_at (s := r) (k := k) (by simpa using h1) (by simpa using h2) h3.2
    have hne : (Lib.indexByte r c == -1) = false := by rw [ih]; simp
    simp [Lib.indexByte, hb, hne, ih]
theorem find_ok (s : Bs) (c : UInt8) (hs : s.length ≤ 9223372036854775807) : SpecR Tryd.prog 29 [.str s, .int .u8 (c.toNat : Int)] (.int .i64 (Lib.indexByte s c)) := by
  refine Cod.find_spec (fun E R hN hR => ?_)
  simp (disch := first | omega | (simp only [Lx]; omega)) only [go_sem, simprocAttr]
  refine vcW_loop hN (fun k : Nat => ⟨[(0, .str s), (1, .int .u8 (c.toNat : Int)), (5, .int .i64 k)], []⟩) (fun k => k ≤ s.length ∧ c ∉ s.take k) (fun k => s.length - k) 0 (.le (by simp (disch := first | omega | (simp only [Lx]; omega)) only [go_sem, simprocAttr])) (by simp) ?_
  rintro k R1 ⟨hk, hno⟩ hR1
  by_cases hl : k < s.length
  · have htk := take_succB 0 s hl
    simp (disch := first | omega | (simp only [Lx]; omega)) only [go_sem, simprocAttr]
    refine ifW_dec (fun he => ?_) (fun he => ?_)
    · simp (disch := first | omega | (simp only [Lx]; omega)) only [go_sem, simprocAttr]
      refine hR.ro ⟨rfl, ?_⟩
      have hx : s.getD k 0 = c := UInt8.toNat.inj (by omega)
      rw [indexByte_at hl hx hno]
    · simp (disch := first | omega | (simp only [Lx]; omega)) only [go_sem, simprocAttr]
      refine hR1 (k + 1) _ (by omega) ⟨by omega, ?_⟩ (.le (by simp (disch := first | omega | (simp only [Lx]; omega)) only [go_sem, simprocAttr]))
      rw [htk]
      simp only [List.mem_append, List.mem_singleton, not_or]
      exact ⟨hno, fun e => he (by rw [← e])⟩
  · obtain rfl : k = s.length := by omega
    rw [List.take_of_length_le (Nat.le_refl _)] at hno
    simp (disch := first | omega | (simp only [Lx]; omega)) only [go_sem, simprocAttr]
    exact hR.ro ⟨rfl, by rw [indexByte_no hno]⟩
theorem splitB_snoc (c x : UInt8) : ∀ t : Bs, splitB c (t ++ [x]) = if x = c then splitB c t ++ [[]] else (splitB c t).set ((splitB c t).length - 1) ((splitB c t).getD ((splitB c t).length - 1) [] ++ [x])
  | [] => by
    by_cases h : x = c
    · simp [splitB, h]
    · simp [splitB, h]
  | y :: t => by
    have ih := splitB_snoc c x t
    rw [List.cons_append, splitB, splitB]
    have hne := splitB_ne c t
    by_cases hy : y = c
    · rw [if_pos hy, if_pos hy, ih]
      have hpos : 0 < (splitB c t).length := List.length_pos_iff.2 hne
      by_cases hx : x = c
      · rw [if_pos hx, if_pos hx]; simp
      · rw [if_neg hx, if_neg hx]
        obtain ⟨n, hn⟩ : ∃ n, (splitB c t).length = n + 1 := ⟨_, (Nat.succ_pred (by omega)).symm⟩
        simp [hn]
    · rw [if_neg hy, if_neg hy, ih]
      cases hs : splitB c t with
      | nil => exact absurd hs hne
      | cons p ps =>
        by_cases hx : x = c
        · rw [if_pos hx, if_pos hx]; rfl
        · rw [if_neg hx, if_neg hx]
          cases ps with
          | nil => simp
          | cons q qs => simp
theorem splitB_lenle (c : UInt8) : ∀ s : Bs, (splitB c s).length ≤ s.length + 1 ∧ 0 < (splitB c s).length
  | [] => by simp [splitB]
  | x :: r => by
    have := splitB_lenle c r
    unfold splitB
    split
    · simp; omega
    · split
      · simp
      · rename_i p ps e
        rw [e] at this
        simp at this ⊢; omega
theorem rcut_ok (s : Bs) (c : UInt8) (hs : s.length ≤ 1000) : Eng.Spec Tryd.prog 31 [] [.str s, .int .u8 (c.toNat : Int)]
    (fun h r ar => h = [(13021, .arr 1 ((splitB c s).map AV.str))] ∧ r = .sl 13021 0 (splitB c s).length ∧ ar = [.undef, .undef]) := by
  refine Cod.rcut_spec (fun E R hN hR => ?_)
  simp (disch := first | omega | (simp only [Lx]; omega)) only [go_sem, simprocAttr]
  refine vcW_loop hN (fun k : Nat => ⟨[(0, .str s), (1, .int .u8 (c.toNat : Int)), (5, .sl 13021 0 (splitB c (s.take k)).length), (6, .int .i64 k)], [(13021, .arr 1 ((splitB c (s.take k)).map AV.str))]⟩) (fun k => k ≤ s.length) (fun k => s.length - k) 0 (.ren 13007 13021 rfl rfl (.le (by simp (disch := first | omega | (simp only [Lx]; omega)) only [go_sem, simprocAttr, splitB]))) (by omega) ?_
  rintro k R1 hk hR1
  by_cases hl : k < s.length
  · have htk := take_succB 0 s hl
    have hsn := splitB_snoc c (s.getD k 0) (s.take k)
    rw [← htk] at hsn
    obtain ⟨hb1, hb2⟩ := splitB_lenle c (s.take k)
    rw [List.length_take] at hb1
    have hbl := splitB_len c (s.take k)
    obtain ⟨L, hL⟩ : ∃ L, L = splitB c (s.take k) := ⟨_, rfl⟩
    rw [← hL] at hb1 hb2 hsn hbl ⊢
    simp (disch := first | omega | (simp only [Lx]; omega)) only [go_sem, simprocAttr]
    refine ifW_dec (fun he => ?_) (fun he => ?_)
    · rw [if_pos (UInt8.toNat.inj (by omega))] at hsn
      simp (disch := first | omega | (simp only [Lx]; omega)) only [go_sem, simprocAttr]
      exact hR1 (k + 1) _ (by omega) (by omega) (.le (by simp (disch := first | omega | (simp only [Lx]; omega)) only [go_sem, simprocAttr, hsn, List.length_append]))
    · rw [if_neg (fun e => he (by rw [e]))] at hsn
      have := hbl (L.getD (L.length - 1) []) (getD_memB (by omega))
      rw [List.length_take] at this
      simp (disch := first | omega | (simp only [Lx]; omega)) only [go_sem, simprocAttr]
      have e1 : List.take (k + 1 - k) (List.drop k s) = [List.getD s k 0] := by
        rw [show k + 1 - k = 1 by omega, List.drop_eq_getElem_cons hl, List.take_succ_cons, List.take_zero, List.getD_eq_getElem?_getD, List.getElem?_eq_getElem hl]
        rfl
      rw [e1, ← hsn]
      have e2 : L.length = (splitB c (List.take (k + 1) s)).length := by rw [hsn, List.length_set]
      rw [e2]
      exact hR1 (k + 1) _ (by omega) (by omega) (.le (by simp (disch := first | omega | (simp only [Lx]; omega)) only [go_sem, simprocAttr]))
  · obtain rfl : k = s.length := by omega
    rw [List.take_of_length_le (Nat.le_refl _)]
    simp (disch := first | omega | (simp only [Lx]; omega)) only [go_sem, simprocAttr]
    exact hR.le (by simp (disch := first | omega | (simp only [Lx]; omega)) only [go_sem, simprocAttr]) ⟨rfl, rfl, rfl⟩
theorem digB_take {s : Bs} : ∀ {k : Nat}, k < s.length → isD (s.getD k 0) = false → digB s = false := by
  intro k hk h
  rw [digB, not_all (x := s.getD k 0) ?_ h, Bool.and_false]
  rw [List.getD_eq_getElem?_getD, List.getElem?_eq_getElem hk]; exact List.getElem_mem hk
theorem rdigits_ok (s : Bs) (hs : s.length ≤ 9223372036854775807) : SpecR Tryd.prog 45 [.str s] (.bool (digB s)) := by
  refine Cod.rdigits_spec (fun E R hN hR => ?_)
  simp (disch := first | omega | (simp only [Lx]; omega)) only [go_sem, simprocAttr]
  refine vcW_loop hN (fun k : Nat => ⟨[(0, .str s), (3, .int .i64 k)], []⟩) (fun k => k ≤ s.length ∧ (s.take k).all isD = true) (fun k => s.length - k) 0 (.le (by simp (disch := first | omega | (simp only [Lx]; omega)) only [go_sem, simprocAttr])) (by simp) ?_
  rintro k R1 ⟨hk, hd⟩ hR1
  by_cases hl : k < s.length
  · have htk := take_succB 0 s hl
    have hbad := @digB_take s k hl
    obtain ⟨b, hb⟩ : ∃ b, b = s.getD k 0 := ⟨_, rfl⟩
    rw [← hb] at htk hbad
    by_cases h1 : b.toNat < 48
    · simp (disch := first | omega | (simp only [Lx]; omega)) only [go_sem, simprocAttr, ← hb]
      (repeat (first | (with_reducible refine gskip_of ?_) | (with_reducible refine gcskip_of ?_) | (with_reducible refine gopen_of ?_)) <;> simp (disch := first | omega | (simp only [Lx]; omega)) only [go_sem, simprocAttr, ← hb])
      exact hR.ro ⟨rfl, by rw [hbad (by rw [isD, decide_eq_false_iff_not]; omega)]⟩
    · by_cases h2 : 57 < b.toNat
      · simp (disch := first | omega | (simp only [Lx]; omega)) only [go_sem, simprocAttr, ← hb]
        exact hR.ro ⟨rfl, by rw [hbad (by rw [isD, decide_eq_false_iff_not]; omega)]⟩
      · simp (disch := first | omega | (simp only [Lx]; omega)) only [go_sem, simprocAttr, ← hb]
        refine hR1 (k + 1) _ (by omega) ⟨by omega, ?_⟩ (.le (by simp (disch := first | omega | (simp only [Lx]; omega)) only [go_sem, simprocAttr]))
        rw [htk, List.all_append, hd]
        have : isD b = true := by rw [isD, decide_eq_true_iff]; omega
        simp [this]
  · obtain rfl : k = s.length := by omega
    rw [List.take_of_length_le (Nat.le_refl _)] at hd
    simp (disch := first | omega | (simp only [Lx]; omega)) only [go_sem, simprocAttr]
    refine hR.ro ⟨rfl, ?_⟩
    rw [digB, hd]
    cases s with
    | nil => simp
    | cons x r => simp
def rnumB (s : Bs) : Bool := digB s && (decide (s.length = 1) || !decide ((s.getD 0 0).toNat = 48))
theorem rnumber_ok (s : Bs) (hs : s.length ≤ 9223372036854775807) : SpecR Tryd.prog 32 [.str s] (.bool (rnumB s)) := by
  refine Cod.rnumber_spec (fun E R hN hR => ?_)
  simp (disch := first | omega | (simp only [Lx]; omega)) only [go_sem, simprocAttr]
  refine call_ro (rdigits_ok s hs) rfl rfl ?_
  cases hd : digB s with
  | false =>
    simp (disch := first | omega | (simp only [Lx]; omega)) only [go_sem, simprocAttr]
    (repeat (first | (with_reducible refine gskip_of ?_) | (with_reducible refine gcskip_of ?_) | (with_reducible refine gopen_of ?_)) <;> simp (disch := first | omega | (simp only [Lx]; omega)) only [go_sem, simprocAttr])
    exact hR.ro ⟨rfl, by rw [rnumB, hd, Bool.false_and]⟩
  | true =>
    have h0 : 0 < s.length := by
      cases s with
      | nil => simp [digB] at hd
      | cons x r => simp
    by_cases h1 : s.length = 1
    · simp (disch := first | omega | (simp only [Lx]; omega)) only [go_sem, simprocAttr]
      (repeat (first | (with_reducible refine gskip_of ?_) | (with_reducible refine gcskip_of ?_) | (with_reducible refine gopen_of ?_)) <;> simp (disch := first | omega | (simp only [Lx]; omega)) only [go_sem, simprocAttr])
      exact hR.ro ⟨rfl, by rw [rnumB, hd, h1]; rfl⟩
    · by_cases h2 : (s.getD 0 0).toNat = 48
      · simp (disch := first | omega | (simp only [Lx]; omega)) only [go_sem, simprocAttr]
        exact hR.ro ⟨rfl, by unfold rnumB; rw [hd, decide_eq_true h2]; simp [h1]⟩
      · simp (disch := first | omega | (simp only [Lx]; omega)) only [go_sem, simprocAttr]
        exact hR.ro ⟨rfl, by unfold rnumB; rw [hd, decide_eq_false h2]; simp⟩
theorem wbad_ref {pre : Bool} {w : Bs} (h : w ≠ []) : wbad pre w = (pre && digB w && !rnumB w) := by
  have : 0 < w.length := List.length_pos_iff.2 h
  unfold wbad rnumB
  rw [decide_eq_false h]
  cases hd : digB w
  · simp
  · by_cases h1 : w.length = 1
    · simp [h1]
    · have : 1 < w.length := by omega
      simp only [Bool.true_and, Bool.and_true, Bool.false_or, h1, this, decide_true, decide_false]
      cases pre
      · rfl
      · cases decide ((w.getD 0 0).toNat = 48) <;> rfl
set_option maxHeartbeats 1000000 in
theorem rwords_ok (s : Bs) (pre : Bool) (hs : s.length ≤ 1000) : SpecR Tryd.prog 30 [.str s, .bool pre] (.bool (wordsP s pre)) := by
  refine Cod.rwords_spec (fun E R hN hR => ?_)
  simp (disch := first | omega | (simp only [Lx]; omega)) only [go_sem, simprocAttr]
  refine call_bor [] (bs := [.str s, .int .u8 46]) (by simp (disch := first | omega | (simp only [Lx]; omega)) only [go_sem, simprocAttr]) (rcut_ok s 46 hs) trivial nofun ?_
  rintro h' v ar ⟨rfl, rfl, rfl⟩
  refine ⟨by simp (disch := first | omega | (simp only [Lx]; omega)) only [go_sem, simprocAttr], rfl, ?_⟩
  have hll := (splitB_lenle 46 s).1
  have hwl := splitB_len 46 s
  rw [wordsP] at hR
  obtain ⟨L, hL⟩ : ∃ L, L = splitB 46 s := ⟨_, rfl⟩
  rw [← hL] at hll hwl hR ⊢
  simp (disch := first | omega | (simp only [Lx]; omega)) only [go_sem, simprocAttr]
  refine vcW_loop hN (fun k : Nat => ⟨[(1, .bool pre), (10, .sl 13021 0 L.length), (11, .int .i64 L.length), (12, .int .i64 k)], [(13021, .arr 1 (L.map AV.str))]⟩) (fun k => k ≤ L.length ∧ (L.take k).all (wordOK pre) = true) (fun k => L.length - k) 0 (.le (by simp (disch := first | omega | (simp only [Lx]; omega)) only [go_sem, simprocAttr])) (by simp) ?_
  rintro k R2 ⟨hk, hok⟩ hR2
  by_cases hl : k < L.length
  · have hwm := getD_memB hl
    have hw1 := hwl _ hwm
    have htk := take_succB [] L hl
    obtain ⟨w, hw⟩ : ∃ w, w = L.getD k [] := ⟨_, rfl⟩
    rw [← hw] at hwm hw1 htk
    have bad : ∀ h, wordOK pre w = false → R h (.bool false) [.undef, .undef] := fun h hno =>
      hR.wk (h' := []) (r' := .bool false) (ar' := [.undef, .undef]) rfl (.le (by simp (disch := first | omega | (simp only [Lx]; omega)) only [go_sem, simprocAttr])) ⟨rfl, by rw [not_all hwm hno]⟩
    have yes : wbad pre w = true → wordOK pre w = false := fun h => by unfold wordOK; rw [h]; rfl
    have good : wbad pre w = false → vcW Tryd.prog E Cod.rwords_L1 (KQ.blk 2 (KQ.blk 1 (KQ.seq Tryd.prog E Cod.rwords_8 (KQ.rnd R2 (KQ.blk 0 (KQ.seq Tryd.prog E Cod.rwords_2 (KQ.post [RVar.tmp 4] 2 R)))))))
        ⟨[(1, .bool pre), (6, .str w), (7, .int .i64 0), (10, .sl 13021 0 L.length), (11, .int .i64 L.length), (12, .int .i64 k)], [(13021, .arr 1 (L.map AV.str))]⟩ := by
      intro hno
      refine vcW_loop hN (fun j : Nat => ⟨[(1, .bool pre), (6, .str w), (7, .int .i64 j), (10, .sl 13021 0 L.length), (11, .int .i64 L.length), (12, .int .i64 k)], [(13021, .arr 1 (L.map AV.str))]⟩)
        (fun j => j ≤ w.length ∧ (w.take j).all chOK = true) (fun j => w.length - j) 0 (.le (by simp (disch := first | omega | (simp only [Lx]; omega)) only [go_sem, simprocAttr])) ⟨by omega, by simp⟩ ?_
      rintro j R3 ⟨hj, hc⟩ hR3
      by_cases hlt : j < w.length
      · have htj := take_succB 0 w hlt
        have hmem : w.getD j 0 ∈ w := by
          rw [List.getD_eq_getElem?_getD, List.getElem?_eq_getElem hlt]; exact List.getElem_mem hlt
        obtain ⟨x, hx0⟩ : ∃ x, x = w.getD j 0 := ⟨_, rfl⟩
        rw [← hx0] at htj hmem
        simp (disch := first | omega | (simp only [Lx]; omega)) only [go_sem, simprocAttr, ← hx0]
        (repeat (first | (with_reducible refine gskip_of ?_) | (with_reducible refine gcskip_of ?_) | (with_reducible refine gopen_of ?_)) <;> simp (disch := first | omega | (simp only [Lx]; omega)) only [go_sem, simprocAttr, ← hx0])
        refine ifW_dec (fun he => ?_) (fun he => ?_)
        · have : chOK x = false := by
            rw [chOK, decide_eq_false_iff_not]
            simp at he
            omega
          simp (disch := first | omega | (simp only [Lx]; omega)) only [go_sem, simprocAttr]
          exact bad _ (by unfold wordOK; rw [not_all hmem this, Bool.and_false])
        · simp (disch := first | omega | (simp only [Lx]; omega)) only [go_sem, simprocAttr]
          refine hR3 (j + 1) _ (by omega) ⟨by omega, ?_⟩ (.le (by simp (disch := first | omega | (simp only [Lx]; omega)) only [go_sem, simprocAttr]))
          rw [htj, List.all_append, hc]
          have : chOK x = true := by
            rw [chOK, decide_eq_true_iff]
            simp at he
            omega
          simp [this]
      · obtain rfl : j = w.length := by omega
        rw [List.take_of_length_le (Nat.le_refl _)] at hc
        have hwok : wordOK pre w = true := by unfold wordOK; rw [hno, hc]; rfl
        simp (disch := first | omega | (simp only [Lx]; omega)) only [go_sem, simprocAttr]
        exact hR2 (k + 1) _ (by omega) ⟨by omega, by rw [htk, List.all_append, hok]; simp [hwok]⟩ (.le (by simp (disch := first | omega | (simp only [Lx]; omega)) only [go_sem, simprocAttr]))
    by_cases hw0 : w = []
    · subst hw0
      simp (disch := first | omega | (simp only [Lx]; omega)) only [go_sem, simprocAttr, ← hw]
      (repeat (first | (with_reducible refine gskip_of ?_) | (with_reducible refine gcskip_of ?_) | (with_reducible refine gopen_of ?_)) <;> simp (disch := first | omega | (simp only [Lx]; omega)) only [go_sem, simprocAttr, ← hw])
      exact bad _ (yes (by simp [wbad]))
    · have hwr := wbad_ref (pre := pre) hw0
      cases pre with
      | false =>
        simp (disch := first | omega | (simp only [Lx]; omega)) only [go_sem, simprocAttr, ← hw, hw0]
        (repeat (first | (with_reducible refine gskip_of ?_) | (with_reducible refine gcskip_of ?_) | (with_reducible refine gopen_of ?_)) <;> simp (disch := first | omega | (simp only [Lx]; omega)) only [go_sem, simprocAttr, ← hw, hw0])
        exact good (by rw [hwr]; rfl)
      | true =>
        simp (disch := first | omega | (simp only [Lx]; omega)) only [go_sem, simprocAttr, ← hw, hw0]
        refine gcyes_of (callT_ro (by simp (disch := first | omega | (simp only [Lx]; omega)) only [go_sem, simprocAttr]) (rdigits_ok w (by omega)) (by simp (disch := first | omega | (simp only [Lx]; omega)) only [go_sem, simprocAttr]) rfl rfl ?_)
        cases hd : digB w with
        | false =>
          rw [hd] at hwr
          simp (disch := first | omega | (simp only [Lx]; omega)) only [go_sem, simprocAttr, hw0]
          (repeat (first | (with_reducible refine gskip_of ?_) | (with_reducible refine gcskip_of ?_) | (with_reducible refine gopen_of ?_)) <;> simp (disch := first | omega | (simp only [Lx]; omega)) only [go_sem, simprocAttr, hw0])
          exact good (by rw [hwr]; rfl)
        | true =>
          rw [hd] at hwr
          simp (disch := first | omega | (simp only [Lx]; omega)) only [go_sem, simprocAttr, hw0]
          refine gcyes_of (callT_ro (by simp (disch := first | omega | (simp only [Lx]; omega)) only [go_sem, simprocAttr]) (rnumber_ok w (by omega)) (by simp (disch := first | omega | (simp only [Lx]; omega)) only [go_sem, simprocAttr]) rfl rfl ?_)
          cases hn : rnumB w with
          | false =>
            rw [hn] at hwr
            simp (disch := first | omega | (simp only [Lx]; omega)) only [go_sem, simprocAttr, hw0]
            exact bad _ (yes (by rw [hwr]; rfl))
          | true =>
            rw [hn] at hwr
            simp (disch := first | omega | (simp only [Lx]; omega)) only [go_sem, simprocAttr, hw0]
            exact good (by rw [hwr]; rfl)
  · obtain rfl : k = L.length := by omega
    rw [List.take_of_length_le (Nat.le_refl _)] at hok
    simp (disch := first | omega | (simp only [Lx]; omega)) only [go_sem, simprocAttr]
    exact hR.wk (h' := []) (r' := .bool true) (ar' := [.undef, .undef]) rfl (.le (by simp (disch := first | omega | (simp only [Lx]; omega)) only [go_sem, simprocAttr])) ⟨rfl, by rw [hok]⟩
end Go.Proofs.YtgkcbhdpenmogaaDoor.Sv
namespace Go.Proofs.YtgkcbhdpenmogaaDoor.Sv
open Eng
set_option maxRecDepth 10000
def rp3 (r pr bu : Bs) (som : Bool) : Option Ver :=
  if 3 < (splitB 46 r).length ∨ (som = true ∧ (splitB 46 r).length < 3) then none else if (splitB 46 r).all rnumB = true then
    some ⟨(splitB 46 r ++ [[48], [48]]).getD 0 [], (splitB 46 r ++ [[48], [48]]).getD 1 [], (splitB 46 r ++ [[48], [48]]).getD 2 [], pr, bu, 3 - (splitB 46 r).length⟩ else none
def rp2 (r bu : Bs) (som : Bool) : Option Ver := if (cutP 45 r).2.2 = true ∧ wordsP (cutP 45 r).2.1 true = false then none else rp3 (cutP 45 r).1 (cutP 45 r).2.1 bu (som || (cutP 45 r).2.2)
def rp1 (r : Bs) : Option Ver := if (cutP 43 r).2.2 = true ∧ wordsP (cutP 43 r).2.1 false = false then none else rp2 (cutP 43 r).1 (cutP 43 r).2.1 (cutP 43 r).2.2
def rparseP (s : Bs) : Option Ver := if s.length < 2 ∨ 100 < s.length ∨ ¬ (s.getD 0 0).toNat = 118 then none else rp1 (s.drop 1)
theorem rparse_ok (s : Bs) (hs : s.length ≤ 9223372036854775807) : SpecR Tryd.prog 11 [.str s] (parseA (rparseP s)) := by
  refine Cod.rparse_spec (fun E R hN hR => ?_)
  have no : rparseP s = none → ∀ h, R h (.tup [verA noV, .bool false]) [.undef] := fun hv h => by
    rw [hv] at hR
    exact hR.wk (h' := []) (r' := .tup [verA noV, .bool false]) (ar' := [.undef]) rfl (.le (by simp (disch := first | omega | (simp only [Lx]; omega)) only [go_sem, simprocAttr])) ⟨rfl, rfl⟩
  by_cases h2 : s.length < 2
  · simp (disch := first | omega | (simp only [Lx]; omega)) only [go_sem, simprocAttr]
    (repeat (first | (with_reducible refine gskip_of ?_) | (with_reducible refine gcskip_of ?_) | (with_reducible refine gopen_of ?_)) <;> simp (disch := first | omega | (simp only [Lx]; omega)) only [go_sem, simprocAttr])
    exact no (by rw [rparseP, if_pos (.inl h2)]) _
  by_cases h100 : 100 < s.length
  · simp (disch := first | omega | (simp only [Lx]; omega)) only [go_sem, simprocAttr]
    (repeat (first | (with_reducible refine gskip_of ?_) | (with_reducible refine gcskip_of ?_) | (with_reducible refine gopen_of ?_)) <;> simp (disch := first | omega | (simp only [Lx]; omega)) only [go_sem, simprocAttr])
    exact no (by rw [rparseP, if_pos (.inr (.inl h100))]) _
  by_cases h118 : (s.getD 0 0).toNat = 118
  rotate_left
  · simp (disch := first | omega | (simp only [Lx]; omega)) only [go_sem, simprocAttr]
    exact no (by rw [rparseP, if_pos (.inr (.inr h118))]) _
  have hP : rparseP s = rp1 (s.drop 1) := by rw [rparseP, if_neg (fun h => h.elim h2 (fun h => h.elim h100 (fun h => h h118)))]
  have hrl : (s.drop 1).length ≤ 100 := by rw [List.length_drop]; omega
  simp (disch := first | omega | (simp only [Lx]; omega)) only [go_sem, simprocAttr]
  obtain ⟨r, hr⟩ : ∃ r, r = s.drop 1 := ⟨_, rfl⟩
  rw [← hr] at hP hrl
  rw [hP] at hR no
  simp (disch := first | omega | (simp only [Lx]; omega)) only [go_sem, simprocAttr, ← hr]
  refine call_ro (find_ok r 43 (by omega)) rfl rfl ?_
  have hcl := cutP_len 43 r
  have hid : (-9223372036854775808 : Int) ≤ Lib.indexByte r 43 ∧ Lib.indexByte r 43 ≤ 200 := by
    rcases cutP_index 43 r with ⟨i1, _⟩ | ⟨j, i0, i1, _⟩ <;> rw [i1] <;> omega
  simp (disch := first | omega | (simp only [Lx]; omega)) only [go_sem, simprocAttr]
  refine vcW_cut hN (fun q : Bs × Bs × Bool => ⟨[(0, .str q.1), (2, .vptr 17002 0), (4, .vptr 17004 0), (6, .bool q.2.2)], [(17004, .var [.str [], .str [], .str [], .str [], .str q.2.1, .int .i64 0]), (17002, .var [.str [], .str [], .str [], .str [], .str [], .int .i64 0])]⟩)
    (fun q => rp1 r = rp2 q.1 q.2.1 q.2.2 ∧ q.1.length ≤ 100 ∧ q.2.1.length ≤ 100) (fun R1 hR1 => ?_) ?_
  · rcases cutP_index 43 r with ⟨i1, i2⟩ | ⟨j, i0, i1, i2⟩
    · rw [i1]
      simp (disch := first | omega | (simp only [Lx]; omega)) only [go_sem, simprocAttr]
      refine hR1 (r, [], false) _ ⟨by rw [rp1, i2]; rfl, by omega, by simp⟩ (.le (by simp (disch := first | omega | (simp only [Lx]; omega)) only [go_sem, simprocAttr, zeroC]))
    · rw [i1]
      rw [i2] at hcl
      rw [List.length_take, List.length_drop] at hcl
      simp (disch := first | omega | (simp only [Lx]; omega)) only [go_sem, simprocAttr]
      refine call_ro (rwords_ok (r.drop (j + 1)) false (by rw [List.length_drop]; omega)) rfl rfl ?_
      cases hw : wordsP (r.drop (j + 1)) false with
      | false =>
        simp (disch := first | omega | (simp only [Lx]; omega)) only [go_sem, simprocAttr]
        exact no (by rw [rp1, i2, if_pos ⟨rfl, hw⟩]) _
      | true =>
        simp (disch := first | omega | (simp only [Lx]; omega)) only [go_sem, simprocAttr]
        refine hR1 (r.take j, r.drop (j + 1), true) _ ⟨by rw [rp1, i2, if_neg (fun h => by rw [hw] at h; cases h.2)], by rw [List.length_take]; omega, by rw [List.length_drop]; omega⟩ (.le (by simp (disch := first | omega | (simp only [Lx]; omega)) only [go_sem, simprocAttr, zeroC]))
  rintro ⟨r1, bu, som⟩ ⟨hq, hl1, hl2⟩
  simp only at hq hl1 hl2
  rw [hq] at hR no
  clear hq hcl hid
  simp (disch := first | omega | (simp only [Lx]; omega)) only [go_sem, simprocAttr]
  refine call_ro (find_ok r1 45 (by omega)) rfl rfl ?_
  have hcl := cutP_len 45 r1
  simp (disch := first | omega | (simp only [Lx]; omega)) only [go_sem, simprocAttr]
  refine vcW_cut hN (fun q : Bs × Bs × Bool => ⟨[(0, .str q.1), (2, .vptr 17002 0), (4, .vptr 17004 0), (6, .bool q.2.2)], [(17004, .var [.str [], .str [], .str [], .str q.2.1, .str bu, .int .i64 0]), (17002, .var [.str [], .str [], .str [], .str [], .str [], .int .i64 0])]⟩)
    (fun q => rp2 r1 bu som = rp3 q.1 q.2.1 bu q.2.2 ∧ q.1.length ≤ 100 ∧ q.2.1.length ≤ 100) (fun R1 hR1 => ?_) ?_
  · rcases cutP_index 45 r1 with ⟨i1, i2⟩ | ⟨j, i0, i1, i2⟩
    · rw [i1]
      simp (disch := first | omega | (simp only [Lx]; omega)) only [go_sem, simprocAttr]
      refine hR1 (r1, [], som) _ ⟨by rw [rp2, i2, if_neg (fun h => by cases h.1), Bool.or_false], by omega, by simp⟩ (.le (by simp (disch := first | omega | (simp only [Lx]; omega)) only [go_sem, simprocAttr, zeroC]))
    · rw [i1]
      rw [i2] at hcl
      rw [List.length_take, List.length_drop] at hcl
      simp (disch := first | omega | (simp only [Lx]; omega)) only [go_sem, simprocAttr]
      refine call_ro (rwords_ok (r1.drop (j + 1)) true (by rw [List.length_drop]; omega)) rfl rfl ?_
      cases hw : wordsP (r1.drop (j + 1)) true with
      | false =>
        simp (disch := first | omega | (simp only [Lx]; omega)) only [go_sem, simprocAttr]
        exact no (by rw [rp2, i2, if_pos ⟨rfl, hw⟩]) _
      | true =>
        simp (disch := first | omega | (simp only [Lx]; omega)) only [go_sem, simprocAttr]
        refine hR1 (r1.take j, r1.drop (j + 1), true) _ ⟨by rw [rp2, i2, if_neg (fun h => by rw [hw] at h; cases h.2), Bool.or_true], by rw [List.length_take]; omega, by rw [List.length_drop]; omega⟩ (.le (by simp (disch := first | omega | (simp only [Lx]; omega)) only [go_sem, simprocAttr, zeroC]))
  rintro ⟨r2, pr, some'⟩ ⟨hq, hl3, hl4⟩
  simp only at hq hl3 hl4
  rw [hq] at hR no
  clear hq hcl
  simp (disch := first | omega | (simp only [Lx]; omega)) only [go_sem, simprocAttr]
  refine call_bor [] (bs := [.str r2, .int .u8 46]) (by simp (disch := first | omega | (simp only [Lx]; omega)) only [go_sem, simprocAttr]) (rcut_ok r2 46 (by omega)) trivial nofun ?_
  rintro h' v ar ⟨rfl, rfl, rfl⟩
  refine ⟨by simp (disch := first | omega | (simp only [Lx]; omega)) only [go_sem, simprocAttr], rfl, ?_⟩
  have hll := splitB_lenle 46 r2
  have hwl := splitB_len 46 r2
  rw [rp3] at no hR
  obtain ⟨L, hL⟩ : ∃ L, L = splitB 46 r2 := ⟨_, rfl⟩
  rw [← hL] at hll hwl hR no ⊢
  simp (disch := first | omega | (simp only [Lx]; omega)) only [go_sem, simprocAttr]
  have tail : ¬ (3 < L.length ∨ some' = true ∧ L.length < 3) → vcW Tryd.prog E Cod.rparse_L0 (KQ.blk 0 (KQ.seq Tryd.prog E Cod.rparse_13 (KQ.post [RVar.cell 2 true 6, RVar.tmp 3] 1 R)))
      ⟨[(2, .vptr 17002 0), (4, .vptr 17004 0), (8, .sl 13021 0 L.length), (81, .sl 13021 0 L.length), (82, .int .i64 L.length), (83, .int .i64 0)],
        [(17004, .var [.str [], .str [], .str [], .str pr, .str bu, .int .i64 (3 - L.length)]), (13021, .arr 1 (L.map AV.str)), (17002, .var [.str [], .str [], .str [], .str [], .str [], .int .i64 0])]⟩ := by
    intro hc
    rw [if_neg hc] at hR no
    refine vcW_loop hN (fun k : Nat => ⟨[(2, .vptr 17002 0), (4, .vptr 17004 0), (8, .sl 13021 0 L.length), (81, .sl 13021 0 L.length), (82, .int .i64 L.length), (83, .int .i64 k)],
        [(17004, .var [.str [], .str [], .str [], .str pr, .str bu, .int .i64 (3 - L.length)]), (13021, .arr 1 (L.map AV.str)), (17002, .var [.str [], .str [], .str [], .str [], .str [], .int .i64 0])]⟩)
      (fun k => k ≤ L.length ∧ (L.take k).all rnumB = true) (fun k => L.length - k) 0 (.le (by simp (disch := first | omega | (simp only [Lx]; omega)) only [go_sem, simprocAttr])) (by simp) ?_
    rintro k R2 ⟨hk, hok⟩ hR2
    by_cases hl : k < L.length
    · have hwm := getD_memB hl
      have hw1 := hwl _ hwm
      have htk := take_succB [] L hl
      obtain ⟨w, hw⟩ : ∃ w, w = L.getD k [] := ⟨_, rfl⟩
      rw [← hw] at hwm hw1 htk
      simp (disch := first | omega | (simp only [Lx]; omega)) only [go_sem, simprocAttr, ← hw]
      refine call_ro (rnumber_ok w (by omega)) rfl rfl ?_
      cases hn : rnumB w with
      | false =>
        simp (disch := first | omega | (simp only [Lx]; omega)) only [go_sem, simprocAttr]
        exact no (by rw [if_neg (fun h => by rw [List.all_eq_true.1 h w hwm] at hn; cases hn)]) _
      | true =>
        simp (disch := first | omega | (simp only [Lx]; omega)) only [go_sem, simprocAttr]
        exact hR2 (k + 1) _ (by omega) ⟨by omega, by rw [htk, List.all_append, hok]; simp [hn]⟩ (.le (by simp (disch := first | omega | (simp only [Lx]; omega)) only [go_sem, simprocAttr]))
    · obtain rfl : k = L.length := by omega
      rw [List.take_of_length_le (Nat.le_refl _)] at hok
      rw [if_pos hok] at hR
      obtain ⟨M, hM⟩ : ∃ M, M = L ++ [[48], [48]] := ⟨_, rfl⟩
      have e : L.map AV.str ++ [AV.str [48], AV.str [48]] = M.map AV.str := by rw [hM]; simp
      have hMl : 2 < M.length := by rw [hM]; simp; omega
      rw [← hM] at hR
      simp (disch := first | omega | (simp only [Lx]; omega)) only [go_sem, simprocAttr, e]
      exact hR.wk (h' := []) (r' := .tup [verA ⟨M.getD 0 [], M.getD 1 [], M.getD 2 [], pr, bu, 3 - L.length⟩, .bool true]) (ar' := [.undef]) rfl (.le (by simp (disch := first | omega | (simp only [Lx]; omega)) only [go_sem, simprocAttr, verA])) ⟨rfl, rfl⟩
  by_cases g3 : 3 < L.length
  · simp (disch := first | omega | (simp only [Lx]; omega)) only [go_sem, simprocAttr]
    (repeat (first | (with_reducible refine gskip_of ?_) | (with_reducible refine gcskip_of ?_) | (with_reducible refine gopen_of ?_)) <;> simp (disch := first | omega | (simp only [Lx]; omega)) only [go_sem, simprocAttr])
    exact no (by rw [if_pos (.inl g3)]) _
  cases some' with
  | true =>
    by_cases g2 : L.length < 3
    · simp (disch := first | omega | (simp only [Lx]; omega)) only [go_sem, simprocAttr]
      exact no (by rw [if_pos (.inr ⟨rfl, g2⟩)]) _
    · simp (disch := first | omega | (simp only [Lx]; omega)) only [go_sem, simprocAttr]
      exact tail (fun h => h.elim g3 (fun h => g2 h.2))
  | false =>
    simp (disch := first | omega | (simp only [Lx]; omega)) only [go_sem, simprocAttr]
    (repeat (first | (with_reducible refine gskip_of ?_) | (with_reducible refine gcskip_of ?_) | (with_reducible refine gopen_of ?_)) <;> simp (disch := first | omega | (simp only [Lx]; omega)) only [go_sem, simprocAttr])
    exact tail (fun h => h.elim g3 (fun h => by cases h.1))
end Go.Proofs.YtgkcbhdpenmogaaDoor.Sv
namespace Go.Proofs.YtgkcbhdpenmogaaDoor.Sv
open Eng
set_option maxRecDepth 10000
theorem rnumB_num {w : Bs} : rnumB w = true ↔ Num w := by
  unfold rnumB digB Num
  cases w with
  | nil => simp
  | cons x r =>
    simp only [List.isEmpty_cons, Bool.not_false, Bool.true_and, Bool.and_eq_true, Bool.or_eq_true, decide_eq_true_eq, Bool.not_eq_true', decide_eq_false_iff_not, ne_eq, reduceCtorEq, not_false_eq_true, true_and]
    constructor
    · rintro ⟨h1, h2⟩
      exact ⟨h1, fun hl he => h2.elim (fun e => by omega) (fun e => e (by rw [he]; rfl))⟩
    · rintro ⟨h1, h2⟩
      refine ⟨h1, ?_⟩
      by_cases hl : 1 < (x :: r).length
      · exact .inr (fun e => h2 hl (UInt8.toNat.inj e))
      · simp only [List.length_cons] at hl ⊢; exact .inl (by omega)
theorem cutP_spec (c : UInt8) : ∀ s : Bs, s = (cutP c s).1 ++ (if (cutP c s).2.2 = true then c :: (cutP c s).2.1 else []) ∧ ((cutP c s).2.2 = false → (cutP c s).2.1 = [])
  | [] => by simp [cutP]
  | x :: r => by
    have := cutP_spec c r
    simp only [cutP]
    split
    · rename_i h; subst h; simp
    · exact ⟨by rw [List.cons_append, ← this.1], this.2⟩
theorem isD46 {c : UInt8} (h : isD c = true) : ¬ c = 46 := by rintro rfl; cases h
/-- the first word behind digits -/
theorem split_first : ∀ {d y : Bs}, d.all isD = true → ∃ z ws, splitB 46 (d ++ y) = (d ++ z) :: ws ∧ (z = [] ∨ z.getD 0 0 = y.getD 0 0) ∧ (y = [] → z = [] ∧ ws = []) ∧ (∀ y', y = 46 :: y' → z = [] ∧ ws = splitB 46 y') ∧ (∀ c y', y = c :: y' → ¬ c = 46 → z ≠ [])
  | [], y, _ => by
    cases y with
    | nil => exact ⟨[], [], rfl, .inl rfl, fun _ => ⟨rfl, rfl⟩, (fun _ h => by cases h), (fun _ _ h => by cases h)⟩
    | cons c y =>
      rw [List.nil_append, splitB]
      by_cases hc : c = 46
      · rw [if_pos hc]
        exact ⟨[], splitB 46 y, rfl, .inl rfl, (fun h => by cases h), (fun y' h => by cases h; exact ⟨rfl, rfl⟩), (fun a b h hn => by cases h; exact absurd hc hn)⟩
      · rw [if_neg hc]
        cases hs : splitB 46 y with
        | nil => exact absurd hs (splitB_ne _ _)
        | cons p ps => exact ⟨c :: p, ps, rfl, .inr rfl, (fun h => by cases h), (fun y' h => by cases h; exact absurd rfl hc), fun _ _ _ _ => by simp⟩
  | c :: d, y, h => by
    simp only [List.all_cons, Bool.and_eq_true] at h
    obtain ⟨z, ws, h1, h2⟩ := split_first (y := y) h.2
    refine ⟨z, ws, ?_, h2⟩
    rw [List.cons_append, splitB, if_neg (isD46 h.1), h1]
    rfl
theorem all_drop (d z : Bs) (h : (d ++ z).all isD = true) : z.all isD = true := by
  rw [List.all_append, Bool.and_eq_true] at h; exact h.2
/-- a number, or what is none -/
theorem num_split (x t : Bs) (ht : t = [] ∨ isD (t.getD 0 0) = false) :
    (∃ d y, x = d ++ y ∧ Num d ∧ numP (x ++ t) = (d, y ++ t, true) ∧ ((y = [] ∧ splitB 46 x = [d]) ∨ (∃ y', y = 46 :: y' ∧ splitB 46 x = d :: splitB 46 y') ∨ (∃ c y', y = c :: y' ∧ c ≠ 46 ∧ ∃ w ∈ splitB 46 x, rnumB w = false))) ∨
      ((numP (x ++ t)).2.2 = false ∧ ∃ w ∈ splitB 46 x, rnumB w = false) := by
  obtain ⟨d, hd⟩ : ∃ d, d = x.takeWhile isD := ⟨_, rfl⟩
  obtain ⟨y, hy⟩ : ∃ y, y = x.dropWhile isD := ⟨_, rfl⟩
  have hx : x = d ++ y := by rw [hd, hy, List.takeWhile_append_dropWhile]
  have hda : d.all isD = true := by rw [hd]; exact List.all_takeWhile
  have hyn : y = [] ∨ isD (y.getD 0 0) = false := by
    cases hyy : y with
    | nil => exact .inl rfl
    | cons c r =>
      right
      have := List.head?_dropWhile_not isD x
      rw [← hy, hyy] at this
      simpa using this
  have hyt : y ++ t = [] ∨ isD ((y ++ t).getD 0 0) = false := by
    cases y with
    | nil => simpa using ht
    | cons c r => exact .inr (by simpa using hyn)
  obtain ⟨z, ws, s1, s2, s3, s4, s5⟩ := split_first (y := y) hda
  rw [← hx] at s1
  have zbad : z ≠ [] → rnumB (d ++ z) = false := by
    intro hz
    cases hr : rnumB (d ++ z) with
    | false => rfl
    | true =>
      have ha := all_drop d z (rnumB_num.1 hr).1
      cases z with
      | nil => exact absurd rfl hz
      | cons c r =>
        simp only [List.all_cons, Bool.and_eq_true] at ha
        have s2' := s2.resolve_left hz
        rcases hyn with rfl | hyn
        · exact absurd (s3 rfl).1 hz
        · rw [← s2'] at hyn
          rw [show (c :: r).getD 0 0 = c from rfl, ha.1] at hyn; cases hyn
  by_cases hn : Num d
  · refine .inl ⟨d, y, hx, hn, ?_, ?_⟩
    · rw [hx, List.append_assoc]; exact numP_app hn hyt
    · cases y with
      | nil =>
        obtain ⟨rfl, rfl⟩ := s3 rfl
        exact .inl ⟨rfl, by rw [s1, List.append_nil]⟩
      | cons c r =>
        by_cases hc : c = 46
        · subst hc
          obtain ⟨rfl, e⟩ := s4 r rfl
          exact .inr (.inl ⟨r, rfl, by rw [s1, e, List.append_nil]⟩)
        · exact .inr (.inr ⟨c, r, rfl, hc, d ++ z, by rw [s1]; simp, zbad (s5 c r rfl hc)⟩)
  · refine .inr ⟨?_, d ++ z, by rw [s1]; simp, ?_⟩
    · have hl : dlen (x ++ t) = d.length := by unfold dlen; rw [hx, List.append_assoc, tw_all hda _ hyt]
      have hc : dlen (x ++ t) = 0 ∨ (1 < dlen (x ++ t) ∧ (x ++ t).getD 0 0 = 48) := by
        rw [hl]
        by_cases h0 : d = []
        · exact .inl (by rw [h0]; rfl)
        · right
          have : ¬ (1 < d.length → d.getD 0 0 ≠ 48) := fun h => hn ⟨hda, h0, h⟩
          have h1 : 1 < d.length ∧ d.getD 0 0 = 48 := by
            by_cases ha : 1 < d.length
            · refine ⟨ha, ?_⟩
              by_cases hb : d.getD 0 0 = 48
              · exact hb
              · exact absurd (fun _ => hb) this
            · exact absurd (fun h => absurd h ha) this
          refine ⟨h1.1, ?_⟩
          rw [hx, ← h1.2]
          cases d with
          | nil => exact absurd rfl h0
          | cons c r => rfl
      rw [numP, if_pos hc]
    · by_cases hz : z = []
      · rw [hz, List.append_nil]
        cases hr : rnumB d with
        | false => rfl
        | true => exact absurd (rnumB_num.1 hr) hn
      · exact zbad hz
theorem rp3_bad {r pr bu : Bs} {som : Bool} (h : ∃ w ∈ splitB 46 r, rnumB w = false) : rp3 r pr bu som = none := by
  obtain ⟨w, h1, h2⟩ := h
  unfold rp3
  split
  · rfl
  · rw [if_neg (fun ha => by rw [List.all_eq_true.1 ha w h1] at h2; cases h2)]
/-- what stands behind the numbers -/
def restP (s1 s2 : Bool) (pr bu : Bs) : Bs := (if s2 = true then 45 :: pr else []) ++ (if s1 = true then 43 :: bu else [])
def badW (s1 s2 : Bool) (pr bu : Bs) : Prop := (s1 = true ∧ wordsP bu false = false) ∨ (s2 = true ∧ wordsP pr true = false)
instance (s1 s2 : Bool) (pr bu : Bs) : Decidable (badW s1 s2 pr bu) := by unfold badW; exact inferInstance
theorem rest_head (s1 s2 : Bool) (pr bu : Bs) : (restP s1 s2 pr bu = [] ∧ s1 = false ∧ s2 = false) ∨ (restP s1 s2 pr bu ≠ [] ∧ isD ((restP s1 s2 pr bu).getD 0 0) = false ∧ ((restP s1 s2 pr bu).getD 0 0).toNat ≠ 46 ∧ (s1 || s2) = true) := by
  cases s1 <;> cases s2
  · exact .inl ⟨rfl, rfl, rfl⟩
  · exact .inr ⟨by simp [restP], rfl, by simp [restP], rfl⟩
  · exact .inr ⟨by simp [restP], rfl, by simp [restP], rfl⟩
  · exact .inr ⟨by simp [restP], rfl, by simp [restP], rfl⟩
theorem parse6_rest (mj mi pa : Bs) {s1 s2 : Bool} {pr bu : Bs} (h1 : s1 = false → bu = []) (h2 : s2 = false → pr = []) (hp : 43 ∉ pr) :
    parse6 mj mi pa (restP s1 s2 pr bu) = if badW s1 s2 pr bu then none else some ⟨mj, mi, pa, pr, bu, 0⟩ := by
  have hc : cutP 43 (restP s1 s2 pr bu) = (if s2 = true then 45 :: pr else [], bu, s1) := by
    have hn : (43 : UInt8) ∉ (if s2 = true then 45 :: pr else []) := by
      split
      · simp only [List.mem_cons, not_or]; exact ⟨by decide, hp⟩
      · simp
    unfold restP
    cases s1 with
    | false => rw [h1 rfl]; simp only [Bool.false_eq_true, if_false, List.append_nil]; exact cutP_none hn
    | true => exact cutP_some hn bu
  rw [parse6, hc]
  simp only
  by_cases hb : s1 = true ∧ wordsP bu false = false
  · rw [if_pos hb, if_pos (show badW s1 s2 pr bu from .inl hb)]
  · rw [if_neg hb]
    cases s2 with
    | false =>
      rw [if_neg (show ¬ badW s1 false pr bu from fun h => Or.elim h hb (fun h => by cases h.1)), h2 rfl]
      simp [parse7]
    | true =>
      have : prefP 45 (45 :: pr) = (pr, true) := by simp [prefP]
      simp only [if_true]
      rw [parse7, if_neg (by simp), this]
      cases hw : wordsP pr true with
      | true => rw [if_pos ⟨rfl, rfl⟩, if_neg (show ¬ badW s1 true pr bu from fun h => Or.elim h hb (fun h => by rw [hw] at h; cases h.2))]
      | false => rw [if_neg (fun h => by cases h.2), if_pos (show badW s1 true pr bu from .inr ⟨rfl, hw⟩)]
theorem parse6_bad (mj mi pa : Bs) {c : UInt8} {x : Bs} {s1 s2 : Bool} {pr bu : Bs} (hx : 43 ∉ c :: x) (hc : c ≠ 45) (hp : 43 ∉ pr) : parse6 mj mi pa ((c :: x) ++ restP s1 s2 pr bu) = none := by
  have hcut : (cutP 43 ((c :: x) ++ restP s1 s2 pr bu)).1 = (c :: x) ++ (if s2 = true then 45 :: pr else []) := by
    have hn : (43 : UInt8) ∉ (c :: x) ++ (if s2 = true then 45 :: pr else []) := by
      rw [List.mem_append, not_or]
      refine ⟨hx, ?_⟩
      split
      · simp only [List.mem_cons, not_or]; exact ⟨by decide, hp⟩
      · simp
    unfold restP
    rw [← List.append_assoc]
    cases s1 with
    | false => simp only [Bool.false_eq_true, if_false, List.append_nil]; rw [cutP_none hn]
    | true => simp only [if_true]; rw [cutP_some hn bu]
  rw [parse6]
  split
  · rfl
  · rw [hcut, parse7, if_neg (by simp), if_neg]
    rw [List.cons_append, prefP, if_neg hc]
    exact fun h => by cases h.1
theorem getD46 (y t : Bs) : (((46 :: y) ++ t).getD 0 0).toNat = 46 := rfl
theorem parse1_split (x pr bu : Bs) (s1 s2 : Bool) (hx1 : 43 ∉ x) (hx2 : 45 ∉ x) (h1 : s1 = false → bu = []) (h2 : s2 = false → pr = []) (hp : 43 ∉ pr) :
    parse1 (x ++ restP s1 s2 pr bu) = if badW s1 s2 pr bu then none else rp3 x pr bu (s1 || s2) := by
  have hrest := rest_head s1 s2 pr bu
  have ht : restP s1 s2 pr bu = [] ∨ isD ((restP s1 s2 pr bu).getD 0 0) = false := hrest.elim (fun h => .inl h.1) (fun h => .inr h.2.1)
  have p6 := fun mj mi pa => parse6_rest mj mi pa h1 h2 hp
  have p6b : ∀ mj mi pa c y, 43 ∉ c :: y → c ≠ 45 → parse6 mj mi pa ((c :: y) ++ restP s1 s2 pr bu) = none := fun mj mi pa c y a b => parse6_bad mj mi pa a b hp
  have hnb : restP s1 s2 pr bu = [] → ¬ badW s1 s2 pr bu := by
    intro e
    rcases hrest with ⟨_, rfl, rfl⟩ | h
    · rintro (h | h) <;> cases h.1
    · exact absurd e h.1
  have none_if : ∀ {o : Option Ver}, o = none → (if badW s1 s2 pr bu then none else o) = none := by
    intro o h; subst h; split <;> rfl
  rw [parse1]
  rcases num_split x (restP s1 s2 pr bu) ht with ⟨d, y, hx, hd, hn, hy⟩ | ⟨hn, hb⟩
  rotate_left
  · rw [if_pos hn, none_if (rp3_bad hb)]
  rw [hn, if_neg (by simp)]
  simp only
  rw [parse2]
  rcases hy with ⟨rfl, hs⟩ | ⟨y', rfl, hs⟩ | ⟨c, y', rfl, hc, hb⟩
  · rcases hrest with ⟨he, rfl, rfl⟩ | ⟨hne, _, h46, hso⟩
    · rw [if_neg (hnb he), List.nil_append, he, if_pos rfl, h1 rfl, h2 rfl, rp3, hs, if_neg (by simp), if_pos (by simp [rnumB_num.2 hd])]
      rfl
    · rw [List.nil_append, if_neg hne, if_pos (by simpa using h46), none_if]
      rw [rp3, hs, if_pos (.inr ⟨hso, by simp⟩)]
  rotate_left
  · rw [if_neg (by simp), if_pos, none_if (rp3_bad hb)]
    rw [List.cons_append]
    exact fun e => hc (UInt8.toNat.inj e)
  rw [if_neg (by simp), if_neg (fun h => h (getD46 _ _)), List.cons_append, List.drop_one, List.tail_cons, parse3]
  have hy1 : 43 ∉ y' := fun h => hx1 (by rw [hx]; simp [h])
  have hy2 : 45 ∉ y' := fun h => hx2 (by rw [hx]; simp [h])
  rcases num_split y' (restP s1 s2 pr bu) ht with ⟨d2, z, hz, hd2, hn2, hyz⟩ | ⟨hn2, hb⟩
  rotate_left
  · rw [if_pos hn2, none_if (rp3_bad ?_)]
    obtain ⟨w, a, b⟩ := hb
    exact ⟨w, by rw [hs]; exact List.mem_cons_of_mem _ a, b⟩
  rw [hn2, if_neg (by simp)]
  simp only
  rw [parse4]
  rcases hyz with ⟨rfl, hs2⟩ | ⟨z', rfl, hs2⟩ | ⟨c, z', rfl, hc, hb⟩
  · rw [hs2] at hs
    rcases hrest with ⟨he, rfl, rfl⟩ | ⟨hne, _, h46, hso⟩
    · rw [if_neg (hnb he), List.nil_append, he, if_pos rfl, h1 rfl, h2 rfl, rp3, hs, if_neg (by simp), if_pos (by simp [rnumB_num.2 hd, rnumB_num.2 hd2])]
      rfl
    · rw [List.nil_append, if_neg hne, if_pos (by simpa using h46), none_if]
      rw [rp3, hs, if_pos (.inr ⟨hso, by simp⟩)]
  rotate_left
  · rw [if_neg (by simp), if_pos, none_if (rp3_bad ?_)]
    · obtain ⟨w, a, b⟩ := hb
      exact ⟨w, by rw [hs]; exact List.mem_cons_of_mem _ a, b⟩
    · rw [List.cons_append]
      exact fun e => hc (UInt8.toNat.inj e)
  rw [hs2] at hs
  rw [if_neg (by simp), if_neg (fun h => h (getD46 _ _)), List.cons_append, List.drop_one, List.tail_cons, parse5]
  have hz1 : 43 ∉ z' := fun h => hy1 (by rw [hz]; simp [h])
  have hz2 : 45 ∉ z' := fun h => hy2 (by rw [hz]; simp [h])
  rcases num_split z' (restP s1 s2 pr bu) ht with ⟨d3, u, hu, hd3, hn3, hyu⟩ | ⟨hn3, hb⟩
  rotate_left
  · rw [if_pos hn3, none_if (rp3_bad ?_)]
    obtain ⟨w, a, b⟩ := hb
    exact ⟨w, by rw [hs]; exact List.mem_cons_of_mem _ (List.mem_cons_of_mem _ a), b⟩
  rw [hn3, if_neg (by simp)]
  simp only
  have hu1 : 43 ∉ u := fun h => hz1 (by rw [hu]; simp [h])
  have hu2 : 45 ∉ u := fun h => hz2 (by rw [hu]; simp [h])
  rcases hyu with ⟨rfl, hs3⟩ | ⟨u', rfl, hs3⟩ | ⟨c, u', rfl, hc, hb⟩
  · have e3 : rp3 x pr bu (s1 || s2) = some ⟨d, d2, d3, pr, bu, 0⟩ := by
      rw [rp3, hs, hs3, if_neg (by simp), if_pos (by simp [rnumB_num.2 hd, rnumB_num.2 hd2, rnumB_num.2 hd3])]
      rfl
    rw [List.nil_append, p6, e3]
  · rw [p6b _ _ _ _ _ hu1 (by decide), none_if]
    have := (splitB_lenle 46 u').2
    rw [rp3, hs, hs3, if_pos (.inl (by simp only [List.length_cons]; omega))]
  · rw [p6b _ _ _ _ _ hu1 (fun e => hu2 (by rw [e]; simp)), none_if (rp3_bad ?_)]
    obtain ⟨w, a, b⟩ := hb
    exact ⟨w, by rw [hs]; exact List.mem_cons_of_mem _ (List.mem_cons_of_mem _ a), b⟩
theorem rp1_eq (r : Bs) : rp1 r = parse1 r := by
  have c1 := cutP_spec 43 r
  have n1 := (cutP_not 43 r).1
  rw [rp1, rp2]
  obtain ⟨r1, bu, s1, hq⟩ : ∃ a b c, cutP 43 r = (a, b, c) := ⟨_, _, _, rfl⟩
  rw [hq] at c1 n1 ⊢
  simp only at c1 n1 ⊢
  have c2 := cutP_spec 45 r1
  have n2 := (cutP_not 45 r1).1
  obtain ⟨r2, pr, s2, hq2⟩ : ∃ a b c, cutP 45 r1 = (a, b, c) := ⟨_, _, _, rfl⟩
  rw [hq2] at c2 n2 ⊢
  simp only at c2 n2 ⊢
  have hr2 : 43 ∉ r2 := fun h => n1 (by rw [c2.1]; simp [h])
  have hpr : 43 ∉ pr := by
    cases s2 with
    | false => rw [c2.2 rfl]; simp
    | true => exact fun h => n1 (by rw [c2.1]; simp [h])
  have e : r = r2 ++ restP s1 s2 pr bu := by rw [c1.1, c2.1, List.append_assoc]; rfl
  rw [e, parse1_split r2 pr bu s1 s2 hr2 n2 c1.2 c2.2 hpr]
  by_cases a : s1 = true ∧ wordsP bu false = false
  · rw [if_pos a, if_pos (show badW s1 s2 pr bu from .inl a)]
  · rw [if_neg a]
    by_cases b : s2 = true ∧ wordsP pr true = false
    · rw [if_pos b, if_pos (show badW s1 s2 pr bu from .inr b)]
    · rw [if_neg b, if_neg (show ¬ badW s1 s2 pr bu from fun h => Or.elim h a b)]
theorem rparse_eq (s : Bs) : rparseP s = parseP s := by
  rw [rparseP, parseP]
  cases s with
  | nil => rfl
  | cons x r =>
    by_cases hx : x = 118
    · subst hx
      have hp : prefP 118 (118 :: r) = (r, true) := by simp [prefP]
      rw [hp]
      by_cases h2 : (118 :: r).length < 2
      · have : r = [] := List.eq_nil_of_length_eq_zero (by simp at h2; omega)
        subst this; rfl
      · by_cases h1 : 100 < (118 :: r).length
        · rw [if_pos (.inr (.inl h1)), if_pos (.inr h1)]
        · rw [if_neg (fun h => h.elim h2 (fun h => h.elim h1 (fun h => h rfl))), if_neg (fun h => h.elim (fun h => by cases h) h1)]
          exact rp1_eq r
    · have hp : prefP 118 (x :: r) = (x :: r, false) := by simp [prefP, hx]
      rw [hp, if_pos (.inr (.inr (fun e => hx (UInt8.toNat.inj e)))), if_pos (.inl rfl)]
theorem rparse_ok' (s : Bs) (hs : s.length ≤ 9223372036854775807) : SpecR Tryd.prog 11 [.str s] (parseA (parseP s)) := by
  have := rparse_ok s hs
  rwa [rparse_eq] at this
end Go.Proofs.YtgkcbhdpenmogaaDoor.Sv
