/- Commit: lines, signs, checks and bytes: the program's and the document's. -/
import Derived.Test.YtjpinndnicmokaaDoorCmNames
import Derived.Test.YtjpinndnicmokaaDoorCmAny
set_option linter.all false
namespace Go.Proofs.YtjpinndnicmokaaDoor.Cm
open Eng Ob
set_option maxRecDepth 10000
theorem any_ge (s : Bs) : 0 ≤ Lib.indexAny s [10, 0] ↔ (s.contains 10 || s.contains 0) = true := by
  induction s with
  | nil => simp [Lib.indexAny]
  | cons b r ih =>
    rw [Lib.indexAny]
    by_cases hb : [10, 0].contains b = true
    · rw [if_pos hb]
      simp only [List.contains_cons, List.contains_nil, Bool.or_false, Bool.or_eq_true, beq_iff_eq] at hb
      rcases hb with rfl | rfl <;> simp
    · rw [if_neg hb]
      have e : ((b :: r).contains 10 || (b :: r).contains 0) = (r.contains 10 || r.contains 0) := by
        simp only [List.contains_cons, List.contains_nil, Bool.or_false, Bool.or_eq_true, beq_iff_eq, not_or] at hb
        have h1 : (10 == b) = false := by simp; exact fun e => hb.1 e.symm
        have h2 : (0 == b) = false := by simp; exact fun e => hb.2 e.symm
        simp only [List.contains_cons, h1, h2, Bool.false_or]
      rw [e, ← ih]
      have hge := Lib.indexAny_ge [10, 0] r
      split
      · rename_i h; have := beq_iff_eq.1 h; omega
      · rename_i h
        have : ¬ Lib.indexAny r [10, 0] = -1 := fun e => h (by rw [e]; rfl)
        omega
theorem indexany_ok (s : Bs) (hs : s.length ≤ 4294967280) : SpecR Tryd.prog 49 [.str s, .str [10, 0]] (.int .i64 (Lib.indexAny s [10, 0])) := by
  refine spec_belowA rfl rfl (fun w hA => ?_)
  have hsz : (⟨s.toArray⟩ : ByteArray).size = s.length := by simp [ByteArray.size]
  by_cases h8 : s.length ≤ 8
  · refine any_short Tryd.lays153 ⟨s.toArray⟩ nlz w Amb (fun w' hb => hA.stays (fun b _ _ _ hg _ => hb.block b (hA.lt hg))) (by decide) (by omega) (fun b hb => ?_) (fun r w' ha h1 h2 => rune_none r w' ha h1 h2)
    show [10, 0].contains b = false
    simp only [List.contains_cons, List.contains_nil, Bool.or_false, Bool.or_eq_false_iff, beq_eq_false_iff_ne]
    exact ⟨fun e => by subst e; revert hb; decide, fun e => by subst e; revert hb; decide⟩
  · have hz := Go.zero_of_info (P := Tryd.prog) (t := 84) (v := .agg (Array.replicate 256 (.bool false))) (n := 256) (by kernel_rfl)
    refine (Any.strings_IndexAny_long Tryd.lays153 hz.1 hz.2 ⟨s.toArray⟩ nlz w (by decide) (by omega) (by omega) (by decide) (fun j b hb => ?_)).mono ?_
    · have hm : b ∈ [10, 0] := List.mem_of_getElem? hb
      simp only [List.mem_cons, List.not_mem_nil, or_false] at hm
      rcases hm with rfl | rfl <;> decide
    · rintro e w' ⟨rfl, rfl⟩
      exact ⟨rfl, ((Go.RowKit.Below.refl _ _).alloc (Nat.le_refl _) _).alloc (by simp) _⟩
theorem cany_ok (s : Bs) (hs : s.length ≤ 4294967280) : SpecR Tryd.prog 32 [.str s, .str [10, 0]] (.bool (s.contains 10 || s.contains 0)) := by
  refine Cod.containsany_spec (fun E R hN hR => ?_)
  have hge := any_ge s
  simp (disch := first | omega | (simp only [Lx]; omega)) only [go_sem, simprocAttr]
  refine call_ro (indexany_ok s hs) rfl rfl ?_
  cases h : (s.contains 10 || s.contains 0) with
  | true =>
    rw [h] at hR
    have := hge.2 h
    simp (disch := first | omega | (simp only [Lx]; omega)) only [go_sem, simprocAttr]
    exact hR.ro ⟨rfl, rfl⟩
  | false =>
    rw [h] at hR
    have : ¬ 0 ≤ Lib.indexAny s [10, 0] := fun e => by rw [hge.1 e] at h; cases h
    simp (disch := first | omega | (simp only [Lx]; omega)) only [go_sem, simprocAttr]
    exact hR.ro ⟨rfl, rfl⟩
theorem cline_ok (s : Bs) (hs : s.length ≤ 9223372036854775807) : SpecR Tryd.prog 14 [.str s] (.bool (lineP s)) := by
  refine Cod.cline_spec (fun E R hN hR => ?_)
  unfold lineP at hR
  cases s with
  | nil =>
    simp (disch := first | omega | (simp only [Lx]; omega)) only [go_sem, simprocAttr]
    (repeat (first | (with_reducible refine gskip_of ?_) | (with_reducible refine gcskip_of ?_) | (with_reducible refine gopen_of ?_)) <;> simp (disch := first | omega | (simp only [Lx]; omega)) only [go_sem, simprocAttr])
    exact hR.ro ⟨rfl, rfl⟩
  | cons b r =>
    by_cases h1 : r.length + 1 ≤ 100
    · simp (disch := first | omega | (simp only [Lx]; omega)) only [go_sem, simprocAttr]
      (repeat (first | (with_reducible refine gskip_of ?_) | (with_reducible refine gcskip_of ?_) | (with_reducible refine gopen_of ?_)) <;> simp (disch := first | omega | (simp only [Lx]; omega)) only [go_sem, simprocAttr])
      refine gcyes_of (callT_ro (by simp (disch := first | omega | (simp only [Lx]; omega)) only [go_sem, simprocAttr]) (cany_ok (b :: r) (by simp; omega)) (by simp (disch := first | omega | (simp only [Lx]; omega)) only [go_sem, simprocAttr]) rfl rfl ?_)
      simp (disch := first | omega | (simp only [Lx]; omega)) only [go_sem, simprocAttr]
      refine hR.ro ⟨rfl, ?_⟩
      simp [h1]
    · simp (disch := first | omega | (simp only [Lx]; omega)) only [go_sem, simprocAttr]
      (repeat (first | (with_reducible refine gskip_of ?_) | (with_reducible refine gcskip_of ?_) | (with_reducible refine gopen_of ?_)) <;> simp (disch := first | omega | (simp only [Lx]; omega)) only [go_sem, simprocAttr])
      refine hR.ro ⟨rfl, ?_⟩
      simp [h1]
def sgA (s : Sg) : AV := .agg [.str s.who, .int .i64 s.time, .int .i64 s.zone]
theorem csigned_ok (s : Sg) (hs : s.who.length ≤ 9223372036854775807) : SpecR Tryd.prog 31 [sgA s] (.bool (signedP s)) := by
  refine Cod.csigned_spec (fun E R hN hR => ?_)
  have yes : signedP s = true → ∀ h0, R h0 (.bool true) [.undef] := fun h h0 => hR.wk (h' := []) (r' := .bool true) (ar' := [.undef]) rfl (.le (by simp (disch := first | omega | (simp only [Lx]; omega)) only [go_sem, simprocAttr])) ⟨rfl, by rw [h]⟩
  have no : signedP s = false → ∀ h0, R h0 (.bool false) [.undef] := fun h h0 => hR.wk (h' := []) (r' := .bool false) (ar' := [.undef]) rfl (.le (by simp (disch := first | omega | (simp only [Lx]; omega)) only [go_sem, simprocAttr])) ⟨rfl, by rw [h]⟩
  unfold signedP at yes no
  simp (disch := first | omega | (simp only [Lx]; omega)) only [go_sem, simprocAttr, sgA]
  refine call_ro (cline_ok s.who hs) rfl rfl ?_
  cases h1 : lineP s.who with
  | false =>
    have no := no (by simp [h1])
    simp (disch := first | omega | (simp only [Lx]; omega)) only [go_sem, simprocAttr]
    (repeat (first | (with_reducible refine gskip_of ?_) | (with_reducible refine gcskip_of ?_) | (with_reducible refine gopen_of ?_)) <;> simp (disch := first | omega | (simp only [Lx]; omega)) only [go_sem, simprocAttr])
    exact no _
  | true =>
    by_cases h2 : 0 ≤ s.time
    · by_cases h3 : s.time ≤ 253402300799
      · by_cases h4 : -840 ≤ s.zone
        · by_cases h5 : s.zone ≤ 840
          · have yes := yes (by simp [h1, h2, h3, h4, h5])
            simp (disch := first | omega | (simp only [Lx]; omega)) only [go_sem, simprocAttr]
            (repeat (first | (with_reducible refine gskip_of ?_) | (with_reducible refine gcskip_of ?_) | (with_reducible refine gopen_of ?_)) <;> simp (disch := first | omega | (simp only [Lx]; omega)) only [go_sem, simprocAttr])
            exact yes _
          · have no := no (by simp [h1, h2, h3, h4, h5])
            simp (disch := first | omega | (simp only [Lx]; omega)) only [go_sem, simprocAttr]
            (repeat (first | (with_reducible refine gskip_of ?_) | (with_reducible refine gcskip_of ?_) | (with_reducible refine gopen_of ?_)) <;> simp (disch := first | omega | (simp only [Lx]; omega)) only [go_sem, simprocAttr])
            exact no _
        · have no := no (by simp [h1, h2, h3, h4])
          simp (disch := first | omega | (simp only [Lx]; omega)) only [go_sem, simprocAttr]
          (repeat (first | (with_reducible refine gskip_of ?_) | (with_reducible refine gcskip_of ?_) | (with_reducible refine gopen_of ?_)) <;> simp (disch := first | omega | (simp only [Lx]; omega)) only [go_sem, simprocAttr])
          exact no _
      · have no := no (by simp [h1, h2, h3])
        simp (disch := first | omega | (simp only [Lx]; omega)) only [go_sem, simprocAttr]
        (repeat (first | (with_reducible refine gskip_of ?_) | (with_reducible refine gcskip_of ?_) | (with_reducible refine gopen_of ?_)) <;> simp (disch := first | omega | (simp only [Lx]; omega)) only [go_sem, simprocAttr])
        exact no _
    · have no := no (by simp [h1, h2])
      simp (disch := first | omega | (simp only [Lx]; omega)) only [go_sem, simprocAttr]
      (repeat (first | (with_reducible refine gskip_of ?_) | (with_reducible refine gcskip_of ?_) | (with_reducible refine gopen_of ?_)) <;> simp (disch := first | omega | (simp only [Lx]; omega)) only [go_sem, simprocAttr])
      exact no _
theorem zone_ok (n : Int) (h0 : -5999 ≤ n) (h1 : n ≤ 5999) : SpecR Tryd.prog 46 [.int .i64 n] (.str (zoneT n)) := by
  refine Cod.zone_spec (fun E R hN hR => ?_)
  have hz := zone_digits (n.natAbs / 60) (n.natAbs % 60) (by omega) (by omega)
  unfold zoneT at hR
  have fin : ∀ (m : Nat) (g : UInt8) (ys : List (Nat × AV)), n.natAbs = m → m ≤ 5999 → (if n < 0 then (45 : UInt8) else 43) = g →
      vcW Tryd.prog E (.mid Cod.zone_3) (KQ.post [.tmp 2] 1 R) ⟨(0, .int .i64 (m : Int)) :: (3, .str [g]) :: ys, []⟩ := by
    intro m g ys hm hb hg
    rw [hm] at hz hR
    rw [hg] at hR
    obtain ⟨x, hx⟩ : ∃ x : Nat, 10000 + m / 60 * 100 + m % 60 = x := ⟨_, rfl⟩
    have e3 : (10000 + (m : Int) / 60 * 100 + (m : Int) % 60) = (x : Int) := by omega
    rw [hx] at hz
    have hl : 1 ≤ (Lib.itoa (x : Int)).length := by
      have := congrArg List.length hz
      rw [List.length_drop] at this
      simp [tw] at this
      omega
    have hl2 := itoa_len (x : Int) (by omega) (by omega)
    refine vcW_mid hN ?_
    simp (disch := first | omega | (simp only [Lx]; omega)) only [go_sem, simprocAttr, e3]
    refine call_ro (itoa_ok (x : Int) (by omega) (by omega)) rfl rfl ?_
    simp (disch := first | omega | (simp only [Lx]; omega)) only [go_sem, simprocAttr]
    exact hR.ro ⟨rfl, by rw [hz]⟩
  by_cases h : n < 0
  · simp (disch := first | omega | (simp only [Lx]; omega)) only [go_sem, simprocAttr, Cod.zone_jn]
    have := fin n.natAbs 45 [] rfl (by omega) (by rw [if_pos h])
    rw [show ((n.natAbs : Nat) : Int) = 0 - n by omega] at this
    exact this
  · simp (disch := first | omega | (simp only [Lx]; omega)) only [go_sem, simprocAttr, Cod.zone_jn]
    have := fin n.natAbs 43 [(6, .bool false)] rfl (by omega) (by rw [if_neg h])
    rw [show ((n.natAbs : Nat) : Int) = n by omega] at this
    exact this
theorem signT_len (s : Sg) (h : SgOK s) : (signT s).length ≤ s.who.length + 27 := by
  have hl := itoa_len s.time h.1.2 h.1.1
  unfold signT
  simp only [List.length_append, List.length_cons, zoneT_len]
  omega
theorem csign_ok (s : Sg) (h : SgOK s) (hs : s.who.length ≤ 140737488351232) : SpecR Tryd.prog 28 [sgA s] (.str (signT s)) := by
  refine Cod.csign_spec (fun E R hN hR => ?_)
  have hl := itoa_len s.time h.1.2 h.1.1
  have hz := zoneT_len s.zone
  unfold signT at hR
  simp (disch := first | omega | (simp only [Lx]; omega)) only [go_sem, simprocAttr, sgA]
  refine call_ro (itoa_ok s.time h.1.1 h.1.2) rfl rfl ?_
  simp (disch := first | omega | (simp only [Lx]; omega)) only [go_sem, simprocAttr]
  refine call_ro (zone_ok s.zone h.2.1 h.2.2) rfl rfl ?_
  simp (disch := first | omega | (simp only [Lx]; omega)) only [go_sem, simprocAttr]
  have e : s.who ++ [32] ++ Lib.itoa s.time ++ [32] ++ zoneT s.zone = s.who ++ 32 :: (Lib.itoa s.time ++ 32 :: zoneT s.zone) := by simp
  rw [e]
  exact hR.wk (h' := []) (ar' := [.undef]) rfl (.le (by simp (disch := first | omega | (simp only [Lx]; omega)) only [go_sem, simprocAttr])) ⟨rfl, rfl⟩
/- COMMITS -/
def cmA (c : Cmt) : AV := .agg [.str c.tree, .ro 1 (c.parents.map .str), .str c.author.who, .int .i64 c.author.time, .int .i64 c.author.zone, .str c.committer.who, .int .i64 c.committer.time, .int .i64 c.committer.zone, .str c.msg]
def checkP (c : Cmt) : Int := if 16 < c.parents.length then 2 else if c.parents.all idP = true ∧ idP c.tree = true ∧ signedP c.author = true ∧ signedP c.committer = true then 0 else 4
/-- no part of it is too long for a machine -/
def CmSz (c : Cmt) : Prop := c.tree.length ≤ 140737488351232 ∧ (c.parents.length ≤ 140737488351232 ∧ ∀ p ∈ c.parents, p.length ≤ 140737488351232) ∧ c.author.who.length ≤ 140737488351232 ∧ c.committer.who.length ≤ 140737488351232 ∧ c.msg.length ≤ 140737488351232
theorem getD_memB {α : Type} (d : α) : ∀ (l : List α) {k : Nat}, k < l.length → l.getD k d ∈ l
  | [], k, h => by simp at h
  | x :: r, 0, h => by simp
  | x :: r, k + 1, h => by
    have := getD_memB d r (k := k) (by simpa using h)
    simp only [List.getD_cons_succ]
    exact List.mem_cons_of_mem _ this
theorem take_all (c : List Bs) {k : Nat} (h : k < c.length) : (c.take (k + 1)).all idP = ((c.take k).all idP && idP (c.getD k [])) := by
  rw [take_succB [] c h, List.all_append]; simp
theorem take_all_no {c : List Bs} {k : Nat} (h : (c.take k).all idP = false) : c.all idP = false := by
  rw [← List.take_append_drop k c, List.all_append, h]; rfl
theorem ccheck_ok (c : Cmt) (hs : CmSz c) : SpecR Tryd.prog 13 [cmA c] (.int .i64 (checkP c)) := by
  refine Cod.ccheck_spec (fun E R hN hR => ?_)
  obtain ⟨s1, ⟨s2, s3⟩, s4, s5, s6⟩ := hs
  have ret : ∀ v, checkP c = v → ∀ h0 a, R h0 (.int .i64 v) [a] := fun v h h0 a => hR.wk (h' := []) (r' := .int .i64 v) (ar' := [a]) rfl (.le (by simp (disch := first | omega | (simp only [Lx]; omega)) only [go_sem, simprocAttr])) ⟨rfl, by rw [h]⟩
  unfold checkP at ret
  by_cases h1 : 16 < c.parents.length
  · have ret := ret 2 (if_pos h1)
    simp (disch := first | omega | (simp only [Lx]; omega)) only [go_sem, simprocAttr, cmA]
    exact ret _ _
  rw [if_neg h1] at ret
  simp (disch := first | omega | (simp only [Lx]; omega)) only [go_sem, simprocAttr, cmA]
  refine vcW_loop hN (fun k : Nat => ⟨[(1, .vptr 5001 0), (10, .ro 1 (c.parents.map .str)), (11, .int .i64 c.parents.length), (12, .int .i64 k)], [(5001, .var [.str c.tree, .ro 1 (c.parents.map .str), .str c.author.who, .int .i64 c.author.time, .int .i64 c.author.zone, .str c.committer.who, .int .i64 c.committer.time, .int .i64 c.committer.zone, .str c.msg])]⟩) (fun k => k ≤ c.parents.length ∧ (c.parents.take k).all idP = true) (fun k => c.parents.length - k) 0 (.le (by simp (disch := first | omega | (simp only [Lx]; omega)) only [go_sem, simprocAttr])) ⟨by omega, by simp⟩ ?_
  rintro k R1 ⟨hk, hall⟩ hR1
  by_cases hlt : k < c.parents.length
  · have hp := s3 (c.parents.getD k []) (getD_memB [] _ hlt)
    have htk := take_all c.parents hlt
    rw [hall, Bool.true_and] at htk
    simp (disch := first | omega | (simp only [Lx]; omega)) only [go_sem, simprocAttr]
    refine call_ro (sid_ok _ (by omega)) rfl rfl ?_
    cases hi : idP (c.parents.getD k []) with
    | false =>
      rw [hi] at htk
      have ret := ret 4 (if_neg (fun h => by rw [take_all_no htk] at h; exact absurd h.1 (by decide)))
      simp (disch := first | omega | (simp only [Lx]; omega)) only [go_sem, simprocAttr]
      exact ret _ _
    | true =>
      rw [hi] at htk
      simp (disch := first | omega | (simp only [Lx]; omega)) only [go_sem, simprocAttr]
      exact hR1 (k + 1) _ (by omega) ⟨by omega, htk⟩ (.le (by simp (disch := first | omega | (simp only [Lx]; omega)) only [go_sem, simprocAttr]))
  · obtain rfl : k = c.parents.length := by omega
    rw [List.take_of_length_le (by omega)] at hall
    have bad : (idP c.tree && signedP c.author && signedP c.committer) = false → ∀ h0 a, R h0 (.int .i64 4) [a] := fun h => ret 4 (if_neg (fun g => by rw [g.2.1, g.2.2.1, g.2.2.2] at h; cases h))
    simp (disch := first | omega | (simp only [Lx]; omega)) only [go_sem, simprocAttr]
    refine call_ro (sid_ok c.tree (by omega)) rfl rfl ?_
    cases h2 : idP c.tree with
    | false =>
      have bad := bad (by rw [h2]; rfl)
      simp (disch := first | omega | (simp only [Lx]; omega)) only [go_sem, simprocAttr]
      (repeat (first | (with_reducible refine gskip_of ?_) | (with_reducible refine gcskip_of ?_) | (with_reducible refine gopen_of ?_)) <;> simp (disch := first | omega | (simp only [Lx]; omega)) only [go_sem, simprocAttr])
      exact bad _ _
    | true =>
      simp (disch := first | omega | (simp only [Lx]; omega)) only [go_sem, simprocAttr]
      (repeat (first | (with_reducible refine gskip_of ?_) | (with_reducible refine gcskip_of ?_) | (with_reducible refine gopen_of ?_)) <;> simp (disch := first | omega | (simp only [Lx]; omega)) only [go_sem, simprocAttr])
      refine gcyes_of (callT_ro (by simp (disch := first | omega | (simp only [Lx]; omega)) only [go_sem, simprocAttr, sgA]) (csigned_ok c.author (by omega)) (by simp (disch := first | omega | (simp only [Lx]; omega)) only [go_sem, simprocAttr]) rfl rfl ?_)
      cases h3 : signedP c.author with
      | false =>
        have bad := bad (by rw [h2, h3]; rfl)
        simp (disch := first | omega | (simp only [Lx]; omega)) only [go_sem, simprocAttr]
        (repeat (first | (with_reducible refine gskip_of ?_) | (with_reducible refine gcskip_of ?_) | (with_reducible refine gopen_of ?_)) <;> simp (disch := first | omega | (simp only [Lx]; omega)) only [go_sem, simprocAttr])
        exact bad _ _
      | true =>
        simp (disch := first | omega | (simp only [Lx]; omega)) only [go_sem, simprocAttr]
        (repeat (first | (with_reducible refine gskip_of ?_) | (with_reducible refine gcskip_of ?_) | (with_reducible refine gopen_of ?_)) <;> simp (disch := first | omega | (simp only [Lx]; omega)) only [go_sem, simprocAttr])
        refine gcyes_of (callT_ro (by simp (disch := first | omega | (simp only [Lx]; omega)) only [go_sem, simprocAttr, sgA]) (csigned_ok c.committer (by omega)) (by simp (disch := first | omega | (simp only [Lx]; omega)) only [go_sem, simprocAttr]) rfl rfl ?_)
        cases h4 : signedP c.committer with
        | false =>
          have bad := bad (by rw [h2, h3, h4]; rfl)
          simp (disch := first | omega | (simp only [Lx]; omega)) only [go_sem, simprocAttr]
          exact bad _ _
        | true =>
          have ret := ret 0 (if_pos ⟨hall, h2, h3, h4⟩)
          simp (disch := first | omega | (simp only [Lx]; omega)) only [go_sem, simprocAttr]
          exact ret _ _
def fmtA (c : Cmt) : AV := .tup [.str (if checkP c = 0 then textP c else []), .int .i64 (checkP c)]
theorem checkP_ok {c : Cmt} (h : checkP c = 0) : c.parents.length ≤ 16 ∧ c.parents.all idP = true ∧ idP c.tree = true ∧ signedP c.author = true ∧ signedP c.committer = true := by
  unfold checkP at h
  split at h
  · cases h
  · split at h
    · rename_i h1 h2
      exact ⟨by omega, h2⟩
    · cases h
theorem parT_app : ∀ (a b : List Bs), parT (a ++ b) = parT a ++ parT b
  | [], b => by simp [parT]
  | p :: ps, b => by
    simp only [List.cons_append, parT, parT_app ps b]
    simp
theorem parT_len (M : Nat) : ∀ (n : Nat) (ps : List Bs), ps.length ≤ n → (∀ p ∈ ps, p.length ≤ M) → (parT ps).length ≤ n * (M + 8)
  | n, [], _, _ => by simp [parT]
  | 0, p :: ps, hn, _ => by simp at hn
  | n + 1, p :: ps, hn, h => by
    have h1 := parT_len M n ps (by simpa using hn) (fun x hx => h x (List.mem_cons_of_mem _ hx))
    have h2 := h p (List.mem_cons_self ..)
    simp only [parT, List.length_append, List.length_cons, Nat.succ_mul]
    have : wParent.length = 6 := rfl
    generalize n * (M + 8) = z at *
    omega
theorem parT_len16 (M : Nat) (ps : List Bs) (hn : ps.length ≤ 16) (h : ∀ p ∈ ps, p.length ≤ M) : (parT ps).length ≤ 16 * M + 128 := by
  have := parT_len M 16 ps hn h
  omega
theorem parT_snoc (ps : List Bs) {k : Nat} (h : k < ps.length) : parT (ps.take (k + 1)) = parT (ps.take k) ++ (wParent ++ 32 :: (ps.getD k [] ++ [10])) := by
  rw [take_succB [] ps h, parT_app]; simp [parT]
theorem checkP_sz {c : Cmt} (hs : CmSz c) (h : checkP c = 0) : (signT c.author).length ≤ 140737488351259 ∧ (signT c.committer).length ≤ 140737488351259 ∧ ∀ k, (parT (c.parents.take k)).length ≤ 2251799813619840 := by
  obtain ⟨s1, ⟨s2, s3⟩, s4, s5, s6⟩ := hs
  obtain ⟨h1, _, _, h2, h3⟩ := checkP_ok h
  have l1 := signT_len c.author (signedP_sg h2)
  have l2 := signT_len c.committer (signedP_sg h3)
  refine ⟨by omega, by omega, fun k => ?_⟩
  have hl : (c.parents.take k).length ≤ 16 := by rw [List.length_take]; omega
  have := parT_len16 140737488351232 (c.parents.take k) hl (fun p hp => s3 p (List.mem_of_mem_take hp))
  omega
theorem format_ok (c : Cmt) (hs : CmSz c) : SpecR Tryd.prog 10 [cmA c] (fmtA c) := by
  have hck := ccheck_ok c hs
  have hs' := hs
  obtain ⟨s1, ⟨s2, s3⟩, s4, s5, s6⟩ := hs
  refine Cod.format_spec (fun E R hN hR => ?_)
  unfold fmtA at hR
  unfold cmA at hck
  simp (disch := first | omega | (simp only [Lx]; omega)) only [go_sem, simprocAttr, cmA]
  refine call_ro hck rfl rfl ?_
  by_cases h0 : checkP c = 0
  · obtain ⟨z1, z2, z3⟩ := checkP_sz hs' h0
    obtain ⟨_, _, _, h2, h3⟩ := checkP_ok h0
    have ret : ∀ h0 a, R h0 (.tup [.str (textP c), .int .i64 0]) [a] := fun h1 a => hR.wk (h' := []) (r' := .tup [.str (textP c), .int .i64 0]) (ar' := [a]) rfl (.le (by simp (disch := first | omega | (simp only [Lx]; omega)) only [go_sem, simprocAttr])) ⟨rfl, by rw [if_pos h0, h0]⟩
    have ha := csign_ok c.author (signedP_sg h2) (by omega)
    have hb := csign_ok c.committer (signedP_sg h3) (by omega)
    unfold sgA at ha hb
    simp (disch := first | omega | (simp only [Lx]; omega)) only [go_sem, simprocAttr, h0]
    refine vcW_loop hN (fun k : Nat => ⟨[(1, .vptr 6001 0), (5, .str (wTree ++ 32 :: (c.tree ++ 10 :: parT (c.parents.take k)))), (18, .ro 1 (c.parents.map .str)), (19, .int .i64 c.parents.length), (20, .int .i64 k)], [(6001, .var [.str c.tree, .ro 1 (c.parents.map .str), .str c.author.who, .int .i64 c.author.time, .int .i64 c.author.zone, .str c.committer.who, .int .i64 c.committer.time, .int .i64 c.committer.zone, .str c.msg])]⟩) (fun k => k ≤ c.parents.length) (fun k => c.parents.length - k) 0 (.le (by simp (disch := first | omega | (simp only [Lx]; omega)) only [go_sem, simprocAttr]; rfl)) (by omega) ?_
    rintro k R1 hk hR1
    have hwt : wTree.length = 4 := rfl
    have hwp : wParent.length = 6 := rfl
    have z3k := z3 k
    by_cases hlt : k < c.parents.length
    · have hp := s3 (c.parents.getD k []) (getD_memB [] _ hlt)
      have z3s := z3 (k + 1)
      have hsn := parT_snoc c.parents hlt
      have e : wTree ++ 32 :: (c.tree ++ 10 :: parT (c.parents.take k)) ++ 112 :: 97 :: 114 :: 101 :: 110 :: 116 :: 32 :: (c.parents.getD k [] ++ [10]) = wTree ++ 32 :: (c.tree ++ 10 :: parT (c.parents.take (k + 1))) := by
        rw [hsn]; simp [wParent]
      simp (disch := first | omega | (simp only [Lx]; omega)) only [go_sem, simprocAttr, e]
      exact hR1 (k + 1) _ (by omega) (by omega) (.le (by simp (disch := first | omega | (simp only [Lx]; omega)) only [go_sem, simprocAttr]))
    · obtain rfl : k = c.parents.length := by omega
      rw [List.take_of_length_le (by omega)] at z3k ⊢
      simp (disch := first | omega | (simp only [Lx]; omega)) only [go_sem, simprocAttr]
      refine call_ro ha rfl rfl ?_
      simp (disch := first | omega | (simp only [Lx]; omega)) only [go_sem, simprocAttr]
      refine call_ro hb rfl rfl ?_
      simp (disch := first | omega | (simp only [Lx]; omega)) only [go_sem, simprocAttr]
      have e : wTree ++ 32 :: (c.tree ++ 10 :: parT c.parents) ++ [97, 117, 116, 104, 111, 114, 32] ++ signT c.author ++ [10, 99, 111, 109, 109, 105, 116, 116, 101, 114, 32] ++ signT c.committer ++ [10, 10] ++ c.msg = textP c := by simp [textP, wAuthor, wCommitter]
      rw [e]
      exact ret _ _
  · simp (disch := first | omega | (simp only [Lx]; omega)) only [go_sem, simprocAttr, h0]
    exact hR.wk (h' := []) (r' := .tup [.str [], .int .i64 (checkP c)]) (ar' := [.undef]) rfl (.le (by simp (disch := first | omega | (simp only [Lx]; omega)) only [go_sem, simprocAttr])) ⟨rfl, by rw [if_neg h0]⟩
end Go.Proofs.YtjpinndnicmokaaDoor.Cm
