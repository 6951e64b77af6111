/- commits, from the objects: what they call of the library: Itoa, Atoi, Cut. -/
import Derived.Test.YtjpinndnicmokaaDoorCmCode
import Derived.Test.YtjpinndnicmokaaDoorShelf
import Derived.Lib.AtoiTie
import Derived.Lib.ItoaMem
import Derived.Lib.AppendIntMem
import Derived.Lib.AtoiErrMem
set_option linter.all false
namespace Go.Proofs.YtjpinndnicmokaaDoor.Ob
open Eng
set_option maxRecDepth 10000
abbrev Bs := List UInt8
theorem tab_of {P : Program} {name : String} {g : Nat} {k : IntKind} {zs : List Int} {w : World} {cs : Array Value} {t : TypeId} {fz : Nat × Nat} (hg : P.globalNamed name = some g) (hw : w.heap[g]? = some (.cells cs t fz)) (he : cs = (zs.map fun z => Value.int k z).toArray) : Lib.TabIs P w name k zs := by
  unfold Lib.TabIs World.var?
  rw [hg]
  simp only [Option.bind_some, hw, he]
theorem cell_of {w : World} {g : Nat} {v : Value} {t : TypeId} {fz : Nat × Nat} (hw : w.heap[g]? = some (.cells #[v] t fz)) : w.cell? ⟨g, 0, none⟩ = some v := by
  simp [World.cell?, hw]
theorem if_of {v : Value} (h : isIfV v = true) : v = .nilIface ∨ ∃ t p, v = .iface t p := by
  cases v <;> simp [isIfV] at h
  · exact .inr ⟨_, _, rfl⟩
  · exact .inl rfl
theorem itoa_ok (n : Int) (h0 : -9223372036854775808 ≤ n) (h1 : n ≤ 9223372036854775807) : SpecR Tryd.prog 45 [.int .i64 n] (.str (Lib.itoa n)) := by
  refine spec_belowA rfl rfl (fun w hA => ?_)
  obtain ⟨cs, t, fz, g1, g2⟩ := hA (1, _) (by unfold glist; simp only [List.nil_append, List.cons_append, List.mem_cons]; exact .inl rfl)
  refine (Any.strconv_Itoa Tryd.laysM171 n h0 h1 w (tab_of (by kernel_rfl) g1 g2)).mono ?_
  rintro e w' ⟨rfl, k, os, rfl⟩
  exact ⟨rfl, Lib.below_grow _ _ (Nat.le_refl _) _ _⟩
theorem itoa0_ok (n : Nat) (h : n < 100) : SpecR Tryd.prog 45 [.int .i64 n] (.str (Lib.decDigits n)) :=
  spec_same rfl rfl (fun w => Any.strconv_Itoa_small Tryd.lays171 n h w)
/-- what Atoi gives: the number and nil, or some number and an error -/
def atoiA (s : Bs) (r : AV) : Prop :=
  match Lib.atoiAll s with
  | .ok v => r = .tup [.int .i64 v, .lit .nilIface]
  | _ => ∃ n t p, r = .tup [.int .i64 n, .lit (.iface t p)]
theorem atoi_ok (s : Bs) (hs : s.length ≤ 140737488351232) : Eng.Spec Tryd.prog 67 [] [.str s] (fun h r _ => h = [] ∧ atoiA s r) := by
  refine specA rfl (fun w hA => ?_)
  have hl : (⟨s.toArray⟩ : ByteArray).size ≤ 140737488351232 := by simpa [ByteArray.size] using hs
  unfold atoiA
  cases he : Lib.atoiAll s
  · rename_i v
    refine (Any.strconv_Atoi_ok Tryd.laysC172 ⟨s.toArray⟩ (by omega) v he w).mono ?_
    rintro e w' ⟨rfl, hw⟩
    refine ⟨_, rfl, rfl, rfl, ?_⟩
    rcases hw with rfl | ⟨t, rfl⟩
    · exact .refl _ _
    · exact Lib.bytesWorld_below _ _ _
  · obtain ⟨cs, t, fz, g1, v, rfl, g3⟩ := hA (2, _) (by unfold glist; simp only [List.nil_append, List.cons_append, List.mem_cons]; exact .inr (.inl rfl))
    refine (Any.strconv_Atoi_syntax Tryd.laysC172 ⟨s.toArray⟩ (by omega) he v w (cell_of g1) (if_of g3)).mono ?_
    rintro e w' ⟨N, rfl, _, _, hb⟩
    exact ⟨_, ⟨_, _, _, rfl⟩, rfl, rfl, hb⟩
  · obtain ⟨cs, t, fz, g1, v, rfl, g3⟩ := hA (3, _) (by unfold glist; simp only [List.nil_append, List.cons_append, List.mem_cons]; exact .inr (.inr (.inl rfl)))
    refine (Any.strconv_Atoi_range Tryd.laysC172 ⟨s.toArray⟩ (by omega) he v w (cell_of g1) (if_of g3)).mono ?_
    rintro e w' ⟨N, rfl, _, _, hb⟩
    exact ⟨_, ⟨_, _, _, rfl⟩, rfl, rfl, hb⟩
theorem index1_ok (s : Bs) (c : UInt8) : SpecR Tryd.prog 83 [.str s, .str [c]] (.int .i64 (Lib.indexByte s c)) :=
  spec_same rfl rfl (fun w => Tryd.stringslite_Index_one ⟨s.toArray⟩ c w)
/-- cut at the first c -/
def cutP (c : UInt8) : Bs → Bs × Bs × Bool
  | [] => ([], [], false)
  | x :: r => if x = c then ([], r, true) else (x :: (cutP c r).1, (cutP c r).2)
theorem cutP_index (c : UInt8) : ∀ s : Bs, (Lib.indexByte s c = -1 ∧ cutP c s = (s, [], false)) ∨ ∃ j : Nat, j < s.length ∧ Lib.indexByte s c = (j : Int) ∧ cutP c s = (s.take j, s.drop (j + 1), true)
  | [] => .inl ⟨rfl, rfl⟩
  | x :: r => by
    by_cases hx : x = c
    · subst hx
      exact .inr ⟨0, by simp, by simp [Lib.indexByte], by simp [cutP]⟩
    · have hb : (x == c) = false := by simp [hx]
      rcases cutP_index c r with ⟨h1, h2⟩ | ⟨j, h1, h2, h3⟩
      · refine .inl ⟨by simp [Lib.indexByte, hb, h1], by simp [cutP, hx, h2]⟩
      · refine .inr ⟨j + 1, by simp; omega, ?_, by simp [cutP, hx, h3]⟩
        have hne : (Lib.indexByte r c == -1) = false := by rw [h2]; simp
        simp [Lib.indexByte, hb, hne, h2]
def cutA (q : Bs × Bs × Bool) : AV := .tup [.str q.1, .str q.2.1, .bool q.2.2]
theorem lcut_ok (s : Bs) (c : UInt8) (hs : s.length ≤ 9223372036854775807) : SpecR Tryd.prog 73 [.str s, .str [c]] (cutA (cutP c s)) := by
  refine Cod.lcut_spec (fun E R hN hR => ?_)
  simp (disch := first | omega | (simp only [Lx]; omega)) only [go_sem, simprocAttr]
  refine call_ro (index1_ok s c) rfl rfl ?_
  rcases cutP_index c s with ⟨h1, h2⟩ | ⟨j, h1, h2, h3⟩
  · simp (disch := first | omega | (simp only [Lx]; omega)) only [go_sem, simprocAttr, h1]
    exact hR.ro ⟨rfl, by rw [h2]; rfl⟩
  · simp (disch := first | omega | (simp only [Lx]; omega)) only [go_sem, simprocAttr, h2]
    exact hR.ro ⟨rfl, by rw [h3]; rfl⟩
theorem cut_ok (s : Bs) (c : UInt8) (hs : s.length ≤ 9223372036854775807) : SpecR Tryd.prog 63 [.str s, .str [c]] (cutA (cutP c s)) := by
  refine Cod.scut_spec (fun E R hN hR => ?_)
  simp (disch := first | omega | (simp only [Lx]; omega)) only [go_sem, simprocAttr]
  refine call_ro (lcut_ok s c hs) rfl rfl ?_
  simp (disch := first | omega | (simp only [Lx]; omega)) only [go_sem, simprocAttr, cutA]
  exact hR.ro ⟨rfl, rfl⟩
theorem take_succB {α : Type} (d : α) : ∀ (l : List α) {k : Nat}, k < l.length → l.take (k + 1) = l.take k ++ [l.getD k d]
  | [], k, h => by simp at h
  | x :: r, 0, h => by simp
  | x :: r, k + 1, h => by
    rw [List.take_succ_cons, take_succB d r (by simpa using h)]; simp
theorem indexByte_no {c : UInt8} : ∀ {s : Bs}, c ∉ s → Lib.indexByte s c = -1
  | [], _ => rfl
  | x :: r, h => by
    simp only [List.mem_cons, not_or] at h
    have hb : (x == c) = false := by simp only [beq_eq_false_iff_ne]; exact fun e => h.1 e.symm
    simp [Lib.indexByte, hb, indexByte_no h.2]
theorem indexByte_at {c : UInt8} : ∀ {s : Bs} {k : Nat}, k < s.length → s.getD k 0 = c → c ∉ s.take k → Lib.indexByte s c = (k : Int)
  | [], _, h, _, _ => by simp at h
  | x :: r, 0, _, h, _ => by
    have h : x = c := by simpa using h
    simp [Lib.indexByte, h]
  | x :: r, k + 1, h1, h2, h3 => by
    simp only [List.take_succ_cons, List.mem_cons, not_or] at h3
    have hb : (x == c) = false := by simp only [beq_eq_false_iff_ne]; exact fun e => h3.1 e.symm
    have ih := indexByte_at (s := r) (k := k) (by simpa using h1) (by simpa using h2) h3.2
    have hne : (Lib.indexByte r c == -1) = false := by rw [ih]; simp
    simp [Lib.indexByte, hb, hne, ih]
theorem find_ok (s : Bs) (c : UInt8) (hs : s.length ≤ 9223372036854775807) : SpecR Tryd.prog 33 [.str s, .int .u8 (c.toNat : Int)] (.int .i64 (Lib.indexByte s c)) := by
  refine Cod.find_spec (fun E R hN hR => ?_)
  simp (disch := first | omega | (simp only [Lx]; omega)) only [go_sem, simprocAttr]
  refine vcW_loop hN (fun k : Nat => ⟨[(0, .str s), (1, .int .u8 (c.toNat : Int)), (5, .int .i64 k)], []⟩) (fun k => k ≤ s.length ∧ c ∉ s.take k) (fun k => s.length - k) 0 (.le (by simp (disch := first | omega | (simp only [Lx]; omega)) only [go_sem, simprocAttr])) (by simp) ?_
  rintro k R1 ⟨hk, hno⟩ hR1
  by_cases hl : k < s.length
  · have htk := take_succB 0 s hl
    simp (disch := first | omega | (simp only [Lx]; omega)) only [go_sem, simprocAttr]
    refine ifW_dec (fun he => ?_) (fun he => ?_)
    · simp (disch := first | omega | (simp only [Lx]; omega)) only [go_sem, simprocAttr]
      refine hR.ro ⟨rfl, ?_⟩
      have hx : s.getD k 0 = c := UInt8.toNat.inj (by omega)
      rw [indexByte_at hl hx hno]
    · simp (disch := first | omega | (simp only [Lx]; omega)) only [go_sem, simprocAttr]
      refine hR1 (k + 1) _ (by omega) ⟨by omega, ?_⟩ (.le (by simp (disch := first | omega | (simp only [Lx]; omega)) only [go_sem, simprocAttr]))
      rw [htk]
      simp only [List.mem_append, List.mem_singleton, not_or]
      exact ⟨hno, fun e => he (by rw [← e])⟩
  · obtain rfl : k = s.length := by omega
    rw [List.take_of_length_le (Nat.le_refl _)] at hno
    simp (disch := first | omega | (simp only [Lx]; omega)) only [go_sem, simprocAttr]
    exact hR.ro ⟨rfl, by rw [indexByte_no hno]⟩
end Go.Proofs.YtjpinndnicmokaaDoor.Ob
