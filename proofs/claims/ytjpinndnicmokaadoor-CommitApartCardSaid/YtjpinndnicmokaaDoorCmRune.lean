/- Commit: strings.IndexRune in the text of a line end and a nought, at a rune that is no ASCII byte. -/
import Derived.Test.YtjpinndnicmokaaDoorCmCode
import Derived.Test.YtjpinndnicmokaaDoorProg
import Derived.Test.YtjpinndnicmokaaDoorShelf
import Derived.KernelRfl
import Derived.Tactics
import Derived.Tactics2
import Derived.Laws.RangeAny
import Derived.Laws.Strings3
import Derived.Deep.LoopGhost
import Derived.Lib.IndexAny
import Derived.Lib.IndexBytes
set_option linter.all false
namespace Go.Proofs.YtjpinndnicmokaaDoor.Cm
open Eng
set_option maxRecDepth 1000000
def nlz : ByteArray := ⟨#[10, 0]⟩
theorem enc_high (r : Int) (h : 128 ≤ r) (h2 : r ≤ 2147483647) : ∃ B : List UInt8, (Utf8.encode r).data.toList = B ∧ (B.length = 2 ∨ B.length = 3 ∨ B.length = 4) ∧ ∀ b ∈ B, 128 ≤ b.toNat := by
  refine ⟨_, rfl, ?_⟩
  unfold Utf8.encode
  have hc : 128 ≤ (if Utf8.valid r then r.toNat else Utf8.runeError) ∧ (if Utf8.valid r then r.toNat else Utf8.runeError) ≤ 0x10FFFF := by
    split
    · rename_i hv
      simp [Utf8.valid] at hv
      omega
    · decide
  generalize (if Utf8.valid r then r.toNat else Utf8.runeError) = c at hc
  simp only
  split
  · omega
  split
  · refine ⟨.inl rfl, fun b hb => ?_⟩
    simp at hb
    rcases hb with rfl | rfl <;> simp [UInt8.toNat_ofNat'] <;> omega
  split
  · refine ⟨.inr (.inl rfl), fun b hb => ?_⟩
    simp at hb
    rcases hb with rfl | rfl | rfl <;> simp [UInt8.toNat_ofNat'] <;> omega
  · refine ⟨.inr (.inr rfl), fun b hb => ?_⟩
    simp at hb
    rcases hb with rfl | rfl | rfl | rfl <;> simp [UInt8.toNat_ofNat'] <;> omega
theorem get_at' (s : ByteArray) (i k : Nat) (h : i + k < s.size) : s.get! (i + k) = s[i + k]'h := by
  show s.get! (i + k) = _
  simp [ByteArray.get!, getElem!_pos, h]
  rfl
theorem decode_cont (s : ByteArray) (i : Nat) (h : i < s.size) (ha : 128 ≤ (s[i]'h).toNat) (k : Nat) (hk : k < (Utf8.decode s i).2) : ∃ hj : i + k < s.size, 128 ≤ (s[i + k]'hj).toNat := by
  have key : k = 0 ∨ (i + k < s.size ∧ (s.get! (i + k)).toNat / 64 = 2) := by
    have h0 : ¬ (s.get! (i + 0)).toNat < 128 := by rw [get_at s i h]; omega
    simp only [Utf8.decode, h0, if_false] at hk
    split at hk
    · rename_i hc
      simp at hc
      have : k = 0 ∨ k = 1 := by
        split at hk <;> simp at hk <;> omega
      rcases this with rfl | rfl
      · exact .inl rfl
      · exact .inr hc.2
    split at hk
    · rename_i hc
      simp at hc
      have : k = 0 ∨ k = 1 ∨ k = 2 := by
        split at hk <;> simp at hk <;> omega
      rcases this with rfl | rfl | rfl
      · exact .inl rfl
      · exact .inr hc.1.2
      · exact .inr hc.2
    split at hk
    · rename_i hc
      simp at hc
      have : k = 0 ∨ k = 1 ∨ k = 2 ∨ k = 3 := by
        split at hk <;> simp at hk <;> omega
      rcases this with rfl | rfl | rfl | rfl
      · exact .inl rfl
      · exact .inr hc.1.1.2
      · exact .inr hc.1.2
      · exact .inr hc.2
    · simp at hk; exact .inl hk
  rcases key with rfl | ⟨h1, h2⟩
  · exact ⟨h, ha⟩
  · rw [get_at' s i k h1] at h2
    exact ⟨h1, by omega⟩

theorem ibyte_ok (s : List UInt8) (c : UInt8) : SpecR Tryd.prog 69 [.str s, .int .u8 (c.toNat : Int)] (.int .i64 (Lib.indexByte s c)) :=
  spec_same rfl rfl (fun w => by
    have := Tryd.strings_IndexByte ⟨s.toArray⟩ (c.toNat : Int) w
    rw [show ((c.toNat : Int)).toNat.toUInt8 = c by simp] at this
    exact this)
theorem vrune_ok (r : Int) : SpecR Tryd.prog 70 [.int .i32 r] (.bool (Lib.validRune r)) :=
  spec_same rfl rfl (fun w => Tryd.utf8_ValidRune r w)
theorem irune_none (r : Int) (h0 : 128 ≤ r) (h1 : r ≤ 2147483647) (hne : r ≠ 65533) : SpecR Tryd.prog 59 [.str [10, 0], .int .i32 r] (.int .i64 (-1)) := by
  refine Cod.irune_spec (fun E R hN hR => ?_)
  obtain ⟨B, hB, hsz, hhi⟩ := enc_high r h0 h1
  simp (disch := first | omega | (simp only [Lx]; omega)) only [go_sem, simprocAttr]
  (repeat (first | (with_reducible refine gskip_of ?_) | (with_reducible refine gcskip_of ?_) | (with_reducible refine gopen_of ?_)) <;> simp (disch := first | omega | (simp only [Lx]; omega)) only [go_sem, simprocAttr])
  refine call_ro (vrune_ok r) rfl rfl ?_
  cases hv : Lib.validRune r with
  | false =>
    simp (disch := first | omega | (simp only [Lx]; omega)) only [go_sem, simprocAttr]
    exact hR.ro ⟨rfl, rfl⟩
  | true =>
    simp (disch := first | omega | (simp only [Lx]; omega)) only [go_sem, simprocAttr, hB]
    refine vcW_scope hN 1 rfl (fun _ : Unit => ⟨[], []⟩) (fun _ => False) (fun R1 _ => ?_) (fun _ h => h.elim)
    simp (disch := first | omega | (simp only [Lx]; omega)) only [go_sem, simprocAttr, hB]
    refine vcW_loop hN (fun _ : Unit => ⟨[(0, .str [10, 0]), (1, .int .i32 r), (7, .str B), (8, .int .i64 ((B.length : Int) - 1)), (9, .int .i64 ((B.length : Int) - 1)), (10, .int .i64 0)], []⟩) (fun _ => True) (fun _ => 0) () (.le (by simp (disch := first | omega | (simp only [Lx]; omega)) only [go_sem, simprocAttr])) trivial ?_
    rintro _ R2 _ hR2
    by_cases h2 : B.length = 2
    · have hb1 : 128 ≤ (B.getD 1 0).toNat := by
        match B, h2, hhi with
        | [x, y], _, hhi => exact hhi y (by simp)
      have hib := ibyte_ok [] (B.getD 1 0)
      have hn : ¬ ((0 : Int) = ((B.getD 1 0).toNat : Int)) := by omega
      simp (disch := first | omega | (simp only [Lx]; omega)) only [go_sem, simprocAttr, h2]
      refine vcW_scope hN 0 rfl (fun _ : Unit => ⟨[], []⟩) (fun _ => False) (fun R3 _ => ?_) (fun _ h => h.elim)
      simp (disch := first | omega | (simp only [Lx]; omega)) only [go_sem, simprocAttr, Cod.irune_jn, h2]
      refine call_ro hib rfl rfl ?_
      simp (disch := first | omega | (simp only [Lx]; omega)) only [go_sem, simprocAttr, Lib.indexByte]
      exact hR.ro ⟨rfl, rfl⟩
    · simp (disch := first | omega | (simp only [Lx]; omega)) only [go_sem, simprocAttr]
      exact hR.ro ⟨rfl, rfl⟩
theorem rune_none (r : Int) (w : World) (hA : Amb w) (h0 : 128 ≤ r) (h1 : r ≤ 2147483647) :
    Calls Tryd.prog 59 #[.string nlz, .int .i32 r] w fun e w' => e = .returned (.int .i64 (-1)) ∧ Go.RowKit.Below w.heap.size w w' := by
  have hlo : decide (r < 128) = false := decide_eq_false (by omega)
  have h00 : decide (0 ≤ r) = true := decide_eq_true (by omega)
  by_cases he : r = 65533
  · subst he
    go_enter Tryd.func59, Tryd.ntmps59
    go_wp2
    go_loopg [5, 6] 2 (fun g _ _ wx => ∃ i : Nat, i + g = 2 ∧ wx = w.iter nlz i)
    case atStart => exact ⟨0, by omega, rfl⟩
    case round =>
      obtain ⟨i, hig, rfl⟩ := hrel
      cases gk with
      | zero =>
        obtain rfl : i = 2 := by omega
        have hnx := fun ty => run_next_end (P := Tryd.prog) w nlz 2 ty (by show ¬ 2 < 2; omega)
        go_wp2
        go_ret
        exact ⟨rfl, (Go.RowKit.Below.refl _ _).alloc (Nat.le_refl _) _⟩
      | succ g =>
        have hi : i < nlz.size := by show i < 2; omega
        obtain ⟨x, hx⟩ : ∃ x : UInt8, nlz[i]'hi = x := ⟨_, rfl⟩
        have hx128 : x.toNat < 128 := by
          have : i = 0 ∨ i = 1 := by omega
          rcases this with rfl | rfl
          · rw [← hx]; show (10 : UInt8).toNat < 128; decide
          · rw [← hx]; show (0 : UInt8).toNat < 128; decide
        have hnx := fun ty => run_next_ascii (P := Tryd.prog) w nlz i ty hi (by rw [hx]; exact hx128)
        rw [hx] at hnx
        have hne : ((x.toNat : Int) == 65533) = false := beq_eq_false_iff_ne.2 (by omega)
        go_wp2
        go_roundg g
        case measure => omega
        case rel => exact ⟨i + 1, by omega, rfl⟩
  · have := irune_none r h0 h1 he (fun _ => False) noLoc w #[.string nlz, .int .i32 r] (hrel_nil _ _ _) ⟨hA, fun b _ hb => ownB_nil hb⟩ (fun _ h => h.elim) rfl (fun j u y g1 g2 => ?_)
    · refine this.mono ?_
      rintro e w' ⟨u, h', r', ρ', as', rfl, ⟨rfl, rfl⟩, _, hr, _, _, q1, q2, q3, q4, q5, _⟩
      rw [RV.int_inv hr]
      exact ⟨rfl, q1, q2, q3, q4, fun b hb => q5 b hb ownB_nil⟩
    · match j, g1, g2 with
      | 0, g1, g2 =>
        obtain rfl := Option.some.inj g1
        obtain rfl := Option.some.inj g2
        exact valOf_RV (x := .str [10, 0]) rfl
      | 1, g1, g2 =>
        obtain rfl := Option.some.inj g1
        obtain rfl := Option.some.inj g2
        exact valOf_RV (x := .int .i32 r) rfl
      | j + 2, g1, g2 => simp at g2
end Go.Proofs.YtjpinndnicmokaaDoor.Cm
