/- Commit: strings.IndexAny at texts of any bytes (of at most 8, where it goes rune by rune), once a rune that is no ASCII byte is never found. -/
import Derived.Test.YtjpinndnicmokaaDoorCmRune
import Derived.Shelf.Strings.IndexAnyAll
set_option linter.all false
namespace Go.Proofs.YtjpinndnicmokaaDoor.Cm
open Go.Shelf Go.RowKit Go.Lib Eng
set_option maxRecDepth 1000000
section
variable {P : Program} {ρ : Ren}
theorem next_at (w : World) (k : Nat) (s : ByteArray) (pos : Nat) (ty : TypeId) (hk : w.heap[k]? = some (.stringIter s pos)) (h : pos < s.size) :
    (Instr.next (.pointer (some ⟨k, 0, none⟩)) true ty).run P w =
      .ok (.tuple #[.bool true, .int .i64 pos, .int .i32 (Utf8.decode s pos).1]) { w with heap := w.heap.setIfInBounds k (.stringIter s (pos + (Utf8.decode s pos).2)) } := by
  simp only [Instr.next, getObj, setObj, Sem.run_bind, Sem.run, hk, Result.andThen, h, if_true]
  simp [goInt]
theorem next_fin (w : World) (k : Nat) (s : ByteArray) (pos : Nat) (ty : TypeId) (hk : w.heap[k]? = some (.stringIter s pos)) (h : ¬ pos < s.size) :
    (Instr.next (.pointer (some ⟨k, 0, none⟩)) true ty).run P w = .ok (.tuple #[.bool false]) w := by
  simp [Instr.next, getObj, Sem.run, hk, h]
theorem noAny_step {s chars : List UInt8} {i : Nat} (h : NoAny s chars i) : ∀ (d : Nat), (∀ k, k < d → ∀ b, s[i + k]? = some b → chars.contains b = false) → NoAny s chars (i + d)
  | 0, _ => h
  | d + 1, hd => by
    intro j b hj hb
    by_cases e : j < i + d
    · exact noAny_step h d (fun k hk => hd k (by omega)) j b e hb
    · obtain rfl : j = i + d := by omega
      exact hd d (by omega) b hb
set_option maxHeartbeats 8000000 in
theorem any_short (L : Lays.n153 P ρ) (s chars : ByteArray) (w : World) (A : World → Prop) (hA : ∀ w', Below w.heap.size w w' → A w') (h2 : 2 ≤ chars.size) (h8 : s.size ≤ 8)
    (hhi : ∀ b : UInt8, 128 ≤ b.toNat → chars.data.toList.contains b = false)
    (hru : ∀ (r : Int) (w' : World), A w' → 128 ≤ r → r ≤ 2147483647 → Calls P (ρ.f 152) #[.string chars, .int .i32 r] w' fun e w'' => e = .returned (.int .i64 (-1)) ∧ Below w'.heap.size w' w'') :
    Calls P (ρ.f 153) #[.string s, .string chars] w fun e w' => e = .returned (.int .i64 (Lib.indexAny s.data.toList chars.data.toList)) ∧ Below w.heap.size w w' := by
  have HA : Aside (∀ w', Below w.heap.size w w' → A w') := hA
  have HH : Aside (∀ b : UInt8, 128 ≤ b.toNat → chars.data.toList.contains b = false) := hhi
  have HR : Aside (∀ (r : Int) (w' : World), A w' → 128 ≤ r → r ≤ 2147483647 → Calls P (ρ.f 152) #[.string chars, .int .i32 r] w' fun e w'' => e = .returned (.int .i64 (-1)) ∧ Below w'.heap.size w' w'') := hru
  clear hA hhi hru
  have hemp : chars.toList.isEmpty = false := by
    rw [Lib.toList_data]
    cases h : chars.data.toList with
    | nil => have := Lib.size_eq chars; rw [h, List.length_nil] at this; omega
    | cons _ _ => rfl
  have hn1 : ((chars.size : Int) == 1) = false := beq_eq_false_iff_ne.2 (by omega)
  have h8z : decide ((8 : Int) < (s.size : Int)) = false := decide_eq_false (by omega)
  have t3 := L.t3; have a3 := L.a3; have z3 := L.z3; have v3 := L.v3
  have t4 := L.t4; have a4 := L.a4; have z4 := L.z4; have v4 := L.v4
  have t5 := L.t5; have a5 := L.a5; have z5 := L.z5; have v5 := L.v5
  have t9 := L.t9; have a9 := L.a9; have z9 := L.z9; have v9 := L.v9
  have t21 := L.t21; have a21 := L.a21; have z21 := L.z21; have v21 := L.v21
  have e152 : ∀ args w, (callFunc (ρ.f 152) args).run P w = .ok (.enter (ρ.f 152) args) w := enters_of L.f152 (by kernel_rfl) rfl
  have e226 : ∀ args w, (callFunc (ρ.f 226) args).run P w = .ok (.enter (ρ.f 226) args) w := enters_of L.f226 (by kernel_rfl) rfl
  go_enter L.f153, Body.n153_ntmps ρ
  go_wp2_with (go_at_fn (ρ.f 226); refine (Any.strings_shouldUseASCIISet { L with } _ _).mono ?_; rintro e w' ⟨rfl, hw⟩; rw [hw, h8z])
  go_loopg [9, 10] s.size (fun g _ _ wx => ∃ i : Nat, i + g = s.size ∧ wx.heap[w.heap.size]? = some (.stringIter s i) ∧ Below w.heap.size w wx ∧ Lib.NoAny s.data.toList chars.data.toList i)
  case atStart => exact ⟨0, by omega, World.iter_heap _ _ _, (Below.refl _ _).alloc (Nat.le_refl _) _, Lib.NoAny.zero _ _⟩
  case round =>
    obtain ⟨i, hig, hk, hbw, hno⟩ := hrel
    have HN : Aside (Lib.NoAny s.data.toList chars.data.toList i) := hno
    have HB : Aside (Below w.heap.size w wr) := hbw
    clear hno hbw
    cases gk with
    | zero =>
      obtain rfl : i = s.size := by omega
      have hnx := fun ty => next_fin (P := P) wr w.heap.size s s.size ty hk (by omega)
      go_wp2
      go_ret
      exact ⟨by rw [Lib.indexAny_none (by rw [← Lib.size_eq]; exact HN.out)]; rfl, HB.out⟩
    | succ g =>
      have hi : i < s.size := by omega
      have hnx := fun ty => next_at (P := P) wr w.heap.size s i ty hk hi
      have hlt : w.heap.size < wr.heap.size := (Array.getElem?_eq_some_iff.1 hk).1
      obtain ⟨x, hx⟩ : ∃ x : UInt8, s[i]'hi = x := ⟨_, rfl⟩
      have hxl : s.data.toList[i]? = some x := by rw [← hx]; exact Lib.data_getElem? s i hi
      obtain ⟨W1, hW1⟩ : ∃ W1 : World, ({ wr with heap := wr.heap.setIfInBounds w.heap.size (.stringIter s (i + (Utf8.decode s i).2)) } : World) = W1 := ⟨_, rfl⟩
      have hk1 : W1.heap[w.heap.size]? = some (.stringIter s (i + (Utf8.decode s i).2)) := by
        rw [← hW1]; simp [hlt]
      have hb1 : Below w.heap.size w W1 := by
        rw [← hW1]
        refine HB.out.trans ⟨rfl, rfl, rfl, by simp, fun k hkk => ?_⟩
        show (wr.heap.setIfInBounds w.heap.size _)[k]? = _
        rw [Array.getElem?_setIfInBounds_ne (by omega)]
      have hs1 : W1.heap.size = wr.heap.size := by rw [← hW1]; simp
      rw [hW1] at hnx
      have HB1 : Aside (Below w.heap.size w W1) := hb1
      have HK1 : Aside (W1.heap[w.heap.size]? = some (.stringIter s (i + (Utf8.decode s i).2))) := hk1
      clear hb1 hk1
      by_cases h128 : x.toNat < 128
      · have hd := decode_ascii s i hi (by rw [hx]; exact h128)
        rw [hx] at hd
        rw [hd] at HK1
        simp only [hd] at hnx
        have Hx : Aside (s.data.toList[i]? = some x) := hxl
        clear hxl hx hd hW1
        have hcon := Lib.contains_iff_indexByte chars.data.toList x
        have hback : ((x.toNat : Int)).toNat.toUInt8 = x := by simp
        cases hin : chars.data.toList.contains x
        · rw [hin] at hcon
          have hlt : ¬ ((0 : Int) ≤ Lib.indexByte chars.data.toList x) := of_decide_eq_false hcon.symm
          clear hcon
          go_wp2_with (go_at_fn (ρ.f 152); refine (Any.strings_IndexRune_ascii { L with } _ _ _ (by omega) (by omega)).mono ?_; rintro e w' ⟨rfl, hw⟩; rw [hw, hback])
          go_roundg g
          case measure => omega
          case rel => exact ⟨i + 1, by omega, HK1.out, HB1.out, HN.out.succ Hx.out hin⟩
        · rw [hin] at hcon
          have hge : (0 : Int) ≤ Lib.indexByte chars.data.toList x := of_decide_eq_true hcon.symm
          clear hcon
          go_wp2_with (go_at_fn (ρ.f 152); refine (Any.strings_IndexRune_ascii { L with } _ _ _ (by omega) (by omega)).mono ?_; rintro e w' ⟨rfl, hw⟩; rw [hw, hback])
          go_ret
          exact ⟨by rw [Lib.indexAny_hit HN.out Hx.out hin]; rfl, HB1.out⟩
      · obtain ⟨hr1, hr2⟩ := decode_high s i hi (by rw [hx]; omega)
        have hr3 := decode_le s i
        have hcont := fun k => decode_cont s i hi (by rw [hx]; omega) k
        have hds : i + (Utf8.decode s i).2 ≤ s.size := by
          obtain ⟨h, _⟩ := hcont ((Utf8.decode s i).2 - 1) (by omega)
          omega
        have HN2 : Aside (NoAny s.data.toList chars.data.toList (i + (Utf8.decode s i).2)) := by
          refine noAny_step HN.out _ (fun k hk b hb => ?_)
          obtain ⟨hj, h1⟩ := hcont k hk
          rw [Lib.data_getElem? s (i + k) hj] at hb
          obtain rfl := Option.some.inj hb
          exact HH.out _ h1
        clear hcont hW1 hx hxl
        have hc := HR.out ((Utf8.decode s i).1 : Int) W1 (HA.out _ HB1.out) (by omega) (by omega)
        generalize hdd : Utf8.decode s i = dd at *
        obtain ⟨r, d⟩ := dd
        simp only at *
        have HD : Aside (i + d ≤ s.size ∧ 1 ≤ d) := ⟨hds, hr2⟩
        clear hds hr2
        go_wp2_with (go_at_fn (ρ.f 152); refine hc.mono ?_; rintro e w' ⟨rfl, hw⟩)
        go_roundg (s.size - (i + d))
        case measure => have := HD.out; omega
        case rel =>
          refine ⟨i + d, by have := HD.out; omega, ?_, HB1.out.trans (hw.mono (by omega)), HN2.out⟩
          rw [hw.block _ (by omega)]; exact HK1.out
end
end Go.Proofs.YtjpinndnicmokaaDoor.Cm
