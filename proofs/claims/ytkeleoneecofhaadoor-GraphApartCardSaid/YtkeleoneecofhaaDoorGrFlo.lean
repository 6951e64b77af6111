/- Small whole numbers as floats. -/
import Derived.Test.YtkeleoneecofhaaDoorEngA
import Derived.KernelRfl
set_option linter.all false
namespace Go.Proofs.YtkeleoneecofhaaDoor.Gr
set_option maxRecDepth 10000
def kOf (n : Nat) : Nat := if n = 0 then 1074 else 52 - n.log2
def rdOK (n : Nat) : Bool := FloatKind.f64.format.read (FloatKind.f64.nearest (n : Int)) == .number false (n * 2 ^ kOf n) (-(kOf n : Int))
theorem rd_all : (List.range 201).all rdOK = true := by kernel_rfl
theorem f_rd {n : Nat} (h : n ≤ 200) : FloatKind.f64.format.read (FloatKind.f64.nearest (n : Int)) = .number false (n * 2 ^ kOf n) (-(kOf n : Int)) :=
  eq_of_beq (List.all_eq_true.1 rd_all n (List.mem_range.2 (by omega)))
theorem f_ordN {m n : Nat} (hm : m ≤ 200) (hn : n ≤ 200) : FloatKind.f64.format.order (FloatKind.f64.nearest (m : Int)) (FloatKind.f64.nearest (n : Int)) = some (compare (m : Int) (n : Int)) := by
  unfold Ieee.Format.order
  rw [f_rd hm, f_rd hn]
  simp only [Ieee.Datum.order, Ieee.signed, Bool.false_eq_true, if_false, Nat.shiftLeft_eq]
  generalize kOf m = a
  generalize kOf n = b
  obtain ⟨K, hK⟩ : ∃ K, K = max a b := ⟨_, rfl⟩
  have h1 : min (-(a : Int)) (-(b : Int)) = -(K : Int) := by omega
  rw [h1]
  have h2 : (-(a : Int) - -(K : Int)).toNat = K - a := by omega
  have h3 : (-(b : Int) - -(K : Int)).toNat = K - b := by omega
  rw [h2, h3, Nat.mul_assoc, Nat.mul_assoc, ← Nat.pow_add, ← Nat.pow_add, show a + (K - a) = K by omega, show b + (K - b) = K by omega]
  have hp : 0 < 2 ^ K := Nat.pow_pos (by omega)
  congr 1
  simp only [compare, compareOfLessAndEq]
  have e1 : ((m * 2 ^ K : Nat) : Int) < ((n * 2 ^ K : Nat) : Int) ↔ (m : Int) < (n : Int) := by
    rw [Int.ofNat_lt, Int.ofNat_lt]; exact Nat.mul_lt_mul_right hp
  have e2 : ((m * 2 ^ K : Nat) : Int) = ((n * 2 ^ K : Nat) : Int) ↔ (m : Int) = (n : Int) := by
    rw [Int.ofNat_inj, Int.ofNat_inj]; exact Nat.mul_right_cancel_iff hp
  simp only [e1, e2]
theorem f_ord {a b : Int} (ha : 0 ≤ a ∧ a ≤ 200) (hb : 0 ≤ b ∧ b ≤ 200) : FloatKind.f64.format.order (FloatKind.f64.nearest a) (FloatKind.f64.nearest b) = some (compare a b) := by
  obtain ⟨m, rfl⟩ := Int.eq_ofNat_of_zero_le ha.1
  obtain ⟨n, rfl⟩ := Int.eq_ofNat_of_zero_le hb.1
  exact f_ordN (by omega) (by omega)
theorem f_eqb {a b : Int} (ha : 0 ≤ a ∧ a ≤ 200) (hb : 0 ≤ b ∧ b ≤ 200) : (FloatKind.f64.format.order (FloatKind.f64.nearest a) (FloatKind.f64.nearest b) == some .eq) = decide (a = b) := by
  rw [f_ord ha hb]
  simp only [compare, compareOfLessAndEq]
  split
  · rename_i h; rw [decide_eq_false (by omega)]; rfl
  · split
    · rename_i h; rw [decide_eq_true h]; rfl
    · rename_i h; rw [decide_eq_false h]; rfl
theorem f_ltb {a b : Int} (ha : 0 ≤ a ∧ a ≤ 200) (hb : 0 ≤ b ∧ b ≤ 200) : (FloatKind.f64.format.order (FloatKind.f64.nearest a) (FloatKind.f64.nearest b) == some .lt) = decide (a < b) := by
  rw [f_ord ha hb]
  simp only [compare, compareOfLessAndEq]
  split
  · rename_i h; rw [decide_eq_true h]; rfl
  · split
    · rename_i h; rw [decide_eq_false (by omega)]; rfl
    · rename_i h; rw [decide_eq_false (by omega)]; rfl
def wOK (K d : Nat) : Bool := FloatKind.f64.format.write (.number false (d * 2 ^ K) (-(K : Int))) == FloatKind.f64.format.write (.number false d 0) &&
  FloatKind.f64.format.write (.number true (d * 2 ^ K) (-(K : Int))) == FloatKind.f64.format.write (.number true d 0)
theorem w_all : ((List.range 201).all fun d => wOK 1074 d && (List.range 8).all fun j => wOK (45 + j) d) = true := by kernel_rfl
def kOK (n : Nat) : Bool := kOf n == 1074 || (decide (45 ≤ kOf n) && decide (kOf n < 53))
theorem k_all : (List.range 201).all kOK = true := by kernel_rfl
theorem k_in {n : Nat} (h : n ≤ 200) : kOf n = 1074 ∨ (45 ≤ kOf n ∧ kOf n < 53) := by
  have := List.all_eq_true.1 k_all n (List.mem_range.2 (by omega))
  simpa [kOK] using this
theorem f_w {K d : Nat} (s : Bool) (hd : d ≤ 200) (hK : K = 1074 ∨ (45 ≤ K ∧ K < 53)) : FloatKind.f64.format.write (.number s (d * 2 ^ K) (-(K : Int))) = FloatKind.f64.format.write (.number s d 0) := by
  have h := List.all_eq_true.1 w_all d (List.mem_range.2 (by omega))
  rw [Bool.and_eq_true] at h
  have hw : wOK K d = true := by
    rcases hK with rfl | hK
    · exact h.1
    · have := List.all_eq_true.1 h.2 (K - 45) (List.mem_range.2 (by omega))
      rwa [show 45 + (K - 45) = K by omega] at this
  unfold wOK at hw
  rw [Bool.and_eq_true] at hw
  cases s
  · exact eq_of_beq hw.1
  · exact eq_of_beq hw.2
theorem f_subN {m n : Nat} (hm : m ≤ 200) (hn : n ≤ 200) : FloatKind.f64.format.sub (FloatKind.f64.nearest (m : Int)) (FloatKind.f64.nearest (n : Int)) = some (FloatKind.f64.nearest ((m : Int) - (n : Int))) := by
  have ka := k_in hm
  have kb := k_in hn
  unfold Ieee.Format.sub
  rw [f_rd hm, f_rd hn]
  simp only [Ieee.Datum.opposite, Ieee.Datum.sum, Ieee.signed, Bool.false_eq_true, if_false, Nat.shiftLeft_eq, Bool.not_false, if_true]
  generalize kOf m = a at *
  generalize kOf n = b at *
  obtain ⟨K, hK⟩ : ∃ K, K = max a b := ⟨_, rfl⟩
  have h1 : min (-(a : Int)) (-(b : Int)) = -(K : Int) := by omega
  rw [h1]
  have h2 : (-(a : Int) - -(K : Int)).toNat = K - a := by omega
  have h3 : (-(b : Int) - -(K : Int)).toNat = K - b := by omega
  rw [h2, h3, Nat.mul_assoc, Nat.mul_assoc, ← Nat.pow_add, ← Nat.pow_add, show a + (K - a) = K by omega, show b + (K - b) = K by omega]
  have hp : 0 < 2 ^ K := Nat.pow_pos (by omega)
  have hKK : K = 1074 ∨ (45 ≤ K ∧ K < 53) := by omega
  have e : ((m * 2 ^ K : Nat) : Int) + -((n * 2 ^ K : Nat) : Int) = ((m : Int) - (n : Int)) * ((2 ^ K : Nat) : Int) := by
    rw [Int.natCast_mul, Int.natCast_mul, Int.sub_mul]; rfl
  rw [e]
  obtain ⟨T, hT⟩ : ∃ T : Nat, T = 2 ^ K := ⟨_, rfl⟩
  rw [Int.natAbs_mul, Int.natAbs_natCast]
  have hs : (if ((m : Int) - (n : Int)) * ((2 ^ K : Nat) : Int) = 0 then (false && true : Bool) else decide (((m : Int) - (n : Int)) * ((2 ^ K : Nat) : Int) < 0)) = decide ((m : Int) - (n : Int) < 0) := by
    rw [← hT] at hp ⊢
    have hp' : (0 : Int) < (T : Int) := by omega
    by_cases h0 : (m : Int) - (n : Int) = 0
    · rw [h0]; simp
    · rw [if_neg (by rw [Int.mul_eq_zero]; omega)]
      rw [decide_eq_decide]
      constructor
      · intro h
        rcases Int.lt_or_le ((m : Int) - n) 0 with g | g
        · exact g
        · have := Int.mul_nonneg g (Int.le_of_lt hp'); omega
      · intro h; exact Int.mul_neg_of_neg_of_pos h hp'
  rw [hs]
  simp only [Option.map_some]
  rw [f_w _ (by omega) hKK]
  rfl
theorem f_sub {a b : Int} (ha : 0 ≤ a ∧ a ≤ 200) (hb : 0 ≤ b ∧ b ≤ 200) : FloatKind.f64.format.sub (FloatKind.f64.nearest a) (FloatKind.f64.nearest b) = some (FloatKind.f64.nearest (a - b)) := by
  obtain ⟨m, rfl⟩ := Int.eq_ofNat_of_zero_le ha.1
  obtain ⟨n, rfl⟩ := Int.eq_ofNat_of_zero_le hb.1
  exact f_subN (by omega) (by omega)
def mulOK (n : Nat) : Bool := FloatKind.f64.format.mul (FloatKind.f64.nearest (n : Int)) (FloatKind.f64.nearest (n : Int)) == some (FloatKind.f64.nearest ((n : Int) * (n : Int))) &&
  FloatKind.f64.format.mul (FloatKind.f64.nearest (-(n : Int))) (FloatKind.f64.nearest (-(n : Int))) == some (FloatKind.f64.nearest ((n : Int) * (n : Int)))
theorem mul_all : (List.range 201).all mulOK = true := by kernel_rfl
theorem f_mul {d : Int} (h : -200 ≤ d ∧ d ≤ 200) : FloatKind.f64.format.mul (FloatKind.f64.nearest d) (FloatKind.f64.nearest d) = some (FloatKind.f64.nearest ((d.natAbs : Int) * (d.natAbs : Int))) := by
  have := List.all_eq_true.1 mul_all d.natAbs (List.mem_range.2 (by omega))
  simp only [mulOK, Bool.and_eq_true] at this
  obtain ⟨n, hn⟩ : ∃ n, n = d.natAbs := ⟨_, rfl⟩
  rw [← hn] at this ⊢
  rcases (by omega : d = (n : Int) ∨ d = -(n : Int)) with rfl | rfl
  · exact eq_of_beq this.1
  · exact eq_of_beq this.2
def addOK (a : Nat) : Bool := FloatKind.f64.format.add (FloatKind.f64.nearest (a : Int)) 4607182418800017408 == some (FloatKind.f64.nearest ((a : Int) + 1)) &&
  FloatKind.f64.format.add (FloatKind.f64.nearest (a : Int)) 0 == some (FloatKind.f64.nearest (a : Int)) &&
  FloatKind.f64.format.add (FloatKind.f64.nearest (a : Int)) 13830554455654793216 == some (FloatKind.f64.nearest ((a : Int) - 1))
theorem add_all : (List.range 201).all addOK = true := by kernel_rfl
theorem f_add {a : Int} (h : 0 ≤ a ∧ a ≤ 200) : FloatKind.f64.format.add (FloatKind.f64.nearest a) 4607182418800017408 = some (FloatKind.f64.nearest (a + 1)) ∧
    FloatKind.f64.format.add (FloatKind.f64.nearest a) 0 = some (FloatKind.f64.nearest a) ∧ FloatKind.f64.format.add (FloatKind.f64.nearest a) 13830554455654793216 = some (FloatKind.f64.nearest (a - 1)) := by
  obtain ⟨n, rfl⟩ := Int.eq_ofNat_of_zero_le h.1
  have := List.all_eq_true.1 add_all n (List.mem_range.2 (by omega))
  simp only [addOK, Bool.and_eq_true] at this
  exact ⟨eq_of_beq this.1.1, eq_of_beq this.1.2, eq_of_beq this.2⟩
end Go.Proofs.YtkeleoneecofhaaDoor.Gr
