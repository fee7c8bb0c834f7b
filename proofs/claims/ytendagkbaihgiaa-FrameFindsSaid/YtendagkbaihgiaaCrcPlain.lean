/- Plain arithmetic of CRC-32: the reflected step, its linearity, that a step loses nothing. No program in sight. -/
namespace Crc
def P : Nat := 0xedb88320
def step (n : Nat) : Nat := if n % 2 = 1 then n / 2 ^^^ P else n / 2
def steps : Nat → Nat → Nat
  | 0, n => n
  | k + 1, n => steps k (step n)
def byte (n c : Nat) : Nat := steps 8 (n ^^^ c)
def more (n : Nat) (l : List UInt8) : Nat := l.foldl (fun n c => byte n c.toNat) n

theorem xor_mod_two (a b : Nat) : (a ^^^ b) % 2 = (a % 2 + b % 2) % 2 := by
  have := Nat.testBit_xor a b 0
  simp only [Nat.testBit_zero] at this
  rcases Nat.mod_two_eq_zero_or_one a with h | h <;> rcases Nat.mod_two_eq_zero_or_one b with h' | h' <;> rcases Nat.mod_two_eq_zero_or_one (a ^^^ b) with h'' | h'' <;> simp_all

theorem xor_div_two (a b : Nat) : (a ^^^ b) / 2 = a / 2 ^^^ b / 2 := by
  apply Nat.eq_of_testBit_eq
  intro i
  simp [Nat.testBit_div_two, Nat.testBit_xor]

theorem step_xor (a b : Nat) : step (a ^^^ b) = step a ^^^ step b := by
  unfold step
  rw [xor_mod_two, xor_div_two]
  rcases Nat.mod_two_eq_zero_or_one a with h | h <;> rcases Nat.mod_two_eq_zero_or_one b with h' | h' <;> simp [h, h']
  · rw [Nat.xor_assoc]
  · rw [Nat.xor_assoc, Nat.xor_comm (b / 2) P, ← Nat.xor_assoc]
  · rw [Nat.xor_assoc, Nat.xor_comm P, Nat.xor_assoc, Nat.xor_self, Nat.xor_zero]

theorem steps_xor (k a b : Nat) : steps k (a ^^^ b) = steps k a ^^^ steps k b := by
  induction k generalizing a b with
  | zero => rfl
  | succ k ih => simp only [steps, step_xor, ih]

theorem steps_add (j k n : Nat) : steps (j + k) n = steps k (steps j n) := by
  induction j generalizing n with
  | zero => simp [steps]
  | succ j ih => rw [Nat.succ_add]; simp only [steps]; exact ih _

theorem step_double (n : Nat) : step (2 * n) = n := by unfold step; rw [if_neg (by omega)]; omega
theorem steps_pow (k n : Nat) : steps k (2 ^ k * n) = n := by
  induction k generalizing n with
  | zero => simp [steps]
  | succ k ih =>
    simp only [steps]
    rw [show 2 ^ (k + 1) * n = 2 * (2 ^ k * n) by rw [Nat.pow_succ, Nat.mul_comm (2 ^ k) 2, Nat.mul_assoc], step_double, ih]

theorem P_lt : P < 2 ^ 32 := by decide
theorem step_lt {n : Nat} (h : n < 2 ^ 32) : step n < 2 ^ 32 := by
  unfold step
  split
  · exact Nat.xor_lt_two_pow (by omega) P_lt
  · omega
theorem steps_lt (k : Nat) {n : Nat} (h : n < 2 ^ 32) : steps k n < 2 ^ 32 := by
  induction k generalizing n with
  | zero => exact h
  | succ k ih => exact ih (step_lt h)

theorem step_zero {n : Nat} (h : n < 2 ^ 32) (hz : step n = 0) : n = 0 := by
  unfold step at hz
  split at hz
  · have e : n / 2 = P := by
      have := congrArg (· ^^^ P) hz
      simpa [Nat.xor_assoc] using this
    unfold P at e; omega
  · omega
theorem steps_zero (k : Nat) {n : Nat} (h : n < 2 ^ 32) (hz : steps k n = 0) : n = 0 := by
  induction k generalizing n with
  | zero => exact hz
  | succ k ih => exact step_zero h (ih (step_lt h) hz)

/-- the program's way to take a byte -/
theorem byte_eq (n c : Nat) : byte n c = n / 256 ^^^ steps 8 (n % 256 ^^^ c) := by
  have e : n ^^^ c = 2 ^ 8 * (n / 256) ^^^ (n % 256 ^^^ c) := by
    rw [← Nat.xor_assoc]
    congr 1
    apply Nat.eq_of_testBit_eq
    intro i
    rw [Nat.testBit_xor, Nat.testBit_two_pow_mul, show 256 = 2 ^ 8 from rfl, Nat.testBit_mod_two_pow, Nat.testBit_div_two_pow]
    by_cases h : 8 ≤ i
    · simp [h, Nat.not_lt.2 h]
    · simp [h, Nat.lt_of_not_le h]
  unfold byte
  rw [e, steps_xor, steps_pow]

theorem byte_lt {n c : Nat} (h : n < 2 ^ 32) (hc : c < 256) : byte n c < 2 ^ 32 :=
  steps_lt 8 (Nat.xor_lt_two_pow h (by omega))
theorem more_lt (l : List UInt8) : ∀ {n : Nat}, n < 2 ^ 32 → more n l < 2 ^ 32 := by
  induction l with
  | nil => exact fun h => h
  | cons c l ih => exact fun h => ih (byte_lt h c.toNat_lt)

theorem more_append (n : Nat) (a b : List UInt8) : more n (a ++ b) = more (more n a) b := by
  unfold more; rw [List.foldl_append]

theorem xor_eq_zero {a b : Nat} (h : a ^^^ b = 0) : a = b := by
  have := congrArg (· ^^^ b) h
  simpa [Nat.xor_assoc] using this

theorem byte_inj {a b c : Nat} (ha : a < 2 ^ 32) (hb : b < 2 ^ 32) (h : byte a c = byte b c) : a = b := by
  unfold byte at h
  rw [steps_xor, steps_xor 8 b c] at h
  have h' : steps 8 a = steps 8 b := by
    have := congrArg (· ^^^ steps 8 c) h
    simpa [Nat.xor_assoc] using this
  refine xor_eq_zero (steps_zero 8 (Nat.xor_lt_two_pow ha hb) ?_)
  rw [steps_xor, h', Nat.xor_self]

theorem more_inj (l : List UInt8) : ∀ {a b : Nat}, a < 2 ^ 32 → b < 2 ^ 32 → more a l = more b l → a = b := by
  induction l with
  | nil => exact fun _ _ h => h
  | cons c l ih => exact fun ha hb h => byte_inj ha hb (ih (byte_lt ha c.toNat_lt) (byte_lt hb c.toNat_lt) h)

theorem byte_xor (a b c d : Nat) : byte (a ^^^ b) (c ^^^ d) = byte a c ^^^ byte b d := by
  unfold byte
  rw [← steps_xor]
  congr 1
  rw [Nat.xor_assoc, Nat.xor_assoc, ← Nat.xor_assoc b c d, Nat.xor_comm b c, Nat.xor_assoc c b d]

/-- four bytes, from nothing: the 32 bits stepped 32 times -/
theorem four (e : Nat) (h : e < 2 ^ 32) : byte (byte (byte (byte 0 (e % 256)) (e / 256 % 256)) (e / 65536 % 256)) (e / 16777216 % 256) = steps 32 e := by
  have key : ∀ (x m : Nat), steps 8 (x ^^^ 2 ^ 8 * m) = steps 8 x ^^^ m := fun x m => by rw [steps_xor, steps_pow]
  have split8 : ∀ m : Nat, m = m % 256 ^^^ 2 ^ 8 * (m / 256) := by
    intro m
    apply Nat.eq_of_testBit_eq
    intro i
    rw [Nat.testBit_xor, Nat.testBit_two_pow_mul, show 256 = 2 ^ 8 from rfl, Nat.testBit_mod_two_pow, Nat.testBit_div_two_pow]
    by_cases h : 8 ≤ i
    · simp [h, Nat.not_lt.2 h]
    · simp [h, Nat.lt_of_not_le h]
  have one : ∀ (x m : Nat), steps 8 (x ^^^ m) = steps 8 (x ^^^ m % 256) ^^^ m / 256 := by
    intro x m
    conv => lhs; rw [split8 m]
    rw [← Nat.xor_assoc, key]
  have e1 : e / 256 / 256 = e / 65536 := by rw [Nat.div_div_eq_div_mul]
  have e2 : e / 65536 / 256 = e / 16777216 := by rw [Nat.div_div_eq_div_mul]
  have e3 : e / 16777216 / 256 = 0 := by omega
  unfold byte
  rw [show (32 : Nat) = 8 + (8 + (8 + 8)) from rfl, steps_add, steps_add, steps_add]
  conv => rhs; rw [show e = 0 ^^^ e by simp]; rw [one 0 e, one _ (e / 256), e1, one _ (e / 65536), e2, one _ (e / 16777216), e3]
  simp

theorem steps_succ (k n : Nat) : steps (k + 1) n = step (steps k n) := by
  rw [steps_add]; rfl

def inv (n : Nat) : Nat := 4294967295 - n
theorem inv_lt (n : Nat) : inv n < 2 ^ 32 := by unfold inv; omega
theorem inv_inv {n : Nat} (h : n < 2 ^ 32) : inv (inv n) = n := by unfold inv; omega
theorem xor_ones (k n : Nat) (h : n < 2 ^ k) : (2 ^ k - 1) ^^^ n = 2 ^ k - (n + 1) := by
  apply Nat.eq_of_testBit_eq
  intro i
  rw [Nat.testBit_two_pow_sub_succ h, Nat.testBit_xor, Nat.testBit_two_pow_sub_one]
  by_cases hi : i < k
  · simp [hi]
  · simp [hi, Nat.testBit_lt_two_pow (Nat.lt_of_lt_of_le h (Nat.pow_le_pow_right (by omega) (Nat.le_of_not_lt hi)))]
/-- what More answers: any number ahead of it counts by its lowest 32 bits -/
def sum (n : Int) (l : List UInt8) : Nat := inv (more (inv (n % 4294967296).toNat) l)
theorem sum_lt (n : Int) (l : List UInt8) : sum n l < 2 ^ 32 := inv_lt _
theorem sum_append (a b : List UInt8) : sum (sum 0 a : Nat) b = sum 0 (a ++ b) := by
  have h := sum_lt 0 a
  unfold sum at h ⊢
  rw [more_append]
  congr 2
  rw [show ((inv (more (inv ((0 : Int) % 4294967296).toNat) a) : Nat) : Int) % 4294967296 = ((inv (more (inv ((0 : Int) % 4294967296).toNat) a) : Nat) : Int) by omega, Int.toNat_natCast, inv_inv (more_lt _ (inv_lt _))]

end Crc
