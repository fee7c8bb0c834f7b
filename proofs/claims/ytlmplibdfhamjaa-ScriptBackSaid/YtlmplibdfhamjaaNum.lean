/- Numbers and bytes: no program in sight. -/
import Derived.Test.YtlmplibdfhamjaaBits
import Derived.Laws.BitsLemmas
import Derived.Laws.IdiomStrings
import Derived.WideShapes
import Derived.WalkKit
import Derived.ProofKit
namespace Go.Num
open Go

/-- the lowest byte of a number -/
def lowB (n : Int) : UInt8 := UInt8.ofNat (n % 256).toNat
/-- the lowest k bytes of a number, the greatest one first -/
def be : Nat → Int → List UInt8
  | 0, _ => []
  | k + 1, n => lowB (n / 256 ^ k) :: be k n
theorem be_length (k : Nat) (n : Int) : (be k n).length = k := by
  induction k with
  | zero => rfl
  | succ k ih => simp [be, ih]
theorem lowB_toNat (z : Int) : (lowB z).toNat = (z % 256).toNat := by
  unfold lowB
  have h1 := Int.emod_nonneg z (b := 256) (by omega)
  have h2 := Int.emod_lt_of_pos z (b := 256) (by omega)
  rw [UInt8.toNat_ofNat']
  exact Nat.mod_eq_of_lt (by omega)
theorem lowB_int (z : Int) : ((lowB z).toNat : Int) = z % 256 := by
  rw [lowB_toNat]
  have h1 := Int.emod_nonneg z (b := 256) (by omega)
  omega
theorem u8_lowB (z : Int) : IntKind.u8.wrap z = ((lowB z).toNat : Int) := by
  rw [lowB_int, IntKind.wrap_u8]
theorem lowB_mod (z : Int) : lowB (z % 256) = lowB z := by
  unfold lowB
  rw [Int.emod_emod_of_dvd z (Int.dvd_refl 256)]
theorem pow_byte (m : Nat) : (2 : Int) ^ (8 * (m : Int)).toNat = 256 ^ m := by
  rw [show (8 * (m : Int)).toNat = 8 * m by omega, Int.pow_mul]
  rfl
theorem and255 (n : Int) : bits .and .i64 n 255 = n % 256 := i64_mask 8 (by omega) n
/-- 'n<<8 | c' -/
theorem or_byte (n : Int) (c : UInt8) : bits .or .i64 (IntKind.i64.wrap (n * 256)) (c.toNat : Int) = IntKind.i64.wrap (n * 256) + c.toNat := by
  have hc : c.toNat < 256 := UInt8.toNat_lt c
  have hw := IntKind.wrap_i64 (n * 256)
  generalize hx : IntKind.i64.wrap (n * 256) = x at hw ⊢
  show IntKind.i64.wrap ((BitVec.ofInt 64 x ||| BitVec.ofInt 64 (c.toNat : Int)).toNat : Int) = _
  rw [BitVec.toNat_or, ofInt_i64 _ (by omega), toNat_ofInt64]
  obtain ⟨q, hq⟩ : ∃ q : Nat, (x % 18446744073709551616).toNat = 2 ^ 8 * q := ⟨(x % 18446744073709551616).toNat / 256, by omega⟩
  rw [hq, ← Nat.two_pow_add_eq_or_of_lt (by omega), IntKind.wrap_i64]
  omega
/-- the number of some bytes, as int has it -/
def num (l : List UInt8) : Int := l.foldl (fun n c => IntKind.i64.wrap (n * 256) + c.toNat) 0
theorem num_snoc (l : List UInt8) (c : UInt8) : num (l ++ [c]) = IntKind.i64.wrap (num l * 256) + c.toNat := by simp [num]
theorem wrap64_range (n : Int) : -9223372036854775808 ≤ IntKind.i64.wrap n ∧ IntKind.i64.wrap n ≤ 9223372036854775807 := by rw [IntKind.wrap_i64]; omega

/-- a text of bytes -/
def bs (l : List UInt8) : ByteArray := ⟨l.toArray⟩
theorem bs_append (a b : List UInt8) : bs a ++ bs b = bs (a ++ b) := by
  apply WideShapes.bytes_inj
  simp [bs]
theorem bs_toList (l : List UInt8) : (bs l).data.toList = l := by simp [bs]
theorem bs_of (s : ByteArray) : bs s.data.toList = s := by cases s; simp [bs]
theorem bs_size (l : List UInt8) : (bs l).size = l.length := by simp [bs, ByteArray.size]
theorem bs_inj {a b : List UInt8} (h : bs a = bs b) : a = b := by
  have := congrArg (fun s : ByteArray => s.data.toList) h
  simpa [bs_toList] using this

/-- 'string(b)' of a slice that has just been made -/
theorem run_text {P : Program} (w : World) (src dst e : TypeId) (l : List UInt8) (cap : Nat) (hs : P.underlying src = some (.slice e)) (he : P.underlying e = some (.int .u8)) (hd : P.underlying dst = some .string) (cs : Array Value) (hc : cs.toList = l.map fun b => Value.int .u8 b.toNat) (n : Nat) (hn : l.length = n) :
    (convert src dst (.slice (some ⟨w.heap.size, 0, none⟩) n cap)).run P (w.alloc (.cells cs e)) = .ok (.string (bs l)) (w.alloc (.cells cs e)) := by
  subst hn
  refine run_convert_bytes_back (P := P) _ src dst e ⟨w.heap.size, 0, none⟩ cap l hs he hd ?_
  intro j hj
  have : (⟨w.heap.size, 0, none⟩ : Addr).add j = ⟨w.heap.size, j, none⟩ := by unfold Addr.add; split <;> simp_all
  rw [this, World.cell?_alloc_at _ _ _ _ rfl]
  have h2 : cs[j]? = cs.toList[j]? := by simp
  rw [h2, hc]
  simp [hj]
end Go.Num
