/- Entries of bytes, the bytes and the digest of entries: the code's and the document's. -/
import Derived.Test.YtlmplibdfhamjaaWireE
import Derived.Test.YtlmplibdfhamjaaFewE
import Derived.Test.YtlmplibdfhamjaaSameE
import Derived.DataShut
namespace Go.Proofs.Ytlmplibdfhamjaa
open Go.RowKit Go.Mem Go.Num
set_option linter.unusedVariables false
set_option linter.unusedSimpArgs false

theorem num_wf (l : List UInt8) : (Lit.int .i64 (num l)).wf = true := by
  rw [Lit.wf_int_iff, num_val, IntKind.wrap_i64]
  show (-9223372036854775808 : Int) ≤ _ ∧ _ ≤ (9223372036854775807 : Int)
  generalize val l = v
  omega
/-- entries of few bytes in all -/
def Tiny (B : Nat) (e : Ent) : Prop := e.key.size ≤ B ∧ e.reg.by_.size ≤ B ∧ e.reg.value.size ≤ B ∧ (Lit.int .i64 e.reg.n).wf = true
theorem Tiny.ok {B : Nat} {e : Ent} (h : Tiny B e) (hB : B ≤ maxLen) (w : World) : e.ok w := ⟨Nat.le_trans h.1 hB, h.2.2.2, Nat.le_trans h.2.1 hB, Nat.le_trans h.2.2.1 hB⟩
theorem rdEnt_tiny (st : St) : Tiny st.1.length (rdEnt st).1 := by
  have h1 := rdText_len st
  have h2 := rdNum_len 8 (rdText st).2
  have h3 := rdText_len (rdNum 8 (rdText st).2).2
  have h4 := rdText_len (rdText (rdNum 8 (rdText st).2).2).2
  unfold rdEnt
  refine ⟨?_, ?_, ?_, num_wf _⟩
  · simp only [bs_size]; omega
  · simp only [bs_size]; omega
  · simp only [bs_size]; omega
theorem Tiny.mono {B C : Nat} {e : Ent} (h : Tiny B e) (hc : B ≤ C) : Tiny C e := ⟨Nat.le_trans h.1 hc, Nat.le_trans h.2.1 hc, Nat.le_trans h.2.2.1 hc, h.2.2.2⟩
theorem sevE_tiny : ∀ (n : Nat) (st : St), ∀ m ∈ (sevG rdEnt n st).1, Tiny st.1.length m
  | 0, st, m, h => by simp [sevG] at h
  | n + 1, st, m, h => by
    unfold sevG at h
    split at h
    · simp only [List.mem_cons] at h
      rcases h with rfl | h
      · exact rdEnt_tiny st
      · exact (sevE_tiny n _ m h).mono (rdEnt_len st)
    · simp at h
theorem rdAll_tiny (st : St) : ∀ m ∈ (rdAll rdEnt 65536 st).1, Tiny st.1.length m := fun m h => by
  unfold rdAll outT at h
  simp only at h
  split at h
  · exact (sevE_tiny _ _ m h).mono (rdCount_len 65536 st)
  · simp at h
theorem eSum_le {B : Nat} : ∀ (l : List Ent), (∀ m ∈ l, Tiny B m) → eSum l ≤ l.length * (3 * B)
  | [], _ => by simp [eSum]
  | e :: l, h => by
    have h1 := eSum_le l (fun m hm => h m (by simp [hm]))
    have h2 := h e (by simp)
    unfold eSum at *
    rw [List.map_cons, List.sum_cons, List.length_cons, Nat.add_mul, Nat.one_mul]
    have : eSize e ≤ 3 * B := by unfold eSize; have := h2.1; have := h2.2.1; have := h2.2.2.1; omega
    omega

def bytesV (es : List Ent) : ByteArray := if mayL es then bs (rawB es) else ⟨#[]⟩
def BytesR (es : List Ent) (w : World) (e : Ending) (w' : World) : Prop := e = .returned (.tuple #[.string (bytesV es), .int .i64 (errL es)]) ∧ Below w.heap.size w w'
set_option maxRecDepth 100000 in
set_option maxHeartbeats 2000000 in
theorem bytes12_any (A : Option Addr) (n c : Nat) (es : List Ent) (w : World) (hr : Rd w A (entc es)) (hn : es.length = n) (hm : n ≤ maxLen) (hok : ∀ m ∈ es, m.ok w) (hlen : 20 * n + eSum es + 128 ≤ 140737488355328) : Calls Try.prog 36 #[.slice A n c] w (BytesR es w) := by
  have hck := check10_any A n c es w hr hn hm hok
  have HRAW := Lib.hid (fun W (hW : Below w.heap.size w W) => raw_any A n c es W (hr.below hW) hn hlen)
  have HB0 : Hid (mayL es = false → bytesV es = ⟨#[]⟩ ∧ errL es = 1) := Lib.hid (fun h => ⟨by unfold bytesV; rw [h]; rfl, errL_no h⟩)
  have HB1 : Hid (mayL es = true → bytesV es = bs (rawB es) ∧ errL es = 0) := Lib.hid (fun h => ⟨by unfold bytesV; rw [h]; rfl, errL_yes h⟩)
  unfold errL at hck
  generalize mayL es = p at hck HB0 HB1
  have HCK := Lib.hid hck
  clear hck hr hn hm hok hlen
  cases p
  · have H := Lib.hid (HB0.out rfl); clear HB0 HB1
    go_enter Try.func36, Try.ntmps36
    go_wp2_with fail
    refine HCK.out.mono ?_
    rintro e w1 ⟨rfl, hb1⟩
    go_wp2
    go_ret2
    exact ⟨by rw [H.out.1, H.out.2]; rfl, hb1⟩
  · have H := Lib.hid (HB1.out rfl); clear HB0 HB1
    go_enter Try.func36, Try.ntmps36
    go_wp2_with fail
    refine HCK.out.mono ?_
    rintro e w1 ⟨rfl, hb1⟩
    go_wp2_with fail
    refine (HRAW.out _ hb1).mono ?_
    rintro e w2 ⟨rfl, hb2⟩
    go_wp2
    go_ret2
    exact ⟨by rw [H.out.1, H.out.2]; rfl, then_ hb1 hb2⟩
set_option maxRecDepth 100000 in
set_option maxHeartbeats 2000000 in
theorem rbytes12_any (A : Option Addr) (n c : Nat) (es : List Ent) (w : World) (hr : Rd w A (entc es)) (hn : es.length = n) (hm : n ≤ maxLen) (hok : ∀ m ∈ es, m.ok w) (hlen : 20 * n + eSum es + 128 ≤ 140737488355328) : Calls Try.prog 37 #[.slice A n c] w (BytesR es w) := by
  have hck := may10_any A n c es w hr hn hm hok
  have HRAW := Lib.hid (fun W (hW : Below w.heap.size w W) => rRaw_any A n c es W (hr.below hW) hn hlen)
  have HB0 : Hid (mayL es = false → bytesV es = ⟨#[]⟩ ∧ errL es = 1) := Lib.hid (fun h => ⟨by unfold bytesV; rw [h]; rfl, errL_no h⟩)
  have HB1 : Hid (mayL es = true → bytesV es = bs (rawB es) ∧ errL es = 0) := Lib.hid (fun h => ⟨by unfold bytesV; rw [h]; rfl, errL_yes h⟩)
  generalize mayL es = p at hck HB0 HB1
  have HCK := Lib.hid hck
  clear hck hr hn hm hok hlen
  cases p
  · have H := Lib.hid (HB0.out rfl); clear HB0 HB1
    go_enter Try.func37, Try.ntmps37
    go_wp2_with fail
    refine HCK.out.mono ?_
    rintro e w1 ⟨rfl, hb1⟩
    go_wp2
    go_ret2
    exact ⟨by rw [H.out.1, H.out.2]; rfl, hb1⟩
  · have H := Lib.hid (HB1.out rfl); clear HB0 HB1
    go_enter Try.func37, Try.ntmps37
    go_wp2_with fail
    refine HCK.out.mono ?_
    rintro e w1 ⟨rfl, hb1⟩
    go_wp2_with fail
    refine (HRAW.out _ hb1).mono ?_
    rintro e w2 ⟨rfl, hb2⟩
    go_wp2
    go_ret2
    exact ⟨by rw [H.out.1, H.out.2]; rfl, then_ hb1 hb2⟩
set_option maxRecDepth 100000 in
set_option maxHeartbeats 2000000 in
theorem digest12_any (A : Option Addr) (n c : Nat) (es : List Ent) (w : World) (hr : Rd w A (entc es)) (hn : es.length = n) (hlen : 20 * n + eSum es + 128 ≤ 1099511627776) : Calls Try.prog 40 #[.slice A n c] w (Says (Sha.sum (rawB es)) w) := by
  have hraw := raw_any A n c es w hr hn (by omega)
  have hl : (bs (rawB es)).size ≤ 1099511627776 := by rw [bs_size]; unfold rawB; rw [List.length_append, be_length, flatE_length]; unfold eSum at hlen; omega
  have hsum := fun W => shaSum_any (bs (rawB es)) W hl
  rw [bs_toList] at hsum
  have HR := Lib.hid hraw; have HS := Lib.hid hsum
  clear hraw hsum hl hr hn hlen
  go_enter Try.func40, Try.ntmps40
  go_wp2_with fail
  refine HR.out.mono ?_
  rintro e w1 ⟨rfl, hb1⟩
  go_wp2_with fail
  refine (HS.out _).mono ?_
  rintro e w2 ⟨rfl, hb2⟩
  go_wp2
  go_ret
  exact ⟨rfl, then_ hb1 hb2⟩
set_option maxRecDepth 100000 in
set_option maxHeartbeats 2000000 in
theorem rdigest12_any (A : Option Addr) (n c : Nat) (es : List Ent) (w : World) (hr : Rd w A (entc es)) (hn : es.length = n) (hlen : 20 * n + eSum es + 128 ≤ 1099511627776) : Calls Try.prog 41 #[.slice A n c] w (Says (Sha.sum (rawB es)) w) := by
  have hraw := rRaw_any A n c es w hr hn (by omega)
  have hl : (bs (rawB es)).size ≤ 1099511627776 := by rw [bs_size]; unfold rawB; rw [List.length_append, be_length, flatE_length]; unfold eSum at hlen; omega
  have hsum := fun W => refSum_any (bs (rawB es)) W hl
  rw [bs_toList] at hsum
  have HR := Lib.hid hraw; have HS := Lib.hid hsum
  clear hraw hsum hl hr hn hlen
  go_enter Try.func41, Try.ntmps41
  go_wp2_with fail
  refine HR.out.mono ?_
  rintro e w1 ⟨rfl, hb1⟩
  go_wp2_with fail
  refine (HS.out _).mono ?_
  rintro e w2 ⟨rfl, hb2⟩
  go_wp2
  go_ret
  exact ⟨rfl, then_ hb1 hb2⟩
end Go.Proofs.Ytlmplibdfhamjaa
