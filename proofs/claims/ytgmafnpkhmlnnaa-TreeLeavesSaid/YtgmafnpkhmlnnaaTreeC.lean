/- The hashes of leaves, and that of all, by the document. -/
import Derived.Test.YtgmafnpkhmlnnaaTreeB
attribute [local go_sem ↓] Go.wp_at_zero Go.wp_at_succ
namespace Go.Proofs.Ytgmafnpkhmlnnaa
open Go.RowKit Go.Mem Go.Num
set_option linter.unusedVariables false
set_option linter.unusedSimpArgs false

def hashT (ss : List ByteArray) : ByteArray := bs (Sha.sum (textsB ss))
theorem hashT_size (ss : List ByteArray) : (hashT ss).size = 32 := by unfold hashT; rw [bs_size]; unfold Sha.sum Sha.out; rw [flat4_length]; rfl
/-- the hashes of the first segments -/
def treeK (l : List Leaf) (k : Nat) : List ByteArray := (List.range k).map fun (i : Nat) => hashT (texP (segB i) l)
def treeL (l : List Leaf) : List ByteArray := treeK l 16
def rootL (l : List Leaf) : ByteArray := hashT (treeL l)
theorem treeK_succ (l : List Leaf) (k : Nat) : treeK l (k + 1) = treeK l k ++ [hashT (texP (segB k) l)] := by unfold treeK; rw [List.range_succ, List.map_append]; rfl
theorem treeK_len (l : List Leaf) (k : Nat) : (treeK l k).length = k := by unfold treeK; simp
theorem treeL_len (l : List Leaf) : (treeL l).length = 16 := treeK_len l 16
theorem sum32 : ∀ (ss : List ByteArray), (∀ s ∈ ss, s.size = 32) → sumSize ss = 32 * ss.length
  | [], _ => rfl
  | s :: ss, h => by
    have h1 := sum32 ss (fun x hx => h x (by simp [hx]))
    have h2 := h s (by simp)
    unfold sumSize at *
    rw [List.map_cons, List.sum_cons, List.length_cons]
    omega
theorem treeL_sum (l : List Leaf) : sumSize (treeL l) = 512 := by
  rw [sum32 _ (fun s hs => by unfold treeL treeK at hs; obtain ⟨i, _, rfl⟩ := List.mem_map.1 hs; exact hashT_size _), treeL_len]
theorem tex_bound {l : List Leaf} (p : ByteArray → Bool) (hl : l.length ≤ 1000) (hok : ∀ m ∈ l, smallL m) : 4 * (texP p l).length + sumSize (texP p l) + 16 ≤ 1099511627776 := by
  have h1 := texP_len p l
  have h2 := texP_size p l hok
  omega
theorem shaRef (A : Option Addr) (n c : Nat) (ss : List ByteArray) (w : World) (hr : Rd w A (ss.map Value.string)) (hn : ss.length = n) (hlen : 4 * ss.length + sumSize ss + 16 ≤ 1099511627776) :
    Calls Try.prog 46 #[.slice A n c] w fun e w' => e = .returned (.string (hashT ss)) ∧ Below w.heap.size w w' := refOf_any A n c ss w hr hn hlen
set_option maxRecDepth 100000 in
set_option maxHeartbeats 4000000 in
theorem of28_any (A : Option Addr) (n c : Nat) (l : List Leaf) (w : World) (hr : Rd w A (leafc l)) (hn : l.length = n) (hm : n ≤ 1000) (hok : ∀ m ∈ l, smallL m) :
    Calls Try.prog 17 #[.slice A n c] w (MakesS (treeL l) w) := by
  have HX := Lib.hid (fun W (hW : Below w.heap.size w W) q => texts28_any A n c l q W (hr.below hW) hn hm hok)
  have HB := Lib.hid (fun p => tex_bound (l := l) p (by omega) hok)
  clear hr hn hm hok
  go_enter Try.func17, Try.ntmps17
  go_wp2
  go_loopw [3, 4] (fun v i wr => ∃ k : Nat, k ≤ 16 ∧ i = .int .i64 k ∧ Hid (wr.ownsRow w.heap.size 9 1 v k ((treeK l k).map Value.string)) ∧ Below w.heap.size w wr) (fun _ i _ => 16 - (intOf i).toNat)
  case atStart => exact ⟨0, Nat.zero_le _, rfl, Lib.hid (World.ownsRow_nil _ _ _ _), Below.refl _ _⟩
  case round =>
    obtain ⟨k, hk, rfl, HO, hbel⟩ := hrel
    by_cases hlt : k < 16
    · have HS := Lib.hid (treeK_succ l k)
      have HX1 := Lib.hid (HX.out wr hbel k)
      have HB1 := Lib.hid (HB.out (segB k))
      generalize texP (segB k) l = t at HS HX1 HB1
      go_wp2_with fail
      refine HX1.out.mono ?_
      rintro e w1 ⟨v1, rfl, hown1, hb1⟩
      obtain ⟨A1, c1, rfl⟩ := own_form hown1
      have HO1 := Lib.hid (own_below HO.out hb1); have hb2 := then_ hbel hb1
      have hrd := Rd.of_own hown1
      clear HO hb1 hown1 HX1
      go_wp2_with fail
      refine (shaRef A1 t.length c1 t w1 hrd rfl HB1.out).mono ?_
      rintro e w2 ⟨rfl, hb3⟩
      have HO2 := Lib.hid (own_below HO1.out hb3); have hb4 := then_ hb2 hb3
      have HZ := Lib.hid hb4.size
      generalize hashT t = h at HS
      clear HO1 hb2 hb3 hrd HB1
      go_wp2_with (at_builtin; refine wpList_app elStr (by rfl) (.tmp 9) (.tmp 14) (by rfl) w.heap.size _ k _ (by rfl) (HO2.out.alloc _) (some ⟨w2.heap.size, 0, none⟩) 1 1 [.string h] rfl rfl (Rd.new w2 #[.string h] _) (by intro u hu; simp at hu; subst hu; rfl) (by unfold maxLen; omega) (by omega) (by have := HZ.out; simp; omega) ?_; intro v1 w3 hown1 hbel1 _ _)
      go_roundw
      case rel => exact ⟨k + 1, by omega, by go_num, Lib.hid (by rw [HS.out, List.map_append]; exact hown1), (hb4.alloc HZ.out _).trans hbel1⟩
      case measure => simp [intOf]; omega
    · obtain rfl : k = 16 := by omega
      go_wp2
      go_ret
      exact ⟨_, rfl, by rw [treeL_len]; exact HO.out, hbel⟩
set_option maxRecDepth 100000 in
theorem root28_any (A : Option Addr) (n c : Nat) (l : List Leaf) (w : World) (hr : Rd w A (leafc l)) (hn : l.length = n) (hm : n ≤ 1000) (hok : ∀ m ∈ l, smallL m) :
    Calls Try.prog 19 #[.slice A n c] w fun e w' => e = .returned (.string (rootL l)) ∧ Below w.heap.size w w' := by
  have HX := Lib.hid (of28_any A n c l w hr hn hm hok)
  have HL := Lib.hid (treeL_len l); have HS := Lib.hid (treeL_sum l)
  unfold rootL
  generalize treeL l = t at HX HL HS
  clear hr hn hm hok
  go_enter Try.func19, Try.ntmps19
  go_wp2_with fail
  refine HX.out.mono ?_
  rintro e w1 ⟨v1, rfl, hown1, hb1⟩
  obtain ⟨A1, c1, rfl⟩ := own_form hown1
  have hrd := Rd.of_own hown1
  go_wp2_with fail
  refine (shaRef A1 t.length c1 t w1 hrd rfl (by have := HL.out; have := HS.out; omega)).mono ?_
  rintro e w2 ⟨rfl, hb2⟩
  go_wp2
  go_ret
  exact ⟨rfl, then_ hb1 hb2⟩
end Go.Proofs.Ytgmafnpkhmlnnaa
