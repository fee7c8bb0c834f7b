/- The key of the register of what a user may do, by the code; the register of a key; what a user may do: the code's and the document's. -/
import Derived.Test.YtlmplibdfhamjaaAccA
namespace Go.Proofs.Ytlmplibdfhamjaa
open Go.RowKit Go.Mem
set_option linter.unusedVariables false

theorem keyA_join (t b u : ByteArray) : (⟨(Lib.join [[97, 99, 108], t.data.toList, b.data.toList, u.data.toList] [47]).toArray⟩ : ByteArray) = keyA t b u := by
  apply WideShapes.bytes_inj
  unfold keyA
  simp [Lib.join_cons, Lib.joinTail]
theorem join4_len (t b u : ByteArray) : (Lib.join [[97, 99, 108], t.data.toList, b.data.toList, u.data.toList] [47]).length = t.size + b.size + u.size + 6 := by
  simp [Lib.join_cons, Lib.joinTail]; omega
set_option maxRecDepth 100000 in
set_option maxHeartbeats 1000000 in
theorem key_any (t b u : ByteArray) (w : World) (ht : t.size ≤ 1000) (hb : b.size ≤ 1000) (hu : u.size ≤ 1000) : Calls Try.prog 24 #[.string t, .string b, .string u] w fun e w' => e = .returned (.string (keyA t b u)) ∧ Below w.heap.size w w' := by
  go_enter Try.func24, Try.ntmps24
  go_wp2_with fail
  have hp : ∀ W : World, (∀ (j : Nat) x, [(⟨#[97, 99, 108]⟩ : ByteArray), t, b, u][j]? = some x → W.cell? ⟨w.heap.size, 0 + j, none⟩ = some (.string x)) → w.heap.size < W.heap.size → Calls Try.prog 71 #[.slice (some ⟨w.heap.size, 0, none⟩) 4 4] W fun e w' => e = .returned (.string (keyA t b u)) ∧ Below W.heap.size W w' := by
    intro W hcells hlt
    have HJ := Lib.hid (Try.strings_Join w.heap.size 0 4 [⟨#[97, 99, 108]⟩, t, b, u] ⟨#[47]⟩ W hcells hlt (by simp) (by simp) (by rw [show (List.map (fun x : ByteArray => x.data.toList) [⟨#[97, 99, 108]⟩, t, b, u]) = [[97, 99, 108], t.data.toList, b.data.toList, u.data.toList] from rfl, join4_len]; omega))
    clear hcells hlt
    go_enter Try.func71, Try.ntmps71
    go_wp2_with fail
    refine HJ.out.mono ?_
    rintro e w1 ⟨rfl, hb1⟩
    go_wp2
    go_ret
    exact ⟨ret_string (keyA_join t b u), hb1⟩
  refine (hp _ ?_ ?_).mono ?_
  · intro j x hj
    rw [Nat.zero_add, World.cell?_alloc_at _ _ _ _ rfl]
    have := congrArg (Option.map Value.string) hj
    rw [← List.getElem?_map] at this
    simpa using this
  · simp
  rintro e w1 ⟨rfl, hb1⟩
  go_wp2
  go_ret
  exact ⟨rfl, below_alloc hb1⟩

def zR : Rg := ⟨0, ⟨#[]⟩, ⟨#[]⟩⟩
def atKey (key : ByteArray) (e : Ent) : Bool := e.key.toList == key.toList
/-- a key's register -/
def getR (l : List Ent) (key : ByteArray) : Rg := ((l.find? (atKey key)).map Ent.reg).getD zR
theorem find_at {T : Type} (p : T → Bool) : ∀ (l : List T) (k : Nat) (h : k < l.length), p l[k] = true → (∀ s ∈ l.take k, p s = false) → l.find? p = some l[k]
  | x :: l, 0, h, h1, _ => by rw [List.find?_cons]; simp at h1; simp [h1]
  | x :: l, k + 1, h, h1, h2 => by
    have hx : p x = false := h2 x (by simp)
    rw [List.find?_cons, hx]
    simp only [List.getElem_cons_succ] at h1 ⊢
    exact find_at p l k (by simpa using h) h1 (fun s hs => h2 s (by simp [hs]))
theorem find_no {T : Type} (p : T → Bool) (l : List T) (h : ∀ s ∈ l, p s = false) : l.find? p = none := List.find?_eq_none.2 fun s hs => by simp [h s hs]
theorem get_at_ {l : List Ent} {key : ByteArray} (k : Nat) (h : k < l.length) (h1 : atKey key l[k] = true) (h2 : ∀ s ∈ l.take k, atKey key s = false) : getR l key = l[k].reg := by unfold getR; rw [find_at _ l k h h1 h2]; rfl
theorem get_no_ {l : List Ent} {key : ByteArray} (h : ∀ s ∈ l, atKey key s = false) : getR l key = zR := by unfold getR; rw [find_no _ l h]; rfl

theorem set3 {w : World} {g : Nat} {t : TypeId} {a b c : Value} (h : w.heap[g]? = some (.cells #[a, b, c] t (0, 0))) (x y z : Value) :
    (((w.setCell ⟨g, 0, none⟩ x).setCell ⟨g, 1, none⟩ y).setCell ⟨g, 2, none⟩ z).heap[g]? = some (.cells #[x, y, z] t (0, 0)) :=
  heap_setCell_same _ g 2 _ t z (heap_setCell_same _ g 1 _ t y (heap_setCell_same w g 0 _ t x h))
theorem enter_get1 (args : Array Value) (W : World) : Sem.run Try.prog (callFunc 113 args) W = .ok (.enter 113 args) W := by kernel_rfl
set_option maxRecDepth 100000 in
set_option maxHeartbeats 1000000 in
theorem get1_any (e : Ent) (key : ByteArray) (g : Nat) (w : World) (hc : w.cell? ⟨g, 0, none⟩ = some (.string key)) :
    Calls Try.prog 113 #[.agg e.arr, .pointer (some ⟨g, 0, none⟩)] w fun r w' => r = .returned (.bool (atKey key e)) ∧ Below w.heap.size w w' := by
  obtain ⟨k, n, b, v⟩ := e
  have hc' : (w.alloc (.cells #[.string k, .int .i64 n, .string b, .string v] 47)).cell? ⟨g, 0, none⟩ = some (.string key) := cell_below ((Below.refl _ _).alloc (Nat.le_refl _) _) hc
  simp only [Ent.arr]
  go_enter Try.func113, Try.ntmps113
  go_wp2
  go_ret
  exact ⟨rfl, (Below.refl _ _).alloc (Nat.le_refl _) _⟩
set_option maxRecDepth 100000 in
set_option maxHeartbeats 2000000 in
theorem get_any (A : Option Addr) (n c : Nat) (l : List Ent) (key : ByteArray) (w : World) (hr : Rd w A (l.flatMap fun m => m.arr.toList)) (hn : l.length = n) (hm : n ≤ maxLen) :
    Calls Try.prog 69 #[.slice A n c, .string key] w fun e w' => e = .returned (.agg (getR l key).arr) ∧ Below w.heap.size w w' := by
  have HN := Lib.hid hn; have HR := Lib.hid hr; clear hn hr
  have hask : AsksREnt Try.prog none ((w.alloc (.cells #[.string key] 9)).alloc (.cells #[.int .i64 0, .string ⟨#[]⟩, .string ⟨#[]⟩] 45)) 113 #[.pointer (some ⟨w.heap.size, 0, none⟩)] (atKey key) l := ⟨enter_get1, fun W m hg hm => get1_any m key w.heap.size W (by
    have hb := hg.block w.heap.size (by simp; omega) (by simp)
    unfold World.cell?
    rw [hb]
    have := heap_alloc2_old w (.cells #[.string key] 9) (.cells #[.int .i64 0, .string ⟨#[]⟩, .string ⟨#[]⟩] 45)
    rw [this]; rfl)⟩
  have HASK := Lib.hid hask; clear hask
  have HR2 := Lib.hid ((HR.out.alloc (.cells #[.string key] 9)).alloc (.cells #[.int .i64 0, .string ⟨#[]⟩, .string ⟨#[]⟩] 45))
  go_enter Try.func69, Try.ntmps69
  go_wp2_with fail
  refine (indexFuncEnt_any A n c l _ _ (atKey key) _ HR2.out HN.out hm HASK.out).mono ?_
  rintro e w1 ⟨hb1, hfound⟩
  have HB := Lib.hid (below_alloc (below_alloc hb1))
  have h0 : w1.heap[w.heap.size + 1]? = some (.cells #[.int .i64 0, .string ⟨#[]⟩, .string ⟨#[]⟩] 45 (0, 0)) := (hb1.block _ (by simp)).trans (heap_alloc2_new w _ _)
  have hsz := hb1.size
  clear hb1
  have c0 : w1.cell? ⟨w.heap.size + 1, 0, none⟩ = some (.int .i64 0) := cell_of_row _ _ _ _ _ _ h0
  have c1 : w1.cell? ⟨w.heap.size + 1, 1, none⟩ = some (.string ⟨#[]⟩) := cell_of_row _ _ _ _ _ _ h0
  have c2 : w1.cell? ⟨w.heap.size + 1, 2, none⟩ = some (.string ⟨#[]⟩) := cell_of_row _ _ _ _ _ _ h0
  have z0 : w1.frozen? ⟨w.heap.size + 1, 0, none⟩ = false := frozen_of_row _ _ _ _ _ h0
  have z1 : w1.frozen? ⟨w.heap.size + 1, 1, none⟩ = false := frozen_of_row _ _ _ _ _ h0
  have z2 : w1.frozen? ⟨w.heap.size + 1, 2, none⟩ = false := frozen_of_row _ _ _ _ _ h0
  have H0 := Lib.hid h0
  clear h0
  rcases hfound with ⟨k, hk, h1, h2, rfl⟩ | ⟨h1, rfl⟩
  · have HG := Lib.hid (get_at_ k hk h1 h2)
    obtain ⟨b, off, rfl, hrg⟩ := row_ent.at_ (HR.out.below HB.out) k hk
    have hkn : k < n := by have := HN.out; omega
    clear h1 h2
    generalize l[k] = s at hrg HG
    obtain ⟨sk, sn, sb, sv⟩ := s
    have d1 : w1.cell? ⟨b, off + k * 4 + 1, none⟩ = some (.int .i64 sn) := rangeAt_cell hrg 1 rfl
    have d2 : w1.cell? ⟨b, off + k * 4 + 2, none⟩ = some (.string sb) := rangeAt_cell hrg 2 rfl
    have d3 : w1.cell? ⟨b, off + k * 4 + 3, none⟩ = some (.string sv) := rangeAt_cell hrg 3 rfl
    clear hrg
    go_wp2
    refine bodyPost_ret (results_cell_row rfl _ _ (w.heap.size + 1) _ #[.int .i64 sn, .string sb, .string sv] (0, 0) _ rfl (set3 H0.out _ _ _) Try.underlying45 rfl row_rg.hi) rfl ⟨?_, ?_⟩
    · rw [HG.out]; rfl
    · exact ((HB.out.setCell (by simp) _).setCell (by simp) _).setCell (by simp) _
  · have HG := Lib.hid (get_no_ h1)
    clear h1
    go_wp2
    refine bodyPost_ret (results_cell_row rfl _ _ (w.heap.size + 1) _ #[.int .i64 0, .string ⟨#[]⟩, .string ⟨#[]⟩] (0, 0) _ rfl (set3 H0.out _ _ _) Try.underlying45 rfl row_rg.hi) rfl ⟨?_, ?_⟩
    · rw [HG.out]; rfl
    · exact ((HB.out.setCell (by simp) _).setCell (by simp) _).setCell (by simp) _

set_option maxRecDepth 100000 in
set_option maxHeartbeats 2000000 in
theorem rget_any (A : Option Addr) (n c : Nat) (l : List Ent) (key : ByteArray) (w : World) (hr : Rd w A (l.flatMap fun m => m.arr.toList)) (hn : l.length = n) (hm : n ≤ maxLen) :
    Calls Try.prog 70 #[.slice A n c, .string key] w fun e w' => e = .returned (.agg (getR l key).arr) ∧ Below w.heap.size w w' := by
  have HN := Lib.hid hn; have HR := Lib.hid (hr.alloc (.cells #[.int .i64 0, .string ⟨#[]⟩, .string ⟨#[]⟩] 45)); clear hn hr
  have H0 := Lib.hid (heap_alloc_new w (.cells #[.int .i64 0, .string ⟨#[]⟩, .string ⟨#[]⟩] 45))
  have HB := Lib.hid ((Below.refl w.heap.size w).alloc (Nat.le_refl _) (.cells #[.int .i64 0, .string ⟨#[]⟩, .string ⟨#[]⟩] 45))
  unfold maxLen at hm
  go_enter Try.func70, Try.ntmps70
  go_wp2
  generalize hW : w.alloc (.cells #[.int .i64 0, .string ⟨#[]⟩, .string ⟨#[]⟩] 45) = W at *
  clear hW
  go_loop [5] (fun i => ∃ k : Nat, k ≤ n ∧ i = .int .i64 k ∧ Hid (∀ s ∈ l.take k, atKey key s = false)) (fun i => n - (intOf i).toNat)
  case atStart => exact ⟨0, Nat.zero_le _, rfl, Lib.hid (by simp)⟩
  case round =>
    obtain ⟨k, hk, rfl, HNO⟩ := hrel
    have c0 : W.cell? ⟨w.heap.size, 0, none⟩ = some (.int .i64 0) := cell_of_row _ _ _ _ _ _ H0.out
    have c1 : W.cell? ⟨w.heap.size, 1, none⟩ = some (.string ⟨#[]⟩) := cell_of_row _ _ _ _ _ _ H0.out
    have c2 : W.cell? ⟨w.heap.size, 2, none⟩ = some (.string ⟨#[]⟩) := cell_of_row _ _ _ _ _ _ H0.out
    have z0 : W.frozen? ⟨w.heap.size, 0, none⟩ = false := frozen_of_row _ _ _ _ _ H0.out
    have z1 : W.frozen? ⟨w.heap.size, 1, none⟩ = false := frozen_of_row _ _ _ _ _ H0.out
    have z2 : W.frozen? ⟨w.heap.size, 2, none⟩ = false := frozen_of_row _ _ _ _ _ H0.out
    by_cases hlt : k < n
    · have hx : k < l.length := by have := HN.out; omega
      obtain ⟨b, off, rfl, hrg⟩ := row_ent.at_ HR.out k hx
      have HG := Lib.hid (fun h1 => get_at_ (key := key) k hx h1 HNO.out)
      have HT := Lib.hid (fun s => mem_take_succ l k hx s)
      generalize l[k] = s at hrg HG HT
      obtain ⟨sk, sn, sb, sv⟩ := s
      have d0 : W.cell? ⟨b, off + k * 4, none⟩ = some (.string sk) := rangeAt_cell hrg 0 rfl
      have d1 : W.cell? ⟨b, off + k * 4 + 1, none⟩ = some (.int .i64 sn) := rangeAt_cell hrg 1 rfl
      have d2 : W.cell? ⟨b, off + k * 4 + 2, none⟩ = some (.string sb) := rangeAt_cell hrg 2 rfl
      have d3 : W.cell? ⟨b, off + k * 4 + 3, none⟩ = some (.string sv) := rangeAt_cell hrg 3 rfl
      clear hrg
      generalize hp : (sk.toList == key.toList) = p
      have HP := Lib.hid hp
      cases p
      · go_wp2
        go_round
        case rel => exact ⟨k + 1, by omega, by go_num, Lib.hid fun s hs => by
          rcases (HT.out s).1 hs with h | rfl
          · exact HNO.out s h
          · exact HP.out⟩
        case measure => simp [intOf]; omega
      · go_wp2
        refine bodyPost_ret (results_cell_row rfl _ _ w.heap.size _ #[.int .i64 sn, .string sb, .string sv] (0, 0) _ rfl (set3 H0.out _ _ _) Try.underlying45 rfl row_rg.hi) rfl ⟨?_, ?_⟩
        · rw [HG.out HP.out]; rfl
        · exact ((HB.out.setCell (Nat.le_refl _) _).setCell (Nat.le_refl _) _).setCell (Nat.le_refl _) _
    · obtain rfl : k = n := by omega
      have HG := Lib.hid (get_no_ (l := l) (key := key) (by have := HNO.out; rwa [List.take_of_length_le (by rw [HN.out]; omega)] at this))
      go_wp2
      refine bodyPost_ret (results_cell_row rfl _ _ w.heap.size _ #[.int .i64 0, .string ⟨#[]⟩, .string ⟨#[]⟩] (0, 0) _ rfl (set3 H0.out _ _ _) Try.underlying45 rfl row_rg.hi) rfl ⟨?_, ?_⟩
      · rw [HG.out]; rfl
      · exact ((HB.out.setCell (Nat.le_refl _) _).setCell (Nat.le_refl _) _).setCell (Nat.le_refl _) _
end Go.Proofs.Ytlmplibdfhamjaa
