/- The names of lists; sameness of lists; what must come, whatever the arguments are. -/
import Derived.Test.YtpiinfjcjpdofaaPreF
import Derived.Deep.Cut
import Derived.Says
attribute [local go_sem ↓] Go.wp_at_zero Go.wp_at_succ
namespace Go.Proofs.Ytpiinfjcjpdofaa
open Go.RowKit Go.Mem Go.Cov
set_option linter.unusedVariables false
set_option linter.unusedSimpArgs false

def nodesF (l : List Cho) : List ByteArray := l.map Cho.node
theorem nodesF_snoc (l : List Cho) (x : Cho) : nodesF (l ++ [x]) = nodesF l ++ [x.node] := by unfold nodesF; simp
def primF (l : List Cho) : List ByteArray := nodesF (l.filter Cho.primary)
theorem cho_row {w : World} {A : Option Addr} {l : List Cho} (h : Rd w A (choc l)) (k : Nat) (hk : k < l.length) :
    ∃ b off, A = some ⟨b, off, none⟩ ∧ w.cell? ⟨b, off + k * 2, none⟩ = some (.string l[k].node) ∧ w.cell? ⟨b, off + k * 2 + 1, none⟩ = some (.bool l[k].primary) := by
  obtain ⟨b, off, e, hrg⟩ := row_cho.at_ h k hk
  exact ⟨b, off, e, rangeAt_cell hrg 0 rfl, rangeAt_cell hrg 1 rfl⟩
set_option maxRecDepth 100000 in
set_option maxHeartbeats 4000000 in
theorem nodes_any (A : Option Addr) (n c : Nat) (l : List Cho) (w : World) (hr : Rd w A (choc l)) (hn : l.length = n) (hm : n ≤ 100000) :
    Calls Try.prog 40 #[.slice A n c] w (Makes 9 1 n ((nodesF l).map Value.string) w) := by
  have HN := Lib.hid hn; have HR := Lib.hid hr
  clear hn hr
  go_enter Try.func40, Try.ntmps40
  go_wp2_with fail
  go_loopw [3, 8] (fun v i wr => ∃ k : Nat, k ≤ n ∧ i = .int .i64 k ∧ Hid (wr.ownsRow w.heap.size 9 1 v k ((nodesF (l.take k)).map Value.string)) ∧ Hid (Below w.heap.size w wr)) (fun _ i _ => n - (intOf i).toNat)
  case atStart => exact ⟨0, Nat.zero_le _, rfl, Lib.hid (World.ownsRow_nil _ _ _ _), Lib.hid (Below.refl _ _)⟩
  case round =>
    obtain ⟨k, hk, rfl, HO, HB⟩ := hrel
    by_cases hlt : k < n
    · have hx : k < l.length := by have := HN.out; omega
      obtain ⟨b, off, rfl, hc0, hc1⟩ := cho_row (HR.out.below HB.out) k hx
      have HT := Lib.hid (show nodesF (l.take (k + 1)) = _ by rw [List.take_succ_eq_append_getElem hx, nodesF_snoc])
      generalize l[k] = x at hc0 hc1 HT
      obtain ⟨s, q⟩ := x
      simp only at hc0 hc1 HT
      have hkn : (k : Int) < (n : Int) := by omega
      have hk0 : (0 : Int) ≤ (k : Int) := by omega
      have HZ := Lib.hid HB.out.size
      have hal : Below wr.heap.size wr (wr.alloc (.cells #[.string s, .bool q] 61)) := (Below.refl _ _).alloc (Nat.le_refl _) _
      have hx0 : (wr.alloc (.cells #[.string s, .bool q] 61)).cell? ⟨wr.heap.size, 0, none⟩ = some (.string s) := by rw [World.cell?_alloc_at _ _ _ _ rfl]; rfl
      have HO1 := Lib.hid (own_below HO.out hal); have HB1 := Lib.hid (then_ HB.out hal)
      have HZ1 := Lib.hid HB1.out.size
      have HRD := Lib.hid (show Rd ((wr.alloc (.cells #[.string s, .bool q] 61)).alloc (.cells #[.string s] 9)) (some ⟨wr.heap.size + 1, 0, none⟩) [.string s] from by have := Rd.new (wr.alloc (.cells #[.string s, .bool q] 61)) #[.string s] 9; simpa using this)
      clear hlt hx hal HO HB HZ
      go_wp2_with (at_builtin; (refine wpList_app el_str (by rfl) (.tmp 12) (.tmp 15) (by rfl) w.heap.size _ k _ (by rfl) (HO1.out.alloc _) (some ⟨wr.heap.size + 1, 0, none⟩) 1 1 [.string s] (by rfl) rfl HRD.out (by intro u hu; simp at hu; subst hu; rfl) (by unfold maxLen; omega) (by omega) (by have := HZ1.out; simp at this ⊢; omega) ?_; intro v6 w6 hown6 hbel6 _ _))
      exact ⟨⟨k + 1, by omega, by go_num, Lib.hid (by rw [HT.out, List.map_append]; exact hown6), Lib.hid ((HB1.out.alloc HZ1.out _).trans hbel6)⟩, by simp [intOf]; omega⟩
    · have hkn : (n : Int) ≤ (k : Int) := by omega
      obtain rfl : k = n := by omega
      have hfull : l.take k = l := List.take_of_length_le (by have := HN.out; omega)
      rw [hfull] at HO
      go_wp2
      go_ret
      exact ⟨_, rfl, HO.out, HB.out⟩
def nodesB (l : List Cho) (p : Bool) : List ByteArray := nodesF (l.filter fun x => !p || x.primary)
theorem nodesB_snoc (l : List Cho) (p : Bool) (x : Cho) : nodesB (l ++ [x]) p = nodesB l p ++ (if !p || x.primary then [x.node] else []) := by
  unfold nodesB nodesF; rw [List.filter_append, List.map_append]; congr 1
  by_cases h : (!p || x.primary) = true
  · simp [h]
  · simp [h]
theorem nodesB_le (l : List Cho) (p : Bool) : (nodesB l p).length ≤ l.length := by unfold nodesB nodesF; rw [List.length_map]; exact List.length_filter_le _ _
theorem nodesB_true (l : List Cho) : nodesB l true = primF l := by unfold nodesB primF; congr 2; 
theorem nodesB_false (l : List Cho) : nodesB l false = nodesF l := by unfold nodesB; congr 1; simp
set_option maxRecDepth 100000 in
set_option maxHeartbeats 4000000 in
theorem rNodes_any (A : Option Addr) (n c : Nat) (l : List Cho) (p : Bool) (w : World) (hr : Rd w A (choc l)) (hn : l.length = n) (hm : n ≤ 100000) :
    Calls Try.prog 39 #[.slice A n c, .bool p] w (Makes 9 1 (nodesB l p).length ((nodesB l p).map Value.string) w) := by
  have HN := Lib.hid hn; have HR := Lib.hid hr
  clear hn hr
  go_enter Try.func39, Try.ntmps39
  go_wp2_with fail
  go_loopw [5, 6] (fun v i wr => ∃ k : Nat, k ≤ n ∧ i = .int .i64 k ∧ Hid (wr.ownsRow w.heap.size 9 1 v (nodesB (l.take k) p).length ((nodesB (l.take k) p).map Value.string)) ∧ Hid (Below w.heap.size w wr)) (fun _ i _ => n - (intOf i).toNat)
  case atStart => exact ⟨0, Nat.zero_le _, rfl, Lib.hid (World.ownsRow_nil _ _ _ _), Lib.hid (Below.refl _ _)⟩
  case round =>
    obtain ⟨k, hk, rfl, HO, HB⟩ := hrel
    by_cases hlt : k < n
    · have hx : k < l.length := by have := HN.out; omega
      obtain ⟨b, off, rfl, hc0, hc1⟩ := cho_row (HR.out.below HB.out) k hx
      have HT := Lib.hid (show nodesB (l.take (k + 1)) p = _ by rw [List.take_succ_eq_append_getElem hx, nodesB_snoc])
      have hll := Nat.le_trans (nodesB_le (l.take k) p) (List.length_take_le k l)
      generalize l[k] = x at hc0 hc1 HT
      obtain ⟨s, q⟩ := x
      simp only at hc0 hc1 HT
      generalize nodesB (l.take k) p = U at HO HT hll
      have hkn : (k : Int) < (n : Int) := by omega
      have hk0 : (0 : Int) ≤ (k : Int) := by omega
      have HZ := Lib.hid HB.out.size
      clear hlt hx
      cases p with
      | false =>
        simp only [Bool.not_false, Bool.true_or, ↓reduceIte] at HT
        go_wp2_with (at_builtin; (refine wpList_app el_str (by rfl) (.tmp 22) (.tmp 28) (by rfl) w.heap.size _ U.length _ (by rfl) (HO.out.alloc _) (some ⟨wr.heap.size, 0, none⟩) 1 1 [.string s] (by rfl) rfl (Rd.new wr #[.string s] _) (by intro u hu; simp at hu; subst hu; rfl) (by unfold maxLen; omega) (by omega) (by have := HZ.out; simp; omega) ?_; intro v6 w6 hown6 hbel6 _ _))
        exact ⟨⟨k + 1, by omega, by go_num, Lib.hid (by rw [HT.out, List.length_append, List.map_append]; exact hown6), Lib.hid ((HB.out.alloc HZ.out _).trans hbel6)⟩, by simp [intOf]; omega⟩
      | true =>
        cases q with
        | true =>
          simp only [Bool.not_true, Bool.false_or, ↓reduceIte] at HT
          go_wp2_with (at_builtin; (refine wpList_app el_str (by rfl) (.tmp 22) (.tmp 28) (by rfl) w.heap.size _ U.length _ (by rfl) (HO.out.alloc _) (some ⟨wr.heap.size, 0, none⟩) 1 1 [.string s] (by rfl) rfl (Rd.new wr #[.string s] _) (by intro u hu; simp at hu; subst hu; rfl) (by unfold maxLen; omega) (by omega) (by have := HZ.out; simp; omega) ?_; intro v6 w6 hown6 hbel6 _ _))
          exact ⟨⟨k + 1, by omega, by go_num, Lib.hid (by rw [HT.out, List.length_append, List.map_append]; exact hown6), Lib.hid ((HB.out.alloc HZ.out _).trans hbel6)⟩, by simp [intOf]; omega⟩
        | false =>
          simp only [Bool.not_true, Bool.false_or, Bool.false_eq_true, ↓reduceIte, List.append_nil] at HT
          go_wp2_with fail
          exact ⟨⟨k + 1, by omega, by go_num, Lib.hid (by rw [HT.out]; exact HO.out), HB⟩, by simp [intOf]; omega⟩
    · have hkn : (n : Int) ≤ (k : Int) := by omega
      have hfull : l.take k = l := List.take_of_length_le (by have := HN.out; omega)
      rw [hfull] at HO
      go_wp2
      go_ret
      exact ⟨_, rfl, HO.out, HB.out⟩
theorem asks_prim (row : Option Nat) (w : World) (l : List Cho) : AsksRCho Try.prog row w 61 #[] (fun m => !m.primary) l where
  enter args W := by kernel_rfl
  ask W m _ _ := by
    obtain ⟨s, q⟩ := m
    have hc : (W.alloc (.cells #[.string s, .bool q] 61)).cell? ⟨W.heap.size, 1, none⟩ = some (.bool q) := by rw [World.cell?_alloc_at _ _ _ _ rfl]; rfl
    unfold Cho.arr
    simp only
    go_enter Try.func61, Try.ntmps61
    go_wp2_with fail
    go_ret
    exact ⟨rfl, (Below.refl _ _).alloc (Nat.le_refl _) _⟩
theorem primaries_any (A : Option Addr) (n c : Nat) (l : List Cho) (w : World) (hr : Rd w A (choc l)) (hn : l.length = n) (hm : n ≤ 100000) :
    Calls Try.prog 38 #[.slice A n c] w (Makes 9 1 (primF l).length ((primF l).map Value.string) w) := by
  have HX := Lib.hid (cloneCho_any A n c l w hr hn hm)
  have HNL := Lib.hid hn
  clear hr hn
  go_enter Try.func38, Try.ntmps38
  go_wp2_with fail
  refine HX.out.mono ?_
  rintro e w1 ⟨v, rfl, hown, hb1⟩
  have HY := Lib.hid (deleteFuncCho_any w.heap.size v n l 61 #[] (fun m => !m.primary) w1 hb1.size hown hm (asks_prim _ _ _))
  have HB := Lib.hid hb1
  clear hown hb1 HX
  go_wp2_with fail
  refine HY.out.mono ?_
  rintro e w2 ⟨hb2, v2, rfl, hown2⟩
  have he : l.filter (fun s => !(fun m : Cho => !m.primary) s) = l.filter Cho.primary := by congr 1; funext x; simp
  rw [he] at hown2
  obtain ⟨A2, c2, rfl⟩ := own_form hown2
  have hfl : (l.filter Cho.primary).length ≤ 100000 := Nat.le_trans (List.length_filter_le _ _) (by rw [HNL.out]; exact hm)
  have HZ := Lib.hid (nodes_any A2 (l.filter Cho.primary).length c2 (l.filter Cho.primary) w2 (Rd.of_own hown2) rfl hfl)
  have HB2 := Lib.hid (HB.out.trans hb2)
  clear hown2 hb2 he HY HB
  go_wp2_with fail
  refine HZ.out.mono ?_
  rintro e w3 ⟨v3, rfl, hown3, hb3⟩
  go_wp2
  go_ret
  have hl : (primF l).length = (l.filter Cho.primary).length := by unfold primF nodesF; simp
  rw [hl]
  exact ⟨v3, rfl, own_mono hown3 HB2.out.size, then_ HB2.out hb3⟩
set_option maxRecDepth 100000 in
set_option maxHeartbeats 4000000 in
theorem sameCho_any (A : Option Addr) (n c : Nat) (l : List Cho) (B : Option Addr) (d : Nat) (w : World) (hr : Rd w A (choc l)) (hr' : Rd w B (choc l)) (hn : l.length = n) (hm : n ≤ 1000000) :
    Calls Try.prog 37 #[.slice A n c, .slice B n d] w fun e w' => e = .returned (.bool true) ∧ Below w.heap.size w w' := by
  have HN := Lib.hid hn; have HR := Lib.hid hr; have HR' := Lib.hid hr'; clear hn hr hr'
  go_enter Try.func37, Try.ntmps37
  go_wp2
  go_loopw [5] (fun i wr => ∃ k : Nat, k ≤ n ∧ i = .int .i64 k ∧ Hid (Below w.heap.size w wr)) (fun i _ => n - (intOf i).toNat)
  case atStart => exact ⟨0, Nat.zero_le _, rfl, Lib.hid (Below.refl _ _)⟩
  case round =>
    obtain ⟨k, hk, rfl, HB⟩ := hrel
    by_cases hlt : k < n
    · have hx : k < l.length := by have := HN.out; omega
      obtain ⟨b, off, rfl, hc0, hc1⟩ := cho_row (HR.out.below HB.out) k hx
      obtain ⟨b', off', rfl, hd0, hd1⟩ := cho_row (HR'.out.below HB.out) k hx
      generalize l[k] = x at hc0 hc1 hd0 hd1
      obtain ⟨s, q⟩ := x
      simp only at hc0 hc1 hd0 hd1
      have hkn : (k : Int) < (n : Int) := by omega
      have hk0 : (0 : Int) ≤ (k : Int) := by omega
      clear hlt hx
      go_wp2
      go_quiet (fail)
      go_wp2
      exact ⟨⟨k + 1, by omega, by go_num, Lib.hid (drewN_ HB.out _)⟩, by simp [intOf]; omega⟩
    · have hkn : (n : Int) ≤ (k : Int) := by omega
      go_wp2
      go_ret
      exact ⟨rfl, HB.out⟩
end Go.Proofs.Ytpiinfjcjpdofaa
