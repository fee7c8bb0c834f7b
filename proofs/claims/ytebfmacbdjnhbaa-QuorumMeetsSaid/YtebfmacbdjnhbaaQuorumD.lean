/- The document's answers for quorum (pantlerref34): what each function returns, for every argument. -/
import Derived.Test.YtebfmacbdjnhbaaQuorumC
namespace Go.Proofs.Ytebfmacbdjnhbaa
open Go.RowKit Go.Mem
set_option linter.unusedVariables false

set_option maxRecDepth 100000 in
set_option maxHeartbeats 1000000 in
theorem rcount_any (A : Option Addr) (n c : Nat) (l : List Ch) (ns : Sl) (w : World) (hr : Rd w A (l.flatMap Ch.cells)) (hn : l.length = n) (hm : n ≤ 1000000) (hok : ns.ok w) :
    Calls Try.prog 42 #[.slice A n c, ns.v] w fun e w' => e = .returned (.tuple #[.int .i64 (cnt (fun s => mem s ns.ss) l : Nat), .int .i64 (cntP (fun s => mem s ns.ss) l : Nat)]) ∧ w = w' := by
  have HN := Lib.hid hn; clear hn
  obtain ⟨N, m, d, ss⟩ := ns
  unfold Sl.v
  simp only
  obtain ⟨p, hp⟩ : ∃ p : ByteArray → Bool, (fun s => mem s ss) = p := ⟨_, rfl⟩
  rw [hp]
  have HP := Lib.hid (congrFun hp); clear hp
  have HM : Hid (m ≤ maxLen) := Nat.le_trans hok.le (by decide)
  go_enter Try.func42, Try.ntmps42
  go_wp2
  go_loop [6, 7, 8] (fun a b i => ∃ k : Nat, k ≤ n ∧ i = .int .i64 k ∧ a = .int .i64 (cnt p (l.take k) : Nat) ∧ b = .int .i64 (cntP p (l.take k) : Nat)) (fun _ _ i => n - (intOf i).toNat)
  case atStart => exact ⟨0, Nat.zero_le _, rfl, rfl, rfl⟩
  case round =>
    obtain ⟨k, hk, rfl, rfl, rfl⟩ := hrel
    by_cases hlt : k < n
    · have hx : k < l.length := by have := HN.out; omega
      obtain ⟨b, off, rfl, hc0, hc1⟩ := ch_row hr k hx
      have h1 := cnt_snoc p (l.take k) l[k]
      have h2 := cntP_snoc p (l.take k) l[k]
      rw [← List.take_succ_eq_append_getElem hx] at h1 h2
      have h3 : cnt p (l.take k) ≤ k := Nat.le_trans (cnt_le _ _) (by rw [List.length_take]; omega)
      have h4 : cntP p (l.take k) ≤ k := Nat.le_trans (cntP_le _ _) (by rw [List.length_take]; omega)
      generalize l[k] = x at hc0 hc1 h1 h2
      obtain ⟨node, prim⟩ := x
      simp only at hc0 hc1 h1 h2
      generalize cnt p (l.take k) = a at h1 h3
      generalize cntP p (l.take k) = b' at h2 h4
      have H1 := Lib.hid h1; have H2 := Lib.hid h2; clear h1 h2
      go_wp2_with fail
      refine (in34_any N m d ss node _ hok.rd hok.len HM.out).mono ?_
      rintro e w1 ⟨rfl, rfl⟩
      have hpn := HP.out node
      rw [hpn]
      generalize p node = pn at H1 H2
      cases pn
      · go_wp2
        go_round
        case rel => exact ⟨k + 1, by omega, by go_num, by rw [H1.out]; rfl, by rw [H2.out]; rfl⟩
        case measure => simp [intOf]; omega
      · cases prim
        · go_wp2
          go_round
          case rel => exact ⟨k + 1, by omega, by go_num, by rw [H1.out]; go_num, by rw [H2.out]; rfl⟩
          case measure => simp [intOf]; omega
        · go_wp2
          go_round
          case rel => exact ⟨k + 1, by omega, by go_num, by rw [H1.out]; go_num, by rw [H2.out]; go_num⟩
          case measure => simp [intOf]; omega
    · obtain rfl : k = n := by omega
      rw [List.take_of_length_le (by rw [HN.out]; omega)]
      go_wp2
      go_ret2
      exact ⟨rfl, rfl⟩

/-- what a function gives that makes a new slice of texts -/
def GivesT (ss : List ByteArray) (w : World) (e : Ending) (w' : World) : Prop := Below w.heap.size w w' ∧ ∃ s : Sl, e = .returned s.v ∧ s.ss = ss ∧ s.ok w'
theorem givesT {ss : List ByteArray} {w w' : World} {v : Value} {n : Nat} (hb : Below w.heap.size w w') (ho : w'.ownsRow w.heap.size 9 1 v n (ss.map Value.string)) (hn : ss.length = n) (hm : n ≤ 1000000) : GivesT ss w (.returned v) w' := by
  obtain ⟨A, c, rfl⟩ := own_form ho
  exact ⟨hb, ⟨A, n, c, ss⟩, rfl, rfl, Rd.of_own ho, hn, hm⟩

set_option maxRecDepth 100000 in
set_option maxHeartbeats 1000000 in
theorem both_any (a b : Sl) (w : World) (ha : a.ok w) (hb : b.ok w) (hm : a.n + b.n ≤ 1000000) :
    Calls Try.prog 86 #[a.v, b.v] w (GivesT (a.ss ++ b.ss) w) := by
  obtain ⟨A, n, c, ss⟩ := a
  obtain ⟨B, m, d, ts⟩ := b
  unfold Sl.v
  simp only at hm ⊢
  go_enter Try.func86, Try.ntmps86
  have HLA : Hid ((ss.map Value.string).length = n * 1) := Lib.hid (by rw [List.length_map, Nat.mul_one]; exact ha.len)
  have HLB : Hid ((ts.map Value.string).length = m * 1) := Lib.hid (by rw [List.length_map, Nat.mul_one]; exact hb.len)
  go_wp2_with (first | (at_builtin; refine wpList_app el_string rfl (.tmp 6) (.tmp 7) rfl w.heap.size _ 0 [] rfl (World.ownsRow_nil _ _ _ _) A n c (ss.map Value.string) rfl HLA.out ha.rd (one_strings _) (by unfold maxLen; omega) (by omega) (Nat.le_refl _) ?_; intro v1 w1 ho1 hb1 _ _; rw [List.nil_append, Nat.zero_add] at ho1) | (at_builtin; refine wpList_app el_string rfl (.tmp 9) (.tmp 10) rfl w.heap.size _ n _ rfl ho1 B m d (ts.map Value.string) rfl HLB.out (hb.rd.below hb1) (one_strings _) (by unfold maxLen; omega) (by omega) hb1.size ?_; intro v2 w2 ho2 hb2 _ _))
  rw [← List.map_append] at ho2
  have HO2 := Lib.hid ho2; clear ho2
  go_wp2
  go_ret
  exact givesT (hb1.trans hb2) HO2.out (by rw [List.length_append, ha.len, hb.len]) hm

/-- the names of a list that are in none of some names -/
def openL (l : List Ch) (ns : List ByteArray) : List ByteArray := (l.map Ch.node).filter fun s => !mem s ns
theorem openL_snoc (l : List Ch) (x : Ch) (ns : List ByteArray) : openL (l ++ [x]) ns = openL l ns ++ (if mem x.node ns then [] else [x.node]) := by
  unfold openL; rw [List.map_append, List.filter_append]; by_cases h : mem x.node ns = true <;> simp [h]
theorem openL_le (l : List Ch) (ns : List ByteArray) : (openL l ns).length ≤ l.length := by
  unfold openL; exact Nat.le_trans (List.length_filter_le _ _) (by simp)

set_option maxRecDepth 100000 in
set_option maxHeartbeats 1000000 in
theorem open_any (A : Option Addr) (n c : Nat) (l : List Ch) (ns : Sl) (w : World) (hr : Rd w A (l.flatMap Ch.cells)) (hn : l.length = n) (hm : n ≤ 100000) (hok : ns.ok w) :
    Calls Try.prog 87 #[.slice A n c, ns.v] w (GivesT (openL l ns.ss) w) := by
  have HN := Lib.hid hn; clear hn
  obtain ⟨N, m, d, ss⟩ := ns
  unfold Sl.v
  simp only
  have HM : Hid (m ≤ maxLen) := Nat.le_trans hok.le (by decide)
  go_enter Try.func87, Try.ntmps87
  go_wp2
  go_loopw [5, 6] (fun a i wr => ∃ k : Nat, k ≤ n ∧ i = .int .i64 k ∧ wr.ownsRow w.heap.size 9 1 a (openL (l.take k) ss).length ((openL (l.take k) ss).map Value.string) ∧ Below w.heap.size w wr) (fun _ i _ => n - (intOf i).toNat)
  case atStart => exact ⟨0, Nat.zero_le _, rfl, World.ownsRow_nil _ _ _ _, Below.refl _ _⟩
  case round =>
    obtain ⟨k, hk, rfl, hown, hbel⟩ := hrel
    by_cases hlt : k < n
    · have hx : k < l.length := by have := HN.out; omega
      obtain ⟨b, off, rfl, hc0, hc1⟩ := ch_row (hr.below hbel) k hx
      have hs1 := openL_snoc (l.take k) l[k] ss
      rw [← List.take_succ_eq_append_getElem hx] at hs1
      have hle : (openL (l.take k) ss).length ≤ k := Nat.le_trans (openL_le _ _) (by rw [List.length_take]; omega)
      generalize l[k] = x at hc0 hc1 hs1
      obtain ⟨node, prim⟩ := x
      simp only at hc0 hc1 hs1
      have HS := Lib.hid hs1; have HO := Lib.hid hown; clear hs1 hown
      have hokw := hok.below hbel
      generalize hL : openL (l.take k) ss = cur at HO HS hle
      clear hL
      go_wp2_with fail
      refine (in34_any N m d ss node _ hokw.rd hokw.len HM.out).mono ?_
      rintro e w' ⟨rfl, rfl⟩
      clear hokw
      generalize hp : mem node ss = p at HS
      have HP := Lib.hid hp; clear hp
      cases p
      · go_wp2_with (at_builtin; refine wpList_app el_string rfl (.tmp 21) (.tmp 27) rfl w.heap.size _ _ _ rfl (HO.out.alloc _) (some ⟨wr.heap.size, 0, none⟩) 1 1 [.string node] rfl rfl (Rd.new wr #[.string node] _) (by intro u hu; simp at hu; subst hu; rfl) (by unfold maxLen; omega) (by omega) (by have := hbel.size; simp; omega) ?_; intro v1 w1 hown1 hbel1 _ _)
        go_roundw
        case rel => exact ⟨k + 1, by omega, by go_num, by rw [HS.out]; simpa using hown1, (hbel.alloc hbel.size _).trans hbel1⟩
        case measure => simp [intOf]; omega
      · go_wp2
        go_roundw
        case rel => exact ⟨k + 1, by omega, by go_num, by rw [HS.out]; simpa using HO.out, hbel⟩
        case measure => simp [intOf]; omega
    · obtain rfl : k = n := by omega
      go_wp2
      go_ret
      rw [List.take_of_length_le (by rw [HN.out]; omega)] at hown
      exact givesT hbel hown rfl (Nat.le_trans (openL_le _ _) (by rw [HN.out]; omega))
end Go.Proofs.Ytebfmacbdjnhbaa
