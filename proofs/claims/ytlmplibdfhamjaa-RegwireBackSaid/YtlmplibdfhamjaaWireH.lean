/- What must come of regwire, whatever the arguments are; the walk of RegwireWrites. -/
import Derived.Test.YtlmplibdfhamjaaWireG
attribute [local go_sem ↓] Go.wp_at_zero Go.wp_at_succ
namespace Go.Proofs.Ytlmplibdfhamjaa
open Go.RowKit Go.Mem Go.Num
set_option linter.unusedVariables false
set_option linter.unusedSimpArgs false

def aE : Ent := ⟨⟨#[97]⟩, ⟨1, ⟨#[110]⟩, ⟨#[118]⟩⟩⟩
def s27 : ByteArray := ⟨#[0, 0, 0, 1, 0, 0, 0, 1, 97, 0, 0, 0, 0, 0, 0, 0, 1, 0, 0, 0, 1, 110, 0, 0, 0, 1, 118]⟩
theorem aw12_b : bytesV [aE] = s27 ∧ errL [aE] = 0 := ⟨by kernel_rfl, by kernel_rfl⟩
theorem aw12_o : ofL s27 = [aE] ∧ ofErr s27 = 0 := ⟨by kernel_rfl, by kernel_rfl⟩
theorem aw12_h : ofErr (s27.extract 0 13) = 3 := by kernel_rfl
theorem aw12_z : errL [zE] = 1 := by kernel_rfl
theorem aw12_r : rawB [aE] = s27.data.toList := by kernel_rfl
theorem aE_ok (w : World) : ∀ m ∈ [aE], m.ok w := fun m hm => by rw [List.mem_singleton] at hm; subst hm; exact ⟨by decide, by decide, by decide, by decide⟩
theorem zE_ok (w : World) : ∀ m ∈ [zE], m.ok w := fun m hm => by rw [List.mem_singleton] at hm; subst hm; exact ⟨by decide, by decide, by decide, by decide⟩
def TrueW (w : World) (e : Ending) (w' : World) : Prop := e = .returned (.bool true) ∧ Below w.heap.size w w'
set_option maxRecDepth 100000 in
set_option maxHeartbeats 4000000 in
theorem awake12_any (w : World) : Calls Try.prog 34 #[] w (TrueW w) := by
  have hB0 := (Below.refl w.heap.size w).alloc (Nat.le_refl _) (.cells #[.string ⟨#[97]⟩, .int .i64 1, .string ⟨#[110]⟩, .string ⟨#[118]⟩] 47)
  have hR0 : Rd (w.alloc (.cells #[.string ⟨#[97]⟩, .int .i64 1, .string ⟨#[110]⟩, .string ⟨#[118]⟩] 47)) (some ⟨w.heap.size, 0, none⟩) (entc [aE]) := Rd.new w #[.string ⟨#[97]⟩, .int .i64 1, .string ⟨#[110]⟩, .string ⟨#[118]⟩] 47
  have HB := Lib.hid hB0; have HR := Lib.hid hR0
  clear hB0 hR0
  have hl := s27.size
  have HSZ : Hid (s27.size = 27) := Lib.hid rfl
  have HB27 : Hid (∀ es W, BytesR [aE] W es = fun w' => es = .returned (.tuple #[.string s27, .int .i64 0]) ∧ Below W.heap.size W w') := Lib.hid fun es W => by
    funext w'; unfold BytesR; rw [aw12_b.1, aw12_b.2]
  go_enter Try.func34, Try.ntmps34
  go_wp2_with fail
  refine (bytes12_any _ 1 1 [aE] _ HR.out rfl (by decide) (aE_ok _) (by decide)).mono ?_
  intro e w1 he
  rw [HB27.out] at he
  obtain ⟨rfl, hb1⟩ := he
  obtain ⟨s, hs⟩ : ∃ s, s27 = s := ⟨_, rfl⟩
  have hsz : s.size = 27 := by rw [← hs]; exact HSZ.out
  have hO := (⟨by rw [← hs]; exact aw12_o.1, by rw [← hs]; exact aw12_o.2, by rw [← hs]; exact aw12_h, by rw [← hs]; exact aw12_r⟩ : ofL s = [aE] ∧ ofErr s = 0 ∧ ofErr (s.extract 0 13) = 3 ∧ rawB [aE] = s.data.toList)
  rw [hs]
  have HO := Lib.hid hO
  have HS := Lib.hid hs
  have HZ := Lib.hid hsz
  clear hO hs HB27 HSZ hl
  have hB1 := then_ HB.out hb1
  have hR1 := HR.out.below hb1
  have HB := Lib.hid hB1; have HR := Lib.hid hR1
  clear hb1 hB1 hR1 hsz
  go_wp2_with fail
  refine (of12_any s _ (by rw [HZ.out]; decide)).mono ?_
  rintro e w2 ⟨v2, rfl, hown2, hb2⟩
  rw [HO.out.1] at hown2
  rw [HO.out.2.1]
  obtain ⟨A2, c2, rfl⟩ := own_form hown2
  have hB2 := then_ HB.out hb2
  have HR2 := Lib.hid (HR.out.below hb2); have HM := Lib.hid (Rd.of_own hown2); have HB := Lib.hid hB2
  clear hb2 hB2 hown2 HR
  have hsz := HZ.out
  go_wp2_with fail
  refine (of12_any _ _ ?_).mono ?_
  · simp [hsz]
  rintro e w3 ⟨v3, rfl, hown3, hb3⟩
  rw [HO.out.2.2.1]
  obtain ⟨A3, c3, rfl⟩ := own_form hown3
  have hB3 := then_ HB.out hb3
  have HR3 := Lib.hid (HR2.out.below hb3); have HM3 := Lib.hid (HM.out.below hb3); have HB := Lib.hid hB3
  clear hb3 hB3 hown3 HR2 HM
  generalize (ofL (s.extract 0 13)).length = n3
  go_wp2_with fail
  have hbz := (Below.refl w3.heap.size w3).alloc (Nat.le_refl _) (.cells #[.string ⟨#[]⟩, .int .i64 0, .string ⟨#[]⟩, .string ⟨#[]⟩] 47)
  have hrz := Rd.new w3 #[.string ⟨#[]⟩, .int .i64 0, .string ⟨#[]⟩, .string ⟨#[]⟩] 47
  refine (bytes12_any _ 1 1 [zE] _ (by exact hrz) rfl (by decide) (zE_ok _) (by decide)).mono ?_
  rintro e w4 ⟨rfl, hb4⟩
  rw [aw12_z]
  generalize bytesV [zE] = s4
  have hb4 := then_ hbz hb4
  have HR4 := Lib.hid (HR3.out.below hb4); have HM4 := Lib.hid (HM3.out.below hb4); have HB := Lib.hid (then_ HB.out hb4)
  clear hb4 hbz hrz HR3 HM3
  have hsd : ((s.size : Int) == 27) = true := by rw [hsz]; rfl
  go_wp2_with fail
  refine (same10_any _ 1 1 [aE] A2 1 c2 [aE] _ HR4.out rfl (by decide) HM4.out rfl (by decide)).mono ?_
  rintro e w5 ⟨q, hq, rfl, hb5⟩
  have hq1 : q = true := hq.2 rfl
  subst hq1
  have HR5 := Lib.hid (HR4.out.below hb5); have HB := Lib.hid (then_ HB.out hb5)
  clear hb5 hq HR4 HM4
  go_wp2_with fail
  refine (digest12_any _ 1 1 [aE] _ HR5.out rfl (by decide)).mono ?_
  rintro e w6 ⟨rfl, hb6⟩
  rw [HO.out.2.2.2]
  have HB := Lib.hid (then_ HB.out hb6)
  clear hb6
  go_wp2_with fail
  refine (refSum_any s _ (by rw [hsz]; decide)).mono ?_
  rintro e w7 ⟨rfl, hb7⟩
  generalize bs (Sha.sum s.data.toList) = d
  have hdd : (d.toList == d.toList) = true := by simp
  go_wp2
  go_ret
  exact ⟨rfl, then_ HB.out hb7⟩

theorem fin12 (w W : World) (h : Below w.heap.size w W) : Calls Try.prog 34 #[] W fun e w' => e = .returned (.bool true) ∧ Below w.heap.size w w' := (awake12_any W).mono fun _ _ ⟨h1, h2⟩ => ⟨h1, then_ h h2⟩
theorem small_sum : ∀ (l : List Ent), (∀ m ∈ l, small m) → eSum l ≤ l.length * 600
  | [], _ => by simp [eSum]
  | e :: l, h => by
    have h1 := small_sum l (fun m hm => h m (by simp [hm]))
    have h2 := h e (by simp)
    unfold eSum at *
    rw [List.map_cons, List.sum_cons, List.length_cons, Nat.add_mul, Nat.one_mul]
    have : eSize e ≤ 600 := by unfold eSize; have := h2.1; have := h2.2.1; have := h2.2.2; omega
    omega
set_option maxRecDepth 100000 in
set_option maxHeartbeats 4000000 in
theorem regwireWrites_walk (A : Option Addr) (n c : Nat) (l : List Ent) (w : World) (hr : Rd w A (entc l)) (hn : l.length = n) (hm : n ≤ maxLen) (hok : ∀ m ∈ l, m.ok w) :
    Calls Try.prog 9 #[.slice A n c] w (TrueW w) := by
  have HN := Lib.hid hn; have HR := Lib.hid hr; have HOK := Lib.hid hok; have HM := Lib.hid hm
  have HFW := Lib.hid (few10_any A n c l 30 w hr hn hm hok)
  clear hr hn hok
  unfold maxLen at hm
  go_enter Try.func9, Try.ntmps9
  go_wp2_with fail
  refine HFW.out.mono ?_
  rintro e w1 ⟨b1, hfew, rfl, hb1⟩
  clear HFW
  cases b1
  · go_wp2_with fail
    refine (fin12 w _ hb1).mono ?_
    rintro e w2 ⟨rfl, hb2⟩
    go_wp2
    go_ret
    exact ⟨rfl, hb2⟩
  obtain ⟨h30, hsm⟩ := hfew rfl
  have hs1 := small_sum l hsm
  have HLEN : Hid (20 * n + eSum l + 128 ≤ 1099511627776) := Lib.hid (by rw [← HN.out]; omega)
  have HB1 := Lib.hid hb1
  clear hfew h30 hsm hs1 hb1
  have hW := Lib.hid (wEntries_any w1.heap.size w1.heap.size [] A n c l (w1.alloc (.cells #[.pointer none, .slice none 0 0] 65)) (Wr.new w1) ((HR.out.below HB1.out).alloc _) (rd_blk (HR.out.below HB1.out)) HN.out (by have := HLEN.out; simp; omega) (by simp))
  have HB2 := Lib.hid ((Below.refl w1.heap.size w1).alloc (Nat.le_refl _) (.cells #[.pointer none, .slice none 0 0] 65))
  go_wp2_with fail
  refine hW.out.mono ?_
  rintro e w2 ⟨rfl, hw2, ht2⟩
  rw [List.nil_append] at hw2
  have HBW := Lib.hid (HB2.out.trans ht2.bel)
  have HH := Lib.hid hw2.holds
  clear hw2 ht2 hW
  have HR2 := Lib.hid (HR.out.below (then_ HB1.out HBW.out)); have HOK2 := Lib.hid (fun m hm => (HOK.out m hm).below (then_ HB1.out HBW.out))
  go_wp2_with fail
  refine (bytes12_any A n c l _ HR2.out HN.out HM.out HOK2.out (by have := HLEN.out; omega)).mono ?_
  rintro e w3 ⟨rfl, hb3⟩
  have HR3 := Lib.hid (HR2.out.below hb3); have HOK3 := Lib.hid (fun m hm => (HOK2.out m hm).below hb3); have HH3 := Lib.hid (HH.out.below hb3); have HBW3 := Lib.hid (HBW.out.trans (hb3.mono HBW.out.size))
  clear hb3 HR2 HOK2 HH
  go_wp2_with fail
  refine (rbytes12_any A n c l _ HR3.out HN.out HM.out HOK3.out (by have := HLEN.out; omega)).mono ?_
  rintro e w4 ⟨rfl, hb4⟩
  have HR4 := Lib.hid (HR3.out.below hb4); have HH4 := Lib.hid (HH3.out.below hb4); have HBW4 := Lib.hid (HBW3.out.trans (hb4.mono HBW3.out.size))
  clear hb4 HR3 HOK3 HH3 HBW3 HBW
  generalize bytesV l = bv
  generalize errL l = ev
  have hbv : (bv.toList == bv.toList) = true := by simp
  have hev : (ev == ev) = true := by simp
  go_wp2_with fail
  refine (wBytes_any w1.heap.size w1.heap.size _ _ HH4.out HBW4.out.size).mono ?_
  rintro e w5 ⟨rfl, hb5, -, -⟩
  obtain ⟨t, ht⟩ : ∃ t, bs (rawB l) = t := ⟨_, rfl⟩
  rw [show (⟨(rawB l).toArray⟩ : ByteArray) = t from ht]
  have HT := Lib.hid ht; clear ht
  have HBW5 := Lib.hid (HBW4.out.trans hb5)
  have HW5 := Lib.hid (then_ HB1.out HBW5.out)
  clear hb5
  go_wp2_with fail
  refine (rRaw_any A n c l _ (HR.out.below HW5.out) HN.out (by have := HLEN.out; omega)).mono ?_
  rintro e w6 ⟨rfl, hb6⟩
  rw [HT.out]
  have HW6 := Lib.hid (then_ HW5.out hb6)
  clear hb6
  have hrr : (t.toList == t.toList) = true := by simp
  go_wp2_with fail
  refine (digest12_any A n c l _ (HR.out.below HW6.out) HN.out HLEN.out).mono ?_
  rintro e w7 ⟨rfl, hb7⟩
  have HW7 := Lib.hid (then_ HW6.out hb7)
  clear hb7
  go_wp2_with fail
  refine (rdigest12_any A n c l _ (HR.out.below HW7.out) HN.out HLEN.out).mono ?_
  rintro e w8 ⟨rfl, hb8⟩
  have HW8 := Lib.hid (then_ HW7.out hb8)
  clear hb8
  generalize bs (Sha.sum (rawB l)) = d
  have hdd : (d.toList == d.toList) = true := by simp
  go_wp2_with fail
  refine (fin12 w _ HW8.out).mono ?_
  rintro e w9 ⟨rfl, hb9⟩
  go_wp2
  go_ret
  exact ⟨rfl, hb9⟩
end Go.Proofs.Ytlmplibdfhamjaa
