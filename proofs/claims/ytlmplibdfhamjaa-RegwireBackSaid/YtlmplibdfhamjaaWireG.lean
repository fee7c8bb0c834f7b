/- The entries of bytes: the code's and the document's. -/
import Derived.Test.YtlmplibdfhamjaaWireF
namespace Go.Proofs.Ytlmplibdfhamjaa
open Go.RowKit Go.Mem Go.Num
set_option linter.unusedVariables false
set_option linter.unusedSimpArgs false

def rd0 (s : ByteArray) : List Ent × St := rdAll rdEnt 65536 (s.data.toList, true)
def ofGood (s : ByteArray) : Bool := rdDone (rd0 s).2 && mayL (rd0 s).1 && ((bs (rawB (rd0 s).1)).toList == s.toList)
def ofL (s : ByteArray) : List Ent := if ofGood s then (rd0 s).1 else []
def ofErr (s : ByteArray) : Int := if ofGood s then 0 else 3
def OfR (s : ByteArray) (w : World) (e : Ending) (w' : World) : Prop := ∃ v, e = .returned (.tuple #[v, .int .i64 (ofErr s)]) ∧ w'.ownsRow w.heap.size 47 4 v (ofL s).length (entc (ofL s)) ∧ Below w.heap.size w w'
theorem rd0_facts (s : ByteArray) (hs : s.size ≤ 65536) : (rd0 s).1.length ≤ 65536 ∧ (∀ m ∈ (rd0 s).1, Tiny 65536 m) ∧ 20 * (rd0 s).1.length + eSum (rd0 s).1 + 128 ≤ 1099511627776 := by
  have h1 := rdAll_count rdEnt 65536 (s.data.toList, true) (by omega)
  have h2 : ∀ m ∈ (rd0 s).1, Tiny 65536 m := fun m hm => (rdAll_tiny _ m hm).mono (by simpa using hs)
  have h3 := eSum_le (rd0 s).1 h2
  have h4 : (rd0 s).1.length ≤ 65536 := by unfold rd0; omega
  refine ⟨h4, h2, ?_⟩
  have := Nat.mul_le_mul_right (3 * 65536) h4
  omega
set_option maxRecDepth 100000 in
set_option maxHeartbeats 4000000 in
theorem of12_any (s : ByteArray) (w : World) (hs : s.size ≤ 65536) : Calls Try.prog 42 #[.string s] w (OfR s w) := by
  obtain ⟨hln, hty, hsum⟩ := rd0_facts s hs
  have hsl : s.data.toList.length ≤ 140737488355328 := by simp; omega
  have hrd := fun W hW => rEntries_any w.heap.size (s.data.toList, true) W hW hsl
  have hdn := fun W hW => rDone_any w.heap.size (rd0 s).2 W hW
  have hck := fun (W : World) A c hW => check10_any A _ c (rd0 s).1 W hW rfl (Nat.le_trans hln (by decide)) (fun m hm => (hty m hm).ok (by decide) W)
  have hraw := fun (W : World) A c hW => raw_any A _ c (rd0 s).1 W hW rfl (by omega)
  have HG : Hid (∀ g, ofGood s = g → ofL s = (if g then (rd0 s).1 else []) ∧ ofErr s = (if g then 0 else 3)) := Lib.hid (fun g h => ⟨by unfold ofL; rw [h], by unfold ofErr; rw [h]⟩)
  have HGG : Hid (ofGood s = (rdDone (rd0 s).2 && mayL (rd0 s).1 && ((bs (rawB (rd0 s).1)).toList == s.toList))) := Lib.hid rfl
  change ∀ W hW, Calls _ _ _ _ (GivesE _ _ _ _ (rd0 s).1.length (entc (rd0 s).1) (rd0 s).2 W) at hrd
  unfold errL at hck
  unfold Says at hraw
  generalize rd0 s = r at hrd hdn hck hraw HG HGG
  obtain ⟨L, st⟩ := r
  simp only at hrd hdn hck hraw HG HGG
  generalize bs (rawB L) = t at hraw HGG
  generalize rdDone st = dn at hdn HGG
  generalize mayL L = my at hck HGG
  generalize hq : (t.toList == s.toList) = q at HGG
  clear hln hty hsum hsl hs
  cases dn
  · have HF := Lib.hid (HG.out false (by rw [HGG.out]; rfl)); clear HG HGG hq
    have HRD := Lib.hid hrd; have HDN := Lib.hid hdn; have HCK := Lib.hid hck; have HRAW := Lib.hid hraw
    clear hrd hdn hck hraw
    go_enter Try.func42, Try.ntmps42
    go_wp2_with fail
    refine (new_any s _).mono ?_
    rintro e w1 ⟨rfl, h1, hb1, hz1⟩
    have HZ := Lib.hid hz1; clear hz1
    go_wp2_with fail
    refine (HRD.out _ h1).mono ?_
    rintro e w2 ⟨v, rfl, hown, h2, ho2⟩
    obtain ⟨A2, c2, rfl⟩ := own_form hown
    have hb2 : Below w.heap.size w w2 := hb1.trans (ho2.belowB (Nat.le_refl _) hb1.size)
    have HO := Lib.hid (own_mono hown hb1.size); have HB2 := Lib.hid hb2
    clear hown hb1 ho2 hb2 h1
    go_wp2_with fail
    refine (HDN.out _ h2).mono ?_
    rintro e w3 ⟨rfl, rfl⟩
    go_wp2
    go_ret2
    obtain ⟨e1, e2⟩ := HF.out
    exact ⟨_, by rw [e2]; rfl, by rw [e1]; exact World.ownsRow_nil _ _ _ _, HB2.out⟩
  cases my
  · have HF := Lib.hid (HG.out false (by rw [HGG.out]; rfl)); clear HG HGG hq
    have HRD := Lib.hid hrd; have HDN := Lib.hid hdn; have HCK := Lib.hid hck; have HRAW := Lib.hid hraw
    clear hrd hdn hck hraw
    go_enter Try.func42, Try.ntmps42
    go_wp2_with fail
    refine (new_any s _).mono ?_
    rintro e w1 ⟨rfl, h1, hb1, hz1⟩
    have HZ := Lib.hid hz1; clear hz1
    go_wp2_with fail
    refine (HRD.out _ h1).mono ?_
    rintro e w2 ⟨v, rfl, hown, h2, ho2⟩
    obtain ⟨A2, c2, rfl⟩ := own_form hown
    have hb2 : Below w.heap.size w w2 := hb1.trans (ho2.belowB (Nat.le_refl _) hb1.size)
    have HO := Lib.hid (own_mono hown hb1.size); have HB2 := Lib.hid hb2
    clear hown hb1 ho2 hb2 h1
    go_wp2_with fail
    refine (HDN.out _ h2).mono ?_
    rintro e w3 ⟨rfl, rfl⟩
    go_wp2_with fail
    refine (HCK.out _ A2 c2 (Rd.of_own HO.out)).mono ?_
    rintro e w4 ⟨rfl, hb4⟩
    have HO4 := Lib.hid (own_below HO.out hb4); have HB4 := Lib.hid (then_ HB2.out hb4)
    clear hb4
    go_wp2
    go_ret2
    obtain ⟨e1, e2⟩ := HF.out
    exact ⟨_, by rw [e2]; rfl, by rw [e1]; exact World.ownsRow_nil _ _ _ _, HB4.out⟩
  cases q
  · have HF := Lib.hid (HG.out false (by rw [HGG.out]; rfl)); clear HG HGG
    have HRD := Lib.hid hrd; have HDN := Lib.hid hdn; have HCK := Lib.hid hck; have HRAW := Lib.hid hraw
    clear hrd hdn hck hraw
    go_enter Try.func42, Try.ntmps42
    go_wp2_with fail
    refine (new_any s _).mono ?_
    rintro e w1 ⟨rfl, h1, hb1, hz1⟩
    have HZ := Lib.hid hz1; clear hz1
    go_wp2_with fail
    refine (HRD.out _ h1).mono ?_
    rintro e w2 ⟨v, rfl, hown, h2, ho2⟩
    obtain ⟨A2, c2, rfl⟩ := own_form hown
    have hb2 : Below w.heap.size w w2 := hb1.trans (ho2.belowB (Nat.le_refl _) hb1.size)
    have HO := Lib.hid (own_mono hown hb1.size); have HB2 := Lib.hid hb2
    clear hown hb1 ho2 hb2 h1
    go_wp2_with fail
    refine (HDN.out _ h2).mono ?_
    rintro e w3 ⟨rfl, rfl⟩
    go_wp2_with fail
    refine (HCK.out _ A2 c2 (Rd.of_own HO.out)).mono ?_
    rintro e w4 ⟨rfl, hb4⟩
    have HO4 := Lib.hid (own_below HO.out hb4); have HB4 := Lib.hid (then_ HB2.out hb4)
    clear hb4
    go_wp2_with fail
    refine (HRAW.out _ A2 c2 (Rd.of_own HO4.out)).mono ?_
    rintro e w5 ⟨rfl, hb5⟩
    have HO5 := Lib.hid (own_below HO4.out hb5); have HB5 := Lib.hid (then_ HB4.out hb5)
    clear hb5
    go_wp2
    go_ret2
    obtain ⟨e1, e2⟩ := HF.out
    exact ⟨_, by rw [e2]; rfl, by rw [e1]; exact World.ownsRow_nil _ _ _ _, HB5.out⟩
  · have HF := Lib.hid (HG.out true (by rw [HGG.out]; rfl)); clear HG HGG
    have HRD := Lib.hid hrd; have HDN := Lib.hid hdn; have HCK := Lib.hid hck; have HRAW := Lib.hid hraw
    clear hrd hdn hck hraw
    go_enter Try.func42, Try.ntmps42
    go_wp2_with fail
    refine (new_any s _).mono ?_
    rintro e w1 ⟨rfl, h1, hb1, hz1⟩
    have HZ := Lib.hid hz1; clear hz1
    go_wp2_with fail
    refine (HRD.out _ h1).mono ?_
    rintro e w2 ⟨v, rfl, hown, h2, ho2⟩
    obtain ⟨A2, c2, rfl⟩ := own_form hown
    have hb2 : Below w.heap.size w w2 := hb1.trans (ho2.belowB (Nat.le_refl _) hb1.size)
    have HO := Lib.hid (own_mono hown hb1.size); have HB2 := Lib.hid hb2
    clear hown hb1 ho2 hb2 h1
    go_wp2_with fail
    refine (HDN.out _ h2).mono ?_
    rintro e w3 ⟨rfl, rfl⟩
    go_wp2_with fail
    refine (HCK.out _ A2 c2 (Rd.of_own HO.out)).mono ?_
    rintro e w4 ⟨rfl, hb4⟩
    have HO4 := Lib.hid (own_below HO.out hb4); have HB4 := Lib.hid (then_ HB2.out hb4)
    clear hb4
    go_wp2_with fail
    refine (HRAW.out _ A2 c2 (Rd.of_own HO4.out)).mono ?_
    rintro e w5 ⟨rfl, hb5⟩
    have HO5 := Lib.hid (own_below HO4.out hb5); have HB5 := Lib.hid (then_ HB4.out hb5)
    clear hb5
    go_wp2
    go_ret2
    obtain ⟨e1, e2⟩ := HF.out
    exact ⟨_, by rw [e2]; rfl, by rw [e1]; exact HO5.out, HB5.out⟩
set_option maxRecDepth 100000 in
set_option maxHeartbeats 4000000 in
theorem rof12_any (s : ByteArray) (w : World) (hs : s.size ≤ 65536) : Calls Try.prog 43 #[.string s] w (OfR s w) := by
  obtain ⟨hln, hty, hsum⟩ := rd0_facts s hs
  have hsl : s.data.toList.length ≤ 140737488355328 := by simp; omega
  have hrd := fun W hW => rRead_any w.heap.size (s.data.toList, true) W hW hsl
  have hdn := fun W hW => fDone_any w.heap.size (rd0 s).2 W hW
  have hck := fun (W : World) A c hW => may10_any A _ c (rd0 s).1 W hW rfl (Nat.le_trans hln (by decide)) (fun m hm => (hty m hm).ok (by decide) W)
  have hraw := fun (W : World) A c hW => rRaw_any A _ c (rd0 s).1 W hW rfl (by omega)
  have HG : Hid (∀ g, ofGood s = g → ofL s = (if g then (rd0 s).1 else []) ∧ ofErr s = (if g then 0 else 3)) := Lib.hid (fun g h => ⟨by unfold ofL; rw [h], by unfold ofErr; rw [h]⟩)
  have HGG : Hid (ofGood s = (rdDone (rd0 s).2 && mayL (rd0 s).1 && ((bs (rawB (rd0 s).1)).toList == s.toList))) := Lib.hid rfl
  change ∀ W hW, Calls _ _ _ _ (GivesE _ _ _ _ (rd0 s).1.length (entc (rd0 s).1) (rd0 s).2 W) at hrd
  unfold Says at hraw
  generalize rd0 s = r at hrd hdn hck hraw HG HGG
  obtain ⟨L, st⟩ := r
  simp only at hrd hdn hck hraw HG HGG
  generalize bs (rawB L) = t at hraw HGG
  generalize rdDone st = dn at hdn HGG
  generalize mayL L = my at hck HGG
  generalize hq : (t.toList == s.toList) = q at HGG
  clear hln hty hsum hsl hs
  cases dn
  · have HF := Lib.hid (HG.out false (by rw [HGG.out]; rfl)); clear HG HGG hq
    have HRD := Lib.hid hrd; have HDN := Lib.hid hdn; have HCK := Lib.hid hck; have HRAW := Lib.hid hraw
    clear hrd hdn hck hraw
    have hnew : RdF w.heap.size (s.data.toList, true) (w.alloc (.cells #[.string s, .bool false] 76)) := by have := Two.new w 76 (.string s) (.bool false); unfold RdF; rw [bs_of]; exact this
    have HNEW := Lib.hid hnew; clear hnew
    go_enter Try.func43, Try.ntmps43
    go_wp2_with fail
    have hb1 := (Below.refl w.heap.size w).alloc (Nat.le_refl _) (.cells #[.string s, .bool false] 76)
    refine (HRD.out _ HNEW.out).mono ?_
    rintro e w2 ⟨v, rfl, hown, h2, ho2⟩
    obtain ⟨A2, c2, rfl⟩ := own_form hown
    have hb2 : Below w.heap.size w w2 := hb1.trans (ho2.belowB (Nat.le_refl _) hb1.size)
    have HO := Lib.hid (own_mono hown hb1.size); have HB2 := Lib.hid hb2
    clear hown hb1 ho2 hb2 
    go_wp2_with fail
    refine (HDN.out _ h2).mono ?_
    rintro e w3 ⟨rfl, rfl⟩
    go_wp2
    go_ret2
    obtain ⟨e1, e2⟩ := HF.out
    exact ⟨_, by rw [e2]; rfl, by rw [e1]; exact World.ownsRow_nil _ _ _ _, HB2.out⟩
  cases my
  · have HF := Lib.hid (HG.out false (by rw [HGG.out]; rfl)); clear HG HGG hq
    have HRD := Lib.hid hrd; have HDN := Lib.hid hdn; have HCK := Lib.hid hck; have HRAW := Lib.hid hraw
    clear hrd hdn hck hraw
    have hnew : RdF w.heap.size (s.data.toList, true) (w.alloc (.cells #[.string s, .bool false] 76)) := by have := Two.new w 76 (.string s) (.bool false); unfold RdF; rw [bs_of]; exact this
    have HNEW := Lib.hid hnew; clear hnew
    go_enter Try.func43, Try.ntmps43
    go_wp2_with fail
    have hb1 := (Below.refl w.heap.size w).alloc (Nat.le_refl _) (.cells #[.string s, .bool false] 76)
    refine (HRD.out _ HNEW.out).mono ?_
    rintro e w2 ⟨v, rfl, hown, h2, ho2⟩
    obtain ⟨A2, c2, rfl⟩ := own_form hown
    have hb2 : Below w.heap.size w w2 := hb1.trans (ho2.belowB (Nat.le_refl _) hb1.size)
    have HO := Lib.hid (own_mono hown hb1.size); have HB2 := Lib.hid hb2
    clear hown hb1 ho2 hb2 
    go_wp2_with fail
    refine (HDN.out _ h2).mono ?_
    rintro e w3 ⟨rfl, rfl⟩
    go_wp2_with fail
    refine (HCK.out _ A2 c2 (Rd.of_own HO.out)).mono ?_
    rintro e w4 ⟨rfl, hb4⟩
    have HO4 := Lib.hid (own_below HO.out hb4); have HB4 := Lib.hid (then_ HB2.out hb4)
    clear hb4
    go_wp2
    go_ret2
    obtain ⟨e1, e2⟩ := HF.out
    exact ⟨_, by rw [e2]; rfl, by rw [e1]; exact World.ownsRow_nil _ _ _ _, HB4.out⟩
  cases q
  · have HF := Lib.hid (HG.out false (by rw [HGG.out]; rfl)); clear HG HGG
    have HRD := Lib.hid hrd; have HDN := Lib.hid hdn; have HCK := Lib.hid hck; have HRAW := Lib.hid hraw
    clear hrd hdn hck hraw
    have hnew : RdF w.heap.size (s.data.toList, true) (w.alloc (.cells #[.string s, .bool false] 76)) := by have := Two.new w 76 (.string s) (.bool false); unfold RdF; rw [bs_of]; exact this
    have HNEW := Lib.hid hnew; clear hnew
    go_enter Try.func43, Try.ntmps43
    go_wp2_with fail
    have hb1 := (Below.refl w.heap.size w).alloc (Nat.le_refl _) (.cells #[.string s, .bool false] 76)
    refine (HRD.out _ HNEW.out).mono ?_
    rintro e w2 ⟨v, rfl, hown, h2, ho2⟩
    obtain ⟨A2, c2, rfl⟩ := own_form hown
    have hb2 : Below w.heap.size w w2 := hb1.trans (ho2.belowB (Nat.le_refl _) hb1.size)
    have HO := Lib.hid (own_mono hown hb1.size); have HB2 := Lib.hid hb2
    clear hown hb1 ho2 hb2 
    go_wp2_with fail
    refine (HDN.out _ h2).mono ?_
    rintro e w3 ⟨rfl, rfl⟩
    go_wp2_with fail
    refine (HCK.out _ A2 c2 (Rd.of_own HO.out)).mono ?_
    rintro e w4 ⟨rfl, hb4⟩
    have HO4 := Lib.hid (own_below HO.out hb4); have HB4 := Lib.hid (then_ HB2.out hb4)
    clear hb4
    go_wp2_with fail
    refine (HRAW.out _ A2 c2 (Rd.of_own HO4.out)).mono ?_
    rintro e w5 ⟨rfl, hb5⟩
    have HO5 := Lib.hid (own_below HO4.out hb5); have HB5 := Lib.hid (then_ HB4.out hb5)
    clear hb5
    go_wp2
    go_ret2
    obtain ⟨e1, e2⟩ := HF.out
    exact ⟨_, by rw [e2]; rfl, by rw [e1]; exact World.ownsRow_nil _ _ _ _, HB5.out⟩
  · have HF := Lib.hid (HG.out true (by rw [HGG.out]; rfl)); clear HG HGG
    have HRD := Lib.hid hrd; have HDN := Lib.hid hdn; have HCK := Lib.hid hck; have HRAW := Lib.hid hraw
    clear hrd hdn hck hraw
    have hnew : RdF w.heap.size (s.data.toList, true) (w.alloc (.cells #[.string s, .bool false] 76)) := by have := Two.new w 76 (.string s) (.bool false); unfold RdF; rw [bs_of]; exact this
    have HNEW := Lib.hid hnew; clear hnew
    go_enter Try.func43, Try.ntmps43
    go_wp2_with fail
    have hb1 := (Below.refl w.heap.size w).alloc (Nat.le_refl _) (.cells #[.string s, .bool false] 76)
    refine (HRD.out _ HNEW.out).mono ?_
    rintro e w2 ⟨v, rfl, hown, h2, ho2⟩
    obtain ⟨A2, c2, rfl⟩ := own_form hown
    have hb2 : Below w.heap.size w w2 := hb1.trans (ho2.belowB (Nat.le_refl _) hb1.size)
    have HO := Lib.hid (own_mono hown hb1.size); have HB2 := Lib.hid hb2
    clear hown hb1 ho2 hb2 
    go_wp2_with fail
    refine (HDN.out _ h2).mono ?_
    rintro e w3 ⟨rfl, rfl⟩
    go_wp2_with fail
    refine (HCK.out _ A2 c2 (Rd.of_own HO.out)).mono ?_
    rintro e w4 ⟨rfl, hb4⟩
    have HO4 := Lib.hid (own_below HO.out hb4); have HB4 := Lib.hid (then_ HB2.out hb4)
    clear hb4
    go_wp2_with fail
    refine (HRAW.out _ A2 c2 (Rd.of_own HO4.out)).mono ?_
    rintro e w5 ⟨rfl, hb5⟩
    have HO5 := Lib.hid (own_below HO4.out hb5); have HB5 := Lib.hid (then_ HB4.out hb5)
    clear hb5
    go_wp2
    go_ret2
    obtain ⟨e1, e2⟩ := HF.out
    exact ⟨_, by rw [e2]; rfl, by rw [e1]; exact HO5.out, HB5.out⟩
end Go.Proofs.Ytlmplibdfhamjaa
