/- quorum.Write and quorum.Read: what they return, for every argument. -/
import Derived.Test.YtebfmacbdjnhbaaQuorum
import Derived.Deep.RegionHeld3
import Derived.Deep.DeepCutAuto
namespace Go.Proofs.Ytebfmacbdjnhbaa
open Go.RowKit Go.Mem
set_option linter.unusedVariables false

/-- properties -/
structure Pr where
  n : Int
  r : Int
  w : Int
  pr : Int
  pw : Int
  several : Bool
  missing : Bool
  basic : Bool
def Pr.arr (p : Pr) : Array Value := #[.int .i64 p.n, .int .i64 p.r, .int .i64 p.w, .int .i64 p.pr, .int .i64 p.pw, .bool p.several, .bool p.missing, .bool p.basic]

/-- are those that are so enough? -/
def enoughB (x y : Int) (p : ByteArray → Bool) (l : List Ch) : Bool := decide (x ≤ (cnt p l : Nat)) && decide (y ≤ (cntP p l : Nat))
def writeL (p : Pr) (l : List Ch) (yes no : List ByteArray) : Int :=
  if enoughB p.w p.pw (fun s => mem s yes) l then 1
  else if enoughB p.w p.pw (fun s => mem s yes || !(mem s yes || mem s no)) l then 0 else 2

theorem enoughE_any (A : Option Addr) (n c : Nat) (l : List Ch) (f : FuncId) (caps : Array Value) (p : ByteArray → Bool) (x y : Int) (w : World) (hr : Rd w A (l.flatMap Ch.cells)) (hn : l.length = n) (hm : n ≤ 1000000) (hf : Fv Try.prog w f caps p) :
    Calls Try.prog 84 #[.slice A n c, .func (.func f) #[] caps, .int .i64 x, .int .i64 y] w fun e w' => e = .returned (.bool (enoughB x y p l)) ∧ Below w.heap.size w w' := enough_any A n c l f caps p x y w hr hn hm hf
theorem possibleE_any (A : Option Addr) (n c : Nat) (l : List Ch) (f g : FuncId) (cf cg : Array Value) (p q : ByteArray → Bool) (x y : Int) (w : World) (hr : Rd w A (l.flatMap Ch.cells)) (hn : l.length = n) (hm : n ≤ 1000000) (hf : Fv Try.prog w f cf p) (hg : Fv Try.prog w g cg q) :
    Calls Try.prog 85 #[.slice A n c, .func (.func f) #[] cf, .func (.func g) #[] cg, .int .i64 x, .int .i64 y] w fun e w' => e = .returned (.bool (enoughB x y (fun s => p s || !q s) l)) ∧ Below w.heap.size w w' := possible_any A n c l f g cf cg p q x y w hr hn hm hf hg
theorem fv_one {P : Program} {w : World} {f : FuncId} {caps : Array Value} {a : Sl} (h : Fv P w f caps (fun s => [a].any fun l => mem s l.ss)) : Fv P w f caps (fun s => mem s a.ss) := by rw [any_one] at h; exact h
theorem fv_two {P : Program} {w : World} {f : FuncId} {caps : Array Value} {a b : Sl} (h : Fv P w f caps (fun s => [a, b].any fun l => mem s l.ss)) : Fv P w f caps (fun s => mem s a.ss || mem s b.ss) := by
  have : (fun s => [a, b].any fun l => mem s l.ss) = fun s => mem s a.ss || mem s b.ss := by funext s; simp
  rw [this] at h; exact h
theorem rd_at {g : Nat} {w : World} {e : TypeId} (ls : List Sl) (arr : Array Value) (hg : g = w.heap.size) (h : arr.toList = ls.map Sl.v) : Rd (w.alloc (.cells arr e)) (some ⟨g, 0, none⟩) (ls.map Sl.v) := by
  subst hg; rw [← h]; exact Rd.new w arr e

set_option maxRecDepth 100000 in
set_option maxHeartbeats 4000000 in
theorem qwrite_any (p : Pr) (A : Option Addr) (n c : Nat) (l : List Ch) (yes no : Sl) (w : World) (hr : Rd w A (l.flatMap Ch.cells)) (hn : l.length = n) (hm : n ≤ 1000000) (hy : yes.ok w) (ho : no.ok w) :
    Calls Try.prog 43 #[.agg p.arr, .slice A n c, yes.v, no.v] w fun e w' => e = .returned (.int .i64 (writeL p l yes.ss no.ss)) ∧ Below w.heap.size w w' := by
  have HN := Lib.hid hn; clear hn
  obtain ⟨b1, hE1⟩ : ∃ b, enoughB p.w p.pw (fun s => mem s yes.ss) l = b := ⟨_, rfl⟩
  obtain ⟨b2, hE2⟩ : ∃ b, enoughB p.w p.pw (fun s => mem s yes.ss || !(mem s yes.ss || mem s no.ss)) l = b := ⟨_, rfl⟩
  have hres : writeL p l yes.ss no.ss = if b1 then 1 else if b2 then 0 else 2 := by unfold writeL; rw [hE1, hE2]
  have HE1 := Lib.hid hE1; have HE2 := Lib.hid hE2; have HRES := Lib.hid hres; clear hE1 hE2 hres
  obtain ⟨pn, pr, pw, ppr, ppw, sv, ms, bs⟩ := p
  obtain ⟨Y, yn, yc, ys⟩ := yes
  obtain ⟨Z, zn, zc, zs⟩ := no
  unfold Pr.arr Sl.v
  simp only
  have hpx : ∀ W : World, Below (w.alloc (.cells #[.int .i64 pn, .int .i64 pr, .int .i64 pw, .int .i64 ppr, .int .i64 ppw, .bool sv, .bool ms, .bool bs] 58)).heap.size (w.alloc (.cells #[.int .i64 pn, .int .i64 pr, .int .i64 pw, .int .i64 ppr, .int .i64 ppw, .bool sv, .bool ms, .bool bs] 58)) W → W.cell? ⟨w.heap.size, 2, none⟩ = some (.int .i64 pw) ∧ W.cell? ⟨w.heap.size, 4, none⟩ = some (.int .i64 ppw) :=
    fun W hb => ⟨(hb.cell (by simp)).trans (by simp), (hb.cell (by simp)).trans (by simp)⟩
  have HPX := Lib.hid hpx; clear hpx
  generalize hW0 : w.alloc (.cells #[.int .i64 pn, .int .i64 pr, .int .i64 pw, .int .i64 ppr, .int .i64 ppw, .bool sv, .bool ms, .bool bs] 58) = W0 at HPX
  have hb0 : Below w.heap.size w W0 := by rw [← hW0]; exact (Below.refl _ _).alloc (Nat.le_refl _) _
  have hsz0 : W0.heap.size = w.heap.size + 1 := by rw [← hW0]; simp
  have HW0 := Lib.hid hW0; have HSZ := Lib.hid hsz0
  clear hW0 hsz0
  go_enter Try.func43, Try.ntmps43
  go_upto_region 1 with fail
  rw [HW0.out]
  obtain ⟨hq2, hq4⟩ := HPX.out W0 (Below.refl _ _)
  have hlt0 : w.heap.size < W0.heap.size := by have := HSZ.out; omega
  go_cut [9] (fun s9 wx => s9 = .bool b1 ∧ Below W0.heap.size W0 wx)
  case first =>
    go_region_held3 (fun w' => w'.cell? ⟨w.heap.size, 2, none⟩ = some (.int .i64 pw) ∧ w'.cell? ⟨w.heap.size, 4, none⟩ = some (.int .i64 ppw)) (first | go_keep | (exact HPX.out _ hbq) | (exact HPX.out _ (then_ hbq hb2)))
      (first | (go_at_call 82; refine (of_any _ 1 1 [⟨Y, yn, yc, ys⟩] _ (by exact (rd_at _ _ rfl rfl).drew) rfl (by omega) (by intro l hl; rw [List.mem_singleton] at hl; subst hl; exact (hy.below hb0).below (((Below.refl _ _).alloc (Nat.le_refl _) _).drew))).mono ?_; rintro e w1 ⟨hb1, caps, rfl, hfv⟩; have hbq : Below W0.heap.size W0 w1 := (((Below.refl _ _).alloc (Nat.le_refl _) _).drew).trans (hb1.mono (by simp))) | (go_at_call 84; refine (enoughE_any A n c l _ _ (fun s => mem s ys) pw ppw _ (by exact (hr.below hb0).below hbq) HN.out hm (fv_one hfv)).mono ?_; rintro e w2 ⟨rfl, hb2⟩; rw [HE1.out]))
    all_goals (go_wp2_with fail; go_meet; exact ⟨rfl, then_ hbq hb2⟩)
  case rest =>
    obtain ⟨rfl, hbw2⟩ := hcut
    cases b1
    · have hbw := then_ hb0 hbw2
      have hry := hy.below hbw
      have hrz := ho.below hbw
      have hrl := hr.below hbw
      obtain ⟨hs2, hs4⟩ := HPX.out wc hbw2
      have hltc : w.heap.size < wc.heap.size := by have := hbw2.size; omega
      have HPC : Hid (∀ W : World, Below wc.heap.size wc W → W.cell? ⟨w.heap.size, 2, none⟩ = some (.int .i64 pw) ∧ W.cell? ⟨w.heap.size, 4, none⟩ = some (.int .i64 ppw)) := fun W hb => HPX.out W (then_ hbw2 hb)
      go_upto_region 3 with fail
      go_cut [19] (fun s19 wx => s19 = .bool (!b2) ∧ Below wc.heap.size wc wx)
      case first =>
        go_region_held3 (fun w' => w'.cell? ⟨w.heap.size, 2, none⟩ = some (.int .i64 pw) ∧ w'.cell? ⟨w.heap.size, 4, none⟩ = some (.int .i64 ppw)) (first | go_keep | (exact HPC.out _ hbq3) | (exact HPC.out _ (hbq3.alloc hbq3.size _)) | (exact HPC.out _ hbq4) | (exact HPC.out _ (then_ hbq4 hb5)))
          (first | (go_at_call 82; (with_reducible refine (of_any _ 1 1 [⟨Y, yn, yc, ys⟩] _ ?_ ?_ ?_ ?_).mono ?_); (first | exact (rd_at _ _ rfl rfl).drew | exact ((rd_at _ _ rfl rfl).alloc _).drew | exact (rd_at _ _ (by simp) rfl).drew); rfl; omega; (intro l hl; rw [List.mem_singleton] at hl; subst hl; exact hry.below (by first | exact ((Below.refl _ _).alloc (Nat.le_refl _) _).drew | exact (((Below.refl _ _).alloc (Nat.le_refl _) _).alloc (by simp) _).drew)); rintro e w3 ⟨hb3, caps3, rfl, hfv3⟩; have hbq3 : Below wc.heap.size wc w3 := Below.trans (by first | exact ((Below.refl _ _).alloc (Nat.le_refl _) _).drew | exact (((Below.refl _ _).alloc (Nat.le_refl _) _).alloc (by simp) _).drew) (hb3.mono (by simp; try omega))) | (go_at_call 82; (with_reducible refine (of_any _ 2 2 [⟨Y, yn, yc, ys⟩, ⟨Z, zn, zc, zs⟩] _ ?_ ?_ ?_ ?_).mono ?_); (first | exact rd_at _ _ rfl rfl | exact ((rd_at _ _ (by simp) rfl).drew).below hb3 | exact (((rd_at _ _ rfl rfl).alloc _).drew).below hb3); rfl; omega; (intro l hl; simp only [List.mem_cons, List.not_mem_nil, or_false] at hl; rcases hl with rfl | rfl; exact hry.below (by first | exact hbq3 | exact hbq3.alloc hbq3.size _); exact hrz.below (by first | exact hbq3 | exact hbq3.alloc hbq3.size _)); rintro e w4 ⟨hb4, caps4, rfl, hfv4⟩; have hb34 : Below w3.heap.size w3 w4 := (by first | exact hb4 | exact ba hb4); have hbq4 := then_ hbq3 hb34) | (go_at_call 85; refine (possibleE_any A n c l _ _ _ _ (fun s => mem s ys) (fun s => mem s ys || mem s zs) pw ppw _ (by exact hrl.below hbq4) HN.out hm ((fv_one hfv3).below hb34) (fv_two hfv4)).mono ?_; rintro e w5 ⟨rfl, hb5⟩; rw [HE2.out]))
        all_goals (go_wp2_with fail; go_meet; exact ⟨rfl, then_ hbq4 hb5⟩)
      case rest =>
        obtain ⟨rfl, hbw3⟩ := hcut
        have hbw5 := then_ hbw hbw3
        cases b2
        all_goals
          go_wp2
          go_ret
          exact ⟨ret_int (by rw [HRES.out]; rfl), hbw5⟩
    · go_wp2
      go_ret
      exact ⟨ret_int (by rw [HRES.out]; rfl), then_ hb0 hbw2⟩
end Go.Proofs.Ytebfmacbdjnhbaa
