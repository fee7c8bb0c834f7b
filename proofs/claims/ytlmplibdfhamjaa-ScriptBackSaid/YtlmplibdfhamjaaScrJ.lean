/- What must come of the law of scripts, whatever the arguments are. -/
import Derived.Test.YtlmplibdfhamjaaScrI
attribute [local go_sem ↓] Go.wp_at_zero Go.wp_at_succ
namespace Go.Proofs.Ytlmplibdfhamjaa
open Go.RowKit Go.Mem Go.Num
set_option linter.unusedVariables false
set_option linter.unusedSimpArgs false

def aM : Memb := ⟨⟨#[97]⟩, ⟨#[]⟩, ⟨#[]⟩, true⟩
def aN : Ent := ⟨⟨#[107]⟩, ⟨1, ⟨#[]⟩, ⟨#[]⟩⟩⟩
def aV1 : Ev := ⟨6, ⟨#[97]⟩, ⟨#[]⟩, ⟨#[]⟩, -1, zCal, zAdm⟩
def aV2 : Ev := ⟨1, ⟨#[]⟩, ⟨#[]⟩, ⟨#[116]⟩, 0, ⟨1, ⟨#[]⟩, ⟨#[]⟩, ⟨#[120]⟩, ⟨#[]⟩, zCtx, 0⟩, zAdm⟩
def sb47 : ByteArray := bs (scrB [aM] [aN] [aV1, aV2])
def sx47 : ByteArray := sb47 ++ ⟨#[120]⟩
theorem aw47_g : scrGood sb47 = true := by kernel_rfl
theorem aw47_m : scrM sb47 = [aM] := by kernel_rfl
theorem aw47_e : scrE sb47 = [aN] := by kernel_rfl
theorem aw47_l : scrL sb47 = [aV1, aV2] := by kernel_rfl
theorem aw47_r : scrErr sb47 = 0 := by kernel_rfl
theorem aw47_x : scrErr sx47 = 3 := by kernel_rfl
theorem aw47_z : (bs (scrB [] [] [])).size = 12 := by kernel_rfl
theorem aw47_s : sb47.size ≤ 1048576 ∧ sx47.size ≤ 1048576 := ⟨by decide +kernel, by decide +kernel⟩
theorem aw47_k : (scrB [aM] [aN] [aV1, aV2]).length + 1024 ≤ 140737488355328 := by decide +kernel
theorem aV_ok (w : World) : ∀ y ∈ [aV1, aV2], y.ok w := fun y hy => by
  simp only [List.mem_cons, List.not_mem_nil, or_false] at hy
  rcases hy with rfl | rfl
  · exact ⟨by decide, by decide, by decide, by decide, by decide, zCal_ok w, zAdm_ok w⟩
  · exact ⟨by decide, by decide, by decide, by decide, by decide, ⟨by decide, by decide, by decide, by decide, by decide, ⟨fun j u hj => by simp [aV2, zCtx] at hj, rfl, Nat.zero_le _, fun m hm => by simp [aV2, zCtx] at hm⟩, by decide⟩, zAdm_ok w⟩
theorem aN_ok (w : World) : ∀ m ∈ [aN], m.ok w := fun m hm => by rw [List.mem_singleton] at hm; subst hm; exact ⟨by decide, by decide, by decide, by decide⟩
theorem aEv_bare : [aV1, aV2].map Ev.bare = [aV1, aV2] := rfl
theorem one_max : 1 ≤ maxLen := by decide
theorem two_max : 2 ≤ maxLen := by decide
def TrueW (w : World) (e : Ending) (w' : World) : Prop := e = .returned (.bool true) ∧ Below w.heap.size w w'
set_option maxRecDepth 100000 in
set_option maxHeartbeats 4000000 in
theorem awake47_any (w : World) : Calls Try.prog 13 #[] w (TrueW w) := by
  have hz1 : (w.alloc (.cells #[.string ⟨#[97]⟩, .string ⟨#[]⟩, .string ⟨#[]⟩, .bool true] 82)).heap.size = w.heap.size + 1 := by simp
  have hz2 : ((w.alloc (.cells #[.string ⟨#[97]⟩, .string ⟨#[]⟩, .string ⟨#[]⟩, .bool true] 82)).alloc (.cells #[.string ⟨#[107]⟩, .int .i64 1, .string ⟨#[]⟩, .string ⟨#[]⟩] 47)).heap.size = w.heap.size + 1 + 1 := by simp
  have hz3 : (((w.alloc (.cells #[.string ⟨#[97]⟩, .string ⟨#[]⟩, .string ⟨#[]⟩, .bool true] 82)).alloc (.cells #[.string ⟨#[107]⟩, .int .i64 1, .string ⟨#[]⟩, .string ⟨#[]⟩] 47)).alloc (.cells #[.slice (some ⟨w.heap.size, 0, none⟩) 1 1, .slice (some ⟨w.heap.size + 1, 0, none⟩) 1 1] 26)).heap.size = w.heap.size + 1 + 1 + 1 := by simp
  have hm0 : Mems.ok ((((w.alloc (.cells #[.string ⟨#[97]⟩, .string ⟨#[]⟩, .string ⟨#[]⟩, .bool true] 82)).alloc (.cells #[.string ⟨#[107]⟩, .int .i64 1, .string ⟨#[]⟩, .string ⟨#[]⟩] 47)).alloc (.cells #[.slice (some ⟨w.heap.size, 0, none⟩) 1 1, .slice (some ⟨w.heap.size + 1, 0, none⟩) 1 1] 26)).alloc (.cells #[.int .i64 6, .string ⟨#[97]⟩, .string ⟨#[]⟩, .string ⟨#[]⟩, .int .i64 (-1), .int .i64 0, .string ⟨#[]⟩, .string ⟨#[]⟩, .string ⟨#[]⟩, .string ⟨#[]⟩, .slice none 0 0, .int .i64 0, .int .i64 0, .string ⟨#[]⟩, .string ⟨#[]⟩, .string ⟨#[]⟩, .string ⟨#[]⟩, .int .i64 0, .string ⟨#[]⟩, .string ⟨#[]⟩, .string ⟨#[]⟩, .bool false, .int .i64 1, .string ⟨#[]⟩, .string ⟨#[]⟩, .string ⟨#[116]⟩, .int .i64 0, .int .i64 1, .string ⟨#[]⟩, .string ⟨#[]⟩, .string ⟨#[120]⟩, .string ⟨#[]⟩, .slice none 0 0, .int .i64 0, .int .i64 0, .string ⟨#[]⟩, .string ⟨#[]⟩, .string ⟨#[]⟩, .string ⟨#[]⟩, .int .i64 0, .string ⟨#[]⟩, .string ⟨#[]⟩, .string ⟨#[]⟩, .bool false] 89)) ⟨some ⟨w.heap.size, 0, none⟩, 1, 1, [aM]⟩ := ⟨(((Rd.new w #[.string ⟨#[97]⟩, .string ⟨#[]⟩, .string ⟨#[]⟩, .bool true] 82).alloc _).alloc _).alloc _, rfl, one_max⟩
  have he0 : Ents.ok ((((w.alloc (.cells #[.string ⟨#[97]⟩, .string ⟨#[]⟩, .string ⟨#[]⟩, .bool true] 82)).alloc (.cells #[.string ⟨#[107]⟩, .int .i64 1, .string ⟨#[]⟩, .string ⟨#[]⟩] 47)).alloc (.cells #[.slice (some ⟨w.heap.size, 0, none⟩) 1 1, .slice (some ⟨w.heap.size + 1, 0, none⟩) 1 1] 26)).alloc (.cells #[.int .i64 6, .string ⟨#[97]⟩, .string ⟨#[]⟩, .string ⟨#[]⟩, .int .i64 (-1), .int .i64 0, .string ⟨#[]⟩, .string ⟨#[]⟩, .string ⟨#[]⟩, .string ⟨#[]⟩, .slice none 0 0, .int .i64 0, .int .i64 0, .string ⟨#[]⟩, .string ⟨#[]⟩, .string ⟨#[]⟩, .string ⟨#[]⟩, .int .i64 0, .string ⟨#[]⟩, .string ⟨#[]⟩, .string ⟨#[]⟩, .bool false, .int .i64 1, .string ⟨#[]⟩, .string ⟨#[]⟩, .string ⟨#[116]⟩, .int .i64 0, .int .i64 1, .string ⟨#[]⟩, .string ⟨#[]⟩, .string ⟨#[120]⟩, .string ⟨#[]⟩, .slice none 0 0, .int .i64 0, .int .i64 0, .string ⟨#[]⟩, .string ⟨#[]⟩, .string ⟨#[]⟩, .string ⟨#[]⟩, .int .i64 0, .string ⟨#[]⟩, .string ⟨#[]⟩, .string ⟨#[]⟩, .bool false] 89)) ⟨some ⟨w.heap.size + 1, 0, none⟩, 1, 1, [aN]⟩ := ⟨(by have h := ((Rd.new (w.alloc (.cells #[.string ⟨#[97]⟩, .string ⟨#[]⟩, .string ⟨#[]⟩, .bool true] 82)) #[.string ⟨#[107]⟩, .int .i64 1, .string ⟨#[]⟩, .string ⟨#[]⟩] 47).alloc (.cells #[.slice (some ⟨w.heap.size, 0, none⟩) 1 1, .slice (some ⟨w.heap.size + 1, 0, none⟩) 1 1] 26)).alloc (.cells #[.int .i64 6, .string ⟨#[97]⟩, .string ⟨#[]⟩, .string ⟨#[]⟩, .int .i64 (-1), .int .i64 0, .string ⟨#[]⟩, .string ⟨#[]⟩, .string ⟨#[]⟩, .string ⟨#[]⟩, .slice none 0 0, .int .i64 0, .int .i64 0, .string ⟨#[]⟩, .string ⟨#[]⟩, .string ⟨#[]⟩, .string ⟨#[]⟩, .int .i64 0, .string ⟨#[]⟩, .string ⟨#[]⟩, .string ⟨#[]⟩, .bool false, .int .i64 1, .string ⟨#[]⟩, .string ⟨#[]⟩, .string ⟨#[116]⟩, .int .i64 0, .int .i64 1, .string ⟨#[]⟩, .string ⟨#[]⟩, .string ⟨#[120]⟩, .string ⟨#[]⟩, .slice none 0 0, .int .i64 0, .int .i64 0, .string ⟨#[]⟩, .string ⟨#[]⟩, .string ⟨#[]⟩, .string ⟨#[]⟩, .int .i64 0, .string ⟨#[]⟩, .string ⟨#[]⟩, .string ⟨#[]⟩, .bool false] 89); rw [hz1] at h; exact h), rfl, one_max, aN_ok _⟩
  have hx0 : Evs.ok ((((w.alloc (.cells #[.string ⟨#[97]⟩, .string ⟨#[]⟩, .string ⟨#[]⟩, .bool true] 82)).alloc (.cells #[.string ⟨#[107]⟩, .int .i64 1, .string ⟨#[]⟩, .string ⟨#[]⟩] 47)).alloc (.cells #[.slice (some ⟨w.heap.size, 0, none⟩) 1 1, .slice (some ⟨w.heap.size + 1, 0, none⟩) 1 1] 26)).alloc (.cells #[.int .i64 6, .string ⟨#[97]⟩, .string ⟨#[]⟩, .string ⟨#[]⟩, .int .i64 (-1), .int .i64 0, .string ⟨#[]⟩, .string ⟨#[]⟩, .string ⟨#[]⟩, .string ⟨#[]⟩, .slice none 0 0, .int .i64 0, .int .i64 0, .string ⟨#[]⟩, .string ⟨#[]⟩, .string ⟨#[]⟩, .string ⟨#[]⟩, .int .i64 0, .string ⟨#[]⟩, .string ⟨#[]⟩, .string ⟨#[]⟩, .bool false, .int .i64 1, .string ⟨#[]⟩, .string ⟨#[]⟩, .string ⟨#[116]⟩, .int .i64 0, .int .i64 1, .string ⟨#[]⟩, .string ⟨#[]⟩, .string ⟨#[120]⟩, .string ⟨#[]⟩, .slice none 0 0, .int .i64 0, .int .i64 0, .string ⟨#[]⟩, .string ⟨#[]⟩, .string ⟨#[]⟩, .string ⟨#[]⟩, .int .i64 0, .string ⟨#[]⟩, .string ⟨#[]⟩, .string ⟨#[]⟩, .bool false] 89)) ⟨some ⟨w.heap.size + 1 + 1 + 1, 0, none⟩, 2, 2, [aV1, aV2]⟩ := ⟨(by have h := Rd.new (((w.alloc (.cells #[.string ⟨#[97]⟩, .string ⟨#[]⟩, .string ⟨#[]⟩, .bool true] 82)).alloc (.cells #[.string ⟨#[107]⟩, .int .i64 1, .string ⟨#[]⟩, .string ⟨#[]⟩] 47)).alloc (.cells #[.slice (some ⟨w.heap.size, 0, none⟩) 1 1, .slice (some ⟨w.heap.size + 1, 0, none⟩) 1 1] 26)) #[.int .i64 6, .string ⟨#[97]⟩, .string ⟨#[]⟩, .string ⟨#[]⟩, .int .i64 (-1), .int .i64 0, .string ⟨#[]⟩, .string ⟨#[]⟩, .string ⟨#[]⟩, .string ⟨#[]⟩, .slice none 0 0, .int .i64 0, .int .i64 0, .string ⟨#[]⟩, .string ⟨#[]⟩, .string ⟨#[]⟩, .string ⟨#[]⟩, .int .i64 0, .string ⟨#[]⟩, .string ⟨#[]⟩, .string ⟨#[]⟩, .bool false, .int .i64 1, .string ⟨#[]⟩, .string ⟨#[]⟩, .string ⟨#[116]⟩, .int .i64 0, .int .i64 1, .string ⟨#[]⟩, .string ⟨#[]⟩, .string ⟨#[120]⟩, .string ⟨#[]⟩, .slice none 0 0, .int .i64 0, .int .i64 0, .string ⟨#[]⟩, .string ⟨#[]⟩, .string ⟨#[]⟩, .string ⟨#[]⟩, .int .i64 0, .string ⟨#[]⟩, .string ⟨#[]⟩, .string ⟨#[]⟩, .bool false] 89; rw [hz3] at h; exact h), rfl, two_max, aV_ok _⟩
  have hs0 : SBox 26 #[.slice (some ⟨w.heap.size, 0, none⟩) 1 1, .slice (some ⟨w.heap.size + 1, 0, none⟩) 1 1] (w.heap.size + 1 + 1) ((((w.alloc (.cells #[.string ⟨#[97]⟩, .string ⟨#[]⟩, .string ⟨#[]⟩, .bool true] 82)).alloc (.cells #[.string ⟨#[107]⟩, .int .i64 1, .string ⟨#[]⟩, .string ⟨#[]⟩] 47)).alloc (.cells #[.slice (some ⟨w.heap.size, 0, none⟩) 1 1, .slice (some ⟨w.heap.size + 1, 0, none⟩) 1 1] 26)).alloc (.cells #[.int .i64 6, .string ⟨#[97]⟩, .string ⟨#[]⟩, .string ⟨#[]⟩, .int .i64 (-1), .int .i64 0, .string ⟨#[]⟩, .string ⟨#[]⟩, .string ⟨#[]⟩, .string ⟨#[]⟩, .slice none 0 0, .int .i64 0, .int .i64 0, .string ⟨#[]⟩, .string ⟨#[]⟩, .string ⟨#[]⟩, .string ⟨#[]⟩, .int .i64 0, .string ⟨#[]⟩, .string ⟨#[]⟩, .string ⟨#[]⟩, .bool false, .int .i64 1, .string ⟨#[]⟩, .string ⟨#[]⟩, .string ⟨#[116]⟩, .int .i64 0, .int .i64 1, .string ⟨#[]⟩, .string ⟨#[]⟩, .string ⟨#[120]⟩, .string ⟨#[]⟩, .slice none 0 0, .int .i64 0, .int .i64 0, .string ⟨#[]⟩, .string ⟨#[]⟩, .string ⟨#[]⟩, .string ⟨#[]⟩, .int .i64 0, .string ⟨#[]⟩, .string ⟨#[]⟩, .string ⟨#[]⟩, .bool false] 89)) := by have h := (SBox.new ((w.alloc (.cells #[.string ⟨#[97]⟩, .string ⟨#[]⟩, .string ⟨#[]⟩, .bool true] 82)).alloc (.cells #[.string ⟨#[107]⟩, .int .i64 1, .string ⟨#[]⟩, .string ⟨#[]⟩] 47)) 26 #[.slice (some ⟨w.heap.size, 0, none⟩) 1 1, .slice (some ⟨w.heap.size + 1, 0, none⟩) 1 1]).alloc' (.cells #[.int .i64 6, .string ⟨#[97]⟩, .string ⟨#[]⟩, .string ⟨#[]⟩, .int .i64 (-1), .int .i64 0, .string ⟨#[]⟩, .string ⟨#[]⟩, .string ⟨#[]⟩, .string ⟨#[]⟩, .slice none 0 0, .int .i64 0, .int .i64 0, .string ⟨#[]⟩, .string ⟨#[]⟩, .string ⟨#[]⟩, .string ⟨#[]⟩, .int .i64 0, .string ⟨#[]⟩, .string ⟨#[]⟩, .string ⟨#[]⟩, .bool false, .int .i64 1, .string ⟨#[]⟩, .string ⟨#[]⟩, .string ⟨#[116]⟩, .int .i64 0, .int .i64 1, .string ⟨#[]⟩, .string ⟨#[]⟩, .string ⟨#[120]⟩, .string ⟨#[]⟩, .slice none 0 0, .int .i64 0, .int .i64 0, .string ⟨#[]⟩, .string ⟨#[]⟩, .string ⟨#[]⟩, .string ⟨#[]⟩, .int .i64 0, .string ⟨#[]⟩, .string ⟨#[]⟩, .string ⟨#[]⟩, .bool false] 89); rw [hz2] at h; exact h
  have hb0 : Below w.heap.size w ((((w.alloc (.cells #[.string ⟨#[97]⟩, .string ⟨#[]⟩, .string ⟨#[]⟩, .bool true] 82)).alloc (.cells #[.string ⟨#[107]⟩, .int .i64 1, .string ⟨#[]⟩, .string ⟨#[]⟩] 47)).alloc (.cells #[.slice (some ⟨w.heap.size, 0, none⟩) 1 1, .slice (some ⟨w.heap.size + 1, 0, none⟩) 1 1] 26)).alloc (.cells #[.int .i64 6, .string ⟨#[97]⟩, .string ⟨#[]⟩, .string ⟨#[]⟩, .int .i64 (-1), .int .i64 0, .string ⟨#[]⟩, .string ⟨#[]⟩, .string ⟨#[]⟩, .string ⟨#[]⟩, .slice none 0 0, .int .i64 0, .int .i64 0, .string ⟨#[]⟩, .string ⟨#[]⟩, .string ⟨#[]⟩, .string ⟨#[]⟩, .int .i64 0, .string ⟨#[]⟩, .string ⟨#[]⟩, .string ⟨#[]⟩, .bool false, .int .i64 1, .string ⟨#[]⟩, .string ⟨#[]⟩, .string ⟨#[116]⟩, .int .i64 0, .int .i64 1, .string ⟨#[]⟩, .string ⟨#[]⟩, .string ⟨#[120]⟩, .string ⟨#[]⟩, .slice none 0 0, .int .i64 0, .int .i64 0, .string ⟨#[]⟩, .string ⟨#[]⟩, .string ⟨#[]⟩, .string ⟨#[]⟩, .int .i64 0, .string ⟨#[]⟩, .string ⟨#[]⟩, .string ⟨#[]⟩, .bool false] 89)) := ((((Below.refl _ _).alloc (Nat.le_refl _) _).alloc (by rw [hz1]; omega) _).alloc (by rw [hz2]; omega) _).alloc (by rw [hz3]; omega) _
  have HM := Lib.hid hm0; have HE := Lib.hid he0; have HV := Lib.hid hx0; have HS := Lib.hid hs0; have HB := Lib.hid hb0
  clear hz1 hz2 hz3 hm0 he0 hx0 hs0 hb0
  have s0 := HS.out.cell 0 rfl; have s1 := HS.out.cell 1 rfl
  go_enter Try.func13, Try.ntmps13
  go_wp2_with fail
  generalize ((((w.alloc (.cells #[.string ⟨#[97]⟩, .string ⟨#[]⟩, .string ⟨#[]⟩, .bool true] 82)).alloc (.cells #[.string ⟨#[107]⟩, .int .i64 1, .string ⟨#[]⟩, .string ⟨#[]⟩] 47)).alloc (.cells #[.slice (some ⟨w.heap.size, 0, none⟩) 1 1, .slice (some ⟨w.heap.size + 1, 0, none⟩) 1 1] 26)).alloc (.cells #[.int .i64 6, .string ⟨#[97]⟩, .string ⟨#[]⟩, .string ⟨#[]⟩, .int .i64 (-1), .int .i64 0, .string ⟨#[]⟩, .string ⟨#[]⟩, .string ⟨#[]⟩, .string ⟨#[]⟩, .slice none 0 0, .int .i64 0, .int .i64 0, .string ⟨#[]⟩, .string ⟨#[]⟩, .string ⟨#[]⟩, .string ⟨#[]⟩, .int .i64 0, .string ⟨#[]⟩, .string ⟨#[]⟩, .string ⟨#[]⟩, .bool false, .int .i64 1, .string ⟨#[]⟩, .string ⟨#[]⟩, .string ⟨#[116]⟩, .int .i64 0, .int .i64 1, .string ⟨#[]⟩, .string ⟨#[]⟩, .string ⟨#[120]⟩, .string ⟨#[]⟩, .slice none 0 0, .int .i64 0, .int .i64 0, .string ⟨#[]⟩, .string ⟨#[]⟩, .string ⟨#[]⟩, .string ⟨#[]⟩, .int .i64 0, .string ⟨#[]⟩, .string ⟨#[]⟩, .string ⟨#[]⟩, .bool false] 89)) = W4 at *
  refine (sBytes_any ⟨some ⟨w.heap.size, 0, none⟩, 1, 1, [aM]⟩ ⟨some ⟨w.heap.size + 1, 0, none⟩, 1, 1, [aN]⟩ ⟨some ⟨w.heap.size + 1 + 1 + 1, 0, none⟩, 2, 2, [aV1, aV2]⟩ W4 HM.out HE.out HV.out aw47_k).mono ?_
  clear s0 s1
  intro e w1 hsay
  obtain ⟨t, ht, rfl, hb1⟩ : ∃ t, t = sb47 ∧ e = .returned (.string t) ∧ Below W4.heap.size W4 w1 := ⟨_, rfl, hsay.1, hsay.2⟩
  have HO1 := Lib.hid (fun (W : World) => show Calls Try.prog 14 #[.string t] W (OfS sb47 W) from by rw [ht]; exact sOf_any sb47 W aw47_s.1)
  have HO2 := Lib.hid (fun (W : World) => show Calls Try.prog 14 #[.string (t ++ ⟨#[120]⟩)] W (OfS sx47 W) from by rw [ht]; exact sOf_any sx47 W aw47_s.2)
  have q1 : ¬ 9223372036854775807 < t.size + 1 := by have := aw47_s.1; rw [ht]; omega
  have HB := Lib.hid (then_ HB.out hb1); have HM := Lib.hid (HM.out.below hb1); have HE := Lib.hid (HE.out.below hb1); have HV := Lib.hid (HV.out.below hb1); have HS := Lib.hid (HS.out.below hb1)
  clear hsay ht hb1
  go_wp2_with fail
  refine (HO1.out _).mono ?_
  rintro e w2 ⟨⟨mA, mn, mc, ms⟩, ⟨eA, en, ec, es⟩, ⟨xA, xn, xc, xs⟩, rfl, hm, he, hx, g1, g2, g3, hb2⟩
  rw [aw47_m] at g1; rw [aw47_e] at g2; rw [aw47_l] at g3
  rw [aw47_r]
  have HB := Lib.hid ((then_ HB.out hb2).alloc (by have := (then_ HB.out hb2).size; omega) (.cells #[.slice mA mn mc, .slice eA en ec] 26))
  have ha : Below w2.heap.size w2 (w2.alloc (.cells #[.slice mA mn mc, .slice eA en ec] 26)) := (Below.refl _ _).alloc (Nat.le_refl _) _
  have HM := Lib.hid ((HM.out.below hb2).below ha); have HE := Lib.hid ((HE.out.below hb2).below ha); have HV := Lib.hid ((HV.out.below hb2).below ha); have HS := Lib.hid ((HS.out.below hb2).below ha)
  have HM2 := Lib.hid (hm.below ha); have HE2 := Lib.hid (he.below ha); have HV2 := Lib.hid (hx.below ha)
  have HS2 := Lib.hid (SBox.new w2 26 #[.slice mA mn mc, .slice eA en ec])
  have G1 := Lib.hid g1; have G2 := Lib.hid g2; have G3 := Lib.hid g3
  clear hm he hx g1 g2 g3 hb2 ha
  simp only [setup, Evs.v]
  go_wp2_with fail
  generalize w2.alloc (.cells #[.slice mA mn mc, .slice eA en ec] 26) = W5 at HB HM HE HV HS HM2 HE2 HV2 HS2 ⊢
  refine (HO2.out _).mono ?_
  clear q1
  rintro e w3 ⟨⟨mA', mn', mc', ms'⟩, ⟨eA', en', ec', es'⟩, ⟨xA', xn', xc', xs'⟩, rfl, -, -, -, -, -, -, hb3⟩
  rw [aw47_x]
  simp only [setup, Evs.v]
  have hb4 : Below W5.heap.size W5 (w3.alloc (.cells #[.slice mA' mn' mc', .slice eA' en' ec'] 26)) := hb3.alloc hb3.size _
  have HB := Lib.hid (then_ HB.out hb4)
  have HM := Lib.hid (HM.out.below hb4); have HE := Lib.hid (HE.out.below hb4); have HV := Lib.hid (HV.out.below hb4); have HS := Lib.hid (HS.out.below hb4)
  have HM2 := Lib.hid (HM2.out.below hb4); have HE2 := Lib.hid (HE2.out.below hb4); have HV2 := Lib.hid (HV2.out.below hb4); have HS2 := Lib.hid (HS2.out.below hb4)
  clear hb3 hb4
  go_wp2_with fail
  generalize w3.alloc (.cells #[.slice mA' mn' mc', .slice eA' en' ec'] 26) = W6 at HB HM HE HV HS HM2 HE2 HV2 HS2 ⊢
  refine (sBytes_any ⟨none, 0, 0, []⟩ ⟨none, 0, 0, []⟩ ⟨none, 0, 0, []⟩ W6 ⟨fun j u hj => by simp at hj, rfl, Nat.zero_le _⟩ ⟨fun j u hj => by simp at hj, rfl, Nat.zero_le _, fun m hm => by simp at hm⟩ ⟨fun j u hj => by simp at hj, rfl, Nat.zero_le _, fun m hm => by simp at hm⟩ (by decide +kernel)).mono ?_
  intro e w7 hsay
  obtain ⟨t0, ht0, rfl, hb7⟩ : ∃ t0 : ByteArray, t0.size = 12 ∧ e = .returned (.string t0) ∧ Below W6.heap.size W6 w7 := ⟨_, aw47_z, hsay.1, hsay.2⟩
  clear hsay
  have HB := Lib.hid (then_ HB.out hb7)
  have HM := Lib.hid (HM.out.below hb7); have HE := Lib.hid (HE.out.below hb7); have HV := Lib.hid (HV.out.below hb7); have HS := Lib.hid (HS.out.below hb7)
  have HM2 := Lib.hid (HM2.out.below hb7); have HE2 := Lib.hid (HE2.out.below hb7); have HV2 := Lib.hid (HV2.out.below hb7); have HS2 := Lib.hid (HS2.out.below hb7)
  clear hb7
  have s0 := HS.out.cell 0 rfl; have s1 := HS.out.cell 1 rfl
  have r0 := HS2.out.cell 0 rfl; have r1 := HS2.out.cell 1 rfl
  go_wp2_with fail
  clear s0 s1 r0 r1
  refine (same47_any ⟨some ⟨w.heap.size, 0, none⟩, 1, 1, [aM]⟩ ⟨mA, mn, mc, ms⟩ ⟨some ⟨w.heap.size + 1, 0, none⟩, 1, 1, [aN]⟩ ⟨eA, en, ec, es⟩ ⟨some ⟨w.heap.size + 1 + 1 + 1, 0, none⟩, 2, 2, [aV1, aV2]⟩ ⟨xA, xn, xc, xs⟩ w7 HM.out HM2.out HE.out HE2.out HV.out HV2.out G1.out.symm G2.out.symm (by rw [G3.out]; rfl) (by show 2 ≤ 100000; decide)).mono ?_
  rintro e w8 ⟨rfl, hb8⟩
  go_wp2
  go_ret
  exact ⟨rfl, then_ HB.out hb8⟩
end Go.Proofs.Ytlmplibdfhamjaa
