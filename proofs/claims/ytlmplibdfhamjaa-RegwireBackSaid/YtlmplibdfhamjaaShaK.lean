/- sha: what must come; the walks of the laws. -/
import Derived.Test.YtlmplibdfhamjaaShaJ
namespace Go.Proofs.Ytlmplibdfhamjaa
open Go.RowKit Go.Mem Go.Num
set_option linter.unusedVariables false
set_option maxRecDepth 100000 in
theorem hex_none : bs (Sha.digits (Sha.sum [])) = ⟨#[101, 51, 98, 48, 99, 52, 52, 50, 57, 56, 102, 99, 49, 99, 49, 52, 57, 97, 102, 98, 102, 52, 99, 56, 57, 57, 54, 102, 98, 57, 50, 52, 50, 55, 97, 101, 52, 49, 101, 52, 54, 52, 57, 98, 57, 51, 52, 99, 97, 52, 57, 53, 57, 57, 49, 98, 55, 56, 53, 50, 98, 56, 53, 53]⟩ := by decide +kernel
set_option maxRecDepth 100000 in
theorem hex_abc : bs (Sha.digits (Sha.sum [97, 98, 99])) = ⟨#[98, 97, 55, 56, 49, 54, 98, 102, 56, 102, 48, 49, 99, 102, 101, 97, 52, 49, 52, 49, 52, 48, 100, 101, 53, 100, 97, 101, 50, 50, 50, 51, 98, 48, 48, 51, 54, 49, 97, 51, 57, 54, 49, 55, 55, 97, 57, 99, 98, 52, 49, 48, 102, 102, 54, 49, 102, 50, 48, 48, 49, 53, 97, 100]⟩ := by decide +kernel
theorem sum_length (l : List UInt8) : (Sha.sum l).length = 32 := by
  unfold Sha.sum Sha.out
  rw [flat4_length]
  rfl
theorem lists_inj {ss ts : List ByteArray} (h : (ss.map fun s => s.data.toList) = ts.map fun s => s.data.toList) : ss = ts := by
  have h1 := congrArg (List.map bs) h
  rw [List.map_map, List.map_map] at h1
  have : (bs ∘ fun s : ByteArray => s.data.toList) = id := by funext x; exact bs_of x
  rwa [this, List.map_id, List.map_id] at h1
theorem textsB_inj {ss ts : List ByteArray} (h1 : ss.length ≤ 20) (h2 : ∀ s ∈ ss, s.size ≤ 1024) (h3 : ts.length ≤ 20) (h4 : ∀ s ∈ ts, s.size ≤ 1024) (h : textsB ss = textsB ts) : ss = ts := by
  have key : ∀ {us : List ByteArray}, us.length ≤ 20 → (∀ s ∈ us, s.size ≤ 1024) → rdTexts (textsB us, true) = (us.map fun s => s.data.toList, ([], true)) := by
    intro us h1 h2
    have := rdTexts_app (us.map fun s => s.data.toList) [] (fun t ht => by
      obtain ⟨x, hx, rfl⟩ := List.mem_map.1 ht
      have := h2 x hx
      simp
      omega) (by rw [List.length_map]; omega)
    rw [List.append_nil, ← textsB_tx] at this
    exact this
  have k1 := key h1 h2
  have k2 := key h3 h4
  rw [h, k2] at k1
  injection k1 with k1
  exact (lists_inj k1).symm

end Go.Proofs.Ytlmplibdfhamjaa
