/- What is read of bytes has no more bytes than those that were taken: plain. -/
import Derived.Test.YtlmplibdfhamjaaScrX
import Derived.Test.YtlmplibdfhamjaaWireC
import Derived.Test.YtlmplibdfhamjaaScrP
namespace Go.Proofs.Ytlmplibdfhamjaa
open Go.RowKit Go.Mem Go.Num
set_option linter.unusedVariables false
set_option linter.unusedSimpArgs false

/-- where the reader is still good behind it, it was good ahead, and what was read has no more bytes than were taken -/
def Uses {T : Type} (enc : T → Nat) (rd : St → T × St) : Prop := ∀ st, (rd st).2.2 = true → st.2 = true ∧ enc (rd st).1 + (rd st).2.1.length ≤ st.1.length
theorem uses_tk (n : Nat) (st : St) (h : (tk n st).2.2 = true) : st.2 = true ∧ (tk n st).1.length = n ∧ n + (tk n st).2.1.length ≤ st.1.length := by
  unfold tk at h ⊢
  split at h
  · rename_i h2
    rw [if_pos h2]
    simp only [List.length_take, List.length_drop]
    exact ⟨h2.1, by omega, by omega⟩
  · simp at h
theorem uses_num (k : Nat) : Uses (fun _ => k) (rdNum k) := fun st h => by
  have := uses_tk k st h
  exact ⟨this.1, this.2.2⟩
theorem uses_count (most : Int) : Uses (fun _ => 4) (rdCount most) := fun st h => by
  unfold rdCount at h ⊢
  split at h
  · simp at h
  · rename_i h2
    rw [if_neg h2]
    exact uses_num 4 st h
theorem uses_text : Uses (fun t => 4 + t.length) rdText := fun st h => by
  unfold rdText at h ⊢
  have h1 := uses_tk _ _ h
  have h2 := uses_count 1048576 st h1.1
  refine ⟨h2.1, ?_⟩
  have := h2.2
  try dsimp only at *
  omega
theorem uses_sev {T : Type} {enc : T → Nat} {rd : St → T × St} (hr : Uses enc rd) : ∀ n st, (sevG rd n st).2.2 = true → st.2 = true ∧ ((sevG rd n st).1.map enc).sum + (sevG rd n st).2.1.length ≤ st.1.length
  | 0, st, h => ⟨h, by simp [sevG]⟩
  | n + 1, st, h => by
    cases hg : st.2 with
    | false => rw [sevG_bad _ _ _ hg] at h; rw [hg] at h; cases h
    | true =>
      rw [sevG_step _ _ _ hg] at h ⊢
      simp only at h ⊢
      have h1 := uses_sev hr n (rd st).2 h
      have h2 := hr st h1.1
      refine ⟨trivial, ?_⟩
      simp only [List.map_cons, List.sum_cons]
      have := h1.2; have := h2.2
      try dsimp only at *
      omega
theorem uses_all {T : Type} {enc : T → Nat} {rd : St → T × St} (hr : Uses enc rd) (most : Int) : Uses (fun l => 4 + (l.map enc).sum) (rdAll rd most) := fun st h => by
  unfold rdAll at h ⊢
  simp only at h ⊢
  have h1 := uses_sev hr _ _ h
  have h2 := uses_count most st h1.1
  refine ⟨h2.1, ?_⟩
  unfold outT
  rw [if_pos h]
  have := h1.2; have := h2.2
  try dsimp only at *
  omega
theorem uses_sevC {T : Type} {enc : T → Nat} {rd : St → T × St} (hr : Uses enc rd) (most : Int) : Uses (fun l => 4 + (l.map enc).sum) (rdSev rd most) := fun st h => by
  unfold rdSev at h ⊢
  have h1 := uses_sev hr _ _ h
  have h2 := uses_count most st h1.1
  refine ⟨h2.1, ?_⟩
  have := h1.2; have := h2.2
  try dsimp only at *
  omega
theorem flat_sum {T : Type} (f : T → List UInt8) (l : List T) : (l.flatMap f).length = (l.map fun x => (f x).length).sum := by
  induction l with
  | nil => rfl
  | cons x l ih => rw [List.flatMap_cons, List.length_append, ih]; rfl
theorem uses_nums : Uses (fun x : Nums => (numsB x.l).length) rdNums := fun st h => by
  have h1 := uses_all (uses_num 8) 65536 st h
  refine ⟨h1.1, ?_⟩
  have h2 := h1.2
  unfold rdNums
  simp only at h2 ⊢
  rw [numsB_length]
  have h3 : ∀ l : List Int, (l.map fun _ => 8).sum = 8 * l.length := by
    intro l
    induction l with
    | nil => rfl
    | cons x l ih => rw [List.map_cons, List.sum_cons, ih, List.length_cons]; omega
  rw [h3] at h2
  exact h2
theorem uses_seen : Uses (fun x : Seen => (seenB x).length) rdSeen := fun st h => by
  have h1 := uses_nums _ (show (rdNums (rdNum 8 (rdText st).2).2).2.2 = true from h)
  have h2 := uses_num 8 _ h1.1
  have h3 := uses_text st h2.1
  refine ⟨h3.1, ?_⟩
  have a1 := h1.2; have a2 := h2.2; have a3 := h3.2
  unfold rdSeen
  simp only
  unfold seenB
  simp only [List.length_append, textB_length, be_length, bs_size]
  try dsimp only at *
  omega
theorem uses_ctx : Uses (fun x : Ctx => (ctxB x.l).length) rdCtx := fun st h => by
  have h1 := uses_all uses_seen 65536 st h
  refine ⟨h1.1, ?_⟩
  unfold rdCtx ctxB
  simp only
  rw [List.length_append, be_length, flat_sum]
  exact h1.2
theorem uses_rd3 : Uses (fun x : ByteArray × ByteArray × ByteArray => x.1.size + x.2.1.size + x.2.2.size + 12) rd3 := fun st h => by
  have h1 := uses_text _ (show (rdText (rdText (rdText st).2).2).2.2 = true from h)
  have h2 := uses_text _ h1.1
  have h3 := uses_text st h2.1
  refine ⟨h3.1, ?_⟩
  have a1 := h1.2; have a2 := h2.2; have a3 := h3.2
  unfold rd3
  simp only [bs_size]
  try dsimp only at *
  omega
theorem uses_rd4 : Uses (fun x : ByteArray × ByteArray × ByteArray × ByteArray => x.1.size + x.2.1.size + x.2.2.1.size + x.2.2.2.size + 16) rd4 := fun st h => by
  have h1 := uses_rd3 _ (show (rd3 (rdText st).2).2.2 = true from h)
  have h3 := uses_text st h1.1
  refine ⟨h3.1, ?_⟩
  have a1 := h1.2; have a3 := h3.2
  unfold rd4
  simp only [bs_size]
  try dsimp only at *
  omega
theorem uses_mem : Uses (fun x : Memb => (memB x).length) rdMem := fun st h => by
  have h1 := uses_num 1 _ (show (rdNum 1 (rd3 st).2).2.2 = true from h)
  have h2 := uses_rd3 st h1.1
  refine ⟨h2.1, ?_⟩
  have a1 := h1.2; have a2 := h2.2
  show (memB (rdMem st).1).length + (rdMem st).2.1.length ≤ st.1.length
  rw [memB_length]
  unfold rdMem
  simp only
  try dsimp only at *
  omega
theorem uses_cal : Uses (fun x : Cal => (calB x).length) rdCal := fun st h => by
  have h' := h
  unfold rdCal at h'
  simp only at h'
  have h1 := uses_num 8 _ h'
  have h2 := uses_ctx _ h1.1
  have h3 := uses_rd4 _ h2.1
  have h4 := uses_num 1 st h3.1
  refine ⟨h4.1, ?_⟩
  have a1 := h1.2; have a2 := h2.2; have a3 := h3.2; have a4 := h4.2
  unfold rdCal
  simp only
  unfold calB
  simp only [List.length_append, textB_length, be_length]
  simp only at a2
  try dsimp only at *
  omega
theorem uses_adm : Uses (fun x : Adm => (admB x).length) rdAdm := fun st h => by
  have h' := h
  unfold rdAdm at h'
  simp only at h'
  have h1 := uses_mem _ h'
  have h2 := uses_num 8 _ h1.1
  have h3 := uses_rd4 _ h2.1
  have h4 := uses_num 1 st h3.1
  refine ⟨h4.1, ?_⟩
  have a1 := h1.2; have a2 := h2.2; have a3 := h3.2; have a4 := h4.2
  unfold rdAdm
  simp only
  unfold admB
  simp only [List.length_append, textB_length, be_length]
  simp only at a1
  try dsimp only at *
  omega
theorem uses_head (st : St) (h : (rdHead st).2.2 = true) : st.2 = true ∧ (rdHead st).1.2.1.1.size + (rdHead st).1.2.1.2.1.size + (rdHead st).1.2.1.2.2.size + 21 + (rdHead st).2.1.length ≤ st.1.length := by
  have h1 := uses_num 8 _ (show (rdNum 8 (rd3 (rdNum 1 st).2).2).2.2 = true from h)
  have h2 := uses_rd3 _ h1.1
  have h3 := uses_num 1 st h2.1
  refine ⟨h3.1, ?_⟩
  have a1 := h1.2; have a2 := h2.2; have a3 := h3.2
  unfold rdHead
  simp only
  try dsimp only at *
  omega
theorem uses_ev : Uses (fun x : Ev => (evB x).length) rdEv := fun st h => by
  have key : ∀ (k : Int) (s : St), (rdRest k s).2.2 = true → s.2 = true ∧ (if k = 1 then calB (rdRest k s).1.1 else if k = 14 then admB (rdRest k s).1.2 else []).length + (rdRest k s).2.1.length ≤ s.1.length := by
    intro k s hk
    unfold rdRest at hk ⊢
    by_cases h1 : k = 1
    · simp only [if_pos h1] at hk ⊢; exact uses_cal s hk
    · by_cases h2 : k = 14
      · simp only [if_neg h1, if_pos h2] at hk ⊢; exact uses_adm s hk
      · simp only [if_neg h1, if_neg h2] at hk ⊢; exact ⟨hk, by simp⟩
  have h1 := key _ _ (show (rdRest (rdHead st).1.1 (rdHead st).2).2.2 = true from h)
  have h2 := uses_head st h1.1
  refine ⟨h2.1, ?_⟩
  have a1 := h1.2; have a2 := h2.2
  unfold rdEv
  simp only
  unfold evB headB restB
  simp only [List.length_append, textB_length, be_length]
  try dsimp only at *
  omega
theorem uses_ent : Uses eSize rdEnt := fun st h => by
  have h1 := uses_text _ (show (rdText (rdText (rdNum 8 (rdText st).2).2).2).2.2 = true from h)
  have h2 := uses_text _ h1.1
  have h3 := uses_num 8 _ h2.1
  have h4 := uses_text st h3.1
  refine ⟨h4.1, ?_⟩
  have a1 := h1.2; have a2 := h2.2; have a3 := h3.2; have a4 := h4.2
  unfold rdEnt eSize
  simp only [bs_size]
  try dsimp only at *
  omega
theorem uses_ent20 : Uses (fun e => eSize e + 20) rdEnt := fun st h => by
  have h1 := uses_text _ (show (rdText (rdText (rdNum 8 (rdText st).2).2).2).2.2 = true from h)
  have h2 := uses_text _ h1.1
  have h3 := uses_num 8 _ h2.1
  have h4 := uses_text st h3.1
  refine ⟨h4.1, ?_⟩
  have a1 := h1.2; have a2 := h2.2; have a3 := h3.2; have a4 := h4.2
  unfold rdEnt eSize
  simp only [bs_size]
  try dsimp only at *
  omega
/-- a cluster and events, by a reader's machine -/
def rdScr (st : St) : (List Memb × List Ent × List Ev) × St :=
  (((rdSev rdMem 65536 st).1, (rdAll rdEnt 65536 (rdSev rdMem 65536 st).2).1, (rdSev rdEv 16384 (rdAll rdEnt 65536 (rdSev rdMem 65536 st).2).2).1), (rdSev rdEv 16384 (rdAll rdEnt 65536 (rdSev rdMem 65536 st).2).2).2)
def memsB (l : List Memb) : List UInt8 := be 4 l.length ++ l.flatMap memB
def evsB (l : List Ev) : List UInt8 := be 4 l.length ++ l.flatMap evB
def scrB (ms : List Memb) (es : List Ent) (l : List Ev) : List UInt8 := memsB ms ++ rawB es ++ evsB l
theorem uses_scr : Uses (fun x : List Memb × List Ent × List Ev => (scrB x.1 x.2.1 x.2.2).length) rdScr := fun st h => by
  have h1 := uses_sevC uses_ev 16384 _ (show (rdSev rdEv 16384 (rdAll rdEnt 65536 (rdSev rdMem 65536 st).2).2).2.2 = true from h)
  have h2 := uses_all uses_ent20 65536 _ h1.1
  have h3 := uses_sevC uses_mem 65536 st h2.1
  refine ⟨h3.1, ?_⟩
  have a1 := h1.2; have a2 := h2.2; have a3 := h3.2
  have e2 : ∀ l : List Ent, (rawB l).length = 4 + (l.map fun e => eSize e + 20).sum := by
    intro l
    unfold rawB
    rw [List.length_append, be_length, flat_sum]
    congr 2
    exact List.map_congr_left fun x _ => eB_length x
  unfold scrB memsB evsB
  simp only [List.length_append, be_length, flat_sum, e2]
  unfold rdScr
  simp only
  simp only at a1 a2 a3
  try dsimp only at *
  omega
end Go.Proofs.Ytlmplibdfhamjaa
