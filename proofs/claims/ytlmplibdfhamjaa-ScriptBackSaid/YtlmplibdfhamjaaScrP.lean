/- Clusters and events as bytes and of bytes: plain. -/
import Derived.Test.YtlmplibdfhamjaaEvent
import Derived.Test.YtlmplibdfhamjaaEnt
import Derived.Test.YtlmplibdfhamjaaSev
namespace Go.Proofs.Ytlmplibdfhamjaa
open Go.RowKit Go.Mem Go.Num
set_option linter.unusedVariables false
set_option linter.unusedSimpArgs false

/-- what is told of data, wherever it lies -/
def Nums.bare (x : Nums) : Nums := ⟨none, 0, 0, x.l⟩
def Seen.bare (x : Seen) : Seen := ⟨x.node, x.base, x.more.bare⟩
def Ctx.bare (x : Ctx) : Ctx := ⟨none, 0, 0, x.l.map Seen.bare⟩
def Cal.bare (x : Cal) : Cal := ⟨x.kind, x.token, x.bucket, x.key, x.value, x.ctx.bare, x.time⟩
def Ev.bare (x : Ev) : Ev := ⟨x.kind, x.node, x.to, x.lane, x.n, x.call.bare, x.adm⟩
def zCtx : Ctx := ⟨none, 0, 0, []⟩
def zCal : Cal := ⟨0, ⟨#[]⟩, ⟨#[]⟩, ⟨#[]⟩, ⟨#[]⟩, zCtx, 0⟩
def zMemb : Memb := ⟨⟨#[]⟩, ⟨#[]⟩, ⟨#[]⟩, false⟩
def zAdm : Adm := ⟨0, ⟨#[]⟩, ⟨#[]⟩, ⟨#[]⟩, ⟨#[]⟩, 0, zMemb⟩

/-- by a reader's machine -/
def rdNums (st : St) : Nums × St := (⟨none, 0, 0, (rdAll (rdNum 8) 65536 st).1⟩, (rdAll (rdNum 8) 65536 st).2)
def rdSeen (st : St) : Seen × St := (⟨bs (rdText st).1, (rdNum 8 (rdText st).2).1, (rdNums (rdNum 8 (rdText st).2).2).1⟩, (rdNums (rdNum 8 (rdText st).2).2).2)
def rdCtx (st : St) : Ctx × St := (⟨none, 0, 0, (rdAll rdSeen 65536 st).1⟩, (rdAll rdSeen 65536 st).2)
def rd3 (st : St) : (ByteArray × ByteArray × ByteArray) × St :=
  ((bs (rdText st).1, bs (rdText (rdText st).2).1, bs (rdText (rdText (rdText st).2).2).1), (rdText (rdText (rdText st).2).2).2)
def rd4 (st : St) : (ByteArray × ByteArray × ByteArray × ByteArray) × St :=
  ((bs (rdText st).1, (rd3 (rdText st).2).1), (rd3 (rdText st).2).2)
def rdMem (st : St) : Memb × St := (⟨(rd3 st).1.1, (rd3 st).1.2.1, (rd3 st).1.2.2, (rdNum 1 (rd3 st).2).1 != 0⟩, (rdNum 1 (rd3 st).2).2)
def rdCal (st : St) : Cal × St := (⟨(rdNum 1 st).1, (rd4 (rdNum 1 st).2).1.1, (rd4 (rdNum 1 st).2).1.2.1, (rd4 (rdNum 1 st).2).1.2.2.1, (rd4 (rdNum 1 st).2).1.2.2.2, (rdCtx (rd4 (rdNum 1 st).2).2).1, (rdNum 8 (rdCtx (rd4 (rdNum 1 st).2).2).2).1⟩, (rdNum 8 (rdCtx (rd4 (rdNum 1 st).2).2).2).2)
def rdAdm (st : St) : Adm × St := (⟨(rdNum 1 st).1, (rd4 (rdNum 1 st).2).1.1, (rd4 (rdNum 1 st).2).1.2.1, (rd4 (rdNum 1 st).2).1.2.2.1, (rd4 (rdNum 1 st).2).1.2.2.2, (rdNum 8 (rd4 (rdNum 1 st).2).2).1, (rdMem (rdNum 8 (rd4 (rdNum 1 st).2).2).2).1⟩, (rdMem (rdNum 8 (rd4 (rdNum 1 st).2).2).2).2)
def rdHead (st : St) : (Int × (ByteArray × ByteArray × ByteArray) × Int) × St := (((rdNum 1 st).1, (rd3 (rdNum 1 st).2).1, (rdNum 8 (rd3 (rdNum 1 st).2).2).1), (rdNum 8 (rd3 (rdNum 1 st).2).2).2)
def rdRest (k : Int) (st : St) : (Cal × Adm) × St :=
  if k = 1 then ((( rdCal st).1, zAdm), (rdCal st).2) else if k = 14 then ((zCal, (rdAdm st).1), (rdAdm st).2) else ((zCal, zAdm), st)
def rdEv (st : St) : Ev × St :=
  (⟨(rdHead st).1.1, (rdHead st).1.2.1.1, (rdHead st).1.2.1.2.1, (rdHead st).1.2.1.2.2, (rdHead st).1.2.2, (rdRest (rdHead st).1.1 (rdHead st).2).1.1, (rdRest (rdHead st).1.1 (rdHead st).2).1.2⟩, (rdRest (rdHead st).1.1 (rdHead st).2).2)
def rdSev {T : Type} (rd : St → T × St) (most : Int) (st : St) : List T × St := sevG rd (rdCount most st).1.toNat (rdCount most st).2

theorem rdNums_len (st : St) : (rdNums st).2.1.length ≤ st.1.length := rdAll_len (rdNum_len 8) 65536 st
theorem rdSeen_len (st : St) : (rdSeen st).2.1.length ≤ st.1.length := by
  have h1 := (rdText_len st).1
  have h2 := rdNum_len 8 (rdText st).2
  have h3 := rdNums_len (rdNum 8 (rdText st).2).2
  unfold rdSeen
  exact Nat.le_trans h3 (Nat.le_trans h2 h1)
theorem rdCtx_len (st : St) : (rdCtx st).2.1.length ≤ st.1.length := rdAll_len rdSeen_len 65536 st
theorem rd3_len (st : St) : (rd3 st).2.1.length ≤ st.1.length := by
  have h1 := (rdText_len st).1
  have h2 := (rdText_len (rdText st).2).1
  have h3 := (rdText_len (rdText (rdText st).2).2).1
  unfold rd3
  exact Nat.le_trans h3 (Nat.le_trans h2 h1)
theorem rd4_len (st : St) : (rd4 st).2.1.length ≤ st.1.length := by
  have h1 := (rdText_len st).1
  have h2 := rd3_len (rdText st).2
  unfold rd4
  exact Nat.le_trans h2 h1
theorem rdMem_len (st : St) : (rdMem st).2.1.length ≤ st.1.length := by
  have h1 := rd3_len st
  have h2 := rdNum_len 1 (rd3 st).2
  unfold rdMem
  exact Nat.le_trans h2 h1
theorem rdCal_len (st : St) : (rdCal st).2.1.length ≤ st.1.length := by
  have h1 := rdNum_len 1 st
  unfold rdCal
  generalize rdNum 1 st = a at h1 ⊢
  have h2 := rd4_len a.2
  generalize rd4 a.2 = t at h2 ⊢
  have h3 := rdCtx_len t.2
  generalize rdCtx t.2 = c at h3 ⊢
  have h4 := rdNum_len 8 c.2
  exact Nat.le_trans h4 (Nat.le_trans h3 (Nat.le_trans h2 h1))
theorem rdAdm_len (st : St) : (rdAdm st).2.1.length ≤ st.1.length := by
  have h1 := rdNum_len 1 st
  unfold rdAdm
  generalize rdNum 1 st = a at h1 ⊢
  have h2 := rd4_len a.2
  generalize rd4 a.2 = t at h2 ⊢
  have h3 := rdNum_len 8 t.2
  generalize rdNum 8 t.2 = c at h3 ⊢
  have h4 := rdMem_len c.2
  exact Nat.le_trans h4 (Nat.le_trans h3 (Nat.le_trans h2 h1))
theorem rdHead_len (st : St) : (rdHead st).2.1.length ≤ st.1.length := by
  have h1 := rdNum_len 1 st
  unfold rdHead
  generalize rdNum 1 st = a at h1 ⊢
  have h2 := rd3_len a.2
  generalize rd3 a.2 = t at h2 ⊢
  have h3 := rdNum_len 8 t.2
  exact Nat.le_trans h3 (Nat.le_trans h2 h1)
theorem rdRest_len (k : Int) (st : St) : (rdRest k st).2.1.length ≤ st.1.length := by
  have h1 := rdCal_len st
  have h2 := rdAdm_len st
  unfold rdRest
  generalize rdCal st = a at h1 ⊢
  generalize rdAdm st = c at h2 ⊢
  split
  · exact h1
  · split
    · exact h2
    · exact Nat.le_refl _
theorem rdEv_len (st : St) : (rdEv st).2.1.length ≤ st.1.length := by
  have h1 := rdHead_len st
  unfold rdEv
  generalize rdHead st = a at h1 ⊢
  have h2 := rdRest_len a.1.1 a.2
  generalize rdRest a.1.1 a.2 = c at h2 ⊢
  exact Nat.le_trans h2 h1
theorem rdSev_len {T : Type} {rd : St → T × St} (hr : ∀ st, (rd st).2.1.length ≤ st.1.length) (most : Int) (st : St) : (rdSev rd most st).2.1.length ≤ st.1.length :=
  Nat.le_trans (sevG_len hr _ _) (rdCount_len most st)
end Go.Proofs.Ytlmplibdfhamjaa
