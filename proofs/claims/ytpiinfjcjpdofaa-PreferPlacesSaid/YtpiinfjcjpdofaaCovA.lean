/- Maps with numbers: an entry that is made apart from its store; no more entries than keys; what the search for pairs finds, in maps. No program in sight. -/
import Derived.Test.YtpiinfjcjpdofaaDict
import Derived.Test.YtpiinfjcjpdofaaCovM
import Derived.Test.YtpiinfjcjpdofaaCovQ
import Derived.WideKeyEntry
namespace Go.Mem
open Go.Maps Go.RowKit Go.ChangeShapes Go.WideShapes Go.MapKept Go.ChangeMaps
open Go.WideElems (Fit findIdx_born findIdx_arr modify_last set_self)
set_option linter.unusedVariables false
set_option linter.unusedSimpArgs false

section
variable {P : Program} {k e t : TypeId} {κ : Type} {ok : κ → Prop} {kv : κ → Value} {kl : κ → Lit} {w w' : World} {b n c : Nat} {f : κ → Option Int}
theorem Dict.tight (h : Dict P k e ok kl w b n f c) : Dict P k e ok kl w b c f c := by
  obtain ⟨D, ⟨es, clock, hb, F, hs, rfl⟩, h2, h3⟩ := h
  refine ⟨_, ⟨es, clock, hb, F, ?_, rfl⟩, h2, h3⟩
  rw [Maps.size_eq, length_sorted] at h2
  simp at h2; omega
theorem keyed_entry (K : Keyed P k) (ht : P.underlying t = some (.map k e)) {z : Value} (hz : ∀ u : World, (zeroValue e).run P u = .ok z u) {R : Value → Option (DataW Unit × List MemPlace)} {es : Array MapEntry} {clock : Nat} (hb : w.heap[b]? = some (.map es clock)) (F : Fit P k R es clock)
    {key : Value} {l : Lit} (hkey : keyOf P k key = some l) :
    ∃ (v0 : Value) (st : Nat) (es1 : Array MapEntry) (c1 : Nat), (Instr.mapEntry t (.map (some b)) key).run P w = .ok (.tuple #[v0, goInt st]) (setBlock w b (.map es1 c1)) ∧
      ∀ (w2 : World) (val : Value), w2.heap[b]? = some (.map es1 c1) → ∃ es' c', (Instr.entryStore t (.map (some b)) (goInt st) val).run P w2 = .ok () (setBlock w2 b (.map es' c')) ∧ (Instr.mapUpdate t (.map (some b)) key val).run P w = .ok () (setBlock w b (.map es' c')) := by
  have hs := F.stamped
  have hc := K.check w false hkey
  have hstay := K.stays w hkey
  have hg := MapKept.run_getObj_map (P := P) hb
  rcases K.find w hkey es.toList F.keys with ⟨hf, _⟩ | ⟨j, x, hf, hx, rfl⟩
  · refine ⟨z, clock, es.push ⟨key, z, clock⟩, clock + 1, by simp [Instr.mapEntry, run_underlying ht, hg, hc, hf, hz, MapKept.run_setObj_map _ hb, Result.andThen, setBlock], ?_⟩
    intro w2 val h2
    have hfind : (es.push ⟨key, z, clock⟩).findIdx? (fun e => ((e.born : Nat) : Int) == ((clock : Nat) : Int)) = some es.size := by
      have hnd : ((es.push ⟨key, z, clock⟩).toList.map (·.born)).Nodup := by
        rw [Array.toList_push, List.map_append, List.nodup_append]
        refine ⟨hs.2.1, by simp, fun a ha c hc' => ?_⟩
        obtain ⟨y, hy, rfl⟩ := List.mem_map.1 ha
        have h3 := hs.1 y hy
        simp only [List.map_cons, List.map_nil, List.mem_singleton] at hc'
        omega
      have h4 := findIdx_born hnd (j := es.size) (e0 := ⟨key, z, clock⟩) (by simp)
      rw [findIdx_arr]; exact h4
    have hmod : (es.push ⟨key, z, clock⟩).modify es.size (fun e => { e with val := val }) = es.push ⟨key, val, clock⟩ := by
      apply Array.ext'
      rw [Array.toList_modify, Array.toList_push, Array.toList_push, ← Array.length_toList, modify_last]
    exact ⟨es.push ⟨key, val, clock⟩, clock + 1, by simp [Instr.entryStore, MapKept.run_getObj_map h2, asInt, asIntOf, goInt, hfind, hmod, MapKept.run_setObj_map _ h2, Result.andThen, setBlock],
      by simp [Instr.mapUpdate, run_underlying ht, hg, hc, hf, MapKept.run_setObj_map _ hb, Result.andThen, setBlock]⟩
  · have hj : es[j]? = some x := by simpa using hx
    have hkeep : es.modify j (fun e => { e with key := x.key }) = es := by
      apply Array.ext'
      rw [Array.toList_modify, modify_eq_set _ _ _ _ hx]
      exact set_self _ _ _ hx
    refine ⟨x.val, x.born, es, clock, by simp [Instr.mapEntry, run_underlying ht, hg, hc, hf, hj, hstay, hkeep, MapKept.run_setObj_map _ hb, Result.andThen, setBlock], ?_⟩
    intro w2 val h2
    have hfind : es.findIdx? (fun e => ((e.born : Nat) : Int) == ((x.born : Nat) : Int)) = some j := by
      rw [findIdx_arr]; exact findIdx_born hs.2.1 hx
    have hmod : es.modify j (fun e => { e with val := val }) = es.modify j (fun e => { e with key := x.key, val := val }) := by
      apply Array.ext'
      rw [Array.toList_modify, Array.toList_modify, modify_eq_set _ _ _ _ hx, modify_eq_set _ _ _ _ hx]
    exact ⟨es.modify j (fun e => { e with key := x.key, val := val }), clock, by simp [Instr.entryStore, MapKept.run_getObj_map h2, asInt, asIntOf, goInt, hfind, hmod, MapKept.run_setObj_map _ h2, Result.andThen, setBlock],
      by simp [Instr.mapUpdate, run_underlying ht, hg, hc, hf, hj, hstay, MapKept.run_setObj_map _ hb, Result.andThen, setBlock]⟩
variable [DecidableEq κ]
/-- an entry that is made, and its store, is one 'm[x] = z' -/
theorem Dict.entry (h : Dict P k e ok kl w b n f c) (W : Keyw P k ok kv kl) (ht : P.underlying t = some (.map k e)) (he : P.underlying e = some (.int .i64)) (hz : ∀ u : World, (zeroValue e).run P u = .ok (.int .i64 0) u) (hn : n < maxLen) (x : κ) (hx : ok x) :
    ∃ (v0 : Value) (st : Nat) (w1 : World), (Instr.mapEntry t (.map (some b)) (kv x)).run P w = .ok (.tuple #[v0, goInt st]) w1 ∧ w.grownBy w1 (some b) ∧ w1.heap.size = w.heap.size ∧
      ∀ (w2 : World) (z : Int), w2.heap[b]? = w1.heap[b]? → (Lit.int .i64 z).wf = true →
        ∃ w3, (Instr.entryStore t (.map (some b)) (goInt st) (.int .i64 z)).run P w2 = .ok () w3 ∧ Dict P k e ok kl w3 b (n + 1) (fun y => if y = x then some z else f y) (if (f x).isSome then c else c + 1) ∧ w2.grownBy w3 (some b) ∧ w3.heap.size = w2.heap.size := by
  obtain ⟨D, ⟨es, clock, hb, F, hsz, hD⟩, h2⟩ := id h
  obtain ⟨v0, st, es1, c1, hrun, hst⟩ := keyed_entry W.K ht hz hb F (W.key x hx)
  have hg : w.grownBy (setBlock w b (.map es1 c1)) (some b) := ⟨rfl, rfl, rfl, by simp [setBlock], fun i _ hi => heap_setBlock_other hb _ (fun e => hi (by rw [e]))⟩
  refine ⟨v0, st, _, hrun, hg, by simp [setBlock], fun w2 z h2 hwf => ?_⟩
  have hb2 := h2.trans (heap_setBlock_same hb (.map es1 c1))
  obtain ⟨es', c', hr2, hr3⟩ := hst w2 (.int .i64 z) hb2
  obtain ⟨w', hu, hd, _⟩ := h.put W ht he hn x hx z hwf
  rw [hr3] at hu
  injection hu with _ hu
  subst hu
  refine ⟨_, hr2, hd.block ?_, ⟨rfl, rfl, rfl, by simp [setBlock], fun i _ hi => heap_setBlock_other hb2 _ (fun e => hi (by rw [e]))⟩, by simp [setBlock]⟩
  rw [heap_setBlock_same hb2, heap_setBlock_same hb]
end
end Go.Mem
