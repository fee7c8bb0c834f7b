/- What is told as bytes is read as it was; bytes that are cut are none: plain. -/
import Derived.Test.YtlmplibdfhamjaaScrH
import Derived.Test.YtlmplibdfhamjaaScrK
namespace Go.Proofs.Ytlmplibdfhamjaa
open Go.RowKit Go.Mem Go.Num
set_option linter.unusedVariables false
set_option linter.unusedSimpArgs false

/-- a reading that reads the same of more bytes, and that stays bad -/
def Good {α : Type} (f : St → α × St) : Prop := Mono f ∧ Stays f
theorem Good.then_ {α β : Type} {f : St → α × St} {g : α → St → β × St} (hf : Good f) (hg : ∀ a, Good (g a)) : Good (fun st => g (f st).1 (f st).2) :=
  ⟨mono_then hf.1 (fun a => (hg a).2) (fun a => (hg a).1), stays_then hf.2 (fun a => (hg a).2)⟩
theorem Good.map {α β : Type} {f : St → α × St} (F : α → β) (hf : Good f) : Good (fun st => (F (f st).1, (f st).2)) :=
  ⟨fun p d h => by have := hf.1 p d h; simp only at h ⊢; rw [this], fun st h => hf.2 st h⟩
theorem good_id {α : Type} (c : α) : Good (fun st : St => (c, st)) := ⟨fun p d h => rfl, fun st h => h⟩
theorem good_num (k : Nat) : Good (rdNum k) := ⟨rdNum_mono k, rdNum_stays k⟩
theorem good_count (m : Int) : Good (rdCount m) := ⟨rdCount_mono m, rdCount_stays m⟩
theorem good_text : Good rdText := ⟨rdText_mono, rdText_stays⟩
theorem good_all {T : Type} {rd : St → T × St} (h : Good rd) (m : Int) : Good (rdAll rd m) := ⟨rdAll_mono h.1 m, rdAll_stays m⟩
theorem good_sev {T : Type} {rd : St → T × St} (h : Good rd) (m : Int) : Good (rdSev rd m) := by
  have := (good_count m).then_ (g := fun a => sevG rd a.toNat) (fun a => ⟨sevG_mono h.1 _, sevG_stays _⟩)
  exact this
theorem good_nums : Good rdNums := by
  have := (good_all (good_num 8) 65536).map (fun l => (⟨none, 0, 0, l⟩ : Nums))
  exact this
theorem good_seen : Good rdSeen := by
  have := good_text.then_ (fun a => (good_num 8).then_ (fun n => good_nums.map (fun x => (⟨bs a, n, x⟩ : Seen))))
  exact this
theorem good_ctx : Good rdCtx := by
  have := (good_all good_seen 65536).map (fun l => (⟨none, 0, 0, l⟩ : Ctx))
  exact this
theorem good_rd3 : Good rd3 := by
  have := good_text.then_ (fun a => good_text.then_ (fun b => good_text.map (fun c => (bs a, bs b, bs c))))
  exact this
theorem good_rd4 : Good rd4 := by
  have := good_text.then_ (fun a => good_rd3.map (fun c => (bs a, c)))
  exact this
theorem good_mem : Good rdMem := by
  have := good_rd3.then_ (fun t => (good_num 1).map (fun z => (⟨t.1, t.2.1, t.2.2, z != 0⟩ : Memb)))
  exact this
theorem good_cal : Good rdCal := by
  have := (good_num 1).then_ (fun k => good_rd4.then_ (fun t => good_ctx.then_ (fun c => (good_num 8).map (fun z => (⟨k, t.1, t.2.1, t.2.2.1, t.2.2.2, c, z⟩ : Cal)))))
  exact this
theorem good_adm : Good rdAdm := by
  have := (good_num 1).then_ (fun k => good_rd4.then_ (fun t => (good_num 8).then_ (fun n => good_mem.map (fun m => (⟨k, t.1, t.2.1, t.2.2.1, t.2.2.2, n, m⟩ : Adm)))))
  exact this
theorem good_head : Good rdHead := by
  have := (good_num 1).then_ (fun k => good_rd3.then_ (fun t => (good_num 8).map (fun n => (k, t, n))))
  exact this
theorem good_rest (k : Int) : Good (rdRest k) := by
  by_cases h1 : k = 1
  · have := good_cal.map (fun c => (c, zAdm))
    have e : rdRest k = fun st => (((rdCal st).1, zAdm), (rdCal st).2) := by funext st; unfold rdRest; rw [if_pos h1]
    rw [e]; exact this
  · by_cases h2 : k = 14
    · have := good_adm.map (fun c => (zCal, c))
      have e : rdRest k = fun st => ((zCal, (rdAdm st).1), (rdAdm st).2) := by funext st; unfold rdRest; rw [if_neg h1, if_pos h2]
      rw [e]; exact this
    · have e : rdRest k = fun st => ((zCal, zAdm), st) := by funext st; unfold rdRest; rw [if_neg h1, if_neg h2]
      rw [e]; exact good_id _
theorem good_ev : Good rdEv := by
  have := good_head.then_ (fun h => (good_rest h.1).map (fun x => (⟨h.1, h.2.1.1, h.2.1.2.1, h.2.1.2.2, h.2.2, x.1, x.2⟩ : Ev)))
  exact this
theorem good_ent : Good rdEnt := by
  have := good_text.then_ (fun a => (good_num 8).then_ (fun n => good_text.then_ (fun b => good_text.map (fun c => (⟨bs a, ⟨n, bs b, bs c⟩⟩ : Ent)))))
  exact this
theorem good_scr : Good rdScr := by
  have := (good_sev good_mem 65536).then_ (fun m => (good_all good_ent 65536).then_ (fun e => (good_sev good_ev 16384).map (fun l => (m, e, l))))
  exact this

theorem text_app (t : ByteArray) (q : List UInt8) (ht : t.size ≤ 1048576) : rdText (textB t ++ q, true) = (t.data.toList, (q, true)) := by
  unfold textB
  have := rdText_app t.data.toList q (by simp; omega)
  have e : ((t.data.toList.length : Nat) : Int) = (t.size : Int) := by simp
  rw [e] at this
  exact this
theorem num_app (n : Int) (h : (Lit.int .i64 n).wf = true) (r : List UInt8) : rdNum 8 (be 8 n ++ r, true) = (n, (r, true)) := by
  rw [Lit.wf_int_iff] at h
  have hlo := h.1; have hhi := h.2
  exact rdNum8_app n _ hlo hhi
theorem nums_app (l : List Int) (h4 : l.length ≤ 40) (hw : ∀ z ∈ l, (Lit.int .i64 z).wf = true) (r : List UInt8) : rdNums (numsB l ++ r, true) = (⟨none, 0, 0, l⟩, (r, true)) := by
  have h := rdAll_app (rd := rdNum 8) (wr := be 8) l 65536 (by omega) (by omega) (fun x hx r => num_app x (hw x hx) r) r
  unfold rdNums numsB
  rw [h]
theorem seen_app (x : Seen) (hs : smallS x) (hb : (Lit.int .i64 x.base).wf = true) (hw : ∀ z ∈ x.more.l, (Lit.int .i64 z).wf = true) (r : List UInt8) : rdSeen (seenB x ++ r, true) = (x.bare, (r, true)) := by
  unfold seenB
  simp only [List.append_assoc]
  unfold rdSeen
  rw [text_app _ _ (by have := hs.1; omega)]
  simp only
  rw [num_app _ hb]
  simp only
  rw [nums_app _ hs.2 hw]
  simp only [bs_of]
  rfl
theorem seenB_bare (x : Seen) : seenB x.bare = seenB x := rfl
theorem ctx_app {w : World} (c : Ctx) (hs : fewCx c) (hok : c.ok w) (r : List UInt8) : rdCtx (ctxB c.l ++ r, true) = (c.bare, (r, true)) := by
  have h := rdAll_app (rd := rdSeen) (wr := seenB) (c.l.map Seen.bare) 65536 (by rw [List.length_map]; have := hs.1; omega) (by rw [List.length_map]; have := hs.1; omega) (fun y hy r => by
    obtain ⟨x, hx, rfl⟩ := List.mem_map.1 hy
    rw [seenB_bare]
    have := seen_app x (hs.2 x hx) (hok.all x hx).2.1 (hok.all x hx).2.2.all r
    exact this) r
  rw [List.length_map, List.flatMap_map] at h
  have e : (c.l.flatMap fun a => seenB a.bare) = c.l.flatMap seenB := rfl
  rw [e] at h
  unfold rdCtx ctxB
  rw [h]
  rfl
theorem rd3_app (a b c : ByteArray) (ha : a.size ≤ 1000) (hb : b.size ≤ 1000) (hc : c.size ≤ 1000) (r : List UInt8) : rd3 (textB a ++ (textB b ++ (textB c ++ r)), true) = ((a, b, c), (r, true)) := by
  unfold rd3
  rw [text_app a _ (by omega)]
  simp only
  rw [text_app b _ (by omega)]
  simp only
  rw [text_app c _ (by omega)]
  simp only [bs_of]
theorem rd4_app (a b c d : ByteArray) (ha : a.size ≤ 1000) (hb : b.size ≤ 1000) (hc : c.size ≤ 1000) (hd : d.size ≤ 1000) (r : List UInt8) : rd4 (textB a ++ (textB b ++ (textB c ++ (textB d ++ r))), true) = ((a, b, c, d), (r, true)) := by
  unfold rd4
  rw [text_app a _ (by omega)]
  simp only
  rw [rd3_app b c d hb hc hd]
  simp only [bs_of]
theorem byte_app (n : Int) (h0 : 0 ≤ n) (h1 : n ≤ 255) (r : List UInt8) : rdNum 1 (be 1 n ++ r, true) = (n, (r, true)) := by
  rw [rdNum1_app, Int.emod_eq_of_lt h0 (by omega)]
theorem mem_app (m : Memb) (hs : smallM m) (r : List UInt8) : rdMem (memB m ++ r, true) = (m, (r, true)) := by
  obtain ⟨a, b, c, up⟩ := m
  obtain ⟨h1, h2, h3⟩ := hs
  simp only at h1 h2 h3
  unfold memB
  simp only [List.append_assoc]
  unfold rdMem
  rw [rd3_app a b c (by omega) (by omega) (by omega)]
  simp only
  rw [byte_app _ (by cases up <;> decide) (by cases up <;> decide)]
  cases up <;> rfl
theorem cal_app {w : World} (c : Cal) (hs : smallC c) (hok : c.ok w) (h0 : 0 ≤ c.kind) (h1 : c.kind ≤ 255) (r : List UInt8) : rdCal (calB c ++ r, true) = (c.bare, (r, true)) := by
  obtain ⟨k, a, b, d, e, cx, tm⟩ := c
  obtain ⟨s1, s2, s3, s4, s5⟩ := hs
  obtain ⟨-, -, -, -, -, hcx, htm⟩ := hok
  simp only at s1 s2 s3 s4 s5 hcx htm h0 h1
  unfold calB
  simp only [List.append_assoc]
  unfold rdCal
  rw [byte_app k h0 h1]
  simp only
  rw [rd4_app a b d e (by omega) (by omega) (by omega) (by omega)]
  simp only
  rw [ctx_app cx s5 hcx]
  simp only
  rw [num_app tm htm]
  rfl
theorem adm_app (x : Adm) (hs : smallA x) (hn : (Lit.int .i64 x.n).wf = true) (h0 : 0 ≤ x.kind) (h1 : x.kind ≤ 255) (r : List UInt8) : rdAdm (admB x ++ r, true) = (x, (r, true)) := by
  obtain ⟨k, a, b, d, e, n, m⟩ := x
  obtain ⟨s1, s2, s3, s4, s5⟩ := hs
  simp only at s1 s2 s3 s4 s5 hn h0 h1
  unfold admB
  simp only [List.append_assoc]
  unfold rdAdm
  rw [byte_app k h0 h1]
  simp only
  rw [rd4_app a b d e (by omega) (by omega) (by omega) (by omega)]
  simp only
  rw [num_app n hn]
  simp only
  rw [mem_app m s5]
/-- may an event be told as bytes just as it is? -/
def plainE (e : Ev) : Prop := (0 ≤ e.kind ∧ e.kind ≤ 255) ∧ (0 ≤ e.call.kind ∧ e.call.kind ≤ 255) ∧ (0 ≤ e.adm.kind ∧ e.adm.kind ≤ 255) ∧ (e.kind ≠ 1 → e.call.bare = zCal) ∧ (e.kind ≠ 14 → e.adm = zAdm)
theorem ev_app {w : World} (e : Ev) (hs : smallV e) (hok : e.ok w) (hp : plainE e) (r : List UInt8) : rdEv (evB e ++ r, true) = (e.bare, (r, true)) := by
  obtain ⟨k, nd, t, ln, n, c, x⟩ := e
  obtain ⟨s1, s2, s3, s4, s5⟩ := hs
  obtain ⟨-, -, -, -, hn, hc, hx⟩ := hok
  obtain ⟨⟨p1, p2⟩, ⟨p3, p4⟩, ⟨p5, p6⟩, p7, p8⟩ := hp
  simp only at s1 s2 s3 s4 s5 hn hc hx p1 p2 p3 p4 p5 p6 p7 p8
  have hhead : ∀ q, rdHead (headB ⟨k, nd, t, ln, n, c, x⟩ ++ q, true) = ((k, (nd, t, ln), n), (q, true)) := by
    intro q
    unfold headB
    simp only [List.append_assoc]
    unfold rdHead
    rw [byte_app k p1 p2]
    simp only
    rw [rd3_app nd t ln (by omega) (by omega) (by omega)]
    simp only
    rw [num_app n hn]
  have hrest : rdRest k (restB ⟨k, nd, t, ln, n, c, x⟩ ++ r, true) = ((c.bare, x), (r, true)) := by
    unfold rdRest restB
    simp only
    by_cases h1 : k = 1
    · rw [if_pos h1, if_pos h1, cal_app c s4 hc p3 p4]
      have h14 : k ≠ 14 := by omega
      rw [p8 h14]
    · rw [if_neg h1, if_neg h1]
      by_cases h2 : k = 14
      · rw [if_pos h2, if_pos h2, adm_app x s5 hx.2.2.2.2.2.1 p5 p6, p7 h1]
      · rw [if_neg h2, if_neg h2, p7 h1, p8 h2]; rfl
  unfold evB
  rw [List.append_assoc]
  unfold rdEv
  rw [hhead]
  simp only
  rw [hrest]
  rfl
theorem ent_app (e : Ent) (hs : small e) (hn : (Lit.int .i64 e.reg.n).wf = true) (r : List UInt8) : rdEnt (eB e ++ r, true) = (e, (r, true)) := by
  obtain ⟨k, ⟨n, b, v⟩⟩ := e
  obtain ⟨h1, h2, h3⟩ := hs
  simp only at h1 h2 h3 hn
  unfold eB
  simp only [List.append_assoc]
  unfold rdEnt
  rw [text_app k _ (by omega)]
  simp only
  rw [num_app n hn]
  simp only
  rw [text_app b _ (by omega)]
  simp only
  rw [text_app v _ (by omega)]
  simp only [bs_of]
theorem sevC_app {T : Type} {rd : St → T × St} {wr : T → List UInt8} (l : List T) (most : Int) (hm : (l.length : Int) ≤ most) (h4 : l.length < 4294967296) (hr : ∀ x ∈ l, ∀ r, rd (wr x ++ r, true) = (x, (r, true))) (r : List UInt8) :
    rdSev rd most (be 4 l.length ++ l.flatMap wr ++ r, true) = (l, (r, true)) := by
  unfold rdSev
  rw [List.append_assoc, rdCount_app l.length most _ hm h4]
  simp only [Int.toNat_natCast]
  exact sevG_app l hr r
theorem scr_app {w : World} {m : Mems} {e : Ents} {x : Evs} (hf : fewS m e x) (hm : m.ok w) (he : e.ok w) (hx : x.ok w) (hp : ∀ y ∈ x.l, plainE y) : rdScr (scrB m.l e.l x.l, true) = ((m.l, e.l, x.l.map Ev.bare), ([], true)) := by
  obtain ⟨⟨f1, f2⟩, ⟨f3, f4⟩, ⟨f5, f6⟩⟩ := hf
  have lm := hm.len; have lx := hx.len
  have a1 := fun r => sevC_app (rd := rdMem) (wr := memB) m.l 65536 (by omega) (by omega) (fun y hy r => mem_app y (f2 y hy) r) r
  have a2 := fun r => rdAll_app (rd := rdEnt) (wr := eB) e.l 65536 (by omega) (by omega) (fun y hy r => ent_app y (f4 y hy) (he.all y hy).2.1 r) r
  have a3 := sevC_app (rd := rdEv) (wr := evB) (x.l.map Ev.bare) 16384 (by rw [List.length_map]; omega) (by rw [List.length_map]; omega) (fun y hy r => by
    obtain ⟨z, hz, rfl⟩ := List.mem_map.1 hy
    rw [evB_bare]
    exact ev_app z (f6 z hz) (hx.all z hz) (hp z hz) r) []
  rw [List.append_nil] at a3
  have e3 : be 4 (x.l.map Ev.bare).length ++ (x.l.map Ev.bare).flatMap evB = evsB x.l := evsB_bare x.l
  rw [e3] at a3
  have e0 : scrB m.l e.l x.l = be 4 m.l.length ++ m.l.flatMap memB ++ (be 4 e.l.length ++ e.l.flatMap eB ++ evsB x.l) := by
    unfold scrB memsB rawB; simp only [List.append_assoc]
  rw [e0]
  unfold rdScr
  rw [a1]
  simp only
  rw [a2]
  simp only
  rw [a3]
theorem scr_back {w : World} {m : Mems} {e : Ents} {x : Evs} (hf : fewS m e x) (hm : m.ok w) (he : e.ok w) (hx : x.ok w) (hp : ∀ y ∈ x.l, plainE y) :
    scrGood (bs (scrB m.l e.l x.l)) = true ∧ scrM (bs (scrB m.l e.l x.l)) = m.l ∧ scrE (bs (scrB m.l e.l x.l)) = e.l ∧ scrL (bs (scrB m.l e.l x.l)) = x.l.map Ev.bare ∧ scrErr (bs (scrB m.l e.l x.l)) = 0 := by
  have h0 : scr0 (bs (scrB m.l e.l x.l)) = ((m.l, e.l, x.l.map Ev.bare), ([], true)) := by
    unfold scr0
    have : (bs (scrB m.l e.l x.l)).data.toList = scrB m.l e.l x.l := rfl
    rw [this]
    exact scr_app hf hm he hx hp
  have hg : scrGood (bs (scrB m.l e.l x.l)) = true := by
    unfold scrGood
    rw [h0]
    simp only
    have : scrB m.l e.l (x.l.map Ev.bare) = scrB m.l e.l x.l := by unfold scrB; rw [evsB_bare]
    rw [this, beq_self_eq_true]
    rfl
  exact ⟨hg, by unfold scrM; rw [if_pos hg, h0], by unfold scrE; rw [if_pos hg, h0], by unfold scrL; rw [if_pos hg, h0], by unfold scrErr; rw [if_pos hg]⟩
theorem scr_cut {w : World} {m : Mems} {e : Ents} {x : Evs} (hf : fewS m e x) (hm : m.ok w) (he : e.ok w) (hx : x.ok w) (hp : ∀ y ∈ x.l, plainE y) (k : Nat) (hk : k < (scrB m.l e.l x.l).length) (t : ByteArray) (ht : t.data.toList = (scrB m.l e.l x.l).take k) :
    scrM t = [] ∧ scrL t = [] ∧ scrErr t = 3 := by
  have hb := cut_bad good_scr.1 _ _ (scr_app hf hm he hx hp) k hk
  have hg : scrGood t = false := by
    unfold scrGood rdDone scr0
    rw [ht, hb]
    rfl
  exact ⟨by unfold scrM; rw [hg]; rfl, by unfold scrL; rw [hg]; rfl, by unfold scrErr; rw [hg]; rfl⟩
theorem scr_ge (ms : List Memb) (es : List Ent) (l : List Ev) : 12 ≤ (scrB ms es l).length := by
  unfold scrB memsB rawB evsB; simp only [List.length_append, be_length]; omega
end Go.Proofs.Ytlmplibdfhamjaa
