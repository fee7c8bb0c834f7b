/- The package plan: what each function returns, for every argument. -/
import Derived.Test.YtebfmacbdjnhbaaMoveE
import Derived.Test.YtebfmacbdjnhbaaSlicesB
namespace Go.Proofs.Ytebfmacbdjnhbaa
open Go.RowKit Go.Mem
set_option linter.unusedVariables false

/-- an order -/
structure Ord where
  place : ByteArray
  frm : ByteArray
  to : ByteArray
def Ord.cells (x : Ord) : List Value := [.string x.place, .string x.frm, .string x.to]
theorem el_order : Elem Try.prog 75 77 3 48 := Elem.of (z := .agg #[.string ByteArray.empty, .string ByteArray.empty, .string ByteArray.empty]) Try.underlying75 (by kernel_rfl) rfl (by decide)
theorem ord_row {w : World} {B : Option Addr} {ms : List Ord} (h : Rd w B (ms.flatMap Ord.cells)) (k : Nat) (hk : k < ms.length) :
    ∃ b off, B = some ⟨b, off, none⟩ ∧ w.cell? ⟨b, off + k * 3, none⟩ = some (.string ms[k].place) ∧ w.cell? ⟨b, off + k * 3 + 1, none⟩ = some (.string ms[k].frm) ∧ w.cell? ⟨b, off + k * 3 + 2, none⟩ = some (.string ms[k].to) := by
  rw [List.flatMap_def] at h
  have hs : ∀ r ∈ ms.map Ord.cells, r.length = 3 := by intro r hr; obtain ⟨m, _, rfl⟩ := List.mem_map.1 hr; rfl
  have hi : (ms.map Ord.cells)[k]? = some ms[k].cells := by simp [hk]
  obtain ⟨b, off, rfl, h0⟩ := h.row hs k _ hi 0 _ rfl
  obtain ⟨b1, off1, e1, h1⟩ := h.row hs k _ hi 1 _ rfl
  obtain ⟨b2, off2, e2, h2⟩ := h.row hs k _ hi 2 _ rfl
  injection e1 with e1; injection e1 with e1 e1'; subst e1 e1'
  injection e2 with e2; injection e2 with e2 e2'; subst e2 e2'
  exact ⟨b, off, rfl, h0, by rw [Nat.add_assoc]; exact h1, by rw [Nat.add_assoc]; exact h2⟩

theorem isEmpty_iff (s : ByteArray) : s.toList.isEmpty = decide (s = ByteArray.empty) := by
  rw [ByteArray.toList_eq, Bool.eq_iff_iff, List.isEmpty_iff, decide_eq_true_eq]
  constructor
  · intro h; exact WideShapes.bytes_inj h
  · rintro rfl; rfl

theorem enter_do1 (args : Array Value) (W : World) : Sem.run Try.prog (callFunc 90 args) W = .ok (.enter 90 args) W := by kernel_rfl
theorem enter_may1 (args : Array Value) (W : World) : Sem.run Try.prog (callFunc 111 args) W = .ok (.enter 111 args) W := by kernel_rfl

theorem do1_any (s t : ByteArray) (g : Nat) (w : World) (hc : w.cell? ⟨g, 2, none⟩ = some (.string t)) :
    Calls Try.prog 90 #[.string s, .pointer (some ⟨g, 0, none⟩)] w fun e w' => e = .returned (.bool (decide (s = t))) ∧ w = w' := by
  go_enter Try.func90, Try.ntmps90
  go_wp2
  go_ret
  exact ⟨ret_bool (str_beq s t), rfl⟩
theorem may1_any (s t : ByteArray) (g : Nat) (w : World) (hc : w.cell? ⟨g, 2, none⟩ = some (.string t)) :
    Calls Try.prog 111 #[.string s, .pointer (some ⟨g, 0, none⟩)] w fun e w' => e = .returned (.bool (!decide (s = t))) ∧ w = w' := by
  go_enter Try.func111, Try.ntmps111
  go_wp2
  go_ret
  exact ⟨ret_bool (by rw [← str_beq]), rfl⟩

set_option maxRecDepth 100000 in
set_option maxHeartbeats 400000 in
theorem containsFunc_any (A : Option Addr) (n c : Nat) (ss : List ByteArray) (f : FuncId) (caps : Array Value) (p : ByteArray → Bool) (w : World) (hr : Rd w A (ss.map Value.string)) (hn : ss.length = n) (hm : n ≤ maxLen)
    (hf : Asks Try.prog w.heap.size w f caps p ss) :
    Calls Try.prog 112 #[.slice A n c, .func (.func f) #[] caps] w fun e w' => e = .returned (.bool (ss.any p)) ∧ Below w.heap.size w w' := by
  have HN := Lib.hid hn; clear hn
  go_enter Try.func112, Try.ntmps112
  go_wp2_with fail
  refine (indexFunc_any A n c ss f caps p _ hr HN.out hm hf).mono ?_
  rintro e w1 ⟨hb1, ⟨k, hk, hpk, hnone, rfl⟩ | ⟨hall, rfl⟩⟩
  · have h0 : (0 : Int) ≤ (k : Int) := by omega
    go_wp2
    go_ret
    exact ⟨ret_bool (by symm; rw [List.any_eq_true]; exact ⟨_, List.getElem_mem hk, hpk⟩), hb1⟩
  · have HA := Lib.hid hall; clear hall
    go_wp2
    go_ret
    exact ⟨ret_bool (by symm; rw [List.any_eq_false]; intro s hs; simp [HA.out s hs]), hb1⟩

/-- may an order be done? -/
def mayL (now : List ByteArray) (x : Ord) : Bool :=
  if x.frm = ByteArray.empty then mem x.to now && now.any (fun s => !decide (s = x.to)) else !mem x.to now && mem x.frm now

set_option maxRecDepth 100000 in
set_option maxHeartbeats 1000000 in
theorem may_any (A : Option Addr) (n c : Nat) (ss : List ByteArray) (x : Ord) (w : World) (hr : Rd w A (ss.map Value.string)) (hn : ss.length = n) (hm : n ≤ maxLen) :
    Calls Try.prog 89 #[.slice A n c, .agg #[.string x.place, .string x.frm, .string x.to]] w fun e w' => e = .returned (.bool (mayL ss x)) ∧ Below w.heap.size w w' := by
  have HN := Lib.hid hn; clear hn
  obtain ⟨place, frm, to⟩ := x
  by_cases hfe : frm = ByteArray.empty
  · have hd : (frm.toList.isEmpty) = true := by rw [isEmpty_iff]; simpa using hfe
    have hml : mayL ss ⟨place, frm, to⟩ = (mem to ss && ss.any (fun s => !decide (s = to))) := by simp [mayL, hfe]
    have HML := Lib.hid hml; clear hml hfe
    go_enter Try.func89, Try.ntmps89
    go_wp2_with fail
    refine (contains_any A n c ss to _ (hr.alloc _) HN.out hm).mono ?_
    rintro e w1 ⟨rfl, rfl⟩
    generalize hp : mem to ss = p at HML
    clear hp
    cases p
    · go_wp2
      go_ret
      exact ⟨ret_bool HML.out.symm, (Below.refl _ _).alloc (Nat.le_refl _) _⟩
    · have hask : Asks Try.prog (w.alloc (.cells #[.string place, .string frm, .string to] 77)).heap.size (w.alloc (.cells #[.string place, .string frm, .string to] 77)) 111 #[.pointer (some ⟨w.heap.size, 0, none⟩)] (fun s => !decide (s = to)) ss :=
        ⟨enter_may1, fun W s hb hs => (may1_any s to w.heap.size W (by rw [hb.cell (by simp)]; simp)).mono (fun e w' h => ⟨h.1, h.2 ▸ Below.refl _ _⟩)⟩
      go_wp2_with fail
      refine (containsFunc_any A n c ss _ _ _ _ (hr.alloc _) HN.out hm hask).mono ?_
      rintro e w2 ⟨rfl, hb2⟩
      clear hask
      generalize hq : (ss.any fun s => !decide (s = to)) = q at HML
      clear hq
      go_wp2
      go_ret
      exact ⟨ret_bool HML.out.symm, ((Below.refl _ _).alloc (Nat.le_refl _) _).trans (hb2.mono (by simp))⟩
  · have hd : (frm.toList.isEmpty) = false := by rw [isEmpty_iff]; simpa using hfe
    have hml : mayL ss ⟨place, frm, to⟩ = (!mem to ss && mem frm ss) := by simp [mayL, hfe]
    have HML := Lib.hid hml; clear hml hfe
    go_enter Try.func89, Try.ntmps89
    go_wp2_with fail
    refine (contains_any A n c ss to _ (hr.alloc _) HN.out hm).mono ?_
    rintro e w1 ⟨rfl, rfl⟩
    generalize hp : mem to ss = p at HML
    clear hp
    cases p
    · go_wp2_with fail
      refine (contains_any A n c ss frm _ (hr.alloc _) HN.out hm).mono ?_
      rintro e w2 ⟨rfl, rfl⟩
      go_wp2
      go_ret
      exact ⟨ret_bool HML.out.symm, (Below.refl _ _).alloc (Nat.le_refl _) _⟩
    · go_wp2
      go_ret
      exact ⟨ret_bool HML.out.symm, (Below.refl _ _).alloc (Nat.le_refl _) _⟩

/-- the nodes that keep a place behind an order -/
def stepL (place : ByteArray) (now : List ByteArray) (x : Ord) : Option (List ByteArray) :=
  if x.place = place then (if mayL now x then some (if x.frm = ByteArray.empty then now.filter (fun s => !decide (s = x.to)) else now ++ [x.to]) else none) else some now
def doL (place : ByteArray) : List ByteArray → List Ord → Option (List ByteArray)
  | now, [] => some now
  | now, x :: l => (stepL place now x).bind fun o => doL place o l
theorem doL_snoc (place : ByteArray) (now : List ByteArray) (l : List Ord) (x : Ord) : doL place now (l ++ [x]) = (doL place now l).bind fun o => stepL place o x := by
  induction l generalizing now with
  | nil => simp only [List.nil_append, doL, Option.bind_some]; cases stepL place now x <;> rfl
  | cons y l ih =>
    simp only [List.cons_append, doL]
    cases h : stepL place now y with
    | none => rfl
    | some o => simp only [Option.bind_some]; exact ih o
theorem doL_none (place : ByteArray) (now : List ByteArray) (l l' : List Ord) (h : doL place now l = none) : doL place now (l ++ l') = none := by
  induction l generalizing now with
  | nil => simp [doL] at h
  | cons y l ih =>
    simp only [List.cons_append, doL] at h ⊢
    cases hs : stepL place now y with
    | none => rfl
    | some o => rw [hs, Option.bind_some] at h; exact ih o h
theorem stepL_len {place : ByteArray} {now o : List ByteArray} {x : Ord} (h : stepL place now x = some o) : o.length ≤ now.length + 1 := by
  unfold stepL at h
  split at h
  · split at h
    · split at h
      · injection h with h; subst h; exact Nat.le_succ_of_le (List.length_filter_le _ _)
      · injection h with h; subst h; simp
    · cases h
  · injection h with h; subst h; omega
theorem doL_len {place : ByteArray} {l : List Ord} : ∀ {now o : List ByteArray}, doL place now l = some o → o.length ≤ now.length + l.length := by
  induction l with
  | nil => intro now o h; simp [doL] at h; subst h; simp
  | cons y l ih =>
    intro now o h
    simp only [doL] at h
    cases hs : stepL place now y with
    | none => rw [hs] at h; cases h
    | some o' =>
      rw [hs, Option.bind_some] at h
      have := ih h
      have := stepL_len hs
      simp only [List.length_cons]; omega

theorem own_lt {w : World} {b : Nat} {v : Value} {e : TypeId} {sz n : Nat} {cs : List Value} (h : w.ownsRow b e sz v n cs) {k : Nat} (hk : v.ownBlock = some k) : k < w.heap.size := (h.lt k hk).2

set_option maxRecDepth 100000 in
set_option maxHeartbeats 2000000 in
theorem do_any (A : Option Addr) (n c : Nat) (ss : List ByteArray) (place : ByteArray) (B : Option Addr) (m d : Nat) (ms : List Ord) (w : World) (hr : Rd w A (ss.map Value.string)) (hn : ss.length = n) (hm : n ≤ 100000)
    (hr' : Rd w B (ms.flatMap Ord.cells)) (hn' : ms.length = m) (hm' : m ≤ 100000) :
    Calls Try.prog 51 #[.slice A n c, .string place, .slice B m d] w (Applies (doL place ss ms) w) := by
  have HN := Lib.hid hn; have HN' := Lib.hid hn'; clear hn hn'
  go_enter Try.func51, Try.ntmps51
  go_wp2_with fail
  refine (clone_any A n c ss _ hr HN.out (by omega)).mono ?_
  rintro e w1 ⟨v, rfl, hown, hbel⟩
  rw [← HN.out] at hown
  go_wp2
  have HO := Lib.hid hown; clear hown
  go_loopw [8, 15] (fun v i wr => ∃ k : Nat, ∃ cur : List ByteArray, k ≤ m ∧ i = .int .i64 k ∧ doL place ss (ms.take k) = some cur ∧ wr.ownsRow w.heap.size 9 1 v cur.length (cur.map Value.string) ∧ Below w.heap.size w wr) (fun _ i _ => m - (intOf i).toNat)
  case atStart => exact ⟨0, ss, Nat.zero_le _, rfl, rfl, HO.out, hbel⟩
  case round =>
    clear HO hbel
    obtain ⟨k, cur, hk, rfl, happ, hown, hbel⟩ := hrel
    have hcl := doL_len happ
    rw [HN.out] at hcl
    have HA := Lib.hid happ; clear happ
    by_cases hlt : k < m
    · have hx : k < ms.length := by have := HN'.out; omega
      have hcl : cur.length ≤ 200000 := by rw [List.length_take] at hcl; omega
      obtain ⟨b, off, rfl, hc0, hc1, hc2⟩ := ord_row (hr'.below hbel) k hx
      have hsn := doL_snoc place ss (ms.take k) ms[k]
      rw [← List.take_succ_eq_append_getElem hx, HA.out, Option.bind_some] at hsn
      have hnone : doL place ss (ms.take (k + 1)) = none → doL place ss ms = none := fun h => by
        have := doL_none place ss _ (ms.drop (k + 1)) h
        rwa [List.take_append_drop] at this
      have HNO := Lib.hid hnone; clear hnone
      generalize ms[k] = mk at hc0 hc1 hc2 hsn
      obtain ⟨xp, xf, xt⟩ := mk
      simp only at hc0 hc1 hc2
      obtain ⟨G, cc, rfl⟩ := own_form hown
      have HO := Lib.hid hown; clear hown
      by_cases hpl : xp = place
      · have hd : (xp.toList == place.toList) = true := by rw [str_beq]; simpa using hpl
        have hsn' : doL place ss (ms.take (k + 1)) = if mayL cur ⟨xp, xf, xt⟩ then some (if xf = ByteArray.empty then cur.filter (fun s => !decide (s = xt)) else cur ++ [xt]) else none := by
          rw [hsn]; unfold stepL; rw [if_pos hpl]
        have HS := Lib.hid hsn'; clear hsn hsn' hpl
        have hrd := (Rd.of_own HO.out).alloc (.cells #[.string xp, .string xf, .string xt] 77)
        go_wp2_with fail
        refine (may_any G cur.length cc cur ⟨xp, xf, xt⟩ _ hrd rfl (by unfold maxLen; omega)).mono ?_
        rintro e w2 ⟨rfl, hb2⟩
        generalize hmy : mayL cur ⟨xp, xf, xt⟩ = my at HS
        clear hmy hrd hc0 hc1 hc2
        have hb2' := ba hb2
        have hp1 : w2.cell? ⟨wr.heap.size, 1, none⟩ = some (.string xf) := cell_below hb2 (by simp)
        have hp2 : w2.cell? ⟨wr.heap.size, 2, none⟩ = some (.string xt) := cell_below hb2 (by simp)
        have hp0 : w2.cell? ⟨wr.heap.size, 0, none⟩ = some (.string xp) := cell_below hb2 (by simp)
        have HO2 := Lib.hid (own_below HO.out hb2')
        have hbel2 := hbel.trans (hb2'.mono hbel.size)
        have hsz : wr.heap.size + 1 ≤ w2.heap.size := by have := hb2.size; simpa using this
        have HOr := HO
        clear hb2 HO
        cases my
        · go_wp2
          go_ret2
          exact ⟨hbel2, .inr ⟨HNO.out (by rw [HS.out]; rfl), rfl⟩⟩
        · by_cases hfe : xf = ByteArray.empty
          · have hd2 : (xf.toList.isEmpty) = true := by rw [isEmpty_iff]; simpa using hfe
            have HFE := Lib.hid hfe; clear hfe
            have hask : AsksBut Try.prog (Value.slice G cur.length cc).ownBlock w2 90 #[.pointer (some ⟨wr.heap.size, 0, none⟩)] (fun s => decide (s = xt)) cur :=
              ⟨enter_do1, fun W s hg hs => (do1_any s xt wr.heap.size W (hg.cell hp2 (fun e => by have := own_lt HOr.out e.symm; simp at this))).mono (fun e w' h => ⟨h.1, h.2 ▸ Below.refl _ _⟩)⟩
            go_wp2_with fail
            refine (deleteFuncB_any w.heap.size (.slice G cur.length cc) cur.length cur _ _ _ w2 hbel2.size HO2.out (by omega) hask).mono ?_
            rintro e w3 ⟨hb3, v3, rfl, hown3⟩
            clear hask
            go_wp2
            go_roundw
            case rel => exact ⟨k + 1, cur.filter (fun s => !decide (s = xt)), by omega, by go_num, by rw [HS.out]; simp [HFE.out], hown3, hbel2.trans hb3⟩
            case measure => simp [intOf]; omega
          · have hd2 : (xf.toList.isEmpty) = false := by rw [isEmpty_iff]; simpa using hfe
            go_wp2_with (at_builtin; refine wpList_app el_string rfl _ _ rfl w.heap.size (.slice G cur.length cc) _ _ rfl (HO2.out.alloc _) (some ⟨w2.heap.size, 0, none⟩) 1 1 [.string xt] rfl rfl (Rd.new w2 #[.string xt] _) (by intro u hu; simp at hu; subst hu; rfl) (by unfold maxLen; omega) (by omega) (by have := hbel2.size; simp; omega) ?_; intro v3 w3 hown3 hbel3 _ _)
            go_roundw
            case rel => exact ⟨k + 1, cur ++ [xt], by omega, by go_num, by rw [HS.out]; simp [hfe], by simpa using hown3, (hbel2.alloc hbel2.size _).trans hbel3⟩
            case measure => simp [intOf]; omega
      · have hd : (xp.toList == place.toList) = false := by rw [str_beq]; simpa using hpl
        have hsn' : doL place ss (ms.take (k + 1)) = some cur := by rw [hsn]; unfold stepL; rw [if_neg hpl]
        have HS := Lib.hid hsn'; clear hsn hsn' hpl
        go_wp2
        go_roundw
        case rel => exact ⟨k + 1, cur, by omega, by go_num, HS.out, HO.out.alloc _, hbel.alloc hbel.size _⟩
        case measure => simp [intOf]; omega
    · obtain rfl : k = m := by omega
      go_wp2
      go_ret2
      have ha := HA.out
      rw [← HN'.out, List.take_length] at ha
      exact ⟨hbel, .inl ⟨cur, _, ha, rfl, hown⟩⟩

/-- what is to be done, that others keep a place -/
def fromL (was now : List ByteArray) : ByteArray := (restsL now was).head?.getD (was.headD ByteArray.empty)
def ordersL (place : ByteArray) (was now : List ByteArray) : List Ord :=
  (gainsL was now).map (Ord.mk place (fromL was now)) ++ (gainsL now was).map (Ord.mk place ByteArray.empty)

/-- a slice does not lie at an address' block -/
def Far (v : Value) (A : Option Addr) : Prop := ∀ b off, A = some ⟨b, off, none⟩ → v.ownBlock ≠ some b

theorem rd_grown {w w' : World} {A : Option Addr} {cs : List Value} {v : Value} (h : Rd w A cs) (hg : w.grownBy w' v.ownBlock) (hf : Far v A) : Rd w' A cs := fun j u hj => by
  obtain ⟨b, off, e, hc⟩ := h j u hj
  exact ⟨b, off, e, hg.cell hc (fun h => hf b off e h.symm)⟩

theorem rd_set {w : World} {A : Option Addr} {cs : List Value} {go : Nat} (h : Rd w A cs) (hf : Far (.slice (some ⟨go, 0, none⟩) 0 0) A) (x : Value) : Rd (w.setCell ⟨go, 0, none⟩ x) A cs := fun j u hj => by
  obtain ⟨b, off, e, hc⟩ := h j u hj
  refine ⟨b, off, e, ?_⟩
  rw [World.cell?_setCell_other]
  · exact hc
  · intro h
    injection h with h1
    exact hf b off e (by rw [← h1]; rfl)

/-- what the closure 'order' leaves -/
def Ordered (go : Nat) (n : Nat) (cs : List Value) (w : World) (e : Ending) (w' : World) : Prop :=
  e = .returned (.tuple #[]) ∧ Below go w w' ∧ ∃ v, w'.cell? ⟨go, 0, none⟩ = some v ∧ w'.frozen? ⟨go, 0, none⟩ = false ∧ w'.ownsRow (go + 1) 77 3 v n cs

set_option maxRecDepth 100000 in
set_option maxHeartbeats 2000000 in
theorem orders1_any (frm place : ByteArray) (A : Option Addr) (n c : Nat) (ss : List ByteArray) (go gp nx : Nat) (v : Value) (xs : List Ord) (w : World) (hr : Rd w A (ss.map Value.string)) (hn : ss.length = n) (hm : n ≤ 100000) (hx : nx ≤ 100000) (hnx : xs.length = nx)
    (hp : w.cell? ⟨gp, 0, none⟩ = some (.string place)) (hgp : gp < go) (hgo : go < w.heap.size) (ho : w.cell? ⟨go, 0, none⟩ = some v) (hof : w.frozen? ⟨go, 0, none⟩ = false) (hown : w.ownsRow (go + 1) 77 3 v nx (xs.flatMap Ord.cells)) (hfar : Far v A) (hAgo : Far (.slice (some ⟨go, 0, none⟩) 0 0) A) :
    Calls Try.prog 91 #[.string frm, .slice A n c, .pointer (some ⟨go, 0, none⟩), .pointer (some ⟨gp, 0, none⟩)] w (Ordered go (nx + n) ((xs ++ ss.map (Ord.mk place frm)).flatMap Ord.cells) w) := by
  have HN := Lib.hid hn; have HX := Lib.hid hnx; clear hn hnx
  go_enter Try.func91, Try.ntmps91
  go_wp2
  go_loopw [10] (fun i wr => ∃ k : Nat, ∃ v : Value, k ≤ n ∧ i = .int .i64 k ∧ wr.cell? ⟨go, 0, none⟩ = some v ∧ wr.frozen? ⟨go, 0, none⟩ = false ∧ wr.ownsRow (go + 1) 77 3 v (nx + k) ((xs ++ (ss.take k).map (Ord.mk place frm)).flatMap Ord.cells) ∧
      Rd wr A (ss.map Value.string) ∧ Far v A ∧ Below go w wr) (fun i _ => n - (intOf i).toNat)
  case atStart => exact ⟨0, v, Nat.zero_le _, rfl, ho, hof, by simpa using hown, hr, hfar, Below.refl _ _⟩
  case round =>
    obtain ⟨k, v', hk, rfl, hov, hfz, hown', hrd, hfr, hbel⟩ := hrel
    by_cases hlt : k < n
    · have hx' : k < ss.length := by have := HN.out; omega
      obtain ⟨b, off, rfl, hcell⟩ := hrd.at_ k (by simp; exact hx')
      simp only [List.getElem_map] at hcell
      have hts : (ss.take (k + 1)).map (Ord.mk place frm) = (ss.take k).map (Ord.mk place frm) ++ [⟨place, frm, ss[k]⟩] := by
        rw [List.take_succ_eq_append_getElem hx', List.map_append]; rfl
      generalize ss[k] = t at hcell hts
      have HT := Lib.hid hts; have HO := Lib.hid hown'; clear hts hown'
      have hpw : wr.cell? ⟨gp, 0, none⟩ = some (.string place) := (hbel.cell hgp).trans hp
      have hsz := hbel.size
      have HOV : Hid ((wr.alloc (.cells #[.string place, .string frm, .string t] 77)).cell? ⟨go, 0, none⟩ = some v') := (World.cell?_alloc_lt _ _ _ (by simp; omega)).trans hov
      have HFZ : Hid ((wr.alloc (.cells #[.string place, .string frm, .string t] 77)).frozen? ⟨go, 0, none⟩ = false) := (World.frozen?_alloc_old _ _ _ (by simp; omega)).trans hfz
      go_wp2_with (at_builtin; refine wpList_app el_order rfl _ _ rfl (go + 1) v' _ _ rfl (HO.out.alloc _) (some ⟨wr.heap.size, 0, none⟩) 1 1 (Ord.cells ⟨place, frm, t⟩) rfl rfl (Rd.new wr #[.string place, .string frm, .string t] _) (by intro u hu; simp [Ord.cells] at hu; rcases hu with rfl | rfl | rfl <;> rfl) (by unfold maxLen; omega) (by omega) (by simp; omega) ?_; intro v1 w1 hown1 hbel1 hgr1 hat1; obtain ⟨G1, cc1, rfl⟩ := own_form hown1; have hov1 := (hbel1.cell (p := ⟨go, 0, none⟩) (Nat.lt_succ_self _)).trans HOV.out; have hfz1 := (hbel1.frozen (p := ⟨go, 0, none⟩) (Nat.lt_succ_self _)).trans HFZ.out)
      go_roundw
      case rel =>
        have hbw : Below go w w1 := (hbel.alloc (by omega) _).trans (hbel1.mono (by omega))
        refine ⟨k + 1, .slice G1 (nx + k + 1) cc1, by omega, by go_num, ?_, ?_, ?_, ?_, ?_, hbw.setCell (Nat.le_refl _) _⟩
        · exact World.cell?_setCell_same _ _ _ hov1
        · rw [World.frozen?_setCell]; exact hfz1
        · rw [HT.out, ← List.append_assoc, List.flatMap_append]
          have h1 := ownsRow_setCell_below hown1 (a := ⟨go, 0, none⟩) (by simp) (.slice G1 (nx + k + 1) cc1)
          simpa [Nat.add_assoc] using h1
        · exact rd_set (rd_grown (hrd.alloc _) hgr1 hfr) hAgo _
        · intro b' off' e
          injection e with e; injection e with e1 e2
          subst e1 e2
          rcases hat1 with h | h
          · rw [h]; exact hfr _ _ rfl
          · rw [h]
            have := World.block_lt_of_cell? _ _ hcell
            simp only at this
            simp; omega
      case measure => simp [intOf]; omega
    · obtain rfl : k = n := by omega
      rw [List.take_of_length_le (by rw [HN.out]; omega)] at hown'
      go_wp2
      go_end0
      exact ⟨rfl, hbel, v', hov, hfz, hown'⟩
end Go.Proofs.Ytebfmacbdjnhbaa
