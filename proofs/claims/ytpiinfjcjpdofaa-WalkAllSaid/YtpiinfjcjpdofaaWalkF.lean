/- walk: the walk of WalkAll. -/
import Derived.Test.YtpiinfjcjpdofaaWalkE
namespace Go.Proofs.Ytpiinfjcjpdofaa
open Go.RowKit Go.Mem
set_option linter.unusedVariables false
theorem quiet_left {P : Program} {f : FuncId} {args : Array Value} {w : World} {n : Nat} {v : Value} (h : Calls P f args (w.drewN n) fun e w' => e = .returned v ∧ w.drewN n = w') : Calls P f args (w.drewN n) fun e w'' => e = .returned v ∧ ∃ m, w'' = w.drewN m :=
  h.mono fun e w' ⟨h1, h2⟩ => ⟨h1, n, h2.symm⟩
theorem quiet_left0 {P : Program} {f : FuncId} {args : Array Value} {w : World} {v : Value} (h : Calls P f args w fun e w' => e = .returned v ∧ w = w') : Calls P f args w fun e w'' => e = .returned v ∧ ∃ m, w'' = w.drewN m :=
  h.mono fun e w' ⟨h1, h2⟩ => ⟨h1, 0, h2.symm⟩
theorem mem_take_succ (ss : List ByteArray) (s : ByteArray) (k : Nat) (hk : k < ss.length) : mem s (ss.take (k + 1)) = (mem s (ss.take k) || decide (ss[k] = s)) := by
  unfold mem
  rw [List.take_succ_eq_append_getElem hk, List.any_append]
  simp
def nm (ns : List ByteArray) (x : Nat) : ByteArray := ns.getD x ByteArray.empty
theorem nm_at {ns : List ByteArray} {x : Nat} (h : x < ns.length) : ns[x]? = some (nm ns x) := by unfold nm; simp [List.getD, h]
/-- does one of those told so far own nothing? -/
def noth (ns ss : List ByteArray) (o : List Nat) (k : Nat) : Bool := (o.take k).any fun x => !mem (nm ns x) ss
theorem noth_succ (ns ss : List ByteArray) (o : List Nat) (k : Nat) (hk : k < o.length) : noth ns ss o (k + 1) = (noth ns ss o k || !mem (nm ns o[k]) ss) := by
  unfold noth
  rw [List.take_succ_eq_append_getElem hk, List.any_append]
  simp
theorem noth_ahead {ns ss : List ByteArray} {o : List Nat} {k : Nat} (hk : k < o.length) (hlt : ∀ x ∈ o, x < ns.length) (h : ∀ (i j x y : Nat), i < j → o[i]? = some x → o[j]? = some y → (∃ s ∈ ss, ns[y]? = some s) → ∃ s ∈ ss, ns[x]? = some s)
    (hm : mem (nm ns o[k]) ss = true) : noth ns ss o k = false := by
  unfold noth
  rw [List.any_eq_false]
  intro x hx
  rw [List.mem_take_iff_getElem] at hx
  obtain ⟨i, hi, rfl⟩ := hx
  have hio : i < o.length := by omega
  obtain ⟨s, h1, h2⟩ := h i k o[i] o[k] (by omega) (List.getElem?_eq_getElem hio) (List.getElem?_eq_getElem hk) ⟨_, mem_iff.1 hm, nm_at (hlt _ (List.getElem_mem hk))⟩
  rw [nm_at (hlt _ (List.getElem_mem hio))] at h2
  injection h2 with h2
  have : mem (nm ns o[i]) ss = true := mem_iff.2 (h2 ▸ h1)
  simp [this]
set_option maxRecDepth 100000 in
set_option maxHeartbeats 4000000 in
theorem walkAll_walk (A : Option Addr) (n c : Nat) (ss : List ByteArray) (B : Option Addr) (m d : Nat) (ms : List Mb) (part : Int) (w : World) (hr : Rd w A (ss.map Value.string)) (hn : ss.length = n) (hn' : n ≤ maxLen) (hr' : Rd w B (ms.flatMap Mb.cells)) (hm : ms.length = m) (hm' : m ≤ maxLen) (hok : ∀ x ∈ ms, True) (hp : (Lit.int .u16 part).wf = true) :
    Calls Try.prog 4 #[.slice A n c, .slice B m d, .int .u16 part] w fun e w' => e = .returned (.bool true) ∧ Below w.heap.size w w' := by
  have hpp : 0 ≤ part ∧ part ≤ 65535 := by simpa [Lit.wf, IntKind.min, IntKind.max, IntKind.signed, IntKind.bits] using hp
  have HN := Lib.hid hn; have HM := Lib.hid hm; clear hn hm hok hp
  go_enter Try.func4, Try.ntmps4
  go_wp2_with fail
  refine (few15_any A n c ss _ hr HN.out hn').mono ?_
  rintro e w1 ⟨b1, hb1, rfl, rfl⟩
  have HF1 := Lib.hid hb1; clear hb1
  cases b1
  · go_wp2_with fail
    refine (awake15_any _).mono ?_
    rintro e w1 ⟨rfl, hb1⟩
    go_wp2
    go_ret
    exact ⟨rfl, hb1⟩
  have HG1 := Lib.hid (HF1.out rfl); clear HF1
  go_wp2_with fail
  refine (few13_any B m d ms 40 _ hr' HM.out hm' (by omega)).mono ?_
  rintro e w1 ⟨b1, hb1, rfl, rfl⟩
  have HF2 := Lib.hid hb1; clear hb1
  cases b1
  · go_wp2_with fail
    refine (awake15_any _).mono ?_
    rintro e w1 ⟨rfl, hb1⟩
    go_wp2
    go_ret
    exact ⟨rfl, hb1⟩
  have HG2 := Lib.hid (HF2.out rfl); clear HF2
  have hn40 := HG1.out.1
  have hm40 := HG2.out.1
  clear hn' hm'
  go_wp2_with fail
  go_loopw [7] (fun i wr => ∃ k : Nat, k ≤ m ∧ i = .int .i64 k ∧ Hid ((names ms).take k).Nodup ∧ Below w.heap.size w wr) (fun i _ => m - (intOf i).toNat)
  case atStart => exact ⟨0, Nat.zero_le _, rfl, Lib.hid (by simp), Below.refl _ _⟩
  case round =>
    obtain ⟨k, hk, rfl, HND, hbel⟩ := hrel
    obtain ⟨wo, rfl⟩ : ∃ wo, wo = wr := ⟨_, rfl⟩
    have hnl : (names ms).length = m := by simp [names]; exact HM.out
    have HNL := Lib.hid hnl; clear hnl
    by_cases hlt : k < m
    · have hx : k < ms.length := by have := HM.out; omega
      have hxn : k < (names ms).length := by rw [HNL.out]; exact hlt
      go_wp2
      go_loopw [8] (fun i wr => ∃ j : Nat, j ≤ k ∧ i = .int .i64 j ∧ Hid ((names ms)[k] ∉ (names ms).take j) ∧ Below w.heap.size w wr) (fun i _ => k - (intOf i).toNat)
      case atStart => exact ⟨0, Nat.zero_le _, rfl, Lib.hid (by simp), hbel⟩
      case round =>
        clear hbel
        obtain ⟨j, hj, rfl, HNOT, hbel⟩ := hrel
        by_cases hlj : j < k
        · have hxj : j < ms.length := by omega
          have hxjn : j < (names ms).length := by omega
          obtain ⟨b, off, rfl, hcell, _, _, _⟩ := mb_row (hr'.below hbel) k hx
          obtain ⟨b', off', e', hcell', _, _, _⟩ := mb_row (hr'.below hbel) j hxj
          injection e' with e'; injection e' with e1 e2
          subst e1 e2
          have hnk : (names ms)[k] = ms[k].name := by simp [names]
          have hnj : (names ms)[j] = ms[j].name := by simp [names]
          generalize ms[k].name = s at hcell hnk
          generalize ms[j].name = t at hcell' hnj
          have HS := Lib.hid hnk; have HT := Lib.hid hnj; clear hnk hnj
          have hi0 : (0 : Int) ≤ (k : Int) := by omega
          have hi1 : (k : Int) < (m : Int) := by omega
          have hj0 : (0 : Int) ≤ (j : Int) := by omega
          have hj1 : (j : Int) < (m : Int) := by omega
          by_cases hst : s = t
          · have hne : (s.toList == t.toList) = true := by rw [str_beq]; simpa using hst
            clear hst
            go_wp2
            go_quiet (fail)
            go_wp2_with fail
            refine (awake15_any _).mono ?_
            rintro e w1 ⟨rfl, hb1⟩
            go_wp2
            go_ret
            exact ⟨rfl, then_ (drewN_ hbel _) hb1⟩
          · have hne : (s.toList == t.toList) = false := by rw [str_beq]; simpa using hst
            have HST := Lib.hid hst; clear hst
            go_wp2
            go_quiet (fail)
            go_wp2
            go_roundw
            case rel => exact ⟨j + 1, by omega, by go_num, Lib.hid (by rw [take_succ_mem _ _ hxjn, HT.out, HS.out]; rintro (h | h); exact HNOT.out (by rw [HS.out]; exact h); exact HST.out h), drewN_ hbel _⟩
            case measure => simp [intOf]; omega
        · have HJ : Hid (j = k) := Lib.hid (by omega)
          have hge : (k : Int) ≤ (j : Int) := by omega
          have hnd : ((names ms).take (k + 1)).Nodup := by
            rw [List.take_succ_eq_append_getElem hxn]
            refine List.nodup_append.2 ⟨HND.out, by simp, fun a ha b hb => ?_⟩
            rw [List.mem_singleton] at hb; subst hb; rintro rfl
            have := HNOT.out; rw [HJ.out] at this
            exact this ha
          have HND2 := Lib.hid hnd; clear hnd
          go_wp2
          go_roundw
          case rel => exact ⟨k + 1, by omega, by go_num, HND2, hbel⟩
          case measure => simp [intOf]; omega
    · have HK : Hid (k = m) := Lib.hid (by omega)
      have hge : (m : Int) ≤ (k : Int) := by omega
      have hnd := HND.out
      rw [List.take_of_length_le (by rw [HNL.out, HK.out]; exact Nat.le_refl _)] at hnd
      have HD := Lib.hid hnd; clear hnd HND
      have hr1 := hr.below hbel
      have hr1' := hr'.below hbel
      go_wp2_with fail
      refine (order_any A n c ss B m d ms part _ hr1 HN.out (by omega) hr1' HM.out (by omega) (by unfold Lit.wf; simp [IntKind.min, IntKind.max, IntKind.signed, IntKind.bits]; omega) (fun s hs => by have := HG1.out.2 s hs; unfold maxLen; omega) (fun x hx => by have := (HG2.out.2 x hx).1; unfold maxLen; omega)).mono ?_
      rintro e w1 ⟨v1, rfl, ho1, hb1⟩
      obtain ⟨G1, c1, rfl⟩ := own_form ho1
      have hoc : (WalkL.order (names ms) ss ByteArray.empty part).length ≤ c1 := by
        rcases ho1.2 with ⟨hv, h0⟩ | ⟨_, _, _, hv, _, _, hcc, _⟩
        · omega
        · injection hv with _ _ h; omega
      have ho1r := Rd.of_own ho1
      have hr2 := hr1.below hb1
      have hr2' := hr1'.below hb1
      have hb2 := then_ hbel hb1
      have hol : (WalkL.order (names ms) ss ByteArray.empty part).length = m := by rw [order_len]; exact HNL.out
      have hsame : WalkL.order (names ms) ss ByteArray.empty (part + (n : Int)) = WalkL.order (names ms) ss ByteArray.empty part := by
        unfold WalkL.order; rw [HN.out, WalkL.fromN_add]
      have hperm := WalkL.order_perm (names ms) ss ByteArray.empty part
      have hahead : ∀ (i j x y : Nat), i < j → (WalkL.order (names ms) ss ByteArray.empty part)[i]? = some x → (WalkL.order (names ms) ss ByteArray.empty part)[j]? = some y → (∃ s ∈ ss, (names ms)[y]? = some s) → ∃ s ∈ ss, (names ms)[x]? = some s := fun i j x y h1 h2 h3 h4 => WalkL.order_ahead HD.out h1 h2 h3 h4
      have HSAME := Lib.hid hsame; have HPERM := Lib.hid hperm; have HAH := Lib.hid hahead; clear hsame hperm hahead
      generalize hoo : WalkL.order (names ms) ss ByteArray.empty part = o at *
      have HOO := Lib.hid hoo; clear hoo
      rw [hol] at hoc ⊢
      have HOL := Lib.hid hol
      clear ho1 hb1 hbel hr1 hr1' hol
      have hw1 : IntKind.i64.wrap (part + (n : Int)) = part + (n : Int) := IntWalk.i64_in _ (by omega)
      have hne : ((m : Int) != (m : Int)) = false := by simp
      go_wp2_with fail
      refine (order_any A n c ss B m d ms (part + (n : Int)) _ hr2 HN.out (by omega) hr2' HM.out (by omega) (by unfold Lit.wf; simp [IntKind.min, IntKind.max, IntKind.signed, IntKind.bits]; omega) (fun s hs => by have := HG1.out.2 s hs; unfold maxLen; omega) (fun x hx => by have := (HG2.out.2 x hx).1; unfold maxLen; omega)).mono ?_
      rintro e w2 ⟨v2, rfl, ho2, hb3⟩
      rw [HSAME.out] at ho2
      obtain ⟨G2, c2, rfl⟩ := own_form ho2
      have hrd2 := Rd.of_own ho2
      have hro := ho1r.below hb3
      have hr3 := hr2.below hb3
      have hr3' := hr2'.below hb3
      have hb4 := then_ hb2 hb3
      clear ho2 hb3 hb2 hr2 hr2' ho1r hw1
      go_wp2_with fail
      refine (sameNats_any G1 m c1 o G2 _ c2 o _ hro HOL.out (by omega) hrd2 rfl (by rw [HOL.out]; omega) rfl).mono ?_
      rintro e w3 ⟨rfl, hb3⟩
      have hro := hro.below hb3
      have hb4 := then_ hb4 hb3
      clear hb3 hr3 hr3' hrd2 hne
      go_wp2_with fail
      have hb33 := Below.refl w3.heap.size w3
      go_loopw [10, 11] (fun f i wr => ∃ k : Nat, k ≤ m ∧ i = .int .i64 k ∧ f = .bool (noth (names ms) ss o k) ∧ Below w.heap.size w wr ∧ Below w3.heap.size w3 wr) (fun _ i _ => m - (intOf i).toNat)
      case atStart => exact ⟨0, Nat.zero_le _, rfl, by simp [noth], hb4, hb33⟩
      case round =>
        clear hb4 hb33
        obtain ⟨k, hk, rfl, rfl, hb4, hb33⟩ := hrel
        obtain ⟨wo, rfl⟩ : ∃ wo, wo = wr := ⟨_, rfl⟩
        by_cases hlt : k < m
        · have hx : k < o.length := by rw [HOL.out]; exact hlt
          have hrok := hro.below hb33
          obtain ⟨b, off, rfl, hcell⟩ := hrok.at_ k (by rw [nats_length]; exact hx)
          simp only [nats, List.getElem_map] at hcell
          have hxm : o[k] < m := by have := HPERM.out.2.1 o[k] (List.getElem_mem hx); rw [HNL.out] at this; exact this
          have hnin : decide (o[k] ∈ o.take k) = false := by
            rw [decide_eq_false_iff_not, List.mem_take_iff_getElem]
            rintro ⟨i, hi, he⟩
            have := (List.getElem_inj HPERM.out.1).1 he
            omega
          have hahd : mem (nm (names ms) o[k]) ss = true → noth (names ms) ss o k = false := fun h => noth_ahead hx HPERM.out.2.1 HAH.out h
          have hsucc := noth_succ (names ms) ss o k hx
          have hxms : o[k] < ms.length := by rw [HM.out]; exact hxm
          have hnm : nm (names ms) o[k] = ms[o[k]].name := by simp [nm, names, List.getD, hxms]
          have hrt : Rd wo (some ⟨b, off, none⟩) (nats (o.take k)) := by have := hrok.take k; simpa [nats, List.map_take] using this
          have htl : (o.take k).length = k := by rw [List.length_take]; omega
          have HIN : Hid (∀ q, Calls Try.prog 19 #[.slice (some ⟨b, off, none⟩) k c1, .int .i64 (o[k] : Int)] (wo.drewN q) fun e w' => e = .returned (.bool false) ∧ wo.drewN q = w') := Lib.hid (fun q => by
            have := rIn_any (some ⟨b, off, none⟩) k c1 (o.take k) o[k] (wo.drewN q) (hrt.drewN q) htl (by omega) (by omega)
            rw [hnin] at this; exact this)
          obtain ⟨b', off', rfl, hcell', _, _, _⟩ := mb_row (hr'.below hb4) o[k] hxms
          have HNM := Lib.hid hnm; have HAD := Lib.hid hahd; have HSUCC := Lib.hid hsucc
          clear hnm hahd hsucc hnin hrt htl hrok
          generalize ms[o[k]].name = s at *
          generalize o[k] = x at *
          have hi0 : (0 : Int) ≤ (k : Int) := by omega
          have hi1 : (k : Int) < (m : Int) := by omega
          have hi2 : (k : Int) ≤ (c1 : Int) := by omega
          have hx0 : (0 : Int) ≤ (x : Int) := by omega
          have hx1 : (x : Int) < (m : Int) := by omega
          have hd1 : decide ((x : Int) < 0) = false := by rw [decide_eq_false_iff_not]; omega
          have hd2 : decide ((m : Int) ≤ (x : Int)) = false := by rw [decide_eq_false_iff_not]; omega
          go_wp2
          go_quiet ((go_at_call 19; exact quiet_left (HIN.out _)))
          go_wp2
          obtain ⟨w4, hw4⟩ : ∃ w4, w4 = wo.drewN nq := ⟨_, rfl⟩
          have hb5 : Below w.heap.size w w4 := by rw [hw4]; exact drewN_ hb4 _
          have hb55 : Below w3.heap.size w3 w4 := by rw [hw4]; exact drewN_ hb33 _
          have hcell5 : w4.cell? ⟨b, off + k, none⟩ = some (.int .i64 (x : Int)) := by rw [hw4]; exact hcell
          have hcell5' : w4.cell? ⟨b', off' + x * 4, none⟩ = some (.string s) := by rw [hw4]; exact hcell'
          rw [← hw4]
          have HB5 := Lib.hid hb5; have HB55 := Lib.hid hb55
          clear hw4 hb4 hb33 hcell hcell' HIN hb5 hb55 hd1
          have hb44 := Below.refl w4.heap.size w4
          go_loopw [12, 13] (fun f i wr => ∃ j : Nat, j ≤ n ∧ i = .int .i64 j ∧ f = .bool (mem s (ss.take j)) ∧ Below w4.heap.size w4 wr) (fun _ i _ => n - (intOf i).toNat)
          case atStart => exact ⟨0, Nat.zero_le _, rfl, rfl, hb44⟩
          case round =>
            clear hb44
            obtain ⟨j, hj, rfl, rfl, hb6⟩ := hrel
            by_cases hlj : j < n
            · have hxj : j < ss.length := by rw [HN.out]; exact hlj
              have hsc := mem_take_succ ss s j hxj
              obtain ⟨bo, offo, rfl, hcello⟩ := (hr.below (HB5.out.trans (hb6.mono HB5.out.size))).at_ j (by simp; exact hxj)
              simp only [List.getElem_map] at hcello
              have k1 := cell_below hb6 hcell5
              have k2 := cell_below hb6 hcell5'
              generalize ss[j] = t at hsc hcello
              generalize mem s (ss.take j) = bj at *
              have HSC := Lib.hid hsc; clear hsc
              have hj0 : (0 : Int) ≤ (j : Int) := by omega
              have hj1 : (j : Int) < (n : Int) := by omega
              cases bj
              · by_cases hts : t = s
                · have hne : (t.toList == s.toList) = true := by rw [str_beq]; simpa using hts
                  have HTS := Lib.hid hts; clear hts
                  go_wp2
                  go_quiet (fail)
                  go_wp2
                  go_roundw
                  case rel => exact ⟨j + 1, by omega, by go_num, by rw [HSC.out, HTS.out]; simp, drewN_ hb6 _⟩
                  case measure => simp [intOf]; omega
                · have hne : (t.toList == s.toList) = false := by rw [str_beq]; simpa using hts
                  have HTS := Lib.hid hts; clear hts
                  go_wp2
                  go_quiet (fail)
                  go_wp2
                  go_roundw
                  case rel => exact ⟨j + 1, by omega, by go_num, by rw [HSC.out]; simp [HTS.out], drewN_ hb6 _⟩
                  case measure => simp [intOf]; omega
              · go_wp2
                go_quiet (fail)
                go_wp2
                go_roundw
                case rel => exact ⟨j + 1, by omega, by go_num, by rw [HSC.out]; simp, drewN_ hb6 _⟩
                case measure => simp [intOf]; omega
            · have HJ : Hid (ss.take j = ss) := Lib.hid (List.take_of_length_le (by rw [HN.out]; omega))
              have hge : (n : Int) ≤ (j : Int) := by omega
              rw [HJ.out]
              have hb7 := HB5.out.trans (hb6.mono HB5.out.size)
              have hb77 := HB55.out.trans (hb6.mono HB55.out.size)
              have had : mem s ss = true → noth (names ms) ss o k = false := fun h => HAD.out (by rw [HNM.out]; exact h)
              have hsu : noth (names ms) ss o (k + 1) = (noth (names ms) ss o k || !mem s ss) := by rw [HSUCC.out, HNM.out]
              generalize noth (names ms) ss o k = nk at *
              generalize mem s ss = sk at *
              have HSU := Lib.hid hsu; clear hsu hb6
              cases sk
              · cases nk
                all_goals
                  clear had
                  go_wp2
                  go_roundw
                  case rel => exact ⟨k + 1, by omega, by go_num, by rw [HSU.out]; simp, hb7, hb77⟩
                  case measure => simp [intOf]; omega
              · obtain rfl := had rfl
                clear had
                go_wp2
                go_roundw
                case rel => exact ⟨k + 1, by omega, by go_num, by rw [HSU.out]; simp, hb7, hb77⟩
                case measure => simp [intOf]; omega
        · have hge : (m : Int) ≤ (k : Int) := by omega
          go_wp2_with fail
          refine (awake15_any _).mono ?_
          rintro e w9 ⟨rfl, hb9⟩
          go_wp2
          go_ret
          exact ⟨rfl, then_ hb4 hb9⟩
end Go.Proofs.Ytpiinfjcjpdofaa
