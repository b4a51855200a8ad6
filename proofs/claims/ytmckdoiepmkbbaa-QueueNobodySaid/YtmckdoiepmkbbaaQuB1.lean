/- Walk of trothlaw14.QueueBack: it answers true. Condition: the lists of calls came in. -/
import Derived.Test.YtmckdoiepmkbbaaQuY
namespace Go.Mine
set_option linter.unusedVariables false
set_option linter.unusedSimpArgs false
theorem adel_aput {n : Int} {v : KW} {ws : List (Int × KW)} (hk : ws.Pairwise (fun x y => x.1 ≠ y.1)) {u : KW} (h : aget n ws = some u) : adel n (aput n v ws) = adel n ws := by
  obtain ⟨X, Y, hw, hX, hY, hp, hd⟩ := aget_split hk h
  rw [hd, hp]
  unfold adel
  have fX : ∀ (Z : List (Int × KW)), (∀ e ∈ Z, e.1 ≠ n) → Z.filter (fun e => decide (e.1 ≠ n)) = Z := fun Z hZ => List.filter_eq_self.2 (fun e he => by simpa using hZ e he)
  rw [List.filter_append, List.filter_cons, fX X hX, fX Y hY]
  simp
theorem adel_noteW {n : Int} {c : Ch} {ws : List (Int × KW)} (hk : ws.Pairwise (fun x y => x.1 ≠ y.1)) : adel n (noteW n c ws) = adel n ws := by
  unfold noteW
  cases h : aget n ws with
  | some v => exact adel_aput hk h
  | none =>
    show adel n (ws ++ [(n, ⟨[c], false⟩)]) = _
    unfold adel
    rw [List.filter_append]
    simp
/-- Behind a backout it is as it was. -/
structure AsWas (n : Int) (s0 s : QS) : Prop where
  ok : s.Ok
  gv : s.gv = s0.gv
  its : s.its.map (freeI n) = s0.its
  ws : adel n s.ws = s0.ws
theorem AsWas.vals {n : Int} {s0 s : QS} (h : AsWas n s0 s) : s.its.map (·.val) = s0.its.map (·.val) := by
  rw [← h.its, List.map_map]
  apply List.map_congr_left
  intro x _
  simp only [Function.comp_apply, freeI]
  split <;> rfl
theorem AsWas.len {n : Int} {s0 s : QS} (h : AsWas n s0 s) : s.its.length = s0.its.length := by rw [← h.its, List.length_map]
theorem AsWas.back {n : Int} {s0 s : QS} (h : AsWas n s0 s) (hn : 1 ≤ n) : s.backout n = (0, s0) := by
  unfold QS.backout
  rw [if_neg (by omega), h.its, h.ws, h.gv]
theorem AsWas.refl {n : Int} {s : QS} (hok : s.Ok) (hn : 1 ≤ n) (hb : s.busy n = false) : AsWas n s s := by
  have hg := busy_iff.1 hb
  refine ⟨hok, rfl, ?_, adel_none hg⟩
  have h1 := hok.held n (by omega)
  rw [listOfW_free hg] at h1
  have h2 : heldI n s.its = [] := by
    have := congrArg List.length h1
    simp [takesOf] at this
    exact this
  have h3 := List.filter_eq_nil_iff.1 h2
  conv => rhs; rw [← List.map_id s.its]
  apply List.map_congr_left
  intro x hx
  have := h3 x hx
  unfold freeI
  rw [if_neg this]
  rfl
theorem AsWas.put {n : Int} {s0 s : QS} (h : AsWas n s0 s) (v : Int) : AsWas n s0 (s.put n v).2 := by
  refine ⟨h.ok.put n v, ?_, ?_, ?_⟩ <;> unfold QS.put <;> split
  · exact h.gv
  · split <;> exact h.gv
  · exact h.its
  · split <;> exact h.its
  · exact h.ws
  · split
    · exact h.ws
    · show adel n (noteW n _ s.ws) = _
      rw [adel_noteW h.ok.keys]; exact h.ws
theorem AsWas.take {n : Int} {s0 s : QS} (h : AsWas n s0 s) : AsWas n s0 (s.take n).2 := by
  have hok := h.ok.take n
  unfold QS.take at hok ⊢
  split
  · exact h
  · rename_i hf
    have hf0 : s.fit n = 0 := by simpa using hf
    obtain ⟨hn, _⟩ := fit_pos hf0
    rw [if_neg hf] at hok
    cases hi : s.its.findIdx? (fun x => x.by_ != n) with
    | none => exact h
    | some i =>
      rw [hi] at hok
      simp only at hok ⊢
      obtain ⟨L1, x, L2, e, hl, hL1, hxn, hxd⟩ := take_split hi
      rw [hxd] at hok ⊢
      by_cases h2 : x.by_ = 0
      · rw [if_neg (by simpa using h2)] at hok ⊢
        refine ⟨hok, h.gv, ?_, ?_⟩
        · rw [← h.its]
          show (s.its.set i ⟨x.num, x.val, n⟩).map (freeI n) = _
          rw [e, List.set_append_right _ _ (by omega), hl, Nat.sub_self]
          simp only [List.set_cons_zero, List.map_append, List.map_cons]
          congr 2
          unfold freeI
          rw [if_pos (by simp), if_neg (by simpa using hxn), ← h2]
        · show adel n (noteW n _ s.ws) = _
          rw [adel_noteW h.ok.keys]; exact h.ws
      · rw [if_pos (by simpa using h2)]; exact h
theorem AsWas.prepare {n : Int} {s0 s : QS} (h : AsWas n s0 s) : AsWas n s0 (s.prepare n).2 := by
  have hok := h.ok.prepare n
  unfold QS.prepare at hok ⊢
  split
  · exact h
  · rename_i hf
    rw [if_neg hf] at hok
    cases hg : aget n s.ws with
    | none => exact h
    | some v =>
      rw [hg] at hok
      exact ⟨hok, h.gv, h.its, by show adel n (aput n _ s.ws) = _; rw [adel_aput h.ok.keys hg]; exact h.ws⟩
theorem AsWas.call {n : Int} {s0 s : QS} (h : AsWas n s0 s) {o : QOp} (ho : o.work = n) (h0 : 0 ≤ o.kind) (h2 : o.kind ≤ 2) : AsWas n s0 (callQ s o).2 := by
  unfold callQ
  rw [ho]
  split
  · exact h.put _
  · split
    · exact h.take
    · rw [if_pos (by omega)]; exact h.prepare
end Go.Mine
namespace Go.Proofs.Ytmckdoiepmkbbaa
open Go.RowKit Go.Mine Go.Proofs.YtmckdoiepmkbbaaW.PrintWords
set_option linter.unusedVariables false
set_option linter.unusedSimpArgs false
theorem vals_st {B : Nat} {w : World} {b : Nat} {s : QS} (h : St B w b s) (hok : s.Ok) {L : List Int} {N : Nat} (hL : s.its.map (·.val) = L) (hN : L.length = N) : Calls Try.prog 15 #[.pointer (some ⟨b, 0, none⟩)] w fun e w' => ∃ A c, e = .returned (.slice A N c) ∧ UAt w' w'.heap.size A L ∧ Below w.heap.size w w' := by
  have hl : s.its.length = N := by rw [← hN, ← hL, List.length_map]
  refine (values_st h (by have := hok.sz; omega)).mono ?_
  rintro e w' ⟨A, c, rfl, hr, ho, hb⟩
  obtain ⟨A', c', e', _, hat⟩ := hr.at_
  injection e' with q1 q2 q3
  rw [← q1, hL] at hat
  rw [hl]
  exact ⟨A, c, rfl, hat, hb⟩
theorem same_n {A A' : Option Addr} {l : List Int} {c c' B N : Nat} {w : World} (hN : l.length = N) (h : UAt w B A l) (h' : UAt w B A' l) (hn : N ≤ 1000000) :
    Calls Try.prog 14 #[.slice A N c, .slice A' N c'] w fun e w' => e = .returned (.bool true) ∧ ∃ q, w' = w.drewN q := by
  subst hN
  exact same_any A A' l c c' B w h h' hn
theorem UAt.up2 {w w' : World} {A : Option Addr} {l : List Int} (h : UAt w w.heap.size A l) (hb : Below w.heap.size w w') : UAt w' w'.heap.size A l := (RowAt.below h hb).up hb.size
set_option maxRecDepth 100000 in
set_option maxHeartbeats 8000000 in
theorem back_any (A A1 : Option Addr) (ops more : List QOp) (c c1 : Nat) (n : Int) (w : World) (hl : OpsAt w w.heap.size A ops) (hm : OpsAt w w.heap.size A1 more) :
    Calls Try.prog 8 #[.slice A ops.length c, .slice A1 more.length c1, .int .i64 n] w fun e w' => e = .returned (.bool true) ∧ Below w.heap.size w w' := by
  go_enter Try.func8, Try.ntmps8
  go_wp2_with fail
  refine (played_any A ops c _ w (Nat.le_refl _) hl).mono ?_
  rintro e w1 ⟨b, rfl, t1, f1⟩
  go_wp2_with fail
  refine (played_any A ops c _ w1 f1.size (hl.below f1)).mono ?_
  rintro e w2 ⟨b2, rfl, t2, f2⟩
  have hok := QS.Ok.play ops
  generalize playQ ops = s0 at *
  have tt := TwoQ.of t1 f2 t2
  have hb2 := f1.trans (f2.mono f1.size)
  have HM := hid hm
  clear hl hm t1 t2
  by_cases hn : n < 1
  · go_wp2_with fail
    refine (alive_any _).mono ?_
    rintro e w3 ⟨rfl, f3⟩
    go_wp2_with fail
    go_ret
    exact ⟨rfl, hb2.trans (f3.mono hb2.size)⟩
  · have HB := hid (busy_st tt.fst (by have := hok.ws_le; omega) n)
    cases hbz : s0.busy n
    case true =>
      rw [hbz] at HB
      go_wp2_with fail
      refine HB.out.mono ?_
      rintro e w3 ⟨rfl, rfl⟩
      go_wp2_with fail
      refine (alive_any _).mono ?_
      rintro e w4 ⟨rfl, f4⟩
      go_wp2_with fail
      go_ret
      exact ⟨rfl, hb2.trans (f4.mono hb2.size)⟩
    case false =>
      rw [hbz] at HB
      have hn1 : 1 ≤ n := by omega
      have haw := AsWas.refl hok hn1 hbz
      have HBZ := hid hbz
      have HN1 := hid hn1
      clear hbz hn1
      go_wp2_with fail
      refine HB.out.mono ?_
      rintro e w3 ⟨rfl, rfl⟩
      clear HB
      go_wp2_with fail
      go_loopg [9] 31 (fun m v9 wr => ∃ (i : Nat) (s : QS), v9 = .int .i64 i ∧ i ≤ more.length ∧ i ≤ 30 ∧ m = 31 - i ∧ AsWas n s0 s ∧ TwoQ w.heap.size wr b s b2 s0 none [] ∧ Below w.heap.size w wr)
      case atStart => exact ⟨0, s0, rfl, Nat.zero_le _, Nat.zero_le _, rfl, haw, tt, hb2⟩
      case round =>
        obtain ⟨i, s, rfl, hi1, hi2, hm, haw2, ht, hf⟩ := hrel
        have HN := hid hm
        have HAW := hid haw2
        have HT := hid ht
        clear hm haw2 ht tt haw
        by_cases h1 : i < more.length
        · by_cases h2 : (i : Int) < 30
          · obtain ⟨x, hx⟩ : ∃ x, more[i]? = some x := ⟨_, List.getElem?_eq_getElem h1⟩
            obtain ⟨b', off, rfl, hb, hc, hch⟩ := (HM.out.below hf) i x hx
            have k0 : wr.cell? ⟨b', off + i * 6, none⟩ = some (.int .i64 x.kind) := hc 0 _ rfl
            have k1 := hc 1 _ rfl
            have k2 := hc 2 _ rfl
            have k3 := hc 3 _ rfl
            have k4 : wr.cell? ⟨b', off + i * 6 + 4, none⟩ = some (.slice x.la x.l.length x.lc) := hc 4 _ rfl
            have k5 : wr.cell? ⟨b', off + i * 6 + 5, none⟩ = some (.slice x.va x.v.length x.vc) := hc 5 _ rfl
            have hba : Below wr.heap.size wr (wr.alloc (.cells #[.int .i64 x.kind, .int .i64 x.work, .int .i64 x.next, .int .u64 x.val, .slice x.la x.l.length x.lc, .slice x.va x.v.length x.vc] 46)) := (Below.refl _ _).alloc (Nat.le_refl _) _
            have HBA := hid hba
            clear hc hx hba
            by_cases hk0 : 0 ≤ x.kind
            case neg =>
              have hk0' : x.kind < 0 := by omega
              go_wp2_with fail
              go_roundg (31 - (i + 1))
              case measure => rw [HN.out]; omega
              case rel => exact ⟨i + 1, s, by go_num, by omega, by omega, rfl, HAW.out, HT.out.below HBA.out, hf.trans (HBA.out.mono hf.size)⟩
            case pos =>
              by_cases hk2 : x.kind ≤ 2
              case neg =>
                have hk2' : 2 < x.kind := by omega
                go_wp2_with fail
                go_roundg (31 - (i + 1))
                case measure => rw [HN.out]; omega
                case rel => exact ⟨i + 1, s, by go_num, by omega, by omega, rfl, HAW.out, HT.out.below HBA.out, hf.trans (HBA.out.mono hf.size)⟩
              case pos =>
                have hba3 : Below wr.heap.size wr (wr.alloc (.cells #[.int .i64 x.kind, .int .i64 n, .int .i64 x.next, .int .u64 x.val, .slice x.la x.l.length x.lc, .slice x.va x.v.length x.vc] 46)) := (Below.refl _ _).alloc (Nat.le_refl _) _
                have hcl := (HT.out.below hba3).op (f := 22) (args := #[.pointer (some ⟨b, 0, none⟩), .agg #[.int .i64 x.kind, .int .i64 n, .int .i64 x.next, .int .u64 x.val, .slice x.la x.l.length x.lc, .slice x.va x.v.length x.vc]]) (P := fun e => ∃ v, e = .returned (.tuple #[.int .u64 (callQ s ⟨x.kind, n, x.next, x.val, x.la, x.l, x.lc, x.va, x.v, x.vc⟩).1.1, v, .int .i64 (callQ s ⟨x.kind, n, x.next, x.val, x.la, x.l, x.lc, x.va, x.v, x.vc⟩).1.2.2])) (s' := (callQ s ⟨x.kind, n, x.next, x.val, x.la, x.l, x.lc, x.va, x.v, x.vc⟩).2) (fun F h1 _ _ => (call_any h1 HAW.out.ok ⟨x.kind, n, x.next, x.val, x.la, x.l, x.lc, x.va, x.v, x.vc⟩ (fun q => by have q' : x.kind = 5 := q; omega) (fun q => by have q' : x.kind = 6 := q; omega)).mono (by
                  rintro e w' ⟨v, F', he, hk, hg, hf, _, _⟩
                  exact ⟨⟨v, he⟩, ⟨F', hk, hg⟩, hf⟩))
                have haw3 := HAW.out.call (o := ⟨x.kind, n, x.next, x.val, x.la, x.l, x.lc, x.va, x.v, x.vc⟩) rfl hk0 hk2
                have HCL := hid hcl
                have HAW3 := hid haw3
                have hf3 := hf.trans (hba3.mono hf.size)
                clear hcl haw3
                go_wp2_with fail
                refine HCL.out.mono ?_
                rintro e w3 ⟨⟨v, rfl⟩, t3, f3⟩
                go_wp2_with fail
                go_roundg (31 - (i + 1))
                case measure => rw [HN.out]; omega
                case rel => exact ⟨i + 1, _, by go_num, by omega, by omega, rfl, HAW3.out, t3, hf3.trans f3⟩
          · have h2' : ¬ (i : Int) < 30 := h2
            clear HM
            have haw := HAW.out
            obtain ⟨L, hL⟩ : ∃ L, L = s0.its.map (·.val) := ⟨_, rfl⟩
            obtain ⟨N, hN⟩ : ∃ N, N = L.length := ⟨_, rfl⟩
            have hN0 : N ≤ 16 := by have := hok.sz; rw [hN, hL, List.length_map]; omega
            have hv1 : s.its.map (·.val) = L := by rw [hL]; exact haw.vals
            have hback := haw.back HN1.out
            have HL := hid hL
            have HNN := hid hN
            have hv2 : s0.its.map (·.val) = L := hL.symm
            have HV2 := hid hv2
            have C1 := hid (vals_st HT.out.fst haw.ok hv1 hN.symm)
            clear hL hN hv1 hv2 haw
            go_wp2_with fail
            refine C1.out.mono ?_
            rintro e w3 ⟨A3, c3, rfl, u3, f3⟩
            have t3 := HT.out.below f3
            have hb3 := hf.trans (f3.mono hf.size)
            have C2 := hid (vals_st t3.snd hok HV2.out HNN.out.symm)
            clear C1 HT
            go_wp2_with fail
            refine C2.out.mono ?_
            rintro e w4 ⟨A4, c4, rfl, u4', f4⟩
            have t4 := t3.below f4
            have hb4 := hb3.trans (f4.mono hb3.size)
            have C3 := hid (same_n (c := c3) (c' := c4) HNN.out.symm (u3.up2 f4) u4' (by omega))
            clear C2 t3 u3 u4'
            go_wp2_with fail
            refine C3.out.mono ?_
            rintro e w5 ⟨rfl, q5, rfl⟩
            have t5 := t4.below (bdN w4 q5)
            have hb5 := hb4.trans ((bdN w4 q5).mono hb4.size)
            have C4 := hid (t5.op (f := 28) (args := #[.pointer (some ⟨b, 0, none⟩), .int .i64 n]) (P := fun e => e = .returned (.int .i64 0)) (s' := s0) (fun F h1 _ _ => by have := backout_any h1 HAW.out.ok.bd n; rw [hback] at this; exact this))
            generalize w4.drewN q5 = w5 at *
            clear C3 t4
            go_wp2_with fail
            refine C4.out.mono ?_
            rintro e w6 ⟨rfl, t6, f6⟩
            have hb6 := hb5.trans f6
            have C5 := hid (busy_st t6.fst (by have := hok.ws_le; omega) n)
            rw [HBZ.out] at C5
            clear C4 t5
            go_wp2_with fail
            refine C5.out.mono ?_
            rintro e w7 ⟨rfl, rfl⟩
            have C6 := hid (t6.op (f := 13) (args := #[.pointer (some ⟨b, 0, none⟩), .int .i64 n]) (P := fun e => e = .returned (.tuple #[.int .u64 (s0.take n).1.1, .int .i64 (s0.take n).1.2])) (s' := (s0.take n).2) (fun F h1 _ _ => take_any h1 hok.bd n))
            clear C5
            go_wp2_with fail
            refine C6.out.mono ?_
            rintro e w8 ⟨rfl, t8, f8⟩
            have hb8 := hb6.trans f8
            have C7 := hid (t8.op2 (f := 13) (args := #[.pointer (some ⟨b2, 0, none⟩), .int .i64 n]) (P := fun e => e = .returned (.tuple #[.int .u64 (s0.take n).1.1, .int .i64 (s0.take n).1.2])) (s' := (s0.take n).2) (fun F h1 _ _ => take_any h1 hok.bd n))
            have hok9 := hok.take n
            clear C6 t6
            generalize (s0.take n).2 = s9 at *
            generalize (s0.take n).1.1 = r1 at *
            generalize (s0.take n).1.2 = r2 at *
            have d1 : (r1 == r1) = true := by simp
            have d2 : (r2 == r2) = true := by simp
            go_wp2_with fail
            refine C7.out.mono ?_
            rintro e w9 ⟨rfl, t9, f9⟩
            have hb9 := hb8.trans f9
            clear C7 t8
            go_wp2_with fail
            refine (alive_any _).mono ?_
            rintro e wa ⟨rfl, fa⟩
            have ta := t9.below fa
            have hba := hb9.trans (fa.mono hb9.size)
            obtain ⟨L9, hL9⟩ : ∃ L, s9.its.map (·.val) = L := ⟨_, rfl⟩
            obtain ⟨N9, hN9⟩ : ∃ N, L9.length = N := ⟨_, rfl⟩
            have hN10 : N9 ≤ 16 := by have := hok9.sz; rw [← hN9, ← hL9, List.length_map]; omega
            have HL9 := hid hL9
            have HN9 := hid hN9
            clear hL9 hN9
            have C8 := hid (vals_st ta.fst hok9 HL9.out HN9.out)
            clear t9
            go_wp2_with fail
            refine C8.out.mono ?_
            rintro e wb ⟨Ab, cb, rfl, ub, fb⟩
            have tb := ta.below fb
            have hbb := hba.trans (fb.mono hba.size)
            have C9 := hid (vals_st tb.snd hok9 HL9.out HN9.out)
            clear C8 ta
            go_wp2_with fail
            refine C9.out.mono ?_
            rintro e wc ⟨Ac, cc, rfl, uc, fc⟩
            have tc := tb.below fc
            have hbc := hbb.trans (fc.mono hbb.size)
            have D1 := hid (same_n (c := cb) (c' := cc) HN9.out (ub.up2 fc) uc (by omega))
            clear C9 tb ub uc
            go_wp2_with fail
            refine D1.out.mono ?_
            rintro e wd ⟨rfl, qd, rfl⟩
            have td := tc.below (bdN wc qd)
            have hbd := hbc.trans ((bdN wc qd).mono hbc.size)
            generalize wc.drewN qd = wd at *
            have D2 := hid (next_st td.fst hok9.bd)
            have D3 := hid (next_st td.snd hok9.bd)
            have d3 : (s9.gv + 1 == s9.gv + 1) = true := by simp
            clear D1 tc
            go_wp2_with fail
            refine D2.out.mono ?_
            rintro e we ⟨rfl, rfl⟩
            go_wp2_with fail
            refine D3.out.mono ?_
            rintro e wf ⟨rfl, rfl⟩
            go_wp2_with fail
            go_ret
            exact ⟨by first | rfl | simp, hbd⟩
        · have h1' : ¬ i < more.length := h1
          clear HM
          have haw := HAW.out
          obtain ⟨L, hL⟩ : ∃ L, L = s0.its.map (·.val) := ⟨_, rfl⟩
          obtain ⟨N, hN⟩ : ∃ N, N = L.length := ⟨_, rfl⟩
          have hN0 : N ≤ 16 := by have := hok.sz; rw [hN, hL, List.length_map]; omega
          have hv1 : s.its.map (·.val) = L := by rw [hL]; exact haw.vals
          have hback := haw.back HN1.out
          have HL := hid hL
          have HNN := hid hN
          have hv2 : s0.its.map (·.val) = L := hL.symm
          have HV2 := hid hv2
          have C1 := hid (vals_st HT.out.fst haw.ok hv1 hN.symm)
          clear hL hN hv1 hv2 haw
          go_wp2_with fail
          refine C1.out.mono ?_
          rintro e w3 ⟨A3, c3, rfl, u3, f3⟩
          have t3 := HT.out.below f3
          have hb3 := hf.trans (f3.mono hf.size)
          have C2 := hid (vals_st t3.snd hok HV2.out HNN.out.symm)
          clear C1 HT
          go_wp2_with fail
          refine C2.out.mono ?_
          rintro e w4 ⟨A4, c4, rfl, u4', f4⟩
          have t4 := t3.below f4
          have hb4 := hb3.trans (f4.mono hb3.size)
          have C3 := hid (same_n (c := c3) (c' := c4) HNN.out.symm (u3.up2 f4) u4' (by omega))
          clear C2 t3 u3 u4'
          go_wp2_with fail
          refine C3.out.mono ?_
          rintro e w5 ⟨rfl, q5, rfl⟩
          have t5 := t4.below (bdN w4 q5)
          have hb5 := hb4.trans ((bdN w4 q5).mono hb4.size)
          have C4 := hid (t5.op (f := 28) (args := #[.pointer (some ⟨b, 0, none⟩), .int .i64 n]) (P := fun e => e = .returned (.int .i64 0)) (s' := s0) (fun F h1 _ _ => by have := backout_any h1 HAW.out.ok.bd n; rw [hback] at this; exact this))
          generalize w4.drewN q5 = w5 at *
          clear C3 t4
          go_wp2_with fail
          refine C4.out.mono ?_
          rintro e w6 ⟨rfl, t6, f6⟩
          have hb6 := hb5.trans f6
          have C5 := hid (busy_st t6.fst (by have := hok.ws_le; omega) n)
          rw [HBZ.out] at C5
          clear C4 t5
          go_wp2_with fail
          refine C5.out.mono ?_
          rintro e w7 ⟨rfl, rfl⟩
          have C6 := hid (t6.op (f := 13) (args := #[.pointer (some ⟨b, 0, none⟩), .int .i64 n]) (P := fun e => e = .returned (.tuple #[.int .u64 (s0.take n).1.1, .int .i64 (s0.take n).1.2])) (s' := (s0.take n).2) (fun F h1 _ _ => take_any h1 hok.bd n))
          clear C5
          go_wp2_with fail
          refine C6.out.mono ?_
          rintro e w8 ⟨rfl, t8, f8⟩
          have hb8 := hb6.trans f8
          have C7 := hid (t8.op2 (f := 13) (args := #[.pointer (some ⟨b2, 0, none⟩), .int .i64 n]) (P := fun e => e = .returned (.tuple #[.int .u64 (s0.take n).1.1, .int .i64 (s0.take n).1.2])) (s' := (s0.take n).2) (fun F h1 _ _ => take_any h1 hok.bd n))
          have hok9 := hok.take n
          clear C6 t6
          generalize (s0.take n).2 = s9 at *
          generalize (s0.take n).1.1 = r1 at *
          generalize (s0.take n).1.2 = r2 at *
          have d1 : (r1 == r1) = true := by simp
          have d2 : (r2 == r2) = true := by simp
          go_wp2_with fail
          refine C7.out.mono ?_
          rintro e w9 ⟨rfl, t9, f9⟩
          have hb9 := hb8.trans f9
          clear C7 t8
          go_wp2_with fail
          refine (alive_any _).mono ?_
          rintro e wa ⟨rfl, fa⟩
          have ta := t9.below fa
          have hba := hb9.trans (fa.mono hb9.size)
          obtain ⟨L9, hL9⟩ : ∃ L, s9.its.map (·.val) = L := ⟨_, rfl⟩
          obtain ⟨N9, hN9⟩ : ∃ N, L9.length = N := ⟨_, rfl⟩
          have hN10 : N9 ≤ 16 := by have := hok9.sz; rw [← hN9, ← hL9, List.length_map]; omega
          have HL9 := hid hL9
          have HN9 := hid hN9
          clear hL9 hN9
          have C8 := hid (vals_st ta.fst hok9 HL9.out HN9.out)
          clear t9
          go_wp2_with fail
          refine C8.out.mono ?_
          rintro e wb ⟨Ab, cb, rfl, ub, fb⟩
          have tb := ta.below fb
          have hbb := hba.trans (fb.mono hba.size)
          have C9 := hid (vals_st tb.snd hok9 HL9.out HN9.out)
          clear C8 ta
          go_wp2_with fail
          refine C9.out.mono ?_
          rintro e wc ⟨Ac, cc, rfl, uc, fc⟩
          have tc := tb.below fc
          have hbc := hbb.trans (fc.mono hbb.size)
          have D1 := hid (same_n (c := cb) (c' := cc) HN9.out (ub.up2 fc) uc (by omega))
          clear C9 tb ub uc
          go_wp2_with fail
          refine D1.out.mono ?_
          rintro e wd ⟨rfl, qd, rfl⟩
          have td := tc.below (bdN wc qd)
          have hbd := hbc.trans ((bdN wc qd).mono hbc.size)
          generalize wc.drewN qd = wd at *
          have D2 := hid (next_st td.fst hok9.bd)
          have D3 := hid (next_st td.snd hok9.bd)
          have d3 : (s9.gv + 1 == s9.gv + 1) = true := by simp
          clear D1 tc
          go_wp2_with fail
          refine D2.out.mono ?_
          rintro e we ⟨rfl, rfl⟩
          go_wp2_with fail
          refine D3.out.mono ?_
          rintro e wf ⟨rfl, rfl⟩
          go_wp2_with fail
          go_ret
          exact ⟨by first | rfl | simp, hbd⟩
end Go.Proofs.Ytmckdoiepmkbbaa
