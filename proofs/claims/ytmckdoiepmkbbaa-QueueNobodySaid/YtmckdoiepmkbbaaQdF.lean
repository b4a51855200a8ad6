/- Walk of the document's queue: Right. Conditions: the queue reads as DAt says. -/
import Derived.Test.YtmckdoiepmkbbaaQdE
namespace Go.Proofs.Ytmckdoiepmkbbaa
open Go.RowKit Go.Mine Go.Proofs.YtmckdoiepmkbbaaW.PrintWords
set_option linter.unusedVariables false
set_option linter.unusedSimpArgs false
theorem st_step5 {p1 p2 p3 p4 p5 : Addr} {u1 u2 u3 u4 u5 : Value} {w0 w1 w2 : World} (hb : Below w1.heap.size w1 w2) (h : w1.cell? p1 = some u1 ∧ w1.cell? p2 = some u2 ∧ w1.cell? p3 = some u3 ∧ w1.cell? p4 = some u4 ∧ w1.cell? p5 = some u5 ∧ Below w0.heap.size w0 w1) : w2.cell? p1 = some u1 ∧ w2.cell? p2 = some u2 ∧ w2.cell? p3 = some u3 ∧ w2.cell? p4 = some u4 ∧ w2.cell? p5 = some u5 ∧ Below w0.heap.size w0 w2 :=
  ⟨(hb.cell (World.block_lt_of_cell? _ _ h.1)).trans h.1, (hb.cell (World.block_lt_of_cell? _ _ h.2.1)).trans h.2.1, (hb.cell (World.block_lt_of_cell? _ _ h.2.2.1)).trans h.2.2.1, (hb.cell (World.block_lt_of_cell? _ _ h.2.2.2.1)).trans h.2.2.2.1, (hb.cell (World.block_lt_of_cell? _ _ h.2.2.2.2.1)).trans h.2.2.2.2.1, h.2.2.2.2.2.trans (hb.mono h.2.2.2.2.2.size)⟩
set_option maxRecDepth 100000 in
set_option maxHeartbeats 8000000 in
theorem dright_any {F : Nat → Prop} {w : World} {b : Nat} {s : QS} (h : DAt F w b s) (hok : s.Ok) (A : Option Addr) (l : List Ch) (c B : Nat) (hl : ChAt w B A l) (hB : B ≤ w.heap.size) (hn : l.length ≤ 1000000) :
    Calls Try.prog 58 #[.pointer (some ⟨b, 0, none⟩), .slice A l.length c] w fun e w' => e = .returned (.bool (s.right l)) ∧ Below w.heap.size w w' := by
  have hb := hok.bd
  have HQ := hid h
  have HOK := hid hok
  have HP := hid (fun w' (f : Below w.heap.size w w') => putsr_any A l c B w' (hl.below (f.mono hB)) hn)
  have HRM := hid (fun w' (f : Below w.heap.size w w') => droom_any (h.below f) hb)
  have HTK := hid (fun w' (f : Below w.heap.size w w') (k : Int) => dtaker_any (h.below f) hb k)
  have hil := hb.its
  clear hb hok
  go_enter Try.func58, Try.ntmps58
  go_wp2_with fail
  go_loopg [5, 6] (l.length + 1) (fun m v5 v10 wr => ∃ i f : Nat, v5 = .int .i64 f ∧ v10 = .int .i64 i ∧ i ≤ l.length ∧ f ≤ i ∧ m = l.length + 1 - i ∧ frontOk s.its l 0 = frontOk s.its (l.drop i) f ∧ Below w.heap.size w wr)
  case atStart => exact ⟨0, 0, rfl, rfl, Nat.zero_le _, Nat.le_refl _, rfl, rfl, Below.refl _ _⟩
  case round =>
    obtain ⟨i, f, rfl, rfl, hi, hfi, hm, hr, hbl⟩ := hrel
    have HN := hid hm
    have HR := hid hr
    clear hm hr
    by_cases h1 : i < l.length
    · obtain ⟨y, hy⟩ : ∃ y, l[i]? = some y := ⟨_, List.getElem?_eq_getElem h1⟩
      obtain ⟨b', off, rfl, hbb, hcc⟩ := (hl.below (hbl.mono hB)) i y hy
      have k0 : wr.cell? ⟨b', off + i * 3, none⟩ = some (.int .i64 y.kind) := hcc 0 _ rfl
      have k1 := hcc 1 _ rfl
      have k2 := hcc 2 _ rfl
      have hst := HR.out.trans (frontOk_step (f := f) hy)
      have HST := hid hst
      obtain ⟨I, iv, qv, hR, hws⟩ := HQ.out.below hbl
      have hba : Below w.heap.size w (wr.alloc (.cells #[.int .i64 y.kind, .int .i64 y.key, .int .u64 y.val] 43)) := hbl.alloc hbl.size _
      have hba2 : Below wr.heap.size wr (wr.alloc (.cells #[.int .i64 y.kind, .int .i64 y.key, .int .u64 y.val] 43)) := (Below.refl _ _).alloc (Nat.le_refl _) _
      have hRa := hR.below hba2
      have HBA := hid hba
      have hx1 : (wr.alloc (.cells #[.int .i64 y.kind, .int .i64 y.key, .int .u64 y.val] 43)).heap[wr.heap.size]? = some (.cells #[.int .i64 y.kind, .int .i64 y.key, .int .u64 y.val] 43 (0, 0)) := (MapKept.heap_alloc wr _).1
      have e0 : (wr.alloc (.cells #[.int .i64 y.kind, .int .i64 y.key, .int .u64 y.val] 43)).cell? ⟨wr.heap.size, 0, none⟩ = some (.int .i64 y.kind) := by rw [cell_of_row _ _ 0 _ _ _ hx1]; rfl
      have e1 : (wr.alloc (.cells #[.int .i64 y.kind, .int .i64 y.key, .int .u64 y.val] 43)).cell? ⟨wr.heap.size, 1, none⟩ = some (.int .i64 y.key) := by rw [cell_of_row _ _ 1 _ _ _ hx1]; rfl
      have e2 : (wr.alloc (.cells #[.int .i64 y.kind, .int .i64 y.key, .int .u64 y.val] 43)).cell? ⟨wr.heap.size, 2, none⟩ = some (.int .u64 y.val) := by rw [cell_of_row _ _ 2 _ _ _ hx1]; rfl
      obtain ⟨A3, c3, hv3, hc3, hat3⟩ := hRa.it.at_
      have g0 : (wr.alloc (.cells #[.int .i64 y.kind, .int .i64 y.key, .int .u64 y.val] 43)).cell? ⟨b, 0, none⟩ = some (.slice A3 s.its.length c3) := by rw [cell_of_row _ b 0 _ _ _ hRa.blk, ← hv3]; rfl
      have hat3' : RowAt encD 2 (wr.alloc (.cells #[.int .i64 y.kind, .int .i64 y.key, .int .u64 y.val] 43)) (wr.alloc (.cells #[.int .i64 y.kind, .int .i64 y.key, .int .u64 y.val] 43)).heap.size A3 s.its := hat3
      have HAT3 := hid hat3'
      clear hcc hst hR hws hba hba2 hRa hx1 hat3 hat3' hv3 hl hy
      cases q4 : (y.kind == 4)
      · have hk4 : y.kind ≠ 4 := by simpa using q4
        have q4' : (y.kind != 4) = true := by simpa using hk4
        cases q3 : (y.kind == 3)
        · have hk3 : y.kind ≠ 3 := by simpa using q3
          have q3' : (y.kind != 3) = true := by simpa using hk3
          have hfa : s.right l = false := by unfold QS.right; rw [HST.out, if_neg (by rw [q3]; simp), if_neg (fun q => hk4 q.1)]; rfl
          have HFA := hid hfa
          clear hfa hk4 hk3
          go_wp2_with fail
          go_ret
          exact ⟨by rw [HFA.out]; rfl, HBA.out⟩
        · have hk3 : y.kind = 3 := by simpa using q3
          have q3' : (y.kind != 3) = false := by simp [hk3]
          cases q0 : (y.key == 0)
          · have q0' : (y.key != 0) = true := by simpa using q0
            have hfa : s.right l = false := by unfold QS.right; rw [HST.out, if_neg (by rw [q0]; simp), if_neg (fun q => hk4 q.1)]; rfl
            have HFA := hid hfa
            clear hfa hk4 hk3
            go_wp2_with fail
            go_ret
            exact ⟨by rw [HFA.out]; rfl, HBA.out⟩
          · have q0' : (y.key != 0) = false := by simpa using q0
            have HE := hid (HST.out.trans (by rw [if_pos (by rw [q3, q0]; rfl)]))
            clear hk4 hk3
            go_wp2_with fail
            go_roundg (l.length + 1 - (i + 1))
            case measure => rw [HN.out]; omega
            case rel => exact ⟨i + 1, f, rfl, by go_num, by omega, by omega, rfl, HE.out, HBA.out⟩
      · have hk4 : y.kind = 4 := by simpa using q4
        have hst4 : frontOk s.its l 0 = if s.its[f]? = some ⟨y.key, y.val, 0⟩ then frontOk s.its (l.drop (i + 1)) (f + 1) else false := by
          rw [HST.out, if_neg (by rw [hk4]; intro q; rw [Bool.and_eq_true] at q; exact absurd q.1 (by decide))]
          by_cases q : s.its[f]? = some ⟨y.key, y.val, 0⟩
          · rw [if_pos ⟨hk4, q⟩, if_pos q]
          · rw [if_neg (fun z => q z.2), if_neg q]
        obtain ⟨kd, ky, vl⟩ := y
        simp only at hk4
        subst hk4
        simp only at *
        clear q4
        have HST4 := hid hst4
        clear HST hst4
        by_cases hfl : f < s.its.length
        · obtain ⟨x, hx⟩ : ∃ x, s.its[f]? = some x := ⟨_, List.getElem?_eq_getElem hfl⟩
          obtain ⟨b3, off3, rfl, hb3, hc3'⟩ := HAT3.out f x hx
          have d0 : (wr.alloc (.cells #[.int .i64 4, .int .i64 ky, .int .u64 vl] 43)).cell? ⟨b3, off3 + f * 2, none⟩ = some (.int .i64 x.num) := hc3' 0 _ rfl
          have d1 : (wr.alloc (.cells #[.int .i64 4, .int .i64 ky, .int .u64 vl] 43)).cell? ⟨b3, off3 + f * 2 + 1, none⟩ = some (.int .u64 x.val) := hc3' 1 _ rfl
          have hfl0 : (f : Int) < s.its.length := by omega
          have hfl1 : decide ((s.its.length : Int) ≤ (f : Int)) = false := by simp; omega
          have hfl2 : decide (s.its.length ≤ f) = false := by simp; omega
          have hf0 : (0 : Int) ≤ f := by omega
          have htk := HOK.out.taker (List.mem_of_getElem? hx)
          have HTKR := hid htk
          have HX := hid hx
          clear hc3' hx htk
          cases p1 : (x.num == ky)
          · have hfa : s.right l = false := by
              unfold QS.right
              rw [HST4.out, if_neg (by rw [HX.out]; intro q; cases q; simp at p1)]; rfl
            have HFA := hid hfa
            have p1' : (x.num != ky) = true := by unfold bne; rw [p1]; rfl
            clear hfa
            go_wp2_with fail
            go_quiet (fail)
            go_wp2_with fail
            go_ret
            exact ⟨by rw [HFA.out]; rfl, HBA.out.trans ((bdN _ _).mono HBA.out.size)⟩
          · cases p2 : (x.val == vl)
            · have hfa : s.right l = false := by
                unfold QS.right
                rw [HST4.out, if_neg (by rw [HX.out]; intro q; cases q; simp at p2)]; rfl
              have HFA := hid hfa
              have p1' : (x.num != ky) = false := by unfold bne; rw [p1]; rfl
              have p2' : (x.val != vl) = true := by unfold bne; rw [p2]; rfl
              clear hfa
              go_wp2_with fail
              go_quiet (fail)
              go_wp2_with fail
              go_ret
              exact ⟨by rw [HFA.out]; rfl, HBA.out.trans ((bdN _ _).mono HBA.out.size)⟩
            · have hnum : x.num = ky := by simpa using p1
              have hval : x.val = vl := by simpa using p2
              have HT4 := hid (fun w' (f : Below w.heap.size w w') => HTK.out w' f ky)
              rw [← hnum] at HT4
              rw [HTKR.out] at HT4
              rw [hnum] at HT4
              have p1' : (x.num != ky) = false := by unfold bne; rw [p1]; rfl
              have p2' : (x.val != vl) = false := by unfold bne; rw [p2]; rfl
              have hx' : s.its[f]? = some ⟨ky, vl, x.by_⟩ := by rw [HX.out, ← hnum, ← hval]
              have HX' := hid hx'
              have hS : (wr.alloc (.cells #[.int .i64 4, .int .i64 ky, .int .u64 vl] 43)).cell? ⟨b, 0, none⟩ = some (.slice (some ⟨b3, off3, none⟩) s.its.length c3) ∧ (wr.alloc (.cells #[.int .i64 4, .int .i64 ky, .int .u64 vl] 43)).cell? ⟨b3, off3 + f * 2, none⟩ = some (.int .i64 x.num) ∧ (wr.alloc (.cells #[.int .i64 4, .int .i64 ky, .int .u64 vl] 43)).cell? ⟨b3, off3 + f * 2 + 1, none⟩ = some (.int .u64 x.val) ∧ (wr.alloc (.cells #[.int .i64 4, .int .i64 ky, .int .u64 vl] 43)).cell? ⟨wr.heap.size, 1, none⟩ = some (.int .i64 ky) ∧ (wr.alloc (.cells #[.int .i64 4, .int .i64 ky, .int .u64 vl] 43)).cell? ⟨wr.heap.size, 2, none⟩ = some (.int .u64 vl) ∧ Below w.heap.size w (wr.alloc (.cells #[.int .i64 4, .int .i64 ky, .int .u64 vl] 43)) := ⟨g0, d0, d1, e1, e2, HBA.out⟩
              have HS := hid hS
              have e00 := e0
              clear hx' hnum hval g0 d0 d1 e1 e2 HTK p1 p2 hS
              cases q0 : (x.by_ == 0)
              · have hby : x.by_ ≠ 0 := by simpa using q0
                have q0' : (x.by_ != 0) = true := by unfold bne; rw [q0]; rfl
                have hfa : s.right l = false := by
                  unfold QS.right
                  rw [HST4.out, if_neg (by rw [HX'.out]; intro q; injection q with q; injection q with q1 q2 q3; exact hby q3)]; rfl
                have HFA := hid hfa
                clear hfa hby
                go_wp2_with fail
                generalize (wr.alloc (.cells #[.int .i64 4, .int .i64 ky, .int .u64 vl] 43)) = wa at *
                generalize wr.heap.size = bx at *
                have hS := HS.out
                go_region_held3 (fun w' => w'.cell? ⟨b, 0, none⟩ = some (.slice (some ⟨b3, off3, none⟩) s.its.length c3) ∧ w'.cell? ⟨b3, off3 + f * 2, none⟩ = some (.int .i64 x.num) ∧ w'.cell? ⟨b3, off3 + f * 2 + 1, none⟩ = some (.int .u64 x.val) ∧ w'.cell? ⟨bx, 1, none⟩ = some (.int .i64 ky) ∧ w'.cell? ⟨bx, 2, none⟩ = some (.int .u64 vl) ∧ Below w.heap.size w w') (first | exact st_step5 (bd1 _) (by assumption) | exact st_step5 (bdN _ _) (by assumption) | exact st_step5 (by assumption) (by assumption) | assumption) (first
                  | (go_at_call 56; refine (HT4.out _ ((by assumption : _ ∧ _ ∧ _ ∧ _ ∧ _ ∧ Below w.heap.size w _).2.2.2.2.2)).mono ?_; rintro e w4 ⟨rfl, f4⟩))
                all_goals
                  have hfin := (by assumption : _ ∧ _ ∧ _ ∧ _ ∧ _ ∧ Below w.heap.size w _).2.2.2.2.2
                  go_wp2_with fail
                  go_ret
                  exact ⟨by rw [HFA.out]; rfl, hfin⟩
              · have hby : x.by_ = 0 := by simpa using q0
                have q0' : (x.by_ != 0) = false := by unfold bne; rw [q0]; rfl
                have hfa : frontOk s.its l 0 = frontOk s.its (l.drop (i + 1)) (f + 1) := by
                  rw [HST4.out, if_pos (by rw [HX'.out, hby])]
                have HFA := hid hfa
                clear hfa hby
                go_wp2_with fail
                generalize (wr.alloc (.cells #[.int .i64 4, .int .i64 ky, .int .u64 vl] 43)) = wa at *
                generalize wr.heap.size = bx at *
                have hS := HS.out
                go_region_held3 (fun w' => w'.cell? ⟨b, 0, none⟩ = some (.slice (some ⟨b3, off3, none⟩) s.its.length c3) ∧ w'.cell? ⟨b3, off3 + f * 2, none⟩ = some (.int .i64 x.num) ∧ w'.cell? ⟨b3, off3 + f * 2 + 1, none⟩ = some (.int .u64 x.val) ∧ w'.cell? ⟨bx, 1, none⟩ = some (.int .i64 ky) ∧ w'.cell? ⟨bx, 2, none⟩ = some (.int .u64 vl) ∧ Below w.heap.size w w') (first | exact st_step5 (bd1 _) (by assumption) | exact st_step5 (bdN _ _) (by assumption) | exact st_step5 (by assumption) (by assumption) | assumption) (first
                  | (go_at_call 56; refine (HT4.out _ ((by assumption : _ ∧ _ ∧ _ ∧ _ ∧ _ ∧ Below w.heap.size w _).2.2.2.2.2)).mono ?_; rintro e w4 ⟨rfl, f4⟩))
                all_goals
                  have hfin := (by assumption : _ ∧ _ ∧ _ ∧ _ ∧ _ ∧ Below w.heap.size w _).2.2.2.2.2
                  go_wp2_with fail
                  go_roundg (l.length + 1 - (i + 1))
                  case measure => rw [HN.out]; omega
                  case rel => exact ⟨i + 1, f + 1, by go_num, by go_num, by omega, by omega, rfl, HFA.out, hfin⟩
        · have hfa : s.right l = false := by
            unfold QS.right
            rw [HST4.out, if_neg (by intro q; exact hfl (List.getElem?_eq_some_iff.1 q).1)]; rfl
          have HFA := hid hfa
          have hfl1 : decide ((s.its.length : Int) ≤ (f : Int)) = true := by simp; omega
          have hfl2 : decide (s.its.length ≤ f) = true := by simp; omega
          clear hfa
          go_wp2_with fail
          go_quiet (fail)
          go_wp2_with fail
          go_ret
          exact ⟨by rw [HFA.out]; rfl, HBA.out.trans ((bdN _ _).mono HBA.out.size)⟩
    · have hi' : i = l.length := by omega
      subst hi'
      have hq : frontOk s.its l 0 = true := by rw [HR.out, List.drop_length]; rfl
      have he : s.right l = decide ((putsL l : Int) ≤ max s.room 0) := by unfold QS.right; rw [hq]; rfl
      have HE := hid he
      have hle := putsL_le l
      clear hq he
      generalize s.room = rm at *
      generalize putsL l = P at *
      by_cases hP0 : P = 0
      · have hP1 : ((P : Int) == 0) = true := by simp [hP0]
        have hres : s.right l = true := by rw [HE.out]; simp; omega
        have HRES := hid hres
        clear hres hP0
        go_wp2_with fail
        refine (HP.out _ hbl).mono ?_
        rintro e w2 ⟨rfl, rfl⟩
        go_wp2_with fail
        go_ret
        exact ⟨by rw [HRES.out]; rfl, hbl⟩
      · have hP1 : ((P : Int) == 0) = false := by simp; omega
        have hres : s.right l = decide ((P : Int) ≤ rm) := by rw [HE.out, decide_eq_decide]; omega
        have HRES := hid hres
        clear hres hP0
        go_wp2_with fail
        refine (HP.out _ hbl).mono ?_
        rintro e w2 ⟨rfl, rfl⟩
        go_wp2_with fail
        refine (HP.out _ hbl).mono ?_
        rintro e w2 ⟨rfl, rfl⟩
        go_wp2_with fail
        refine (HRM.out _ hbl).mono ?_
        rintro e w3 ⟨rfl, q3, rfl⟩
        go_wp2_with fail
        go_ret
        exact ⟨by rw [HRES.out]; rfl, hbl.trans ((bdN _ _).mono hbl.size)⟩
end Go.Proofs.Ytmckdoiepmkbbaa
