/- Texts of this seat, put together: QdF, QdG, RzA, RdM. -/
import Derived.Test.YtdejbinmnoabeaaGreatBm16
import Derived.Test.YtdejbinmnoabeaaGreatBm11
import Derived.Test.YtdejbinmnoabeaaGreatBm0
import Derived.Test.YtdejbinmnoabeaaGreatBm14
namespace Go.Proofs.YtdejbinmnoabeaaGreat.E
open Go.Proofs.YtdejbinmnoabeaaGreat.Q
variable {Zd : Z3}
open Go.RowKit Go.Mine Go.Proofs.YtdejbinmnoabeaaGreatW.PrintWords
set_option linter.unusedVariables false
set_option linter.unusedSimpArgs false
theorem st_step5 {p1 p2 p3 p4 p5 : Addr} {u1 u2 u3 u4 u5 : Value} {w0 w1 w2 : World} (hb : Below w1.heap.size w1 w2) (h : w1.cell? p1 = some u1 ∧ w1.cell? p2 = some u2 ∧ w1.cell? p3 = some u3 ∧ w1.cell? p4 = some u4 ∧ w1.cell? p5 = some u5 ∧ Below w0.heap.size w0 w1) : w2.cell? p1 = some u1 ∧ w2.cell? p2 = some u2 ∧ w2.cell? p3 = some u3 ∧ w2.cell? p4 = some u4 ∧ w2.cell? p5 = some u5 ∧ Below w0.heap.size w0 w2 :=
  ⟨(hb.cell (World.block_lt_of_cell? _ _ h.1)).trans h.1, (hb.cell (World.block_lt_of_cell? _ _ h.2.1)).trans h.2.1, (hb.cell (World.block_lt_of_cell? _ _ h.2.2.1)).trans h.2.2.1, (hb.cell (World.block_lt_of_cell? _ _ h.2.2.2.1)).trans h.2.2.2.1, (hb.cell (World.block_lt_of_cell? _ _ h.2.2.2.2.1)).trans h.2.2.2.2.1, h.2.2.2.2.2.trans (hb.mono h.2.2.2.2.2.size)⟩
set_option maxRecDepth 100000 in
set_option maxHeartbeats 8000000 in
theorem dright_any {F : Nat → Prop} {w : World} {b : Nat} {s : QS} (h : DAt Zd F w b s) (hok : s.Ok) (A : Option Addr) (l : List Ch) (c B : Nat) (hl : ChAt w B A l) (hB : B ≤ w.heap.size) (hn : l.length ≤ 1000000) :
    Calls Tryz.prog 107 #[.pointer (some ⟨b, 3, none⟩), .slice A l.length c] w fun e w' => e = .returned (.bool (s.right l)) ∧ Below w.heap.size w w' := by
  have hb := hok.bd
  have HQ := hid h
  have HOK := hid hok
  have HP := hid (fun w' (f : Below w.heap.size w w') => putsr_any A l c B w' (hl.below (f.mono hB)) hn)
  have HRM := hid (fun w' (f : Below w.heap.size w w') => droom_any (h.below f) hb)
  have HTK := hid (fun w' (f : Below w.heap.size w w') (k : Int) => dtaker_any (h.below f) hb k)
  have hil := hb.its
  clear hb hok
  go_enter Tryz.func107, Tryz.ntmps107
  go_wp2_with fail
  go_loopg [5, 6] (l.length + 1) (fun m v5 v10 wr => ∃ i f : Nat, v5 = .int .i64 f ∧ v10 = .int .i64 i ∧ i ≤ l.length ∧ f ≤ i ∧ m = l.length + 1 - i ∧ frontOk s.its l 0 = frontOk s.its (l.drop i) f ∧ Below w.heap.size w wr)
  case atStart => exact ⟨0, 0, rfl, rfl, Nat.zero_le _, Nat.le_refl _, rfl, rfl, Below.refl _ _⟩
  case round =>
    obtain ⟨i, f, rfl, rfl, hi, hfi, hm, hr, hbl⟩ := hrel
    have HN := hid hm
    have HR := hid hr
    clear hm hr
    by_cases h1 : i < l.length
    · obtain ⟨y, hy⟩ : ∃ y, l[i]? = some y := ⟨_, List.getElem?_eq_getElem h1⟩
      obtain ⟨b', off, rfl, hbb, hcc⟩ := (hl.below (hbl.mono hB)) i y hy
      have k0 : wr.cell? ⟨b', off + i * 3, none⟩ = some (.int .i64 y.kind) := hcc 0 _ rfl
      have k1 := hcc 1 _ rfl
      have k2 := hcc 2 _ rfl
      have hst := HR.out.trans (frontOk_step (f := f) hy)
      have HST := hid hst
      obtain ⟨I, iv, qv, hR, hws⟩ := HQ.out.below hbl
      have hba : Below w.heap.size w (wr.alloc (.cells #[.int .i64 y.kind, .int .i64 y.key, .int .u64 y.val] 90)) := hbl.alloc hbl.size _
      have hba2 : Below wr.heap.size wr (wr.alloc (.cells #[.int .i64 y.kind, .int .i64 y.key, .int .u64 y.val] 90)) := (Below.refl _ _).alloc (Nat.le_refl _) _
      have hRa := hR.below hba2
      have HBA := hid hba
      have hx1 : (wr.alloc (.cells #[.int .i64 y.kind, .int .i64 y.key, .int .u64 y.val] 90)).heap[wr.heap.size]? = some (.cells #[.int .i64 y.kind, .int .i64 y.key, .int .u64 y.val] 90 (0, 0)) := (MapKept.heap_alloc wr _).1
      have e0 : (wr.alloc (.cells #[.int .i64 y.kind, .int .i64 y.key, .int .u64 y.val] 90)).cell? ⟨wr.heap.size, 0, none⟩ = some (.int .i64 y.kind) := by rw [cell_of_row _ _ 0 _ _ _ hx1]; rfl
      have e1 : (wr.alloc (.cells #[.int .i64 y.kind, .int .i64 y.key, .int .u64 y.val] 90)).cell? ⟨wr.heap.size, 1, none⟩ = some (.int .i64 y.key) := by rw [cell_of_row _ _ 1 _ _ _ hx1]; rfl
      have e2 : (wr.alloc (.cells #[.int .i64 y.kind, .int .i64 y.key, .int .u64 y.val] 90)).cell? ⟨wr.heap.size, 2, none⟩ = some (.int .u64 y.val) := by rw [cell_of_row _ _ 2 _ _ _ hx1]; rfl
      obtain ⟨A3, c3, hv3, hc3, hat3⟩ := hRa.it.at_
      have g0 : (wr.alloc (.cells #[.int .i64 y.kind, .int .i64 y.key, .int .u64 y.val] 90)).cell? ⟨b, 3, none⟩ = some (.slice A3 s.its.length c3) := by rw [cell_of_row _ b 3 _ _ _ hRa.blk, ← hv3]; rfl
      have hat3' : RowAt encD 2 (wr.alloc (.cells #[.int .i64 y.kind, .int .i64 y.key, .int .u64 y.val] 90)) (wr.alloc (.cells #[.int .i64 y.kind, .int .i64 y.key, .int .u64 y.val] 90)).heap.size A3 s.its := hat3
      have HAT3 := hid hat3'
      clear hcc hst hR hws hba hba2 hRa hx1 hat3 hat3' hv3 hl hy
      cases q4 : (y.kind == 4)
      · have hk4 : y.kind ≠ 4 := by simpa using q4
        have q4' : (y.kind != 4) = true := by simpa using hk4
        cases q3 : (y.kind == 3)
        · have hk3 : y.kind ≠ 3 := by simpa using q3
          have q3' : (y.kind != 3) = true := by simpa using hk3
          have hfa : s.right l = false := by unfold QS.right; rw [HST.out, if_neg (by rw [q3]; simp), if_neg (fun q => hk4 q.1)]; rfl
          have HFA := hid hfa
          clear hfa hk4 hk3
          go_wp2_with fail
          go_ret
          exact ⟨by rw [HFA.out]; rfl, HBA.out⟩
        · have hk3 : y.kind = 3 := by simpa using q3
          have q3' : (y.kind != 3) = false := by simp [hk3]
          cases q0 : (y.key == 0)
          · have q0' : (y.key != 0) = true := by simpa using q0
            have hfa : s.right l = false := by unfold QS.right; rw [HST.out, if_neg (by rw [q0]; simp), if_neg (fun q => hk4 q.1)]; rfl
            have HFA := hid hfa
            clear hfa hk4 hk3
            go_wp2_with fail
            go_ret
            exact ⟨by rw [HFA.out]; rfl, HBA.out⟩
          · have q0' : (y.key != 0) = false := by simpa using q0
            have HE := hid (HST.out.trans (by rw [if_pos (by rw [q3, q0]; rfl)]))
            clear hk4 hk3
            go_wp2_with fail
            go_roundg (l.length + 1 - (i + 1))
            case measure => rw [HN.out]; omega
            case rel => exact ⟨i + 1, f, rfl, by go_num, by omega, by omega, rfl, HE.out, HBA.out⟩
      · have hk4 : y.kind = 4 := by simpa using q4
        have hst4 : frontOk s.its l 0 = if s.its[f]? = some ⟨y.key, y.val, 0⟩ then frontOk s.its (l.drop (i + 1)) (f + 1) else false := by
          rw [HST.out, if_neg (by rw [hk4]; intro q; rw [Bool.and_eq_true] at q; exact absurd q.1 (by decide))]
          by_cases q : s.its[f]? = some ⟨y.key, y.val, 0⟩
          · rw [if_pos ⟨hk4, q⟩, if_pos q]
          · rw [if_neg (fun z => q z.2), if_neg q]
        obtain ⟨kd, ky, vl⟩ := y
        simp only at hk4
        subst hk4
        simp only at *
        clear q4
        have HST4 := hid hst4
        clear HST hst4
        by_cases hfl : f < s.its.length
        · obtain ⟨x, hx⟩ : ∃ x, s.its[f]? = some x := ⟨_, List.getElem?_eq_getElem hfl⟩
          obtain ⟨b3, off3, rfl, hb3, hc3'⟩ := HAT3.out f x hx
          have d0 : (wr.alloc (.cells #[.int .i64 4, .int .i64 ky, .int .u64 vl] 90)).cell? ⟨b3, off3 + f * 2, none⟩ = some (.int .i64 x.num) := hc3' 0 _ rfl
          have d1 : (wr.alloc (.cells #[.int .i64 4, .int .i64 ky, .int .u64 vl] 90)).cell? ⟨b3, off3 + f * 2 + 1, none⟩ = some (.int .u64 x.val) := hc3' 1 _ rfl
          have hfl0 : (f : Int) < s.its.length := by omega
          have hfl1 : decide ((s.its.length : Int) ≤ (f : Int)) = false := by simp; omega
          have hfl2 : decide (s.its.length ≤ f) = false := by simp; omega
          have hf0 : (0 : Int) ≤ f := by omega
          have htk := HOK.out.taker (List.mem_of_getElem? hx)
          have HTKR := hid htk
          have HX := hid hx
          clear hc3' hx htk
          cases p1 : (x.num == ky)
          · have hfa : s.right l = false := by
              unfold QS.right
              rw [HST4.out, if_neg (by rw [HX.out]; intro q; cases q; simp at p1)]; rfl
            have HFA := hid hfa
            have p1' : (x.num != ky) = true := by unfold bne; rw [p1]; rfl
            clear hfa
            go_wp2_with fail
            go_quiet (fail)
            go_wp2_with fail
            go_ret
            exact ⟨by rw [HFA.out]; rfl, HBA.out.trans ((bdN _ _).mono HBA.out.size)⟩
          · cases p2 : (x.val == vl)
            · have hfa : s.right l = false := by
                unfold QS.right
                rw [HST4.out, if_neg (by rw [HX.out]; intro q; cases q; simp at p2)]; rfl
              have HFA := hid hfa
              have p1' : (x.num != ky) = false := by unfold bne; rw [p1]; rfl
              have p2' : (x.val != vl) = true := by unfold bne; rw [p2]; rfl
              clear hfa
              go_wp2_with fail
              go_quiet (fail)
              go_wp2_with fail
              go_ret
              exact ⟨by rw [HFA.out]; rfl, HBA.out.trans ((bdN _ _).mono HBA.out.size)⟩
            · have hnum : x.num = ky := by simpa using p1
              have hval : x.val = vl := by simpa using p2
              have HT4 := hid (fun w' (f : Below w.heap.size w w') => HTK.out w' f ky)
              rw [← hnum] at HT4
              rw [HTKR.out] at HT4
              rw [hnum] at HT4
              have p1' : (x.num != ky) = false := by unfold bne; rw [p1]; rfl
              have p2' : (x.val != vl) = false := by unfold bne; rw [p2]; rfl
              have hx' : s.its[f]? = some ⟨ky, vl, x.by_⟩ := by rw [HX.out, ← hnum, ← hval]
              have HX' := hid hx'
              have hS : (wr.alloc (.cells #[.int .i64 4, .int .i64 ky, .int .u64 vl] 90)).cell? ⟨b, 3, none⟩ = some (.slice (some ⟨b3, off3, none⟩) s.its.length c3) ∧ (wr.alloc (.cells #[.int .i64 4, .int .i64 ky, .int .u64 vl] 90)).cell? ⟨b3, off3 + f * 2, none⟩ = some (.int .i64 x.num) ∧ (wr.alloc (.cells #[.int .i64 4, .int .i64 ky, .int .u64 vl] 90)).cell? ⟨b3, off3 + f * 2 + 1, none⟩ = some (.int .u64 x.val) ∧ (wr.alloc (.cells #[.int .i64 4, .int .i64 ky, .int .u64 vl] 90)).cell? ⟨wr.heap.size, 1, none⟩ = some (.int .i64 ky) ∧ (wr.alloc (.cells #[.int .i64 4, .int .i64 ky, .int .u64 vl] 90)).cell? ⟨wr.heap.size, 2, none⟩ = some (.int .u64 vl) ∧ Below w.heap.size w (wr.alloc (.cells #[.int .i64 4, .int .i64 ky, .int .u64 vl] 90)) := ⟨g0, d0, d1, e1, e2, HBA.out⟩
              have HS := hid hS
              have e00 := e0
              clear hx' hnum hval g0 d0 d1 e1 e2 HTK p1 p2 hS
              cases q0 : (x.by_ == 0)
              · have hby : x.by_ ≠ 0 := by simpa using q0
                have q0' : (x.by_ != 0) = true := by unfold bne; rw [q0]; rfl
                have hfa : s.right l = false := by
                  unfold QS.right
                  rw [HST4.out, if_neg (by rw [HX'.out]; intro q; injection q with q; injection q with q1 q2 q3; exact hby q3)]; rfl
                have HFA := hid hfa
                clear hfa hby
                go_wp2_with fail
                generalize (wr.alloc (.cells #[.int .i64 4, .int .i64 ky, .int .u64 vl] 90)) = wa at *
                generalize wr.heap.size = bx at *
                have hS := HS.out
                go_region_held3 (fun w' => w'.cell? ⟨b, 3, none⟩ = some (.slice (some ⟨b3, off3, none⟩) s.its.length c3) ∧ w'.cell? ⟨b3, off3 + f * 2, none⟩ = some (.int .i64 x.num) ∧ w'.cell? ⟨b3, off3 + f * 2 + 1, none⟩ = some (.int .u64 x.val) ∧ w'.cell? ⟨bx, 1, none⟩ = some (.int .i64 ky) ∧ w'.cell? ⟨bx, 2, none⟩ = some (.int .u64 vl) ∧ Below w.heap.size w w') (first | exact st_step5 (bd1 _) (by assumption) | exact st_step5 (bdN _ _) (by assumption) | exact st_step5 (by assumption) (by assumption) | assumption) (first
                  | (go_at_call 100; refine (HT4.out _ ((by assumption : _ ∧ _ ∧ _ ∧ _ ∧ _ ∧ Below w.heap.size w _).2.2.2.2.2)).mono ?_; rintro e w4 ⟨rfl, f4⟩))
                all_goals
                  have hfin := (by assumption : _ ∧ _ ∧ _ ∧ _ ∧ _ ∧ Below w.heap.size w _).2.2.2.2.2
                  go_wp2_with fail
                  go_ret
                  exact ⟨by rw [HFA.out]; rfl, hfin⟩
              · have hby : x.by_ = 0 := by simpa using q0
                have q0' : (x.by_ != 0) = false := by unfold bne; rw [q0]; rfl
                have hfa : frontOk s.its l 0 = frontOk s.its (l.drop (i + 1)) (f + 1) := by
                  rw [HST4.out, if_pos (by rw [HX'.out, hby])]
                have HFA := hid hfa
                clear hfa hby
                go_wp2_with fail
                generalize (wr.alloc (.cells #[.int .i64 4, .int .i64 ky, .int .u64 vl] 90)) = wa at *
                generalize wr.heap.size = bx at *
                have hS := HS.out
                go_region_held3 (fun w' => w'.cell? ⟨b, 3, none⟩ = some (.slice (some ⟨b3, off3, none⟩) s.its.length c3) ∧ w'.cell? ⟨b3, off3 + f * 2, none⟩ = some (.int .i64 x.num) ∧ w'.cell? ⟨b3, off3 + f * 2 + 1, none⟩ = some (.int .u64 x.val) ∧ w'.cell? ⟨bx, 1, none⟩ = some (.int .i64 ky) ∧ w'.cell? ⟨bx, 2, none⟩ = some (.int .u64 vl) ∧ Below w.heap.size w w') (first | exact st_step5 (bd1 _) (by assumption) | exact st_step5 (bdN _ _) (by assumption) | exact st_step5 (by assumption) (by assumption) | assumption) (first
                  | (go_at_call 100; refine (HT4.out _ ((by assumption : _ ∧ _ ∧ _ ∧ _ ∧ _ ∧ Below w.heap.size w _).2.2.2.2.2)).mono ?_; rintro e w4 ⟨rfl, f4⟩))
                all_goals
                  have hfin := (by assumption : _ ∧ _ ∧ _ ∧ _ ∧ _ ∧ Below w.heap.size w _).2.2.2.2.2
                  go_wp2_with fail
                  go_roundg (l.length + 1 - (i + 1))
                  case measure => rw [HN.out]; omega
                  case rel => exact ⟨i + 1, f + 1, by go_num, by go_num, by omega, by omega, rfl, HFA.out, hfin⟩
        · have hfa : s.right l = false := by
            unfold QS.right
            rw [HST4.out, if_neg (by intro q; exact hfl (List.getElem?_eq_some_iff.1 q).1)]; rfl
          have HFA := hid hfa
          have hfl1 : decide ((s.its.length : Int) ≤ (f : Int)) = true := by simp; omega
          have hfl2 : decide (s.its.length ≤ f) = true := by simp; omega
          clear hfa
          go_wp2_with fail
          go_quiet (fail)
          go_wp2_with fail
          go_ret
          exact ⟨by rw [HFA.out]; rfl, HBA.out.trans ((bdN _ _).mono HBA.out.size)⟩
    · have hi' : i = l.length := by omega
      subst hi'
      have hq : frontOk s.its l 0 = true := by rw [HR.out, List.drop_length]; rfl
      have he : s.right l = decide ((putsL l : Int) ≤ max s.room 0) := by unfold QS.right; rw [hq]; rfl
      have HE := hid he
      have hle := putsL_le l
      clear hq he
      generalize s.room = rm at *
      generalize putsL l = P at *
      by_cases hP0 : P = 0
      · have hP1 : ((P : Int) == 0) = true := by simp [hP0]
        have hres : s.right l = true := by rw [HE.out]; simp; omega
        have HRES := hid hres
        clear hres hP0
        go_wp2_with fail
        refine (HP.out _ hbl).mono ?_
        rintro e w2 ⟨rfl, rfl⟩
        go_wp2_with fail
        go_ret
        exact ⟨by rw [HRES.out]; rfl, hbl⟩
      · have hP1 : ((P : Int) == 0) = false := by simp; omega
        have hres : s.right l = decide ((P : Int) ≤ rm) := by rw [HE.out, decide_eq_decide]; omega
        have HRES := hid hres
        clear hres hP0
        go_wp2_with fail
        refine (HP.out _ hbl).mono ?_
        rintro e w2 ⟨rfl, rfl⟩
        go_wp2_with fail
        refine (HP.out _ hbl).mono ?_
        rintro e w2 ⟨rfl, rfl⟩
        go_wp2_with fail
        refine (HRM.out _ hbl).mono ?_
        rintro e w3 ⟨rfl, q3, rfl⟩
        go_wp2_with fail
        go_ret
        exact ⟨by rw [HRES.out]; rfl, hbl.trans ((bdN _ _).mono hbl.size)⟩
end Go.Proofs.YtdejbinmnoabeaaGreat.E
namespace Go.Proofs.YtdejbinmnoabeaaGreat.E
open Go.Proofs.YtdejbinmnoabeaaGreat.Q
variable {Zd : Z3}
open Go.RowKit Go.Mine Go.Proofs.YtdejbinmnoabeaaGreatW.PrintWords
set_option linter.unusedVariables false
set_option linter.unusedSimpArgs false
set_option maxRecDepth 100000 in
set_option maxHeartbeats 8000000 in
theorem drestore_any {F : Nat → Prop} {w : World} {b : Nat} {s : QS} (h : DAt Zd F w b s) (hok : s.Ok) (n : Int) (A : Option Addr) (l : List Ch) (c : Nat) (hl : ChAt w w.heap.size A l) (hA : l ≠ [] → Beside F A) (hn : l.length ≤ 1000) :
    Calls Tryz.prog 76 #[.pointer (some ⟨b, 3, none⟩), .int .i64 n, .slice A l.length c] w (DPost Zd F w b (.int .i64 (s.restore n l).1) (s.restore n l).2) := by
  have HRI := hid (dright_any h hok A l c _ hl (Nat.le_refl _) (by omega))
  have H := hid h
  have HOK := hid hok
  have hbd := hok.bd
  go_enter Tryz.func76, Tryz.ntmps76
  by_cases hn1 : n < 1
  · have HE := hid (rest_low (s := s) (l := l) hn1)
    go_wp2_with fail
    go_ret
    exact ⟨by rw [HE.out]; rfl, ⟨F, by rw [HE.out]; exact H.out, Grew.refl _ _⟩, Fr.refl _ _⟩
  · have HN1 := hid hn1
    go_wp2_with fail
    refine HRI.out.mono ?_
    rintro e w1 ⟨rfl, f1⟩
    have h1 := h.below f1
    have hl1 := (hl.below f1).up f1.size
    have fr1 : Fr F w w1 := (Fr.of_below f1 (Nat.le_refl _)).mono (fun _ q => q.elim)
    clear HRI hl h hok
    cases hr : s.right l
    · have HE := hid (rest_bad (s := s) (n := n) (by have := HN1.out; omega) hr)
      go_wp2_with fail
      go_ret
      exact ⟨by rw [HE.out]; rfl, ⟨F, by rw [HE.out]; exact h1, Grew.refl _ _⟩, fr1⟩
    · have HRT := hid hr
      clear hr
      have hat := h1
      obtain ⟨I, iv, qv, hR, hwsI⟩ := h1
      have hIl : I.length ≤ 1000 := by have := hbd.ws; rw [hwsI] at this; simpa [wsOf] using this
      have hfd := dfind_any hR (by omega) n
      have hg := aget_ws n I
      rw [← hwsI] at hg
      unfold findB at hfd
      have HAT := hid hat
      have HR := hid hR
      have HWS := hid hwsI
      clear hat hR hwsI hbd
      cases hf : I.find? (fun x => decide (x.n = n)) with
      | some x =>
        rw [hf] at hfd hg
        simp only [Option.map_some] at hfd hg
        have HE := hid (rest_there (n := n) (by have := HN1.out; omega) HRT.out (by unfold QS.busy; rw [hg]; rfl))
        have HFD := hid hfd
        clear hf hg hfd
        go_wp2_with fail
        refine HFD.out.mono ?_
        rintro e w2 ⟨rfl, rfl⟩
        go_wp2_with fail
        go_ret
        exact ⟨by rw [HE.out]; rfl, ⟨F, by rw [HE.out]; exact HAT.out, Grew.refl _ _⟩, fr1⟩
      | none =>
        rw [hf] at hfd hg
        simp only [Option.map_none] at hfd hg
        have HE := hid (rest_do (n := n) (by have := HN1.out; omega) HRT.out (by unfold QS.busy; rw [hg]; rfl))
        have HFD := hid hfd
        have HG := hid hg
        clear hf hg hfd
        have henc : s.its.map encD = (mixI (tkI n) s.its (takesL l)).map encD := by
          unfold mixI
          rw [List.map_append, List.map_map]
          have : (s.its.take (takesL l)).map (encD ∘ tkI n) = (s.its.take (takesL l)).map encD := List.map_congr_left (fun x _ => rfl)
          rw [this, ← List.map_append, List.take_append_drop]
        have HENC := hid henc
        clear henc
        by_cases hl0 : l = []
        · have hw0 : addW n true l s.ws = s.ws := by rw [addW, if_pos hl0]
          have HW0 := hid hw0
          have hlen0 : (l.length : Int) = 0 := by rw [hl0]; rfl
          have hlen1 : l.length = 0 := by rw [hl0]; rfl
          clear hw0 hl0 hA
          go_wp2_with fail
          refine HFD.out.mono ?_
          rintro e w2 ⟨rfl, rfl⟩
          go_wp2_with fail
          go_ret
          exact ⟨by rw [HE.out]; rfl, ⟨F, by rw [HE.out, HW0.out]; exact HAT.out.its HENC.out, Grew.refl _ _⟩, fr1⟩
        · have hlp : 0 < l.length := List.length_pos_iff.2 hl0
          have hlp' : 0 < (l.length : Int) := by omega
          have HL0 := hid hl0
          have HA := hid (hA hl0)
          clear hl0 hA
          have hba : Below w1.heap.size w1 (w1.alloc (.cells #[.int .i64 n, .slice none 0 0, .bool true] 125)) := (Below.refl _ _).alloc (Nat.le_refl _) _
          have hya : (w1.alloc (.cells #[.int .i64 n, .slice none 0 0, .bool true] 125)).heap[w1.heap.size]? = some (.cells #[.int .i64 n, .slice none 0 0, .bool true] 125 (0, 0)) := (MapKept.heap_alloc w1 _).1
          have ya1 : (w1.alloc (.cells #[.int .i64 n, .slice none 0 0, .bool true] 125)).cell? ⟨w1.heap.size, 1, none⟩ = some (.slice none 0 0) := by rw [cell_of_row _ _ 1 _ _ _ hya]; rfl
          have hrow := ChAt.row ((hl1.below hba).up hba.size) (by omega)
          have HROW := hid hrow
          have HYA := hid hya
          obtain ⟨Aq, cq, rfl, hAq, _⟩ := HR.out.wp.at_
          have HBA := hid hba
          have hwlt := HR.out.fb _ HR.out.bF
          clear hrow hya hba hl1
          go_wp2_with fail
          refine HFD.out.mono ?_
          rintro e w2 ⟨rfl, rfl⟩
          obtain ⟨yb, hyb⟩ : ∃ yb, yb = w1.heap.size := ⟨_, rfl⟩
          have hyF : ¬ F yb := fun q => by have := HR.out.fb _ q; omega
          have HYF := hid hyF
          clear hyF HFD
          go_wp2_with (at_builtin; first
            | (go_loud (refine Kd.R_append_rows eCh.kd (Rr := fun x cs => cs = encCh x) (w0 := (w1.alloc (.cells #[.int .i64 n, .slice none 0 0, .bool true] 125))) (w1.alloc (.cells #[.int .i64 n, .slice none 0 0, .bool true] 125)).heap.size rfl (.tmp 30) (.tmp 31) 40 90 _ 24 rfl Tryz.underlying40 info90 (by rfl) (by decide) (by decide) (.slice none 0 0) [] l A l.length c (fun _ => True) (fun _ => False) rfl rfl (Kd.R_nil _ _ _ _ _) HROW.out (fun _ _ h => h) (fun _ h => h.elim) (fun _ _ => trivial) (Below.refl _ _) (Nat.le_refl _) (by simp only [List.length_nil]; omega) ?_); intro v5 w5 ho5 hb5 hg5 hat5; have hy5 := (hb5.block _ (Q.blk_lt HYA.out)).trans HYA.out; have hc5 : w5.cell? ⟨w1.heap.size, 1, none⟩ = some (.slice none 0 0) := (by rw [cell_of_row _ _ 1 _ _ _ hy5]; rfl); have hz5 : w5.frozen? ⟨w1.heap.size, 1, none⟩ = false := (by simp [World.frozen?, hy5]); rw [List.nil_append] at ho5; have HO5 := hid ho5; have HB5 := hid hb5; have HY5 := hid hy5; clear ho5 hb5 hg5 hat5 hy5; obtain ⟨A5, c5, hv5⟩ := Kd.R_slice HO5.out; subst hv5; have hfc : Fr (fun k => k = w1.heap.size) w5 (w5.setCell ⟨w1.heap.size, 1, none⟩ (.slice A5 l.length c5)) := Fr.setCell (S := fun k => k = w1.heap.size) (p := ⟨w1.heap.size, 1, none⟩) (Fr.refl _ _) (.inl rfl) _; have hRC := ((HR.out.below HBA.out).below HB5.out).fr hfc (fun k hk q => by have := HR.out.fb k hk; omega); have hc1 : (w5.setCell ⟨w1.heap.size, 1, none⟩ (.slice A5 l.length c5)).cell? ⟨b, 4, none⟩ = some (.slice Aq I.length cq) := (by rw [cell_of_row _ _ 4 _ _ _ hRC.blk]; rfl); have HRC := hid hRC; have HFC := hid hfc; have hyc := blk_set' HY5.out 1 (.slice A5 l.length c5); have HYC := hid hyc; clear hfc hRC hyc)
            | (go_loud (refine Kd.R_append eWI.kd (w0 := (w5.setCell ⟨w1.heap.size, 1, none⟩ (.slice A5 l.length c5))) 0 rfl (.tmp 39) (.tmp 41) 34 102 _ 8 rfl Tryz.underlying34 info102 (by rfl) (by decide) (by decide) (.slice Aq I.length cq) I ⟨n, w1.heap.size, .slice A5 l.length c5, l, true⟩ [ptrV w1.heap.size] (fun _ => True) (fun _ => False) rfl (by first | rfl | (simp; rfl)) rfl (fun _ q => q.elim) (fun _ _ => trivial) HRC.out.wp (Below.refl _ _) (Nat.zero_le _) (by omega) ?_); intro v8 w8 ho8 hb8 hg8 hat8; have hx8 : w8.heap[b]? = some (.cells #[Zd.a, Zd.b, Zd.c, iv, .slice Aq I.length cq, .int .i64 s.gv] 38 (0, 0)) := (hg8.block _ (HRC.out.fb _ HRC.out.bF) (fun q => HRC.out.iv_ne.2.1 q.symm)).trans HRC.out.blk; have hz8 : w8.frozen? ⟨b, 4, none⟩ = false := (by simp [World.frozen?, hx8]); have hc8 : w8.cell? ⟨b, 4, none⟩ = some (.slice Aq I.length cq) := (by rw [cell_of_row w8 _ 4 _ _ _ hx8]; rfl); have HO8 := hid ho8; have HX8 := hid hx8; have HG8 := hid hg8; have HAT8 := hid hat8; clear ho8 hb8 hg8 hat8 hx8; obtain ⟨A8, c8, hv8⟩ := Kd.R_slice HO8.out; rw [List.length_append, List.length_singleton] at hv8; subst hv8))
          have hfr8 : Fr (fun k => k = b ∨ (Value.slice Aq I.length cq).ownBlock = some k) (w5.setCell ⟨w1.heap.size, 1, none⟩ (.slice A5 l.length c5)) (w8.setCell ⟨b, 4, none⟩ (.slice A8 (I.length + 1) c8)) := Fr.setCell (p := ⟨b, 4, none⟩) ((Fr.of_grown HG8.out).mono (fun j hj => .inr hj)) (.inl (.inl rfl)) _
          have hfw5 : Fr (fun _ => False) w1 w5 := ((Fr.refl _ w1).alloc _).trans (Fr.of_below HB5.out (Nat.le_refl _)) (fun _ q => q.elim)
          have hszw : w1.heap.size ≤ (w1.alloc (.cells #[.int .i64 n, .slice none 0 0, .bool true] 125)).heap.size := HBA.out.size
          have hfwc : Fr (fun _ => False) w1 (w5.setCell ⟨w1.heap.size, 1, none⟩ (.slice A5 l.length c5)) := Fr.setCell hfw5 (.inr (Nat.le_refl _)) _
          have hfall : Fr (fun k => k = b ∨ (Value.slice Aq I.length cq).ownBlock = some k) w1 (w8.setCell ⟨b, 4, none⟩ (.slice A8 (I.length + 1) c8)) := (hfwc.mono (fun _ q => q.elim)).trans hfr8 (fun i hi => .inl hi)
          have hi8 : FR eD 129 (w8.setCell ⟨b, 4, none⟩ (.slice A8 (I.length + 1) c8)) iv s.its := HR.out.it.move (fun k hk => hfall.block k (HR.out.it.lt hk) (fun q => by
            rcases q with q | q
            · exact HR.out.iv_ne.1 (by rw [hk, q])
            · exact HR.out.iv_ne.2.2 k hk q))
          have h08 : FR eWI 102 w8 (.slice A8 (I.length + 1) c8) (I ++ [⟨n, w1.heap.size, .slice A5 l.length c5, l, true⟩]) := HO8.out
          have hq8 : FR eWI 102 (w8.setCell ⟨b, 4, none⟩ (.slice A8 (I.length + 1) c8)) (.slice A8 (I.length + 1) c8) (I ++ [⟨n, w1.heap.size, .slice A5 l.length c5, l, true⟩]) := h08.move (fun j hj => Below.heap_setCell _ _ _ _ (fun q => h08.ne HX8.out (by decide) (by rw [hj]; exact congrArg some q)))
          have hyk := hfr8.at_ HYC.out (fun q => by
            rcases q with q | q
            · have := hwlt; omega
            · have := HR.out.wp.lt q; omega)
          have hro5 := Kd.R_base HO5.out
          have hr5 : ChRow w5 (.slice A5 l.length c5) l := Kd.R_lower HO5.out (Nat.zero_le _)
          have hrc : ChRow (w5.setCell ⟨w1.heap.size, 1, none⟩ (.slice A5 l.length c5)) (.slice A5 l.length c5) l := hr5.move (fun k hk => HFC.out.block k (hr5.lt hk) (fun q => by have := hro5 k hk; have h3 : (w1.alloc (.cells #[.int .i64 n, .slice none 0 0, .bool true] 125)).heap.size = w1.heap.size + 1 := (by simp); omega))
          have hr8 : ChRow (w8.setCell ⟨b, 4, none⟩ (.slice A8 (I.length + 1) c8)) (.slice A5 l.length c5) l := hrc.move (fun k hk => hfr8.block k (hrc.lt hk) (fun q => by
            have h3 := hro5 k hk
            rcases q with q | q
            · omega
            · have := HR.out.wp.lt q; omega))
          have hfin := HR.out.addw (y := ⟨n, w1.heap.size, .slice A5 l.length c5, l, true⟩) (hfall.mono (fun i hi => hi.imp id (fun q => .inr q))) (blk_set' HX8.out 4 (.slice A8 (I.length + 1) c8)) hi8 hq8 hyk (Nat.le_refl _) hr8 (fun k hk => Nat.le_trans hszw (hro5 k hk)) (fun j hj => by
            rcases HAT8.out with q | ⟨b', q, hb⟩
            · exact .inl (q ▸ hj)
            · rw [hj] at q; cases q; exact .inr (Nat.le_trans hfwc.size hb))
          have hwsn : addW n true l s.ws = wsOf (I ++ [⟨n, w1.heap.size, .slice A5 l.length c5, l, true⟩]) := by
            rw [addW, if_neg HL0.out, HWS.out]
            simp [wsOf]
          have hfrF : Fr F w1 (w8.setCell ⟨b, 4, none⟩ (.slice A8 (I.length + 1) c8)) := hfall.mono (fun j hj => by
            rcases hj with q | q
            · rw [q]; exact HR.out.bF
            · exact HR.out.qF _ q)
          have hdat : DAt Zd (more F w1 (w8.setCell ⟨b, 4, none⟩ (.slice A8 (I.length + 1) c8))) (w8.setCell ⟨b, 4, none⟩ (.slice A8 (I.length + 1) c8)) b ⟨s.its, addW n true l s.ws, s.gv⟩ := ⟨_, _, _, hfin, hwsn⟩
          have HDAT := hid (hdat.its HENC.out)
          have HFRF := hid hfrF
          have HGRW := hid ((grew_more F w1 (w8.setCell ⟨b, 4, none⟩ (.slice A8 (I.length + 1) c8))).up f1.size)
          clear hfr8 hfw5 hszw hfwc hfall hi8 h08 hq8 hyk hro5 hr5 hrc hr8 hfin hwsn hfrF hdat
          go_wp2_with fail
          go_ret
          exact ⟨by rw [HE.out]; rfl, ⟨_, by rw [HE.out]; exact HDAT.out, HGRW.out⟩, fr1.trans HFRF.out (fun j hj => .inl hj)⟩
end Go.Proofs.YtdejbinmnoabeaaGreat.E
namespace Go.Mine
set_option linter.unusedVariables false
set_option linter.unusedSimpArgs false
structure RM where
  k : KS
  q : QS
def RM.new : RM := ⟨KS.new, QS.new⟩
structure RM.Ok (s : RM) : Prop where
  k : s.k.Ok
  q : s.q.Ok
theorem RM.Ok.new : RM.new.Ok := ⟨KS.Ok.new, QS.Ok.new⟩
def RM.fit (s : RM) (n : Int) : Int := if n < 1 then 1 else if (prepd n s.k.ws || prepd n s.q.ws) = true then 7 else 0
def RM.get (s : RM) (n key : Int) : (Int × Bool × Int) × RM := if s.fit n ≠ 0 then ((0, false, s.fit n), s) else ((s.k.get n key).1, ⟨(s.k.get n key).2, s.q⟩)
def RM.change (s : RM) (n : Int) (c : Ch) : Int × RM := if s.fit n ≠ 0 then (s.fit n, s) else ((s.k.change n c).1, ⟨(s.k.change n c).2, s.q⟩)
def RM.push (s : RM) (n v : Int) : Int × RM := if s.fit n ≠ 0 then (s.fit n, s) else ((s.q.put n v).1, ⟨s.k, (s.q.put n v).2⟩)
def RM.pop (s : RM) (n : Int) : (Int × Int) × RM := if s.fit n ≠ 0 then ((0, s.fit n), s) else ((s.q.take n).1, ⟨s.k, (s.q.take n).2⟩)
def RM.prepare (s : RM) (n : Int) : (List Ch × Int) × RM :=
  if s.fit n ≠ 0 then (([], s.fit n), s) else (((s.k.prepare n).1.1 ++ (s.q.prepare n).1.1, 0), ⟨(s.k.prepare n).2, (s.q.prepare n).2⟩)
def RM.commit (s : RM) (n : Int) : Int × RM := if s.fit n = 1 then (1, s) else (0, ⟨(s.k.commit n).2, (s.q.commit n).2⟩)
def RM.backout (s : RM) (n : Int) : Int × RM := if s.fit n = 1 then (1, s) else (0, ⟨(s.k.backout n).2, (s.q.backout n).2⟩)
def kvKind (c : Ch) : Bool := c.kind == 1 || c.kind == 2
def cutN : List Ch → Nat
  | [] => 0
  | c :: cs => if kvKind c = true then cutN cs + 1 else 0
theorem cutN_le (l : List Ch) : cutN l ≤ l.length := by
  induction l with
  | nil => exact Nat.le_refl _
  | cons c cs ih =>
    rw [cutN]
    split
    · exact Nat.succ_le_succ ih
    · exact Nat.zero_le _
theorem cutN_lt : ∀ {l : List Ch} {i : Nat} {y : Ch}, i < cutN l → l[i]? = some y → kvKind y = true
  | c :: cs, 0, y, h, hy => by
    rw [cutN] at h
    split at h
    · simp at hy; subst hy; assumption
    · omega
  | c :: cs, i + 1, y, h, hy => by
    rw [cutN] at h
    split at h
    · exact cutN_lt (l := cs) (i := i) (by omega) (by simpa using hy)
    · omega
theorem cutN_ge : ∀ {l : List Ch} {i : Nat}, (∀ j y, j < i → l[j]? = some y → kvKind y = true) → i ≤ l.length → i ≤ cutN l
  | l, 0, _, _ => Nat.zero_le _
  | [], i + 1, _, h => by simp at h
  | c :: cs, i + 1, h, hl => by
    rw [cutN, if_pos (h 0 c (by omega) rfl)]
    have := cutN_ge (l := cs) (i := i) (fun j y hj hy => h (j + 1) y (by omega) (by simpa using hy)) (by simpa using hl)
    omega
theorem cutN_eq {l : List Ch} {i : Nat} (h : ∀ j y, j < i → l[j]? = some y → kvKind y = true) (hl : i ≤ l.length) (hn : ∀ y, l[i]? = some y → kvKind y = false) : i = cutN l := by
  have h1 := cutN_ge h hl
  have h2 := cutN_le l
  apply Classical.byContradiction
  intro hne
  have hlt : i < cutN l := by omega
  have hil : i < l.length := by omega
  have := cutN_lt hlt (List.getElem?_eq_getElem hil)
  rw [hn _ (List.getElem?_eq_getElem hil)] at this
  cases this
def RM.restore (s : RM) (n : Int) (l : List Ch) : Int × RM :=
  if n < 1 then (1, s)
  else if (l.drop (cutN l)).any kvKind = true then (3, s)
  else if (s.k.restore n (l.take (cutN l))).1 ≠ 0 then ((s.k.restore n (l.take (cutN l))).1, ⟨(s.k.restore n (l.take (cutN l))).2, s.q⟩)
  else if (s.q.restore n (l.drop (cutN l))).1 ≠ 0 then
    ((s.q.restore n (l.drop (cutN l))).1, ⟨if 0 < cutN l then ((s.k.restore n (l.take (cutN l))).2.backout n).2 else (s.k.restore n (l.take (cutN l))).2, (s.q.restore n (l.drop (cutN l))).2⟩)
  else (0, ⟨(s.k.restore n (l.take (cutN l))).2, (s.q.restore n (l.drop (cutN l))).2⟩)
def RM.busy (s : RM) (n : Int) : Bool := s.k.busy n || s.q.busy n
theorem RM.fit_cases (s : RM) (n : Int) : (n < 1 ∧ s.fit n = 1) ∨ (1 ≤ n ∧ s.fit n = 7 ∧ (prepd n s.k.ws || prepd n s.q.ws) = true) ∨ (1 ≤ n ∧ s.fit n = 0 ∧ prepd n s.k.ws = false ∧ prepd n s.q.ws = false) := by
  unfold RM.fit
  by_cases h1 : n < 1
  · exact .inl ⟨h1, by rw [if_pos h1]⟩
  · rw [if_neg h1]
    cases h2 : (prepd n s.k.ws || prepd n s.q.ws)
    · rw [if_neg (by simp)]
      rw [Bool.or_eq_false_iff] at h2
      exact .inr (.inr ⟨by omega, rfl, h2.1, h2.2⟩)
    · rw [if_pos rfl]
      exact .inr (.inl ⟨by omega, rfl, rfl⟩)
theorem prepd_snoc {m n : Int} {v : KW} {ws : List (Int × KW)} (h : aget n ws = none) : prepd m (ws ++ [(n, v)]) = (prepd m ws || (m == n && v.p)) := by
  unfold prepd
  by_cases hm : m = n
  · subst hm
    rw [aget_snoc_self h, h]
    simp
  · have : aget m (ws ++ [(n, v)]) = aget m ws := by
      unfold aget
      rw [List.find?_append]
      have : ([(n, v)] : List (Int × KW)).find? (fun e => decide (e.1 = m)) = none := by simp [Ne.symm hm]
      rw [this, Option.or_none]
    rw [this]
    simp [hm]
theorem prepd_aput {m n : Int} {v : KW} {ws : List (Int × KW)} (hk : ws.Pairwise (fun x y => x.1 ≠ y.1)) : prepd m (aput n v ws) = if m = n then v.p else prepd m ws := by
  unfold prepd
  by_cases hm : m = n
  · subst hm
    rw [aget_put_self m v hk, if_pos rfl]
    rfl
  · rw [aget_put_other v hk hm, if_neg hm]
theorem prepd_adel {m n : Int} {ws : List (Int × KW)} : prepd m (adel n ws) = (prepd m ws && !(m == n)) := by
  unfold prepd
  by_cases hm : m = n
  · subst hm
    have : aget m (adel m ws) = none := by
      rw [aget_none]
      intro e he
      have := List.mem_filter.1 he
      simpa using this.2
    rw [this]
    simp
  · have : aget m (adel n ws) = aget m ws := by
      unfold aget adel
      rw [List.find?_filter]
      congr 2
      funext e
      by_cases h : e.1 = m
      · have : ¬ m = n := hm
        simp [h, this]
      · simp [h]
    rw [this]
    simp [hm]
theorem prepd_touch {s : KS} {n key m : Int} {al : Bool} : prepd m (s.touch n key al).2.ws = prepd m s.ws := by
  unfold KS.touch
  split
  · rfl
  · split
    · rfl
    · split
      · rfl
      · show prepd m (if (aget n s.ws).isSome = true then s.ws else s.ws ++ [(n, ⟨[], false⟩)]) = _
        split
        · rfl
        · rename_i h
          rw [prepd_snoc (by simpa using h)]
          simp
theorem prepd_get {s : KS} {n key m : Int} : prepd m (s.get n key).2.ws = prepd m s.ws := by
  unfold KS.get
  simp only
  split <;> exact prepd_touch
theorem prepd_change {s : KS} (hs : s.Ok) {n m : Int} {c : Ch} : prepd m (s.change n c).2.ws = prepd m s.ws := by
  unfold KS.change
  simp only
  split
  · exact prepd_touch
  · rename_i h
    have h0 : (s.touch n c.key true).1 = 0 := by simpa using h
    show prepd m (aput n _ (s.touch n c.key true).2.ws) = _
    rw [prepd_aput (hs.touch n c.key true).keys]
    split
    · rename_i hm
      subst hm
      have h1 := prepd_touch (s := s) (n := m) (key := c.key) (al := true) (m := m)
      rw [← h1]
      unfold prepd
      rw [touch_list h0]
      rfl
    · exact prepd_touch
theorem prepd_noteW {n m : Int} {c : Ch} {ws : List (Int × KW)} (hk : ws.Pairwise (fun x y => x.1 ≠ y.1)) : prepd m (noteW n c ws) = prepd m ws := by
  unfold noteW
  cases h : aget n ws with
  | none => rw [prepd_snoc h]; simp
  | some v =>
    rw [prepd_aput hk]
    split
    · rename_i hm; subst hm; unfold prepd; rw [h]; rfl
    · rfl
theorem prepd_put {s : QS} (hs : s.Ok) {n v m : Int} : prepd m (s.put n v).2.ws = prepd m s.ws := by
  unfold QS.put
  split
  · rfl
  · split
    · rfl
    · exact prepd_noteW hs.keys
theorem prepd_take {s : QS} (hs : s.Ok) {n m : Int} : prepd m (s.take n).2.ws = prepd m s.ws := by
  unfold QS.take
  split
  · rfl
  · split
    · rfl
    · split
      · rfl
      · exact prepd_noteW hs.keys
theorem prepd_gone {s : KS} {n m : Int} : prepd m (s.gone n).ws = (prepd m s.ws && !(m == n)) := prepd_adel
theorem prepd_kprep {s : KS} (hs : s.Ok) {n m : Int} (h1 : 1 ≤ n) (hp : prepd n s.ws = false) : prepd m (s.prepare n).2.ws = (prepd m s.ws || (m == n && !(s.prepare n).1.1.isEmpty)) := by
  have hg : prepd m (s.gone n).ws = prepd m s.ws := by
    rw [prepd_gone]
    by_cases hm : m = n
    · subst hm; simp [hp]
    · simp [hm]
  unfold KS.prepare
  rw [if_neg (by omega)]
  cases h : aget n s.ws with
  | none => simp only [List.isEmpty_nil, Bool.not_true, Bool.and_false, Bool.or_false]; exact hg
  | some w =>
    have hwp : w.p = false := by unfold prepd at hp; rw [h] at hp; exact hp
    simp only [hwp, Bool.false_eq_true, if_false]
    by_cases hl : w.l = []
    · rw [if_pos hl]
      simp only [List.isEmpty_nil, Bool.not_true, Bool.and_false, Bool.or_false]; exact hg
    · rw [if_neg hl]
      show prepd m (aput n ⟨w.l, true⟩ s.ws) = _
      rw [prepd_aput hs.keys]
      have : w.l.isEmpty = false := by simpa using hl
      simp only [this, Bool.not_false, Bool.and_true]
      by_cases hm : m = n
      · subst hm; simp
      · simp [hm]
theorem prepd_qprep {s : QS} (hs : s.Ok) {n m : Int} (h1 : 1 ≤ n) (hp : prepd n s.ws = false) : prepd m (s.prepare n).2.ws = (prepd m s.ws || (m == n && !(s.prepare n).1.1.isEmpty)) := by
  have hf : s.fit n = 0 := by unfold QS.fit; rw [if_neg (by omega), if_neg (by rw [hp]; simp)]
  unfold QS.prepare
  rw [if_neg (by simp [hf])]
  cases h : aget n s.ws with
  | none => simp
  | some v =>
    show prepd m (aput n ⟨v.l, true⟩ s.ws) = _
    rw [prepd_aput hs.keys]
    have hne : v.l.isEmpty = false := by simpa using hs.ne _ (aget_mem h)
    simp only [hne, Bool.not_false, Bool.and_true]
    by_cases hm : m = n
    · subst hm; simp
    · simp [hm]
theorem prepd_krest {s : KS} {n m : Int} {l : List Ch} (h : (s.restore n l).1 = 0) : prepd m (s.restore n l).2.ws = (prepd m s.ws || (m == n && !l.isEmpty)) := by
  unfold KS.restore at h ⊢
  split at h
  · cases h
  · split at h
    · cases h
    · split at h
      · cases h
      · rename_i h1 h2 h3
        split at h
        · rename_i h4; exact absurd h h4
        · rename_i h4
          rw [if_neg h1, if_neg h2, if_neg h3, if_neg h4]
          show prepd m (if l = [] then s.ws else s.ws ++ [(n, ⟨l, true⟩)]) = _
          split
          · rename_i hl; subst hl; simp
          · rename_i hl
            rw [prepd_snoc (by simpa using h3)]
            have : l.isEmpty = false := by simpa using hl
            simp [this]
theorem krest_err {s : KS} {n : Int} {l : List Ch} (h : (s.restore n l).1 ≠ 0) : (s.restore n l).2.ws = s.ws := by
  unfold KS.restore at h ⊢
  split
  · rfl
  · split
    · rfl
    · split
      · rfl
      · split
        · rfl
        · rename_i h1 h2 h3 h4
          rw [if_neg h1, if_neg h2, if_neg h3, if_neg h4] at h
          exact absurd rfl h
theorem krest_free {s : KS} {n : Int} {l : List Ch} (h : (s.restore n l).1 = 0) : aget n s.ws = none := by
  unfold KS.restore at h
  split at h
  · cases h
  · split at h
    · cases h
    · split at h
      · cases h
      · rename_i h3
        simpa using h3
theorem prepd_none {n : Int} {ws : List (Int × KW)} (h : aget n ws = none) : prepd n ws = false := by unfold prepd; rw [h]; rfl
theorem prepd_qrest {s : QS} {n m : Int} {l : List Ch} (h : (s.restore n l).1 = 0) : prepd m (s.restore n l).2.ws = (prepd m s.ws || (m == n && !l.isEmpty)) := by
  unfold QS.restore at h ⊢
  split at h
  · cases h
  · split at h
    · cases h
    · split at h
      · cases h
      · rename_i h1 h2 h3
        rw [if_neg h1, if_neg h2, if_neg h3]
        show prepd m (addW n true l s.ws) = _
        unfold addW
        split
        · rename_i hl; subst hl; simp
        · rename_i hl
          rw [prepd_snoc (by unfold QS.busy at h3; simpa using h3)]
          have : l.isEmpty = false := by simpa using hl
          simp [this]
theorem qrest_err {s : QS} {n : Int} {l : List Ch} (h : (s.restore n l).1 ≠ 0) : (s.restore n l).2 = s := by
  unfold QS.restore at h ⊢
  split
  · rfl
  · split
    · rfl
    · split
      · rfl
      · rename_i h1 h2 h3
        rw [if_neg h1, if_neg h2, if_neg h3] at h
        exact absurd rfl h
theorem kback_ws {s : KS} {n : Int} (h : 1 ≤ n) : (s.backout n).2 = s.gone n := by unfold KS.backout; rw [if_neg (by omega)]
theorem kcommit_ws {s : KS} {n : Int} (h : 1 ≤ n) : (s.commit n).2.ws = adel n s.ws := by
  unfold KS.commit
  rw [if_neg (by omega)]
  show adel n _ = _
  have : ∀ (l : List Ch) (t : KS), (l.foldl setV t).ws = t.ws := by
    intro l
    induction l with
    | nil => intro t; rfl
    | cons c cs ih => intro t; exact ih (setV t c)
  rw [this]
theorem qback_ws {s : QS} {n : Int} (h : 1 ≤ n) : (s.backout n).2.ws = adel n s.ws := by unfold QS.backout; rw [if_neg (by omega)]
theorem qcommit_ws {s : QS} {n : Int} (h : 1 ≤ n) : (s.commit n).2.ws = adel n s.ws := by unfold QS.commit; rw [if_neg (by omega)]
theorem RM.Ok.get {s : RM} (h : s.Ok) (n key : Int) : (s.get n key).2.Ok := by
  unfold RM.get
  split
  · exact h
  · exact ⟨h.k.get n key, h.q⟩
theorem RM.Ok.change {s : RM} (h : s.Ok) (n : Int) (c : Ch) (hc : c.kind = 1 ∨ (c.kind = 2 ∧ c.val = 0)) : (s.change n c).2.Ok := by
  unfold RM.change
  split
  · exact h
  · exact ⟨h.k.change n c hc, h.q⟩
theorem RM.Ok.push {s : RM} (h : s.Ok) (n v : Int) : (s.push n v).2.Ok := by
  unfold RM.push
  split
  · exact h
  · exact ⟨h.k, h.q.put n v⟩
theorem RM.Ok.pop {s : RM} (h : s.Ok) (n : Int) : (s.pop n).2.Ok := by
  unfold RM.pop
  split
  · exact h
  · exact ⟨h.k, h.q.take n⟩
theorem RM.Ok.prepare {s : RM} (h : s.Ok) (n : Int) : (s.prepare n).2.Ok := by
  unfold RM.prepare
  split
  · exact h
  · exact ⟨h.k.prepare n, h.q.prepare n⟩
theorem RM.Ok.commit {s : RM} (h : s.Ok) (n : Int) : (s.commit n).2.Ok := by
  unfold RM.commit
  split
  · exact h
  · exact ⟨h.k.commit n, h.q.commit n⟩
theorem RM.Ok.backout {s : RM} (h : s.Ok) (n : Int) : (s.backout n).2.Ok := by
  unfold RM.backout
  split
  · exact h
  · exact ⟨h.k.backout n, h.q.backout n⟩
theorem RM.Ok.restore {s : RM} (h : s.Ok) (n : Int) (l : List Ch) : (s.restore n l).2.Ok := by
  unfold RM.restore
  split
  · exact h
  · split
    · exact h
    · split
      · exact ⟨h.k.restore n _, h.q⟩
      · split
        · refine ⟨?_, h.q.restore n _⟩
          show KS.Ok (if 0 < cutN l then _ else _)
          split
          · exact (h.k.restore n _).backout n
          · exact h.k.restore n _
        · exact ⟨h.k.restore n _, h.q.restore n _⟩
end Go.Mine
namespace Go.Proofs.YtdejbinmnoabeaaGreat
open Go.RowKit Go.Mine Go.Proofs.YtdejbinmnoabeaaGreatW.PrintWords
set_option linter.unusedVariables false
set_option linter.unusedSimpArgs false
structure DRR (F FD FE : Nat → Prop) (w : World) (b : Nat) (L : List (Int × Int)) (s : RM) (I : List K.WI) (pv qv tv : Value) (J : List Q.WI) (iv jv : Value) : Prop where
  ds : D.DsR ⟨iv, jv, .int .i64 s.q.gv⟩ FD w b L I s.k.lk pv qv tv
  dw : s.k.ws = K.wsOf I
  qr : E.QR ⟨pv, qv, tv⟩ E.eD E.T1 FE w b s.q.its J s.q.gv iv jv
  qw : s.q.ws = Q.wsOf J
  disj : ∀ i, FD i → FE i → i = b
  fd : ∀ i, FD i → F i
  fe : ∀ i, FE i → F i
  fb : ∀ i, F i → i < w.heap.size
def DR (F : Nat → Prop) (w : World) (b : Nat) (L : List (Int × Int)) (s : RM) : Prop :=
  ∃ FD FE I pv qv tv J iv jv, DRR F FD FE w b L s I pv qv tv J iv jv
theorem ds_rebase {Ze Ze' : Z3} {F S : Nat → Prop} {w w' : World} {b : Nat} {L : List (Int × Int)} {I : List K.WI} {lk : LTab} {pv qv tv : Value} (h : D.DsR Ze F w b L I lk pv qv tv) (hf : Fr S w w') (hS : ∀ i, F i → i ≠ b → ¬ S i)
    (hb : w'.heap[b]? = some (.cells #[pv, qv, tv, Ze'.a, Ze'.b, Ze'.c] 38 (0, 0))) : D.DsR Ze' F w' b L I lk pv qv tv where
  fb i hi := Nat.lt_of_lt_of_le (h.fb i hi) hf.size
  b := h.b
  blk := hb
  pr := h.pr.move (fun k hk => hf.block k (D.row_lt h.pr k hk) (hS _ (h.pF k hk) (fun q => h.pr.ne h.blk (by decide) (by rw [hk, q]))))
  wp := h.wp.move (fun k hk => hf.block k (D.row_lt h.wp k hk) (hS _ (h.qF k hk) (fun q => h.wp.ne h.blk (by decide) (by rw [hk, q]))))
  lr := h.lr.move (fun k hk => hf.block k (D.row_lt h.lr k hk) (hS _ (h.tF k hk) (fun q => D.types_ne (h.lr.typed hk) ⟨_, q ▸ h.blk⟩ (by decide))))
  pF := h.pF
  qF := h.qF
  tF := h.tF
  wk x hx := ⟨(h.wk x hx).1, hf.at_ (h.wk x hx).2.1 (hS _ (h.wk x hx).1 (h.wb_ne hx)), (h.wk x hx).2.2.1.move (fun k hk => hf.block k ((h.wk x hx).2.2.1.lt k hk) (hS _ ((h.wk x hx).2.2.2 k hk) (fun q => (h.wk x hx).2.2.1.ne h.blk (by decide) (by rw [hk, q])))), (h.wk x hx).2.2.2⟩
  apart := h.apart
theorem dq_rebase {Z Z' : Z3} {F S : Nat → Prop} {w w' : World} {b : Nat} {L : List It} {I : List Q.WI} {g : Int} {iv qv : Value} (h : E.QR Z E.eD E.T1 F w b L I g iv qv) (hf : Fr S w w') (hS : ∀ i, F i → i ≠ b → ¬ S i)
    (hb : w'.heap[b]? = some (.cells #[Z'.a, Z'.b, Z'.c, iv, qv, .int .i64 g] 38 (0, 0))) : E.QR Z' E.eD E.T1 F w' b L I g iv qv where
  fb i hi := Nat.lt_of_lt_of_le (h.fb i hi) hf.size
  bF := h.bF
  blk := hb
  it := h.it.move (fun k hk => hf.block k (h.it.lt hk) (hS _ (h.iF k hk) (fun e => h.iv_ne.1 (e ▸ hk))))
  wp := h.wp.move (fun k hk => hf.block k (h.wp.lt hk) (hS _ (h.qF k hk) (fun e => h.iv_ne.2.1 (e ▸ hk))))
  iF := h.iF
  qF := h.qF
  wk x hx := ⟨(h.wk x hx).1, hf.at_ (h.wk x hx).2.1 (hS _ (h.wk x hx).1 (h.wb_ne hx).1), (h.wk x hx).2.2.1.move (fun k hk => hf.block k ((h.wk x hx).2.2.1.lt hk) (hS _ ((h.wk x hx).2.2.2 k hk) (h.row_ne hx hk).1)), (h.wk x hx).2.2.2⟩
  apart := h.apart
section
variable {F : Nat → Prop} {w : World} {b : Nat} {L : List (Int × Int)} {s : RM}
theorem DR.fb (h : DR F w b L s) : ∀ i, F i → i < w.heap.size := by
  obtain ⟨FD, FE, I, pv, qv, tv, J, iv, jv, h⟩ := h
  exact h.fb
theorem DR.bF (h : DR F w b L s) : F b := by
  obtain ⟨FD, FE, I, pv, qv, tv, J, iv, jv, h⟩ := h
  exact h.fd _ h.ds.b
theorem DR.fr {S : Nat → Prop} {w' : World} (h : DR F w b L s) (hf : Fr S w w') (hS : ∀ i, F i → ¬ S i) : DR F w' b L s := by
  obtain ⟨FD, FE, I, pv, qv, tv, J, iv, jv, h⟩ := h
  exact ⟨FD, FE, I, pv, qv, tv, J, iv, jv, ⟨h.ds.fr hf (fun i hi => hS i (h.fd i hi)), h.dw, h.qr.fr hf (fun i hi => hS i (h.fe i hi)), h.qw, h.disj, h.fd, h.fe, fun i hi => Nat.lt_of_lt_of_le (h.fb i hi) hf.size⟩⟩
theorem DR.below {w' : World} (h : DR F w b L s) (hb : Below w.heap.size w w') : DR F w' b L s := h.fr (Fr.of_below hb (Nat.le_refl _)) (fun _ _ q => q)
theorem DR.st (h : DR F w b L s) : ∃ FD Ze I pv qv tv, (∀ i, FD i → F i) ∧ D.DsR Ze FD w b L I s.k.lk pv qv tv ∧ s.k.ws = K.wsOf I ∧
    ∀ w' FD' L' k' I' pv' qv' tv', D.DsR Ze FD' w' b L' I' k'.lk pv' qv' tv' → k'.ws = K.wsOf I' → K.Grew FD FD' w → Fr FD w w' → DR (fun i => F i ∨ FD' i) w' b L' ⟨k', s.q⟩ := by
  obtain ⟨FD, FE, I, pv, qv, tv, J, iv, jv, h⟩ := h
  refine ⟨FD, _, I, pv, qv, tv, h.fd, h.ds, h.dw, ?_⟩
  intro w' FD' L' k' I' pv' qv' tv' hd hw hg hf
  refine ⟨FD', FE, I', pv', qv', tv', J, iv, jv, ⟨hd, hw, dq_rebase h.qr hf (fun i hi hne hk => hne (h.disj i hk hi)) hd.blk, h.qw, fun i hi hq => ?_, fun i hi => .inr hi, fun i hi => .inl (h.fe i hi), fun i hi => ?_⟩⟩
  · rcases hg i hi with r | r
    · exact h.disj i r hq
    · have := h.fb i (h.fe i hq); omega
  · rcases hi with r | r
    · exact Nat.lt_of_lt_of_le (h.fb i r) hf.size
    · exact hd.fb i r
theorem DR.qu (h : DR F w b L s) : ∃ FE Zd, (∀ i, FE i → F i) ∧ E.DAt Zd FE w b s.q ∧
    ∀ w' FE' q', E.DAt Zd FE' w' b q' → Q.Grew FE FE' w → Fr FE w w' → DR (fun i => F i ∨ FE' i) w' b L ⟨s.k, q'⟩ := by
  obtain ⟨FD, FE, I, pv, qv, tv, J, iv, jv, h⟩ := h
  refine ⟨FE, _, h.fe, ⟨J, iv, jv, h.qr, h.qw⟩, ?_⟩
  rintro w' FE' q' ⟨J', iv', jv', hr, hw⟩ hg hf
  refine ⟨FD, FE', I, pv, qv, tv, J', iv', jv', ⟨ds_rebase h.ds hf (fun i hi hne hk => hne (h.disj i hi hk)) hr.blk, h.dw, hr, hw, fun i hi hq => ?_, fun i hi => .inl (h.fd i hi), fun i hi => .inr hi, fun i hi => ?_⟩⟩
  · rcases hg i hq with r | r
    · exact h.disj i hi r
    · have := h.fb i (h.fd i hi); omega
  · rcases hi with r | r
    · exact Nat.lt_of_lt_of_le (h.fb i r) hf.size
    · exact hr.fb i r
end
end Go.Proofs.YtdejbinmnoabeaaGreat
