/- Walk of the resources' Image. Conditions: the resources read as RX says. -/
import Derived.Test.YtdejbinmnoabeaaRzG0
namespace Go.Proofs.Ytdejbinmnoabeaa
open Go.RowKit Go.Mine Go.Proofs.YtdejbinmnoabeaaW.PrintWords
set_option linter.unusedVariables false
set_option linter.unusedSimpArgs false
/-- What stands in Image's first region. -/
def ImS (w0 w : World) (F : Nat → Prop) (b : Nat) (k : KS) (q : QS) (f0 f1 : Int → Bool) : Prop := RX F w b k q f0 f1 ∧ Below w0.heap.size w0 w
theorem ImS.setc {w0 w : World} {F : Nat → Prop} {b : Nat} {k : KS} {q : QS} {f0 f1 : Int → Bool} {p : Addr} {u : Value} (hp : w0.heap.size ≤ p.block) (hF : ∀ i, F i → i < w0.heap.size) (h : ImS w0 w F b k q f0 f1) : ImS w0 (w.setCell p u) F b k q f0 f1 := by
  have hf : Fr (fun i => i = p.block) w (w.setCell p u) := Fr.setCell (S := fun i => i = p.block) (p := p) (Fr.refl _ w) (.inl rfl) u
  exact ⟨h.1.fr hf (fun i hi q => by have := hF i hi; omega), h.2.trans (hf.below h.2.size (fun k hk q => by omega))⟩
theorem ImS.step {w0 w w' : World} {F : Nat → Prop} {b : Nat} {k : KS} {q : QS} {f0 f1 : Int → Bool} (hb : Below w.heap.size w w') (h : ImS w0 w F b k q f0 f1) : ImS w0 w' F b k q f0 f1 :=
  ⟨h.1.below hb, h.2.trans (hb.mono h.2.size)⟩
theorem ImS.alloc {w0 w : World} {F : Nat → Prop} {b : Nat} {k : KS} {q : QS} {f0 f1 : Int → Bool} (o : Obj) (h : ImS w0 w F b k q f0 f1) : ImS w0 (w.alloc o) F b k q f0 f1 := h.step ((Below.refl _ _).alloc (Nat.le_refl _) _)
set_option maxRecDepth 100000 in
set_option maxHeartbeats 4000000 in
theorem image_any {F : Nat → Prop} {w : World} {b : Nat} {k : KS} {q : QS} {f0 f1 : Int → Bool} (h : RX F w b k q f0 f1) :
    Calls Try.prog 19 #[.pointer (some ⟨b, 0, none⟩)] w fun e w' => ∃ v, e = .returned v ∧ ImgNew w.heap.size w' v (imgR ⟨k, q⟩) ∧ Below w.heap.size w w' := by
  have hqok := h.qok
  have hg0 := hqok.g0
  have hg1 := hqok.g1
  have hsz := hqok.sz
  obtain ⟨L, hL⟩ : ∃ L, q.its.map (·.val) = L := ⟨_, rfl⟩
  have hN0 : L.length ≤ 16 := by rw [← hL, List.length_map]; omega
  have K1 : Hid (∀ w0 w', ImS w0 w' F b k q f0 f1 → Calls Try.prog 39 #[.pointer (some ⟨b, 34, none⟩)] w' fun e w'' => ∃ A c, e = .returned (.slice A L.length c) ∧ Q.FR Q.eU 32 w'' (.slice A L.length c) L ∧ (∀ k, (Value.slice A L.length c).ownBlock = some k → w'.heap.size ≤ k) ∧ Below w'.heap.size w' w'') := hid (fun w0 w' h => by
    obtain ⟨FQ, Z, _, hq, _⟩ := h.1.qu
    refine (Q.values_any hq (by omega)).mono ?_
    rintro e w'' ⟨v, rfl, hr, ho, hb⟩
    rw [hL] at hr
    obtain ⟨A, c, rfl⟩ := Kd.R_slice hr
    exact ⟨A, c, rfl, hr, ho, hb⟩)
  have K2 : Hid (∀ w0 w', ImS w0 w' F b k q f0 f1 → Calls Try.prog 40 #[.pointer (some ⟨b, 34, none⟩)] w' fun e w'' => e = .returned (.int .i64 (q.gv + 1)) ∧ w' = w'') := hid (fun w0 w' h => by
    obtain ⟨FQ, Z, _, hq, _⟩ := h.1.qu
    exact Q.next_any hq (by omega) (by omega))
  have HL := hid hL
  clear hL hqok hg0 hg1 hsz
  have hba : Below w.heap.size w (w.alloc (.cells #[.slice none 0 0, .slice none 0 0, .int .i64 0] 49)) := (Below.refl _ _).alloc (Nat.le_refl _) _
  have hS : ImS (w.alloc (.cells #[.slice none 0 0, .slice none 0 0, .int .i64 0] 49)) (w.alloc (.cells #[.slice none 0 0, .slice none 0 0, .int .i64 0] 49)) F b k q f0 f1 := ⟨h.below hba, Below.refl _ _⟩
  have hbx : (w.alloc (.cells #[.slice none 0 0, .slice none 0 0, .int .i64 0] 49)).heap[w.heap.size]? = some (.cells #[.slice none 0 0, .slice none 0 0, .int .i64 0] 49 (0, 0)) := (MapKept.heap_alloc w _).1
  have HBX := hid hbx
  have HBXL : Hid (w.heap.size < (w.alloc (.cells #[.slice none 0 0, .slice none 0 0, .int .i64 0] 49)).heap.size) := hid (by simp)
  have HFW : Hid (∀ i, F i → i < (w.alloc (.cells #[.slice none 0 0, .slice none 0 0, .int .i64 0] 49)).heap.size) := hid (fun i hi => Nat.lt_trans (h.fb i hi) HBXL.out)
  have HBA := hid hba
  clear hbx h hba
  go_enter Try.func19, Try.ntmps19
  go_wp2_with fail
  generalize (w.alloc (.cells #[.slice none 0 0, .slice none 0 0, .int .i64 0] 49)) = wa at *
  have HLE : Hid (wa.heap.size ≤ wa.heap.size) := hid (Nat.le_refl _)
  go_region_held3 (fun w' => ImS wa w' F b k q f0 f1) (first | exact ImS.step (Q.bd1 _) (by assumption) | exact ImS.step (Q.bdN _ _) (by assumption) | exact ImS.step (by assumption) (by assumption) | exact ImS.alloc _ (by assumption) | exact ImS.alloc _ (by assumption : Hid (ImS wa _ F b k q f0 f1)).out | exact ImS.setc HLE.out HFW.out (ImS.setc HLE.out HFW.out (ImS.setc HLE.out HFW.out (by assumption))) | assumption) (first
    | (go_at_call 39; refine (K1.out _ _ (by assumption)).mono ?_; rintro e w5 ⟨A5, c5, rfl, u5, ho5, f5⟩; have S5 : Hid (ImS wa w5 F b k q f0 f1) := hid (ImS.step f5 (by assumption)); (try (have z := (f5.block wa.heap.size (by simp)).trans (MapKept.heap_alloc wa.drew (.cells #[.slice none 0 0, .slice none 0 0, .int .i64 0] 49)).1; have z0 := cell_of_row w5 _ 0 _ _ _ z; have z1 := cell_of_row w5 _ 1 _ _ _ z; have z2 := cell_of_row w5 _ 2 _ _ _ z; have y0 : w5.frozen? ⟨wa.heap.size, 0, none⟩ = false := (by simp [World.frozen?, z]); have y1 : w5.frozen? ⟨wa.heap.size, 1, none⟩ = false := (by simp [World.frozen?, z]); have y2 : w5.frozen? ⟨wa.heap.size, 2, none⟩ = false := (by simp [World.frozen?, z]))))
    | (go_at_call 40; refine (K2.out _ _ (by assumption)).mono ?_; rintro e w6 ⟨rfl, rfl⟩))
  all_goals
    first
      | (change Exit.then _ _ Exit.normal _ (w5.alloc (.cells #[.slice none 0 0, .slice A5 L.length c5, .int .i64 (q.gv + 1)] 49))
         have hblk : (w5.alloc (.cells #[.slice none 0 0, .slice A5 L.length c5, .int .i64 (q.gv + 1)] 49)).heap[w5.heap.size]? = some (.cells #[.slice none 0 0, .slice A5 L.length c5, .int .i64 (q.gv + 1)] 49 (0, 0)) := (MapKept.heap_alloc w5 _).1
         have hbe : Below w5.heap.size w5 (w5.alloc (.cells #[.slice none 0 0, .slice A5 L.length c5, .int .i64 (q.gv + 1)] 49)) := (Below.refl _ _).alloc (Nat.le_refl _) _
         have hu5 : Q.FR Q.eU 32 (w5.alloc (.cells #[.slice none 0 0, .slice A5 L.length c5, .int .i64 (q.gv + 1)] 49)) (.slice A5 L.length c5) L := u5.move (fun k hk => hbe.block k (u5.lt hk))
         have hS5 : ImS wa (w5.alloc (.cells #[.slice none 0 0, .slice A5 L.length c5, .int .i64 (q.gv + 1)] 49)) F b k q f0 f1 := ImS.alloc _ S5.out
         have hbx : wa.heap.size ≤ w5.heap.size := S5.out.2.size
         have hlow5 : ∀ k, (Value.slice A5 L.length c5).ownBlock = some k → wa.heap.size ≤ k := fun k hk => by have h := ho5 k hk; first | exact h | (simp at h; omega)
         clear hbe u5 ho5 f5 S5
         (try clear z0 z1 z2 y0 y1 y2)
         (try clear z)
         generalize (w5.alloc (.cells #[.slice none 0 0, .slice A5 L.length c5, .int .i64 (q.gv + 1)] 49)) = wz at *
         generalize w5.heap.size = bx at *)
      | (have e1 := K.setCell_heap (off := 0) z (.slice none 0 0)
         have e2 := K.setCell_heap (off := 1) e1 (.slice A5 L.length c5)
         have hblk : (((w5.setCell ⟨wa.heap.size, 0, none⟩ (.slice none 0 0)).setCell ⟨wa.heap.size, 1, none⟩ (.slice A5 L.length c5)).setCell ⟨wa.heap.size, 2, none⟩ (.int .i64 (q.gv + 1))).heap[wa.heap.size]? = some (.cells #[.slice none 0 0, .slice A5 L.length c5, .int .i64 (q.gv + 1)] 49 (0, 0)) := K.setCell_heap (off := 2) e2 (.int .i64 (q.gv + 1))
         have hfr : Fr (fun i => i = wa.heap.size) w5 (((w5.setCell ⟨wa.heap.size, 0, none⟩ (.slice none 0 0)).setCell ⟨wa.heap.size, 1, none⟩ (.slice A5 L.length c5)).setCell ⟨wa.heap.size, 2, none⟩ (.int .i64 (q.gv + 1))) := Fr.setCell (S := fun i => i = wa.heap.size) (p := ⟨wa.heap.size, 2, none⟩) (Fr.setCell (S := fun i => i = wa.heap.size) (p := ⟨wa.heap.size, 1, none⟩) (Fr.setCell (S := fun i => i = wa.heap.size) (p := ⟨wa.heap.size, 0, none⟩) (Fr.refl _ w5) (.inl rfl) _) (.inl rfl) _) (.inl rfl) _
         have hu5 : Q.FR Q.eU 32 (((w5.setCell ⟨wa.heap.size, 0, none⟩ (.slice none 0 0)).setCell ⟨wa.heap.size, 1, none⟩ (.slice A5 L.length c5)).setCell ⟨wa.heap.size, 2, none⟩ (.int .i64 (q.gv + 1))) (.slice A5 L.length c5) L := u5.move (fun k hk => hfr.block k (u5.lt hk) (fun q => by have := ho5 k hk; simp at this; omega))
         have hS5 : ImS wa (((w5.setCell ⟨wa.heap.size, 0, none⟩ (.slice none 0 0)).setCell ⟨wa.heap.size, 1, none⟩ (.slice A5 L.length c5)).setCell ⟨wa.heap.size, 2, none⟩ (.int .i64 (q.gv + 1))) F b k q f0 f1 := ImS.setc HLE.out HFW.out (ImS.setc HLE.out HFW.out (ImS.setc HLE.out HFW.out S5.out))
         have hbx : wa.heap.size ≤ wa.heap.size := Nat.le_refl _
         have hlow5 : ∀ k, (Value.slice A5 L.length c5).ownBlock = some k → wa.heap.size ≤ k := fun k hk => by have h := ho5 k hk; first | exact h | (simp at h; omega)
         clear e1 e2 hfr u5 ho5 f5 S5 z0 z1 z2 y0 y1 y2 z
         change Exit.then _ _ Exit.normal _ (((w5.setCell ⟨wa.heap.size, 0, none⟩ (.slice none 0 0)).setCell ⟨wa.heap.size, 1, none⟩ (.slice A5 L.length c5)).setCell ⟨wa.heap.size, 2, none⟩ (.int .i64 (q.gv + 1)))
         generalize (((w5.setCell ⟨wa.heap.size, 0, none⟩ (.slice none 0 0)).setCell ⟨wa.heap.size, 1, none⟩ (.slice A5 L.length c5)).setCell ⟨wa.heap.size, 2, none⟩ (.int .i64 (q.gv + 1))) = wz at *
         obtain ⟨bx, hbe⟩ : ∃ bx, bx = wa.heap.size := ⟨_, rfl⟩
         rw [← hbe] at hblk ⊢
         have hbx : wa.heap.size ≤ bx := Nat.le_of_eq hbe.symm
         clear hbe)
    have hbxn : w.heap.size ≠ bx := by have := HBXL.out; omega
    have hres : wz.heap[w.heap.size]? = some (.cells #[.slice none 0 0, .slice none 0 0, .int .i64 0] 49 (0, 0)) := (hS5.2.block _ HBXL.out).trans HBX.out
    have HBN := hid hbxn
    have HBXW := hid hbx
    have HLOW := hid hlow5
    have HBK := hid hblk
    have HU := hid hu5
    have HS := hid hS5
    clear hbxn hres hblk hu5 hS5 hbx hlow5
    go_wp2_with fail
    go_loopg [19] 17 (fun m v wr => ∃ (i : Nat) (v1 : Value), v = .int .i64 i ∧ i ≤ 16 ∧ m = 17 - i ∧ wr.heap[bx]? = some (.cells #[v1, .slice A5 L.length c5, .int .i64 (q.gv + 1)] 49 (0, 0)) ∧ eP.kd.R 59 wr wa.heap.size (fun _ => True) v1 (pairsK k i) ∧ Q.FR Q.eU 32 wr (.slice A5 L.length c5) L ∧ ImS wa wr F b k q f0 f1)
    case atStart => exact ⟨0, _, rfl, Nat.zero_le _, rfl, HBK.out, Kd.R_nil _ _ _ _ _, HU.out, HS.out⟩
    case round =>
      obtain ⟨i, v1, rfl, hi, hm, hblk, hrow, hu, hS⟩ := hrel
      have HM := hid hm
      clear hm HBK HU HS
      by_cases h1 : i < 16
      · have h1' : (i : Int) < 16 := by omega
        obtain ⟨FK, Pz, hsub, hk, hst⟩ := hS.1.kv
        have hval : k.value (i : Int) = (k.vs.getD i 0, k.th.getD i false) := by unfold KS.value; rw [if_neg (by omega)]; simp
        have HV := hid (K.value_any hk (i : Int))
        rw [hval] at HV
        have HBK := hid hblk
        have HROW := hid hrow
        have HU := hid hu
        have HS := hid hS
        clear hsub hk hst hval hblk hrow hu hS
        cases ht : k.th.getD i false
        · rw [ht] at HV
          have HT := hid (pairsK_false ht)
          clear ht
          go_wp2_with fail
          refine HV.out.mono ?_
          rintro e w6 ⟨rfl, mq, rfl⟩
          go_wp2_with fail
          go_roundg (17 - (i + 1))
          case measure => rw [HM.out]; omega
          case rel => exact ⟨i + 1, v1, by go_num, by omega, rfl, HBK.out, by rw [HT.out]; exact Kd.R_below HROW.out (Q.bdN _ _), HU.out.move (fun k hk => rfl), HS.out.step (Q.bdN _ _)⟩
        · rw [ht] at HV
          have HT := hid (pairsK_true ht)
          generalize k.vs.getD i 0 = vv at *
          have hlen := pairsK_len k i
          clear ht
          go_wp2_with fail
          refine HV.out.mono ?_
          rintro e w6 ⟨rfl, mq, hw6⟩
          have hblk6 : w6.heap[bx]? = some (.cells #[v1, .slice A5 L.length c5, .int .i64 (q.gv + 1)] 49 (0, 0)) := by rw [hw6]; exact HBK.out
          have hrow6 : eP.kd.R 59 w6 wa.heap.size (fun _ => True) v1 (pairsK k i) := by rw [hw6]; exact Kd.R_below HROW.out (Q.bdN _ _)
          have hu6 : Q.FR Q.eU 32 w6 (.slice A5 L.length c5) L := by rw [hw6]; exact HU.out.move (fun k hk => rfl)
          have hS6 : ImS wa w6 F b k q f0 f1 := by rw [hw6]; exact HS.out.step (Q.bdN _ _)
          obtain ⟨A1, c1, hv1⟩ := Kd.R_slice hrow6
          subst hv1
          have cc0 : w6.cell? ⟨bx, 0, none⟩ = some (.slice A1 (pairsK k i).length c1) := by rw [cell_of_row w6 bx 0 _ _ _ hblk6]; rfl
          have HBK6 := hid hblk6
          have HROW6 := hid hrow6
          have HU6 := hid hu6
          have HS6 := hid hS6
          have hsz6 := hS6.2.size
          have HBW6 := hid hS6.2
          have HFR6 : Hid (Q.FR eP 59 w6 (.slice A1 (pairsK k i).length c1) (pairsK k i)) := hid (Kd.R_lower hrow6 (Nat.zero_le _))
          generalize pairsK k i = xs at *
          clear hw6 hblk6 hrow6 hu6 hS6 HBK HROW HU HS HV
          go_wp2_with (at_builtin; go_loud (refine Kd.R_append eP.kd (w0 := wa) wa.heap.size rfl (.tmp 32) (.tmp 36) 47 59 _ 16 rfl Try.underlying47 info59 (by rfl) (by decide) (by decide) (.slice A1 xs.length c1) xs ((i : Int), vv) [.int .i64 i, .int .u64 vv] (fun _ => True) (fun _ => False) rfl (by first | rfl | (simp; rfl)) rfl (fun _ q => q.elim) (fun _ _ => trivial) HROW6.out (HBW6.out) hsz6 (by omega) ?_); intro v8 w8 ho8 hb8 hg8 hat8; have hx8 : w8.heap[bx]? = some (.cells #[.slice A1 xs.length c1, .slice A5 L.length c5, .int .i64 (q.gv + 1)] 49 (0, 0)) := (hg8.block _ (Q.blk_lt HBK6.out) (fun q => Q.types_ne (Q.FR.typed HFR6.out q.symm) ⟨_, HBK6.out⟩ (by decide))).trans HBK6.out; have hz8 : w8.frozen? ⟨bx, 0, none⟩ = false := (by simp [World.frozen?, hx8]); have hc8 : w8.cell? ⟨bx, 0, none⟩ = some (.slice A1 xs.length c1) := (by rw [cell_of_row w8 _ 0 _ _ _ hx8]; rfl); have HO8 := hid ho8; have HB8 := hid hb8; have HG8 := hid hg8; have HX8 := hid hx8; obtain ⟨A8, c8, hv8⟩ := Kd.R_slice HO8.out; rw [List.length_append, List.length_singleton] at hv8; subst hv8; clear ho8 hb8 hg8 hat8 hx8)
          go_roundg (17 - (i + 1))
          case measure => rw [HM.out]; omega
          case rel =>
            have hfs : Fr (fun i => i = bx) w8 (w8.setCell ⟨bx, 0, none⟩ (.slice A8 (xs.length + 1) c8)) := Fr.setCell (S := fun i => i = bx) (p := ⟨bx, 0, none⟩) (Fr.refl _ w8) (.inl rfl) _
            have hf8 : Fr (fun k => (Value.slice A1 xs.length c1).ownBlock = some k) w6 w8 := Fr.of_grown HG8.out
            have hrow8 : eP.kd.R 59 w8 wa.heap.size (fun _ => True) (.slice A8 (xs.length + 1) c8) (xs ++ [((i : Int), vv)]) := HO8.out
            have hFR8 : Q.FR eP 59 w8 (.slice A8 (xs.length + 1) c8) (xs ++ [((i : Int), vv)]) := Kd.R_lower hrow8 (Nat.zero_le _)
            have hne8 : ∀ k, (Value.slice A8 (xs.length + 1) c8).ownBlock = some k → k ≠ bx := fun k hk e => Q.types_ne (Q.FR.typed hFR8 hk) ⟨_, e ▸ HX8.out⟩ (by decide)
            have hu8 : Q.FR Q.eU 32 w8 (.slice A5 L.length c5) L := HU6.out.move (fun k hk => hf8.block k (HU6.out.lt hk) (fun q => Q.types_ne (Q.FR.typed HU6.out hk) (Q.FR.typed HFR6.out q) (by decide)))
            have hS8 : ImS wa w8 F b k q f0 f1 := ⟨HS6.out.1.fr hf8 (fun i hi q => by have := Kd.R_base HROW6.out i q; have := HFW.out i hi; omega), HB8.out⟩
            refine ⟨i + 1, _, by go_num, by omega, rfl, K.setCell_heap (off := 0) HX8.out _, by rw [HT.out]; exact row_keep hrow8 (fun k hk => hfs.block k (hFR8.lt hk) (hne8 k hk)), hu8.move (fun k hk => hfs.block k (hu8.lt hk) (fun e => Q.types_ne (Q.FR.typed hu8 hk) ⟨_, e ▸ HX8.out⟩ (by decide))), ImS.setc HBXW.out HFW.out hS8⟩
      · have h1' : ¬ (i : Int) < 16 := by omega
        have hi16 : i = 16 := by omega
        subst hi16
        have hres : wr.heap[w.heap.size]? = some (.cells #[.slice none 0 0, .slice none 0 0, .int .i64 0] 49 (0, 0)) := (hS.2.block _ HBXL.out).trans HBX.out
        obtain ⟨A1, c1, hv1⟩ := Kd.R_slice hrow
        subst hv1
        have q0 := cell_of_row wr bx 0 _ _ _ hblk
        have q1 := cell_of_row wr bx 1 _ _ _ hblk
        have q2 := cell_of_row wr bx 2 _ _ _ hblk
        have g0 := cell_of_row wr w.heap.size 0 _ _ _ hres
        have g1 := cell_of_row wr w.heap.size 1 _ _ _ hres
        have g2 := cell_of_row wr w.heap.size 2 _ _ _ hres
        have y0 : wr.frozen? ⟨w.heap.size, 0, none⟩ = false := by simp [World.frozen?, hres]
        have y1 : wr.frozen? ⟨w.heap.size, 1, none⟩ = false := by simp [World.frozen?, hres]
        have y2 : wr.frozen? ⟨w.heap.size, 2, none⟩ = false := by simp [World.frozen?, hres]
        have HRES := hid hres
        have HROW := hid hrow
        have HU := hid hu
        have HS := hid hS
        clear hres hrow hu hS hblk
        go_wp2_with fail
        have e1 := K.setCell_heap (off := 0) HRES.out (.slice A1 (pairsK k 16).length c1)
        have e2 := K.setCell_heap (off := 1) e1 (.slice A5 L.length c5)
        have e3 : (((wr.setCell ⟨w.heap.size, 0, none⟩ (.slice A1 (pairsK k 16).length c1)).setCell ⟨w.heap.size, 1, none⟩ (.slice A5 L.length c5)).setCell ⟨w.heap.size, 2, none⟩ (.int .i64 (q.gv + 1))).heap[w.heap.size]? = some (.cells #[.slice A1 (pairsK k 16).length c1, .slice A5 L.length c5, .int .i64 (q.gv + 1)] 49 (0, 0)) := K.setCell_heap (off := 2) e2 (.int .i64 (q.gv + 1))
        have hfr : Fr (fun i => i = w.heap.size) wr (((wr.setCell ⟨w.heap.size, 0, none⟩ (.slice A1 (pairsK k 16).length c1)).setCell ⟨w.heap.size, 1, none⟩ (.slice A5 L.length c5)).setCell ⟨w.heap.size, 2, none⟩ (.int .i64 (q.gv + 1))) := Fr.setCell (S := fun i => i = w.heap.size) (p := ⟨w.heap.size, 2, none⟩) (Fr.setCell (S := fun i => i = w.heap.size) (p := ⟨w.heap.size, 1, none⟩) (Fr.setCell (S := fun i => i = w.heap.size) (p := ⟨w.heap.size, 0, none⟩) (Fr.refl _ wr) (.inl rfl) _) (.inl rfl) _) (.inl rfl) _
        refine bodyPost_ret (results_cell_row rfl _ _ w.heap.size 49 _ (0, 0) _ rfl e3 Try.underlying49 rfl (by kernel_rfl)) rfl ?_
        have hFR : Q.FR eP 59 wr (.slice A1 (pairsK k 16).length c1) (pairsK k 16) := Kd.R_lower HROW.out (Nat.zero_le _)
        have hFR2 := hFR.move (fun k hk => hfr.block k (hFR.lt hk) (fun e => Q.types_ne (Q.FR.typed hFR hk) ⟨_, e ▸ HRES.out⟩ (by decide)))
        have hU2 := HU.out.move (fun k hk => hfr.block k (HU.out.lt hk) (fun e => Q.types_ne (Q.FR.typed HU.out hk) ⟨_, e ▸ HRES.out⟩ (by decide)))
        obtain ⟨A1', c1', ev, hc1, hat1⟩ := hFR2.at_
        cases ev
        obtain ⟨A5', c5', ev, hc5, hat5⟩ := hU2.at_
        cases ev
        refine ⟨_, rfl, ⟨A1, c1, A5, c5, ?_, hat1, ?_, hc1, ?_, fun k off e => Nat.le_trans (Nat.le_of_lt HBXL.out) (Kd.R_base HROW.out k (own_addr e)), fun k off e => Nat.le_trans (Nat.le_of_lt HBXL.out) (HLOW.out k (own_addr e))⟩, ?_⟩
        · show _ = Value.agg #[_, .slice A5 (q.its.map (·.val)).length c5, _]
          rw [HL.out]; rfl
        · show Q.RowAt _ 1 _ _ A5 (q.its.map (·.val))
          rw [HL.out]; exact hat5
        · show (q.its.map (·.val)).length ≤ c5
          rw [HL.out]; exact hc5
        · have hb1 := HBA.out.trans (HS.out.2.mono HBA.out.size)
          exact hb1.trans (hfr.below hb1.size (fun k hk q => by omega))
end Go.Proofs.Ytdejbinmnoabeaa
