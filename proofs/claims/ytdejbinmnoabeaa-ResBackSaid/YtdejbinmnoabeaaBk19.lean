/- Texts of this seat, put together: RzU, RzJ, RzL. -/
import Derived.Test.YtdejbinmnoabeaaBk18
import Derived.Laws.Rows
import Derived.Deep.DeepCutAuto
import Derived.Deep.CutBlock
import Derived.Test.YtdejbinmnoabeaaBk12
namespace Go.Proofs.Ytdejbinmnoabeaa
open Go.RowKit Go.Mine Go.Proofs.YtdejbinmnoabeaaW.PrintWords
set_option linter.unusedVariables false
set_option linter.unusedSimpArgs false
def Bx (w : World) (bx : Nat) (A1 : Option Addr) (n1 c1 : Nat) (A2 : Option Addr) (n2 c2 : Nat) (nx : Int) : Prop := w.heap[bx]? = some (.cells #[.slice A1 n1 c1, .slice A2 n2 c2, .int .i64 nx] 49 (0, 0))
theorem RowAt.block' {α : Type} {f : α → List Value} {sz B : Nat} {w : World} {A : Option Addr} {l : List α} (h : Q.RowAt f sz w B A l) (hl : l ≠ []) {b off : Nat} (e : A = some ⟨b, off, none⟩) : b < B := by
  obtain ⟨x, hx⟩ : ∃ x, l[0]? = some x := ⟨_, List.getElem?_eq_getElem (List.length_pos_iff.2 hl)⟩
  obtain ⟨b', off', e', hlt, _⟩ := h 0 x hx
  rw [e] at e'
  cases e'
  exact hlt
theorem two_cells {w w' : World} {bp : Nat} {u v : Value} (hb : Below w.heap.size w w') (h : w.cell? ⟨bp, 0, none⟩ = some u ∧ w.cell? ⟨bp, 1, none⟩ = some v) : w'.cell? ⟨bp, 0, none⟩ = some u ∧ w'.cell? ⟨bp, 1, none⟩ = some v := ⟨(hb.cell (World.block_lt_of_cell? _ _ h.1)).trans h.1, (hb.cell (World.block_lt_of_cell? _ _ h.2)).trans h.2⟩
set_option maxRecDepth 100000 in
set_option maxHeartbeats 4000000 in
theorem resload_any {w : World} {v : Value} {s : RM} (hs : s.Ok) (h : ImgAt w w.heap.size v (imgR s)) :
    Calls Try.prog 26 #[v] w fun e w' => ∃ b, e = .returned (.tuple #[.pointer (some ⟨b, 0, none⟩), .int .i64 0]) ∧ (∃ F, RAt F w' b ⟨⟨s.k.vs, s.k.th, [], []⟩, ⟨s.q.its.map zeroI, [], s.q.gv⟩⟩ ∧ ∀ i, F i → w.heap.size ≤ i) ∧ Below w.heap.size w w' := by
  have hld := load_of hs.q
  have hlen := hs.q.sz
  have hgv := hs.q.g0
  have hgv1 := hs.q.g1
  obtain ⟨m, hm⟩ : ∃ m, imgR s = m := ⟨_, rfl⟩
  have hmP : m.P = pairsK s.k 16 := by rw [← hm]; rfl
  have hmL : m.L = s.q.its.map (·.val) := by rw [← hm]; rfl
  have hmN : m.nx = s.q.gv + 1 := by rw [← hm]; rfl
  have hP16 : m.P.length ≤ 16 := by rw [hmP]; exact pairsK_len _ _
  have hL16 : m.L.length ≤ 16 := by rw [hmL, List.length_map]; omega
  rw [hm] at h
  obtain ⟨A1, c1, A2, c2, rfl, hp, hu, l1, l2⟩ := h
  rw [← hmL, ← hmN] at hld
  have hnx : ¬ m.nx = 0 := by rw [hmN]; omega
  have hnx2 : (m.nx == 0) = false := by simpa using hnx
  have HP := hid hp
  have HU := hid hu
  have HLD := hid hld
  have HMP := hid hmP
  have HP16 := hid hP16
  have HL16 := hid hL16
  have HL2 := hid l2
  have HS := hid hs
  have hbx : Bx (w.alloc (.cells #[.slice A1 m.P.length c1, .slice A2 m.L.length c2, .int .i64 m.nx] 49)) w.heap.size A1 m.P.length c1 A2 m.L.length c2 m.nx := (MapKept.heap_alloc w _).1
  have hba : Below w.heap.size w (w.alloc (.cells #[.slice A1 m.P.length c1, .slice A2 m.L.length c2, .int .i64 m.nx] 49)) := (Below.refl _ _).alloc (Nat.le_refl _) _
  have hlt : w.heap.size < (w.alloc (.cells #[.slice A1 m.P.length c1, .slice A2 m.L.length c2, .int .i64 m.nx] 49)).heap.size := by simp
  have HBX := hid hbx
  have HBA := hid hba
  have HLT := hid hlt
  clear hp hu hld hlen hgv hgv1 hm hmP hmL hmN hP16 hL16 hs hbx hba hlt l1 l2 hnx
  go_enter Try.func26, Try.ntmps26
  go_wp2_with fail
  generalize (w.alloc (.cells #[.slice A1 m.P.length c1, .slice A2 m.L.length c2, .int .i64 m.nx] 49)) = wi at *
  refine (new_any wi).mono ?_
  rintro e w1 ⟨rfl, rfl⟩
  have hr1 := new_rat wi
  have hf1 : Below wi.heap.size wi (wi.alloc (.cells nilRes 91)) := (Below.refl _ _).alloc (Nat.le_refl _) _
  have hx1 : Bx (wi.alloc (.cells nilRes 91)) w.heap.size A1 m.P.length c1 A2 m.L.length c2 m.nx := (hf1.block _ HLT.out).trans HBX.out
  have hb1 : Below w.heap.size w (wi.alloc (.cells nilRes 91)) := HBA.out.trans (hf1.mono HBA.out.size)
  have k0 := cell_of_row _ _ 0 _ _ _ hx1
  have HX1 := hid hx1
  have HB1 := hid hb1
  have HR1 := hid hr1
  have hwb : w.heap.size < wi.heap.size := HLT.out
  have HWB := hid hwb
  clear hr1 hf1 hx1 hb1 HBX HBA HLT hwb
  generalize (wi.alloc (.cells nilRes 91)) = w1 at *
  go_wp2_with fail
  generalize hbn : wi.heap.size = b at *
  generalize hbw : w.heap.size = B at *
  have hrx : RX (fun i => i = b) w1 b KS.new QS.new (fun _ => false) (fun _ => false) := RX.marks HR1.out (fun n => rfl) (fun n => rfl)
  have hwB : B < b := HWB.out
  have HWB2 := hid hwB
  have HBW := hid hbw
  clear HR1 HWB hbn hbw hwB k0
  go_loopg [5, 14] (m.P.length + 1) (fun g v5 v14 wr => ∃ (i kk : Nat) (t : KS) (F : Nat → Prop) (la : Int), v5 = .int .i64 la ∧ v14 = .int .i64 i ∧ i ≤ m.P.length ∧ g = m.P.length + 1 - i ∧ kk ≤ 16 ∧ (fillP s.k.th kk).length = i ∧ la < kk ∧ Filled s.k.vs s.k.th kk t ∧ RX F wr b t QS.new (fun _ => false) (fun _ => false) ∧ (∀ j, F j → b ≤ j) ∧ Bx wr B A1 m.P.length c1 A2 m.L.length c2 m.nx ∧ Below B w wr)
  case atStart => exact ⟨0, 0, KS.new, _, -1, rfl, rfl, Nat.zero_le _, rfl, Nat.zero_le _, rfl, by omega, Filled.start _ _, hrx, fun j hj => by rw [hj]; exact Nat.le_refl _, HX1.out, HB1.out⟩
  case round =>
    obtain ⟨i, kk, t, F, la, rfl, rfl, hi, hg, hkk, hfi, hla, hfill, hrx, hF, hbx, hbe⟩ := hrel
    have HG := hid hg
    have HFI := hid hfi
    have HFILL := hid hfill
    have HRX := hid hrx
    have HF := hid hF
    have HBX := hid hbx
    have HBE := hid hbe
    have hpr := HP.out.below hbe
    have HPR := hid hpr
    clear hg hfill hrx hF hbe hpr HX1 HB1
    by_cases h1 : i < m.P.length
    · obtain ⟨c, hc⟩ : ∃ c, (fillL s.k.vs s.k.th 16)[i]? = some c := ⟨_, List.getElem?_eq_getElem (by have := HMP.out; unfold pairsK at this; rw [this, List.length_map] at h1; exact h1)⟩
      obtain ⟨k, hk1, hk2, hk3, hck, hF2, hfl⟩ := Filled.next (16 - kk) kk (by omega) HFILL.out (by rw [hfi]; exact hc)
      have hx : m.P[i]? = some ((k : Int), s.k.vs.getD k 0) := by rw [HMP.out]; unfold pairsK; rw [List.getElem?_map, hc, hck]; rfl
      obtain ⟨pb, po, rfl, hpb, hpc⟩ := HPR.out i _ hx
      have p0 : wr.cell? ⟨pb, po + i * 2, none⟩ = some (.int .i64 (k : Int)) := hpc 0 _ rfl
      have p1 : wr.cell? ⟨pb, po + i * 2 + 1, none⟩ = some (.int .u64 (s.k.vs.getD k 0)) := hpc 1 _ rfl
      have d1 : decide ((k : Int) ≤ la) = false := decide_eq_false (by omega)
      have d2 : decide ((16 : Int) ≤ (k : Int)) = false := decide_eq_false (by omega)
      have HC := hid (And.intro hk3 (And.intro hF2 (And.intro hfl hk2)))
      have hrxa := HRX.out.below ((Below.refl _ _).alloc (Nat.le_refl _) (.cells #[.int .i64 (k : Int), .int .u64 (s.k.vs.getD k 0)] 59) : Below wr.heap.size wr (wr.alloc (.cells #[.int .i64 (k : Int), .int .u64 (s.k.vs.getD k 0)] 59)))
      obtain ⟨vk, hvk⟩ : ∃ vk, s.k.vs.getD k 0 = vk := ⟨_, rfl⟩
      rw [hvk] at p1 hrxa
      have HVK := hid hvk
      have HRXA := hid hrxa
      clear hpc hx hc hck hk3 hF2 hfl hvk hrxa hbx
      have HK := hid (And.intro hk1 (And.intro hk2 hla))
      clear hk1 hk2 hla hkk hfi
      go_wp2_with fail
      have hz := (MapKept.heap_alloc wr (.cells #[.int .i64 (k : Int), .int .u64 vk] 59)).1
      have z0 := cell_of_row _ _ 0 _ _ _ hz
      have z1 := cell_of_row _ _ 1 _ _ _ hz
      have hwa : Below wr.heap.size wr (wr.alloc (.cells #[.int .i64 (k : Int), .int .u64 vk] 59)) := (Below.refl _ _).alloc (Nat.le_refl _) _
      have hBxa : Bx (wr.alloc (.cells #[.int .i64 (k : Int), .int .u64 vk] 59)) B (some ⟨pb, po, none⟩) m.P.length c1 A2 m.L.length c2 m.nx := (hwa.block _ (Q.blk_lt HBX.out)).trans HBX.out
      have hBea : Below B w (wr.alloc (.cells #[.int .i64 (k : Int), .int .u64 vk] 59)) := HBE.out.trans (hwa.mono (by have := Q.blk_lt HBX.out; omega))
      have hnb : ¬ F wr.heap.size := fun q => by have := HRX.out.fb _ q; omega
      generalize (wr.alloc (.cells #[.int .i64 (k : Int), .int .u64 vk] 59)) = wa at *
      generalize wr.heap.size = bp at *
      have K43 : Hid (∀ w', Below wa.heap.size wa w' → Calls Try.prog 43 #[.pointer (some ⟨b, 0, none⟩), .int .i64 1, .int .i64 (k : Int), .int .u64 vk] w' fun e w'' => (∃ r, e = .returned (.int .i64 r)) ∧ (w''.cell? ⟨bp, 0, none⟩ = some (.int .i64 (k : Int)) ∧ w''.cell? ⟨bp, 1, none⟩ = some (.int .u64 vk)) ∧ Hid (∃ F', RX F' w'' b (t.change 1 ⟨1, (k : Int), vk⟩).2 QS.new (fun _ => false) (fun _ => false) ∧ (∀ j, F' j → b ≤ j) ∧ Bx w'' B (some ⟨pb, po, none⟩) m.P.length c1 A2 m.L.length c2 m.nx ∧ Below B w w'')) := hid (fun w' hb => by
        refine (kput_rx (HRXA.out.below hb) 1 (k : Int) vk).mono ?_
        rintro e w'' ⟨rfl, ⟨F', r', g'⟩, f'⟩
        have hbB : ∀ j, F j → b ≤ j := HF.out
        have hBb := HWB2.out
        have hbz := HRXA.out.fb
        have hszB : B ≤ wa.heap.size := by have := Q.blk_lt hBxa; omega
        have y0 := (hb.cell (World.block_lt_of_cell? _ _ z0)).trans z0
        have y1 := (hb.cell (World.block_lt_of_cell? _ _ z1)).trans z1
        refine ⟨⟨_, rfl⟩, ⟨f'.cell y0 hnb, f'.cell y1 hnb⟩, hid ⟨F', r', fun j hj => (g' j hj).elim (hbB j) (fun q => ?_), f'.at_ ((hb.block _ (Q.blk_lt hBxa)).trans hBxa) (fun q => by have := hbB _ q; omega), ?_⟩⟩
        · have h1 := hb.size
          have h3 : b < wa.heap.size := HRXA.out.fb b HRXA.out.bF
          omega
        · exact (hBea.trans (hb.mono hszB)).trans (f'.below (Nat.le_trans hszB hb.size) (fun j hj q => by have := hbB j q; omega)))
      have hS : wa.cell? ⟨bp, 0, none⟩ = some (.int .i64 (k : Int)) ∧ wa.cell? ⟨bp, 1, none⟩ = some (.int .u64 vk) := ⟨z0, z1⟩
      clear hz z0 z1 hwa hBxa hBea hnb HRXA p0 p1 HPR hpb
      go_region_held3 (fun w' => w'.cell? ⟨bp, 0, none⟩ = some (.int .i64 (k : Int)) ∧ w'.cell? ⟨bp, 1, none⟩ = some (.int .u64 vk)) (first | exact two_cells (Q.bd1 _) (by assumption) | exact two_cells (Q.bdN _ _) (by assumption) | assumption) (first
        | (go_at_call 43; refine (K43.out _ (by first | exact Q.bd1 _ | exact Q.bdN _ _ | exact Below.refl _ _)).mono ?_; rintro e w5 ⟨⟨rr, rfl⟩, hS5, HX5⟩))
      all_goals
        obtain ⟨F5, r5, hF5, hx5, hb5⟩ := HX5.out
        obtain ⟨hc1, hc2, hc3, hc4⟩ := HC.out
        have hput := hc2.put hc4 hc1
        rw [HVK.out] at hput
        have hfl : (fillP s.k.th (k + 1)).length = i + 1 := by rw [fillP_true hc1, List.length_append, hc3, HFI.out]; rfl
        have HPUT := hid hput.2
        have HFL := hid hfl
        have HR5 := hid r5
        have HX5' := hid hx5
        have HB5 := hid hb5
        have HF5 := hid hF5
        clear hput hfl r5 hx5 hb5 hF5 hc1 hc2 hc3 hc4 HX5 K43 hS
        have hp16 := HP16.out
        go_wp2_with fail
        go_roundg (m.P.length + 1 - (i + 1))
        case measure => rw [HG.out]; omega
        case rel => exact ⟨i + 1, k + 1, _, F5, (k : Int), rfl, by go_num, by omega, rfl, by have := HK.out; omega, HFL.out, by omega, HPUT.out, HR5.out, HF5.out, HX5'.out, HB5.out⟩
    · have hfl16 := Filled.last (16 - kk) kk (by omega) HFILL.out (by
        have h2 := HMP.out
        unfold pairsK at h2
        have h3 := congrArg List.length h2
        rw [List.length_map] at h3
        omega)
      have hcm := hfl16.commit HS.out.k
      have K49 := kcommit_rx HRX.out 1
      rw [hcm] at K49
      have HK49 := hid K49
      have hBb : B < b := HWB2.out
      have HB2 := hid hBb
      clear hfl16 hcm K49 hfi hkk hla hbx hBb
      go_wp2_with fail
      refine HK49.out.mono ?_
      rintro e w6 ⟨rfl, ⟨F6, r6, g6⟩, f6⟩
      have hBsz : B ≤ wr.heap.size := by have := Q.blk_lt HBX.out; omega
      have hx6 : Bx w6 B A1 m.P.length c1 A2 m.L.length c2 m.nx := f6.at_ HBX.out (fun q => by have := HF.out _ q; have := HB2.out; omega)
      have hb6 : Below B w w6 := HBE.out.trans (f6.below hBsz (fun j hj q => by have := HF.out j q; have := HB2.out; omega))
      have hbwr : b < wr.heap.size := HRX.out.fb b HRX.out.bF
      have hF6 : ∀ j, F6 j → b ≤ j := fun j hj => (g6 j hj).elim (HF.out j) (fun q => by omega)
      have hu6 := HU.out.below hb6
      have HR6 := hid r6
      have HX6 := hid hx6
      have HB6 := hid hb6
      have HF6 := hid hF6
      have HU6 := hid hu6
      have z0 := cell_of_row _ _ 0 _ _ _ hx6
      have z1 := cell_of_row _ _ 1 _ _ _ hx6
      have z2 := cell_of_row _ _ 2 _ _ _ hx6
      have hB6 : B ≤ w6.heap.size := by have := Q.blk_lt hx6; omega
      have K50 : Hid (∀ w', Below w6.heap.size w6 w' → Calls Try.prog 50 #[.pointer (some ⟨b, 34, none⟩), .slice A2 m.L.length c2, .int .i64 m.nx] w' fun e w'' => e = .returned (.int .i64 0) ∧ (w''.cell? ⟨B, 0, none⟩ = some (.slice A1 m.P.length c1) ∧ w''.cell? ⟨B, 1, none⟩ = some (.slice A2 m.L.length c2)) ∧ Hid ((∃ F', RAt F' w'' b ⟨⟨s.k.vs, s.k.th, [], []⟩, ⟨s.q.its.map zeroI, [], s.q.gv⟩⟩ ∧ (∀ j, F' j → B ≤ j)) ∧ Below B w w'')) := hid (fun w' hb => by
        have hll := HL16.out
        have h2 := qload_rx (HR6.out.below hb) A2 m.L c2 m.nx (Q.RowAt.up (Q.RowAt.below HU6.out (hb.mono hB6)) (Nat.le_trans hB6 hb.size)) (fun hn b' off e q => by have := RowAt.block' HU6.out hn e; have := HF6.out _ q; have := HB2.out; omega) (by omega) HL2.out
        rw [HLD.out] at h2
        refine h2.mono ?_
        rintro e w'' ⟨rfl, ⟨F', r', g'⟩, f'⟩
        have h3 : b < w6.heap.size := HR6.out.fb b HR6.out.bF
        have h4 := hb.size
        have y := two_cells hb (And.intro z0 z1)
        have hnB : ¬ F6 B := fun q => by have := HF6.out _ q; have := HB2.out; omega
        refine ⟨rfl, ⟨f'.cell y.1 hnB, f'.cell y.2 hnB⟩, hid ⟨⟨F', RX.marks r' (fun n => rfl) (fun n => rfl), fun j hj => (g' j hj).elim (fun q => by have := HF6.out j q; have := HB2.out; omega) (fun q => by omega)⟩, (HB6.out.trans (hb.mono hB6)).trans (f'.below (Nat.le_trans hB6 hb.size) (fun j hj q => by have := HF6.out j q; have := HB2.out; omega))⟩⟩)
      have hS : w6.cell? ⟨B, 0, none⟩ = some (.slice A1 m.P.length c1) ∧ w6.cell? ⟨B, 1, none⟩ = some (.slice A2 m.L.length c2) := ⟨z0, z1⟩
      clear r6 g6 f6 hx6 hb6 hbwr hF6 hu6 hBsz hB6 HK49
      go_wp2_with fail
      go_region_held3 (fun w' => w'.cell? ⟨B, 0, none⟩ = some (.slice A1 m.P.length c1) ∧ w'.cell? ⟨B, 1, none⟩ = some (.slice A2 m.L.length c2)) (first | exact two_cells (Q.bd1 _) (by assumption) | exact two_cells (Q.bdN _ _) (by assumption) | assumption) (first
        | (go_at_call 50; refine (K50.out _ (by first | exact Q.bd1 _ | exact Q.bdN _ _ | exact Below.refl _ _)).mono ?_; rintro e w7 ⟨rfl, hS7, HZ⟩))
      all_goals
        clear K50 hS
        go_wp2_with fail
        go_ret2
        exact ⟨b, rfl, by rw [HBW.out]; exact HZ.out.1, by rw [HBW.out]; exact HZ.out.2⟩
end Go.Proofs.Ytdejbinmnoabeaa
namespace Go.Mine
structure ROp where
  kind : Int
  work : Int
  key : Int
  val : Int
  la : Option Addr
  l : List Ch
  lc : Nat
structure RTold where
  v : Int
  t : Bool
  l : List Ch
  e : Int
def callR (s : RM) (o : ROp) : RTold × RM :=
  if o.kind = 0 then (⟨(s.get o.work o.key).1.1, (s.get o.work o.key).1.2.1, [], (s.get o.work o.key).1.2.2⟩, (s.get o.work o.key).2)
  else if o.kind = 1 then (⟨0, false, [], (s.change o.work ⟨1, o.key, o.val⟩).1⟩, (s.change o.work ⟨1, o.key, o.val⟩).2)
  else if o.kind = 2 then (⟨0, false, [], (s.change o.work ⟨2, o.key, 0⟩).1⟩, (s.change o.work ⟨2, o.key, 0⟩).2)
  else if o.kind = 3 then (⟨0, false, [], (s.push o.work o.val).1⟩, (s.push o.work o.val).2)
  else if o.kind = 4 then (⟨(s.pop o.work).1.1, false, [], (s.pop o.work).1.2⟩, (s.pop o.work).2)
  else if o.kind = 5 then (⟨0, false, (s.prepare o.work).1.1, (s.prepare o.work).1.2⟩, (s.prepare o.work).2)
  else if o.kind = 6 then (⟨0, false, [], (s.commit o.work).1⟩, (s.commit o.work).2)
  else if o.kind = 7 then (⟨0, false, [], (s.backout o.work).1⟩, (s.backout o.work).2)
  else if o.kind = 8 then (⟨0, false, [], (s.restore o.work o.l).1⟩, (s.restore o.work o.l).2)
  else (⟨0, false, [], 0⟩, s)
theorem RM.Ok.call {s : RM} (h : s.Ok) (o : ROp) : (callR s o).2.Ok := by
  unfold callR
  split
  · exact h.get _ _
  · split
    · exact h.change _ _ (.inl rfl)
    · split
      · exact h.change _ _ (.inr ⟨rfl, rfl⟩)
      · split
        · exact h.push _ _
        · split
          · exact h.pop _
          · split
            · exact h.prepare _
            · split
              · exact h.commit _
              · split
                · exact h.backout _
                · split
                  · exact h.restore _ _
                  · exact h
end Go.Mine
namespace Go.Proofs.Ytdejbinmnoabeaa
open Go.RowKit Go.Mine Go.Proofs.YtdejbinmnoabeaaW.PrintWords
set_option linter.unusedVariables false
set_option linter.unusedSimpArgs false
def RCall (F : Nat → Prop) (w : World) (b : Nat) (R : RTold × RM) (e : Ending) (w' : World) : Prop :=
  ∃ A c, e = .returned (.agg #[.int .u64 R.1.v, .bool R.1.t, .slice A R.1.l.length c, .int .i64 R.1.e]) ∧ (∃ F', RAt F' w' b R.2 ∧ K.Grew F F' w ∧ ∀ k off, A = some ⟨k, off, none⟩ → w.heap.size ≤ k ∧ ¬ F' k) ∧ ChAt w' w'.heap.size A R.1.l ∧ Fr F w w'
set_option maxRecDepth 100000 in
set_option maxHeartbeats 8000000 in
theorem call_any {F : Nat → Prop} {w : World} {b : Nat} {s : RM} (h : RAt F w b s) (o : ROp) (hl : o.kind = 8 → ChAt w w.heap.size o.la o.l ∧ (o.l ≠ [] → Q.Beside F o.la) ∧ o.l.length ≤ 900 ∧ o.l.length ≤ o.lc) :
    Calls Try.prog 14 #[.pointer (some ⟨b, 0, none⟩), .agg #[.int .i64 o.kind, .int .i64 o.work, .int .i64 o.key, .int .u64 o.val, .slice o.la o.l.length o.lc]] w (RCall F w b (callR s o)) := by
  obtain ⟨wi, hwi⟩ : ∃ wi, wi = (((w.alloc (.cells #[.int .i64 o.kind, .int .i64 o.work, .int .i64 o.key, .int .u64 o.val, .slice o.la o.l.length o.lc] 34)).alloc (.cells #[.int .u64 0, .bool false, .slice none 0 0, .int .i64 0] 37)).alloc (.cells #[.int .u64 0, .bool false, .slice none 0 0, .int .i64 0] 37)) := ⟨_, rfl⟩
  have hba : Below w.heap.size w (w.alloc (.cells #[.int .i64 o.kind, .int .i64 o.work, .int .i64 o.key, .int .u64 o.val, .slice o.la o.l.length o.lc] 34)) := (Below.refl _ _).alloc (Nat.le_refl _) _
  have hbb : Below w.heap.size w ((w.alloc (.cells #[.int .i64 o.kind, .int .i64 o.work, .int .i64 o.key, .int .u64 o.val, .slice o.la o.l.length o.lc] 34)).alloc (.cells #[.int .u64 0, .bool false, .slice none 0 0, .int .i64 0] 37)) := hba.alloc hba.size _
  have hbi : Below w.heap.size w wi := by rw [hwi]; exact hbb.alloc hbb.size _
  have sa : (w.alloc (.cells #[.int .i64 o.kind, .int .i64 o.work, .int .i64 o.key, .int .u64 o.val, .slice o.la o.l.length o.lc] 34)).heap.size = w.heap.size + 1 := by simp
  have sb : ((w.alloc (.cells #[.int .i64 o.kind, .int .i64 o.work, .int .i64 o.key, .int .u64 o.val, .slice o.la o.l.length o.lc] 34)).alloc (.cells #[.int .u64 0, .bool false, .slice none 0 0, .int .i64 0] 37)).heap.size = w.heap.size + 1 + 1 := by simp
  have hx0 : wi.heap[w.heap.size]? = some (.cells #[.int .i64 o.kind, .int .i64 o.work, .int .i64 o.key, .int .u64 o.val, .slice o.la o.l.length o.lc] 34 (0, 0)) := by
    rw [hwi]
    exact ((((Below.refl _ _).alloc (Nat.le_refl _) _ : Below (w.alloc (.cells #[.int .i64 o.kind, .int .i64 o.work, .int .i64 o.key, .int .u64 o.val, .slice o.la o.l.length o.lc] 34)).heap.size (w.alloc (.cells #[.int .i64 o.kind, .int .i64 o.work, .int .i64 o.key, .int .u64 o.val, .slice o.la o.l.length o.lc] 34)) _).alloc (by simp) _).block _ (by simp)).trans (MapKept.heap_alloc w _).1
  have hx1 : wi.heap[w.heap.size + 1]? = some (.cells #[.int .u64 0, .bool false, .slice none 0 0, .int .i64 0] 37 (0, 0)) := by
    rw [hwi, ← sa]
    exact (((Below.refl _ _).alloc (Nat.le_refl _) _ : Below ((w.alloc (.cells #[.int .i64 o.kind, .int .i64 o.work, .int .i64 o.key, .int .u64 o.val, .slice o.la o.l.length o.lc] 34)).alloc (.cells #[.int .u64 0, .bool false, .slice none 0 0, .int .i64 0] 37)).heap.size ((w.alloc (.cells #[.int .i64 o.kind, .int .i64 o.work, .int .i64 o.key, .int .u64 o.val, .slice o.la o.l.length o.lc] 34)).alloc (.cells #[.int .u64 0, .bool false, .slice none 0 0, .int .i64 0] 37)) _).block _ (by simp)).trans (MapKept.heap_alloc _ _).1
  have hx2 : wi.heap[w.heap.size + 1 + 1]? = some (.cells #[.int .u64 0, .bool false, .slice none 0 0, .int .i64 0] 37 (0, 0)) := by
    rw [hwi, ← sb]
    exact (MapKept.heap_alloc _ _).1
  have hsi : wi.heap.size = w.heap.size + 1 + 1 + 1 := by rw [hwi]; simp
  have hlo : ∀ i, F i → i < w.heap.size := h.fb
  have hai : RAt F wi b s := h.below (hbi.mono (Nat.le_refl _))
  have HAI := hid hai
  have HLO := hid hlo
  have HL := hid hl
  clear h hai hlo hl
  have HWI := hid hwi
  have HBI := hid hbi
  have HS := hid hsi
  clear hwi hbi hba hbb sa sb hsi
  go_enter Try.func14, Try.ntmps14
  go_upto_block 0 with (fail)
  rw [← HWI.out]
  have hge1 : Hid (w.heap.size ≤ w.heap.size + 1) := hid (by omega)
  have hge2 : Hid (w.heap.size ≤ w.heap.size + 1 + 1) := hid (by omega)
  have hne : Hid (w.heap.size + 1 ≠ w.heap.size + 1 + 1) := hid (by omega)
  have hlt1 : Hid (w.heap.size + 1 < wi.heap.size) := hid (by rw [HS.out]; omega)
  have hlt2 : Hid (w.heap.size + 1 + 1 < wi.heap.size) := hid (by rw [HS.out]; omega)
  clear HWI HS
  obtain ⟨b0, hb0⟩ : ∃ b0, b0 = w.heap.size := ⟨_, rfl⟩
  generalize w.heap.size + 1 + 1 = b2 at *
  generalize w.heap.size + 1 = b1 at *
  rw [← hb0] at hx0 ⊢
  clear hb0
  have k0 := cell_of_row wi b0 0 _ _ _ hx0
  have k1 := cell_of_row wi b0 1 _ _ _ hx0
  have k2 := cell_of_row wi b0 2 _ _ _ hx0
  have k3 := cell_of_row wi b0 3 _ _ _ hx0
  have k4 := cell_of_row wi b0 4 _ _ _ hx0
  have HX1 := hid hx1
  have HX2 := hid hx2
  clear hx0 hx1 hx2
  go_cut [] (fun wc => ∃ A c, wc.heap[b2]? = some (.cells #[.int .u64 (callR s o).1.v, .bool (callR s o).1.t, .slice A (callR s o).1.l.length c, .int .i64 (callR s o).1.e] 37 (0, 0)) ∧ wc.heap[b1]? = some (.cells #[.int .u64 0, .bool false, .slice none 0 0, .int .i64 0] 37 (0, 0)) ∧ (∃ F1, RAt F1 wc b (callR s o).2 ∧ K.Grew F F1 w ∧ ¬ F1 b1 ∧ ∀ k off, A = some ⟨k, off, none⟩ → w.heap.size ≤ k ∧ ¬ F1 k ∧ k ≠ b1) ∧ ChAt wc wc.heap.size A (callR s o).1.l ∧ Fr F w wc)
  case first =>
    cases q0 : (o.kind == 0)
    · cases q1 : (o.kind == 1)
      · cases q2 : (o.kind == 2)
        · cases q3 : (o.kind == 3)
          · cases q4 : (o.kind == 4)
            · cases q5 : (o.kind == 5)
              · cases q6 : (o.kind == 6)
                · cases q7 : (o.kind == 7)
                  · cases q8 : (o.kind == 8)
                    · have n0 : ¬ o.kind = 0 := by simpa using q0
                      have n1 : ¬ o.kind = 1 := by simpa using q1
                      have n2 : ¬ o.kind = 2 := by simpa using q2
                      have n3 : ¬ o.kind = 3 := by simpa using q3
                      have n4 : ¬ o.kind = 4 := by simpa using q4
                      have n5 : ¬ o.kind = 5 := by simpa using q5
                      have n6 : ¬ o.kind = 6 := by simpa using q6
                      have n7 : ¬ o.kind = 7 := by simpa using q7
                      have n8 : ¬ o.kind = 8 := by simpa using q8
                      have HR := hid (show callR s o = _ from by unfold callR; rw [if_neg n0, if_neg n1, if_neg n2, if_neg n3, if_neg n4, if_neg n5, if_neg n6, if_neg n7, if_neg n8])
                      clear n0 n1 n2 n3 n4 n5 n6 n7 n8
                      go_wp2_with fail
                      go_meet
                      case rel =>
                        rw [HR.out]
                        exact ⟨none, 0, HX2.out, HX1.out, ⟨F, HAI.out, K.Grew.refl _ _, (fun q => by have := HLO.out _ q; have := hge1.out; omega), fun k off e => by cases e⟩, fun i x hx => by simp at hx, (Fr.of_below HBI.out (Nat.le_refl _)).mono (fun _ q => q.elim)⟩
                    · have n0 : ¬ o.kind = 0 := by simpa using q0
                      have n1 : ¬ o.kind = 1 := by simpa using q1
                      have n2 : ¬ o.kind = 2 := by simpa using q2
                      have n3 : ¬ o.kind = 3 := by simpa using q3
                      have n4 : ¬ o.kind = 4 := by simpa using q4
                      have n5 : ¬ o.kind = 5 := by simpa using q5
                      have n6 : ¬ o.kind = 6 := by simpa using q6
                      have n7 : ¬ o.kind = 7 := by simpa using q7
                      have p8 : o.kind = 8 := by simpa using q8
                      have HR := hid (show callR s o = _ from by unfold callR; rw [if_neg n0, if_neg n1, if_neg n2, if_neg n3, if_neg n4, if_neg n5, if_neg n6, if_neg n7, if_pos p8])
                      have HC := hid (restore_any HAI.out o.work o.la o.l o.lc (((HL.out p8).1.below HBI.out).up HBI.out.size) (HL.out p8).2.1 (HL.out p8).2.2.1 (HL.out p8).2.2.2)
                      clear n0 n1 n2 n3 n4 n5 n6 n7 p8
                      go_wp2_with fail
                      refine HC.out.mono ?_
                      rintro e w1 ⟨rfl, ⟨F1, hx1, hg1⟩, hf1⟩
                      have y2 := hf1.at_ HX2.out (fun q => by have := HLO.out _ q; have := hge2.out; omega)
                      have y1 := hf1.at_ HX1.out (fun q => by have := HLO.out _ q; have := hge1.out; omega)
                      have g3 := cell_of_row w1 b2 3 _ _ _ y2
                      have z3 : w1.frozen? ⟨b2, 3, none⟩ = false := by simp [World.frozen?, y2]
                      have Y2 := hid y2
                      have Y1 := hid y1
                      have HX := hid hx1
                      have HG := hid hg1
                      have HF := hid hf1
                      clear y2 y1 hx1 hg1 hf1 HC
                      go_wp2_with fail
                      have e3 := K.setCell_heap (off := 3) (Y2.out) (.int .i64 (s.restore o.work o.l).1)
                      have hfs : Fr (fun i => i = b2) w1 (w1.setCell ⟨b2, 3, none⟩ (.int .i64 (s.restore o.work o.l).1)) := Fr.setCell (S := fun i => i = b2) (p := ⟨b2, 3, none⟩) (Fr.refl _ w1) (.inl rfl) (.int .i64 (s.restore o.work o.l).1)
                      go_meet
                      case rel =>
                        have hF1 : ∀ i, F1 i → i ≠ b2 := fun i hi q => by
                          rcases HG.out i hi with r | r
                          · have := HLO.out i r; have := hge2.out; omega
                          · have := hlt2.out; omega
                        have hfw : Fr F w w1 := ((Fr.of_below HBI.out (Nat.le_refl _)).mono (fun _ q => q.elim)).trans HF.out (fun i hi => .inl hi)
                        have hnb1 : ¬ F1 b1 := fun hi => by
                          rcases HG.out b1 hi with r | r
                          · have := HLO.out b1 r; have := hge1.out; omega
                          · have := hlt1.out; omega
                        rw [HR.out]
                        exact ⟨none, 0, e3, hfs.at_ Y1.out hne.out, ⟨F1, HX.out.fr hfs (fun i hi q => hF1 i hi q), fun i hi => (HG.out i hi).imp id (fun q => Nat.le_trans HBI.out.size q), hnb1, (fun k off e => by cases e)⟩, (fun i x hx => by simp at hx), hfw.trans hfs (fun i hi => .inr (by rw [hi]; exact hge2.out))⟩
                  · have n0 : ¬ o.kind = 0 := by simpa using q0
                    have n1 : ¬ o.kind = 1 := by simpa using q1
                    have n2 : ¬ o.kind = 2 := by simpa using q2
                    have n3 : ¬ o.kind = 3 := by simpa using q3
                    have n4 : ¬ o.kind = 4 := by simpa using q4
                    have n5 : ¬ o.kind = 5 := by simpa using q5
                    have n6 : ¬ o.kind = 6 := by simpa using q6
                    have p7 : o.kind = 7 := by simpa using q7
                    have HR := hid (show callR s o = _ from by unfold callR; rw [if_neg n0, if_neg n1, if_neg n2, if_neg n3, if_neg n4, if_neg n5, if_neg n6, if_pos p7])
                    have HC := hid (backout_any HAI.out o.work)
                    clear n0 n1 n2 n3 n4 n5 n6 p7
                    go_wp2_with fail
                    refine HC.out.mono ?_
                    rintro e w1 ⟨rfl, ⟨F1, hx1, hg1⟩, hf1⟩
                    have y2 := hf1.at_ HX2.out (fun q => by have := HLO.out _ q; have := hge2.out; omega)
                    have y1 := hf1.at_ HX1.out (fun q => by have := HLO.out _ q; have := hge1.out; omega)
                    have g3 := cell_of_row w1 b2 3 _ _ _ y2
                    have z3 : w1.frozen? ⟨b2, 3, none⟩ = false := by simp [World.frozen?, y2]
                    have Y2 := hid y2
                    have Y1 := hid y1
                    have HX := hid hx1
                    have HG := hid hg1
                    have HF := hid hf1
                    clear y2 y1 hx1 hg1 hf1 HC
                    go_wp2_with fail
                    have e3 := K.setCell_heap (off := 3) (Y2.out) (.int .i64 (s.backout o.work).1)
                    have hfs : Fr (fun i => i = b2) w1 (w1.setCell ⟨b2, 3, none⟩ (.int .i64 (s.backout o.work).1)) := Fr.setCell (S := fun i => i = b2) (p := ⟨b2, 3, none⟩) (Fr.refl _ w1) (.inl rfl) (.int .i64 (s.backout o.work).1)
                    go_meet
                    case rel =>
                      have hF1 : ∀ i, F1 i → i ≠ b2 := fun i hi q => by
                        rcases HG.out i hi with r | r
                        · have := HLO.out i r; have := hge2.out; omega
                        · have := hlt2.out; omega
                      have hfw : Fr F w w1 := ((Fr.of_below HBI.out (Nat.le_refl _)).mono (fun _ q => q.elim)).trans HF.out (fun i hi => .inl hi)
                      have hnb1 : ¬ F1 b1 := fun hi => by
                        rcases HG.out b1 hi with r | r
                        · have := HLO.out b1 r; have := hge1.out; omega
                        · have := hlt1.out; omega
                      rw [HR.out]
                      exact ⟨none, 0, e3, hfs.at_ Y1.out hne.out, ⟨F1, HX.out.fr hfs (fun i hi q => hF1 i hi q), fun i hi => (HG.out i hi).imp id (fun q => Nat.le_trans HBI.out.size q), hnb1, (fun k off e => by cases e)⟩, (fun i x hx => by simp at hx), hfw.trans hfs (fun i hi => .inr (by rw [hi]; exact hge2.out))⟩
                · have n0 : ¬ o.kind = 0 := by simpa using q0
                  have n1 : ¬ o.kind = 1 := by simpa using q1
                  have n2 : ¬ o.kind = 2 := by simpa using q2
                  have n3 : ¬ o.kind = 3 := by simpa using q3
                  have n4 : ¬ o.kind = 4 := by simpa using q4
                  have n5 : ¬ o.kind = 5 := by simpa using q5
                  have p6 : o.kind = 6 := by simpa using q6
                  have HR := hid (show callR s o = _ from by unfold callR; rw [if_neg n0, if_neg n1, if_neg n2, if_neg n3, if_neg n4, if_neg n5, if_pos p6])
                  have HC := hid (commit_any HAI.out o.work)
                  clear n0 n1 n2 n3 n4 n5 p6
                  go_wp2_with fail
                  refine HC.out.mono ?_
                  rintro e w1 ⟨rfl, ⟨F1, hx1, hg1⟩, hf1⟩
                  have y2 := hf1.at_ HX2.out (fun q => by have := HLO.out _ q; have := hge2.out; omega)
                  have y1 := hf1.at_ HX1.out (fun q => by have := HLO.out _ q; have := hge1.out; omega)
                  have g3 := cell_of_row w1 b2 3 _ _ _ y2
                  have z3 : w1.frozen? ⟨b2, 3, none⟩ = false := by simp [World.frozen?, y2]
                  have Y2 := hid y2
                  have Y1 := hid y1
                  have HX := hid hx1
                  have HG := hid hg1
                  have HF := hid hf1
                  clear y2 y1 hx1 hg1 hf1 HC
                  go_wp2_with fail
                  have e3 := K.setCell_heap (off := 3) (Y2.out) (.int .i64 (s.commit o.work).1)
                  have hfs : Fr (fun i => i = b2) w1 (w1.setCell ⟨b2, 3, none⟩ (.int .i64 (s.commit o.work).1)) := Fr.setCell (S := fun i => i = b2) (p := ⟨b2, 3, none⟩) (Fr.refl _ w1) (.inl rfl) (.int .i64 (s.commit o.work).1)
                  go_meet
                  case rel =>
                    have hF1 : ∀ i, F1 i → i ≠ b2 := fun i hi q => by
                      rcases HG.out i hi with r | r
                      · have := HLO.out i r; have := hge2.out; omega
                      · have := hlt2.out; omega
                    have hfw : Fr F w w1 := ((Fr.of_below HBI.out (Nat.le_refl _)).mono (fun _ q => q.elim)).trans HF.out (fun i hi => .inl hi)
                    have hnb1 : ¬ F1 b1 := fun hi => by
                      rcases HG.out b1 hi with r | r
                      · have := HLO.out b1 r; have := hge1.out; omega
                      · have := hlt1.out; omega
                    rw [HR.out]
                    exact ⟨none, 0, e3, hfs.at_ Y1.out hne.out, ⟨F1, HX.out.fr hfs (fun i hi q => hF1 i hi q), fun i hi => (HG.out i hi).imp id (fun q => Nat.le_trans HBI.out.size q), hnb1, (fun k off e => by cases e)⟩, (fun i x hx => by simp at hx), hfw.trans hfs (fun i hi => .inr (by rw [hi]; exact hge2.out))⟩
              · have n0 : ¬ o.kind = 0 := by simpa using q0
                have n1 : ¬ o.kind = 1 := by simpa using q1
                have n2 : ¬ o.kind = 2 := by simpa using q2
                have n3 : ¬ o.kind = 3 := by simpa using q3
                have n4 : ¬ o.kind = 4 := by simpa using q4
                have p5 : o.kind = 5 := by simpa using q5
                have HR := hid (show callR s o = _ from by unfold callR; rw [if_neg n0, if_neg n1, if_neg n2, if_neg n3, if_neg n4, if_pos p5])
                have HC := hid (prepare_any HAI.out o.work)
                clear n0 n1 n2 n3 n4 p5
                go_wp2_with fail
                refine HC.out.mono ?_
                rintro e w1 ⟨A5, c5, rfl, ⟨F1, hx1, hg1, ho1⟩, hat1, hcap1, hf1⟩
                have y2 := hf1.at_ HX2.out (fun q => by have := HLO.out _ q; have := hge2.out; omega)
                have y1 := hf1.at_ HX1.out (fun q => by have := HLO.out _ q; have := hge1.out; omega)
                have g2 := cell_of_row w1 b2 2 _ _ _ y2
                have z2 : w1.frozen? ⟨b2, 2, none⟩ = false := by simp [World.frozen?, y2]
                have g3 := cell_of_row w1 b2 3 _ _ _ y2
                have z3 : w1.frozen? ⟨b2, 3, none⟩ = false := by simp [World.frozen?, y2]
                have Y2 := hid y2
                have Y1 := hid y1
                have HX := hid hx1
                have HG := hid hg1
                have HF := hid hf1
                have HO := hid ho1
                have HAT := hid hat1
                clear y2 y1 hx1 hg1 hf1 HC ho1 hat1 hcap1
                go_wp2_with fail
                have e2 := K.setCell_heap (off := 2) (Y2.out) (.slice A5 (s.prepare o.work).1.1.length c5)
                have e3 := K.setCell_heap (off := 3) (e2) (.int .i64 (s.prepare o.work).1.2)
                have hfs : Fr (fun i => i = b2) w1 ((w1.setCell ⟨b2, 2, none⟩ (.slice A5 (s.prepare o.work).1.1.length c5)).setCell ⟨b2, 3, none⟩ (.int .i64 (s.prepare o.work).1.2)) := Fr.setCell (S := fun i => i = b2) (p := ⟨b2, 3, none⟩) (Fr.setCell (S := fun i => i = b2) (p := ⟨b2, 2, none⟩) (Fr.refl _ w1) (.inl rfl) (.slice A5 (s.prepare o.work).1.1.length c5)) (.inl rfl) (.int .i64 (s.prepare o.work).1.2)
                go_meet
                case rel =>
                  have hF1 : ∀ i, F1 i → i ≠ b2 := fun i hi q => by
                    rcases HG.out i hi with r | r
                    · have := HLO.out i r; have := hge2.out; omega
                    · have := hlt2.out; omega
                  have hfw : Fr F w w1 := ((Fr.of_below HBI.out (Nat.le_refl _)).mono (fun _ q => q.elim)).trans HF.out (fun i hi => .inl hi)
                  have hnb1 : ¬ F1 b1 := fun hi => by
                    rcases HG.out b1 hi with r | r
                    · have := HLO.out b1 r; have := hge1.out; omega
                    · have := hlt1.out; omega
                  rw [HR.out]
                  exact ⟨A5, c5, e3, hfs.at_ Y1.out hne.out, ⟨F1, HX.out.fr hfs (fun i hi q => hF1 i hi q), fun i hi => (HG.out i hi).imp id (fun q => Nat.le_trans HBI.out.size q), hnb1, (fun k off e => ⟨Nat.le_trans HBI.out.size (HO.out k off e).1, (HO.out k off e).2, by have := (HO.out k off e).1; have := hlt1.out; omega⟩)⟩, (row_fr HAT.out hfs (fun k off e q => by have := (HO.out k off e).1; have := hlt2.out; omega)), hfw.trans hfs (fun i hi => .inr (by rw [hi]; exact hge2.out))⟩
            · have n0 : ¬ o.kind = 0 := by simpa using q0
              have n1 : ¬ o.kind = 1 := by simpa using q1
              have n2 : ¬ o.kind = 2 := by simpa using q2
              have n3 : ¬ o.kind = 3 := by simpa using q3
              have p4 : o.kind = 4 := by simpa using q4
              have HR := hid (show callR s o = _ from by unfold callR; rw [if_neg n0, if_neg n1, if_neg n2, if_neg n3, if_pos p4])
              have HC := hid (pop_any HAI.out o.work)
              clear n0 n1 n2 n3 p4
              go_wp2_with fail
              refine HC.out.mono ?_
              rintro e w1 ⟨rfl, ⟨F1, hx1, hg1⟩, hf1⟩
              have y2 := hf1.at_ HX2.out (fun q => by have := HLO.out _ q; have := hge2.out; omega)
              have y1 := hf1.at_ HX1.out (fun q => by have := HLO.out _ q; have := hge1.out; omega)
              have g0 := cell_of_row w1 b2 0 _ _ _ y2
              have z0 : w1.frozen? ⟨b2, 0, none⟩ = false := by simp [World.frozen?, y2]
              have g3 := cell_of_row w1 b2 3 _ _ _ y2
              have z3 : w1.frozen? ⟨b2, 3, none⟩ = false := by simp [World.frozen?, y2]
              have Y2 := hid y2
              have Y1 := hid y1
              have HX := hid hx1
              have HG := hid hg1
              have HF := hid hf1
              clear y2 y1 hx1 hg1 hf1 HC
              go_wp2_with fail
              have e0 := K.setCell_heap (off := 0) (Y2.out) (.int .u64 (s.pop o.work).1.1)
              have e3 := K.setCell_heap (off := 3) (e0) (.int .i64 (s.pop o.work).1.2)
              have hfs : Fr (fun i => i = b2) w1 ((w1.setCell ⟨b2, 0, none⟩ (.int .u64 (s.pop o.work).1.1)).setCell ⟨b2, 3, none⟩ (.int .i64 (s.pop o.work).1.2)) := Fr.setCell (S := fun i => i = b2) (p := ⟨b2, 3, none⟩) (Fr.setCell (S := fun i => i = b2) (p := ⟨b2, 0, none⟩) (Fr.refl _ w1) (.inl rfl) (.int .u64 (s.pop o.work).1.1)) (.inl rfl) (.int .i64 (s.pop o.work).1.2)
              go_meet
              case rel =>
                have hF1 : ∀ i, F1 i → i ≠ b2 := fun i hi q => by
                  rcases HG.out i hi with r | r
                  · have := HLO.out i r; have := hge2.out; omega
                  · have := hlt2.out; omega
                have hfw : Fr F w w1 := ((Fr.of_below HBI.out (Nat.le_refl _)).mono (fun _ q => q.elim)).trans HF.out (fun i hi => .inl hi)
                have hnb1 : ¬ F1 b1 := fun hi => by
                  rcases HG.out b1 hi with r | r
                  · have := HLO.out b1 r; have := hge1.out; omega
                  · have := hlt1.out; omega
                rw [HR.out]
                exact ⟨none, 0, e3, hfs.at_ Y1.out hne.out, ⟨F1, HX.out.fr hfs (fun i hi q => hF1 i hi q), fun i hi => (HG.out i hi).imp id (fun q => Nat.le_trans HBI.out.size q), hnb1, (fun k off e => by cases e)⟩, (fun i x hx => by simp at hx), hfw.trans hfs (fun i hi => .inr (by rw [hi]; exact hge2.out))⟩
          · have n0 : ¬ o.kind = 0 := by simpa using q0
            have n1 : ¬ o.kind = 1 := by simpa using q1
            have n2 : ¬ o.kind = 2 := by simpa using q2
            have p3 : o.kind = 3 := by simpa using q3
            have HR := hid (show callR s o = _ from by unfold callR; rw [if_neg n0, if_neg n1, if_neg n2, if_pos p3])
            have HC := hid (push_any HAI.out o.work o.val)
            clear n0 n1 n2 p3
            go_wp2_with fail
            refine HC.out.mono ?_
            rintro e w1 ⟨rfl, ⟨F1, hx1, hg1⟩, hf1⟩
            have y2 := hf1.at_ HX2.out (fun q => by have := HLO.out _ q; have := hge2.out; omega)
            have y1 := hf1.at_ HX1.out (fun q => by have := HLO.out _ q; have := hge1.out; omega)
            have g3 := cell_of_row w1 b2 3 _ _ _ y2
            have z3 : w1.frozen? ⟨b2, 3, none⟩ = false := by simp [World.frozen?, y2]
            have Y2 := hid y2
            have Y1 := hid y1
            have HX := hid hx1
            have HG := hid hg1
            have HF := hid hf1
            clear y2 y1 hx1 hg1 hf1 HC
            go_wp2_with fail
            have e3 := K.setCell_heap (off := 3) (Y2.out) (.int .i64 (s.push o.work o.val).1)
            have hfs : Fr (fun i => i = b2) w1 (w1.setCell ⟨b2, 3, none⟩ (.int .i64 (s.push o.work o.val).1)) := Fr.setCell (S := fun i => i = b2) (p := ⟨b2, 3, none⟩) (Fr.refl _ w1) (.inl rfl) (.int .i64 (s.push o.work o.val).1)
            go_meet
            case rel =>
              have hF1 : ∀ i, F1 i → i ≠ b2 := fun i hi q => by
                rcases HG.out i hi with r | r
                · have := HLO.out i r; have := hge2.out; omega
                · have := hlt2.out; omega
              have hfw : Fr F w w1 := ((Fr.of_below HBI.out (Nat.le_refl _)).mono (fun _ q => q.elim)).trans HF.out (fun i hi => .inl hi)
              have hnb1 : ¬ F1 b1 := fun hi => by
                rcases HG.out b1 hi with r | r
                · have := HLO.out b1 r; have := hge1.out; omega
                · have := hlt1.out; omega
              rw [HR.out]
              exact ⟨none, 0, e3, hfs.at_ Y1.out hne.out, ⟨F1, HX.out.fr hfs (fun i hi q => hF1 i hi q), fun i hi => (HG.out i hi).imp id (fun q => Nat.le_trans HBI.out.size q), hnb1, (fun k off e => by cases e)⟩, (fun i x hx => by simp at hx), hfw.trans hfs (fun i hi => .inr (by rw [hi]; exact hge2.out))⟩
        · have n0 : ¬ o.kind = 0 := by simpa using q0
          have n1 : ¬ o.kind = 1 := by simpa using q1
          have p2 : o.kind = 2 := by simpa using q2
          have HR := hid (show callR s o = _ from by unfold callR; rw [if_neg n0, if_neg n1, if_pos p2])
          have HC := hid (del_any HAI.out o.work o.key)
          clear n0 n1 p2
          go_wp2_with fail
          refine HC.out.mono ?_
          rintro e w1 ⟨rfl, ⟨F1, hx1, hg1⟩, hf1⟩
          have y2 := hf1.at_ HX2.out (fun q => by have := HLO.out _ q; have := hge2.out; omega)
          have y1 := hf1.at_ HX1.out (fun q => by have := HLO.out _ q; have := hge1.out; omega)
          have g3 := cell_of_row w1 b2 3 _ _ _ y2
          have z3 : w1.frozen? ⟨b2, 3, none⟩ = false := by simp [World.frozen?, y2]
          have Y2 := hid y2
          have Y1 := hid y1
          have HX := hid hx1
          have HG := hid hg1
          have HF := hid hf1
          clear y2 y1 hx1 hg1 hf1 HC
          go_wp2_with fail
          have e3 := K.setCell_heap (off := 3) (Y2.out) (.int .i64 (s.change o.work ⟨2, o.key, 0⟩).1)
          have hfs : Fr (fun i => i = b2) w1 (w1.setCell ⟨b2, 3, none⟩ (.int .i64 (s.change o.work ⟨2, o.key, 0⟩).1)) := Fr.setCell (S := fun i => i = b2) (p := ⟨b2, 3, none⟩) (Fr.refl _ w1) (.inl rfl) (.int .i64 (s.change o.work ⟨2, o.key, 0⟩).1)
          go_meet
          case rel =>
            have hF1 : ∀ i, F1 i → i ≠ b2 := fun i hi q => by
              rcases HG.out i hi with r | r
              · have := HLO.out i r; have := hge2.out; omega
              · have := hlt2.out; omega
            have hfw : Fr F w w1 := ((Fr.of_below HBI.out (Nat.le_refl _)).mono (fun _ q => q.elim)).trans HF.out (fun i hi => .inl hi)
            have hnb1 : ¬ F1 b1 := fun hi => by
              rcases HG.out b1 hi with r | r
              · have := HLO.out b1 r; have := hge1.out; omega
              · have := hlt1.out; omega
            rw [HR.out]
            exact ⟨none, 0, e3, hfs.at_ Y1.out hne.out, ⟨F1, HX.out.fr hfs (fun i hi q => hF1 i hi q), fun i hi => (HG.out i hi).imp id (fun q => Nat.le_trans HBI.out.size q), hnb1, (fun k off e => by cases e)⟩, (fun i x hx => by simp at hx), hfw.trans hfs (fun i hi => .inr (by rw [hi]; exact hge2.out))⟩
      · have n0 : ¬ o.kind = 0 := by simpa using q0
        have p1 : o.kind = 1 := by simpa using q1
        have HR := hid (show callR s o = _ from by unfold callR; rw [if_neg n0, if_pos p1])
        have HC := hid (put_any HAI.out o.work o.key o.val)
        clear n0 p1
        go_wp2_with fail
        refine HC.out.mono ?_
        rintro e w1 ⟨rfl, ⟨F1, hx1, hg1⟩, hf1⟩
        have y2 := hf1.at_ HX2.out (fun q => by have := HLO.out _ q; have := hge2.out; omega)
        have y1 := hf1.at_ HX1.out (fun q => by have := HLO.out _ q; have := hge1.out; omega)
        have g3 := cell_of_row w1 b2 3 _ _ _ y2
        have z3 : w1.frozen? ⟨b2, 3, none⟩ = false := by simp [World.frozen?, y2]
        have Y2 := hid y2
        have Y1 := hid y1
        have HX := hid hx1
        have HG := hid hg1
        have HF := hid hf1
        clear y2 y1 hx1 hg1 hf1 HC
        go_wp2_with fail
        have e3 := K.setCell_heap (off := 3) (Y2.out) (.int .i64 (s.change o.work ⟨1, o.key, o.val⟩).1)
        have hfs : Fr (fun i => i = b2) w1 (w1.setCell ⟨b2, 3, none⟩ (.int .i64 (s.change o.work ⟨1, o.key, o.val⟩).1)) := Fr.setCell (S := fun i => i = b2) (p := ⟨b2, 3, none⟩) (Fr.refl _ w1) (.inl rfl) (.int .i64 (s.change o.work ⟨1, o.key, o.val⟩).1)
        go_meet
        case rel =>
          have hF1 : ∀ i, F1 i → i ≠ b2 := fun i hi q => by
            rcases HG.out i hi with r | r
            · have := HLO.out i r; have := hge2.out; omega
            · have := hlt2.out; omega
          have hfw : Fr F w w1 := ((Fr.of_below HBI.out (Nat.le_refl _)).mono (fun _ q => q.elim)).trans HF.out (fun i hi => .inl hi)
          have hnb1 : ¬ F1 b1 := fun hi => by
            rcases HG.out b1 hi with r | r
            · have := HLO.out b1 r; have := hge1.out; omega
            · have := hlt1.out; omega
          rw [HR.out]
          exact ⟨none, 0, e3, hfs.at_ Y1.out hne.out, ⟨F1, HX.out.fr hfs (fun i hi q => hF1 i hi q), fun i hi => (HG.out i hi).imp id (fun q => Nat.le_trans HBI.out.size q), hnb1, (fun k off e => by cases e)⟩, (fun i x hx => by simp at hx), hfw.trans hfs (fun i hi => .inr (by rw [hi]; exact hge2.out))⟩
    · have p0 : o.kind = 0 := by simpa using q0
      have HR := hid (show callR s o = _ from by unfold callR; rw [if_pos p0])
      have HC := hid (get_any HAI.out o.work o.key)
      clear p0
      go_wp2_with fail
      refine HC.out.mono ?_
      rintro e w1 ⟨rfl, ⟨F1, hx1, hg1⟩, hf1⟩
      have y2 := hf1.at_ HX2.out (fun q => by have := HLO.out _ q; have := hge2.out; omega)
      have y1 := hf1.at_ HX1.out (fun q => by have := HLO.out _ q; have := hge1.out; omega)
      have g0 := cell_of_row w1 b2 0 _ _ _ y2
      have z0 : w1.frozen? ⟨b2, 0, none⟩ = false := by simp [World.frozen?, y2]
      have g1 := cell_of_row w1 b2 1 _ _ _ y2
      have z1 : w1.frozen? ⟨b2, 1, none⟩ = false := by simp [World.frozen?, y2]
      have g3 := cell_of_row w1 b2 3 _ _ _ y2
      have z3 : w1.frozen? ⟨b2, 3, none⟩ = false := by simp [World.frozen?, y2]
      have Y2 := hid y2
      have Y1 := hid y1
      have HX := hid hx1
      have HG := hid hg1
      have HF := hid hf1
      clear y2 y1 hx1 hg1 hf1 HC
      go_wp2_with fail
      have e0 := K.setCell_heap (off := 0) (Y2.out) (.int .u64 (s.get o.work o.key).1.1)
      have e1 := K.setCell_heap (off := 1) (e0) (.bool (s.get o.work o.key).1.2.1)
      have e3 := K.setCell_heap (off := 3) (e1) (.int .i64 (s.get o.work o.key).1.2.2)
      have hfs : Fr (fun i => i = b2) w1 (((w1.setCell ⟨b2, 0, none⟩ (.int .u64 (s.get o.work o.key).1.1)).setCell ⟨b2, 1, none⟩ (.bool (s.get o.work o.key).1.2.1)).setCell ⟨b2, 3, none⟩ (.int .i64 (s.get o.work o.key).1.2.2)) := Fr.setCell (S := fun i => i = b2) (p := ⟨b2, 3, none⟩) (Fr.setCell (S := fun i => i = b2) (p := ⟨b2, 1, none⟩) (Fr.setCell (S := fun i => i = b2) (p := ⟨b2, 0, none⟩) (Fr.refl _ w1) (.inl rfl) (.int .u64 (s.get o.work o.key).1.1)) (.inl rfl) (.bool (s.get o.work o.key).1.2.1)) (.inl rfl) (.int .i64 (s.get o.work o.key).1.2.2)
      go_meet
      case rel =>
        have hF1 : ∀ i, F1 i → i ≠ b2 := fun i hi q => by
          rcases HG.out i hi with r | r
          · have := HLO.out i r; have := hge2.out; omega
          · have := hlt2.out; omega
        have hfw : Fr F w w1 := ((Fr.of_below HBI.out (Nat.le_refl _)).mono (fun _ q => q.elim)).trans HF.out (fun i hi => .inl hi)
        have hnb1 : ¬ F1 b1 := fun hi => by
          rcases HG.out b1 hi with r | r
          · have := HLO.out b1 r; have := hge1.out; omega
          · have := hlt1.out; omega
        rw [HR.out]
        exact ⟨none, 0, e3, hfs.at_ Y1.out hne.out, ⟨F1, HX.out.fr hfs (fun i hi q => hF1 i hi q), fun i hi => (HG.out i hi).imp id (fun q => Nat.le_trans HBI.out.size q), hnb1, (fun k off e => by cases e)⟩, (fun i x hx => by simp at hx), hfw.trans hfs (fun i hi => .inr (by rw [hi]; exact hge2.out))⟩
  case rest =>
    obtain ⟨A, c, y2, y1, ⟨F1, hx1, hg1, hnb1, ho1⟩, hat1, hf1⟩ := hcut
    have HX := hid hx1
    have HG := hid hg1
    have HO := hid ho1
    have HAT := hid hat1
    have HF := hid hf1
    clear hx1 hg1 ho1 hat1 hf1
    have g0 := cell_of_row wc b2 0 _ _ _ y2
    have r0 := cell_of_row wc b1 0 _ _ _ y1
    have z0 : wc.frozen? ⟨b1, 0, none⟩ = false := by simp [World.frozen?, y1]
    have g1 := cell_of_row wc b2 1 _ _ _ y2
    have r1 := cell_of_row wc b1 1 _ _ _ y1
    have z1 : wc.frozen? ⟨b1, 1, none⟩ = false := by simp [World.frozen?, y1]
    have g2 := cell_of_row wc b2 2 _ _ _ y2
    have r2 := cell_of_row wc b1 2 _ _ _ y1
    have z2 : wc.frozen? ⟨b1, 2, none⟩ = false := by simp [World.frozen?, y1]
    have g3 := cell_of_row wc b2 3 _ _ _ y2
    have r3 := cell_of_row wc b1 3 _ _ _ y1
    have z3 : wc.frozen? ⟨b1, 3, none⟩ = false := by simp [World.frozen?, y1]
    have Y1 := hid y1
    clear y1 y2 k0 k1 k2 k3 k4
    go_wp2_with fail
    have e0 := K.setCell_heap (off := 0) (Y1.out) (.int .u64 (callR s o).1.v)
    have e1 := K.setCell_heap (off := 1) (e0) (.bool (callR s o).1.t)
    have e2 := K.setCell_heap (off := 2) (e1) (.slice A (callR s o).1.l.length c)
    have e3 := K.setCell_heap (off := 3) (e2) (.int .i64 (callR s o).1.e)
    have e4 : ((((wc.setCell ⟨b1, 0, none⟩ (.int .u64 (callR s o).1.v)).setCell ⟨b1, 1, none⟩ (.bool (callR s o).1.t)).setCell ⟨b1, 2, none⟩ (.slice A (callR s o).1.l.length c)).setCell ⟨b1, 3, none⟩ (.int .i64 (callR s o).1.e)).heap[b1]? = some (.cells #[.int .u64 (callR s o).1.v, .bool (callR s o).1.t, .slice A (callR s o).1.l.length c, .int .i64 (callR s o).1.e] 37 (0, 0)) := e3
    have hfs : Fr (fun i => i = b1) wc ((((wc.setCell ⟨b1, 0, none⟩ (.int .u64 (callR s o).1.v)).setCell ⟨b1, 1, none⟩ (.bool (callR s o).1.t)).setCell ⟨b1, 2, none⟩ (.slice A (callR s o).1.l.length c)).setCell ⟨b1, 3, none⟩ (.int .i64 (callR s o).1.e)) := Fr.setCell (S := fun i => i = b1) (p := ⟨b1, 3, none⟩) (Fr.setCell (S := fun i => i = b1) (p := ⟨b1, 2, none⟩) (Fr.setCell (S := fun i => i = b1) (p := ⟨b1, 1, none⟩) (Fr.setCell (S := fun i => i = b1) (p := ⟨b1, 0, none⟩) (Fr.refl _ wc) (.inl rfl) (.int .u64 (callR s o).1.v)) (.inl rfl) (.bool (callR s o).1.t)) (.inl rfl) (.slice A (callR s o).1.l.length c)) (.inl rfl) (.int .i64 (callR s o).1.e)
    refine bodyPost_ret (results_cell_row rfl _ _ b1 37 _ (0, 0) _ rfl e4 Try.underlying37 rfl (by kernel_rfl)) rfl ?_
    exact ⟨A, c, rfl, ⟨F1, HX.out.fr hfs (fun i hi q => hnb1 (q ▸ hi)), HG.out, fun k off e => ⟨(HO.out k off e).1, (HO.out k off e).2.1⟩⟩, row_fr HAT.out hfs (fun k off e q => (HO.out k off e).2.2 q), HF.out.trans hfs (fun i hi => .inr (by rw [hi]; exact hge1.out))⟩
end Go.Proofs.Ytdejbinmnoabeaa
namespace Go.Mine
def stepR (s : RM) (o : ROp) : RM := if o.l.length ≤ 40 then (callR s o).2 else s
def playR (l : List ROp) : RM := (l.take 60).foldl stepR RM.new
theorem RM.Ok.step {s : RM} (h : s.Ok) (o : ROp) : (stepR s o).Ok := by
  unfold stepR
  split
  · exact h.call o
  · exact h
end Go.Mine
namespace Go.Proofs.Ytdejbinmnoabeaa
open Go.RowKit Go.Mine Go.Proofs.YtdejbinmnoabeaaW.PrintWords
set_option linter.unusedVariables false
set_option linter.unusedSimpArgs false
def encOp (o : ROp) : List Value := [.int .i64 o.kind, .int .i64 o.work, .int .i64 o.key, .int .u64 o.val, .slice o.la o.l.length o.lc]
def OpsAt (w : World) (B : Nat) (A : Option Addr) (l : List ROp) : Prop :=
  ∀ i x, l[i]? = some x → ∃ b off, A = some ⟨b, off, none⟩ ∧ b < B ∧ (∀ j v, (encOp x)[j]? = some v → w.cell? ⟨b, off + i * 5 + j, none⟩ = some v) ∧ ChAt w B x.la x.l ∧ x.l.length ≤ x.lc
theorem OpsAt.below {w w' : World} {B : Nat} {A : Option Addr} {l : List ROp} (h : OpsAt w B A l) (hb : Below B w w') : OpsAt w' B A l := by
  intro i x hx
  obtain ⟨b, off, e, hlt, hc, h1, h2⟩ := h i x hx
  exact ⟨b, off, e, hlt, fun j v hv => (hb.cell (p := ⟨b, off + i * 5 + j, none⟩) hlt).trans (hc j v hv), Q.RowAt.below h1 hb, h2⟩
def St (B : Nat) (w : World) (b : Nat) (s : RM) : Prop := (∃ F, RAt F w b s ∧ ∀ i, F i → B ≤ i) ∧ B ≤ w.heap.size
theorem St.of {B : Nat} {F F' : Nat → Prop} {w w' : World} {b : Nat} {s : RM} (hB : B ≤ w.heap.size) (hF : ∀ i, F i → B ≤ i) (h : RAt F' w' b s) (hg : K.Grew F F' w) (hf : Fr F w w') : St B w' b s ∧ Below B w w' :=
  ⟨⟨⟨F', h, fun i hi => (hg i hi).elim (hF i) (fun q => Nat.le_trans hB q)⟩, Nat.le_trans hB hf.size⟩, hf.below hB (fun k hk q => by have := hF k q; omega)⟩
theorem St.below {B : Nat} {w w' : World} {b : Nat} {s : RM} (h : St B w b s) (hb : Below w.heap.size w w') : St B w' b s := by
  obtain ⟨⟨F, h1, h2⟩, h3⟩ := h
  exact ⟨⟨F, h1.below hb, h2⟩, Nat.le_trans h3 hb.size⟩
theorem RAt.ok {F : Nat → Prop} {w : World} {b : Nat} {s : RM} (h : RAt F w b s) : s.Ok := ⟨h.kok, h.qok⟩
theorem St.ok {B : Nat} {w : World} {b : Nat} {s : RM} (h : St B w b s) : s.Ok := by
  obtain ⟨⟨F, h1, h2⟩, h3⟩ := h
  exact h1.ok
theorem new_st (w : World) : Calls Try.prog 28 #[] w fun e w' => ∃ b, e = .returned (.pointer (some ⟨b, 0, none⟩)) ∧ St w.heap.size w' b RM.new ∧ Below w.heap.size w w' := by
  refine (new_any w).mono ?_
  rintro e w' ⟨rfl, rfl⟩
  exact ⟨_, rfl, ⟨⟨_, new_rat w, fun i hi => by rw [hi]; exact Nat.le_refl _⟩, by simp⟩, (Below.refl _ _).alloc (Nat.le_refl _) _⟩
theorem RowAt.block {α : Type} {f : α → List Value} {sz B : Nat} {w : World} {A : Option Addr} {l : List α} (h : Q.RowAt f sz w B A l) (hl : l ≠ []) {b off : Nat} (e : A = some ⟨b, off, none⟩) : b < B := by
  obtain ⟨x, hx⟩ : ∃ x, l[0]? = some x := ⟨_, List.getElem?_eq_getElem (List.length_pos_iff.2 hl)⟩
  obtain ⟨b', off', e', hlt, _⟩ := h 0 x hx
  rw [e] at e'
  cases e'
  exact hlt
theorem call_st {B : Nat} {w : World} {b : Nat} {s : RM} (h : St B w b s) (o : ROp) {B' : Nat} (hi : ChAt w B' o.la o.l) (hc : o.l.length ≤ o.lc) (hB : B' ≤ B) (hn : o.l.length ≤ 40) :
    Calls Try.prog 14 #[.pointer (some ⟨b, 0, none⟩), .agg #[.int .i64 o.kind, .int .i64 o.work, .int .i64 o.key, .int .u64 o.val, .slice o.la o.l.length o.lc]] w fun e w' => (∃ v, e = .returned v) ∧ St B w' b (callR s o).2 ∧ Below B w w' := by
  obtain ⟨⟨F, h1, h2⟩, h3⟩ := h
  refine (call_any h1 o (fun _ => ⟨Q.RowAt.up hi (by omega), fun hne b' off e hF => by have := RowAt.block hi hne e; have := h2 b' hF; omega, by omega, hc⟩)).mono ?_
  rintro e w' ⟨A, c, he, ⟨F', hk, hg, _⟩, _, hf⟩
  exact ⟨⟨_, he⟩, St.of h3 h2 hk hg hf⟩
set_option maxRecDepth 100000 in
set_option maxHeartbeats 2000000 in
theorem played_any (A : Option Addr) (l : List ROp) (c B : Nat) (w : World) (hB : B ≤ w.heap.size) (hl : OpsAt w B A l) :
    Calls Try.prog 20 #[.slice A l.length c] w fun e w' => ∃ b, e = .returned (.pointer (some ⟨b, 0, none⟩)) ∧ St w.heap.size w' b (playR l) ∧ Below w.heap.size w w' := by
  go_enter Try.func20, Try.ntmps20
  go_wp2_with fail
  refine (new_st w).mono ?_
  rintro e w1 ⟨b0, rfl, t1, f1⟩
  go_wp2_with fail
  go_loopg [4] 61 (fun m v wr => ∃ i : Nat, v = .int .i64 i ∧ i ≤ l.length ∧ i ≤ 60 ∧ m = 61 - i ∧ St w.heap.size wr b0 ((l.take i).foldl stepR RM.new) ∧ Below w.heap.size w wr)
  case atStart => exact ⟨0, rfl, Nat.zero_le _, Nat.zero_le _, rfl, t1, f1⟩
  case round =>
    obtain ⟨i, rfl, hi1, hi2, hm, ht, hf⟩ := hrel
    have HN := hid hm
    clear hm
    have hlr := hl.below (hf.mono hB)
    by_cases h1 : i < l.length
    · by_cases h2 : (i : Int) < 60
      · obtain ⟨x, hx⟩ : ∃ x, l[i]? = some x := ⟨_, List.getElem?_eq_getElem h1⟩
        obtain ⟨b, off, rfl, hb, hc, hch, hlc⟩ := hlr i x hx
        have k0 : wr.cell? ⟨b, off + i * 5, none⟩ = some (.int .i64 x.kind) := hc 0 _ rfl
        have k1 := hc 1 _ rfl
        have k2 := hc 2 _ rfl
        have k3 := hc 3 _ rfl
        have k4 : wr.cell? ⟨b, off + i * 5 + 4, none⟩ = some (.slice x.la x.l.length x.lc) := hc 4 _ rfl
        have hst : (l.take (i + 1)).foldl stepR RM.new = stepR ((l.take i).foldl stepR RM.new) x := by
          rw [List.take_succ_eq_append_getElem h1, List.foldl_append]
          have : l[i] = x := by rw [List.getElem?_eq_getElem h1] at hx; exact Option.some.inj hx
          simp [this]
        have HS := hid hst
        have HT := hid ht
        have HCH := hid hch
        generalize (l.take i).foldl stepR RM.new = cur at *
        clear hc hx hst hl hch hlr ht
        by_cases h40 : x.l.length ≤ 40
        · have h40' : (x.l.length : Int) ≤ 40 := by omega
          have HC := hid (call_st HT.out x HCH.out hlc hB h40)
          have HX := hid (show stepR cur x = (callR cur x).2 from by unfold stepR; rw [if_pos h40])
          go_wp2_with fail
          refine HC.out.mono ?_
          rintro e w3 ⟨⟨v, rfl⟩, t3, f3⟩
          go_wp2_with fail
          go_roundg (61 - (i + 1))
          case measure => rw [HN.out]; omega
          case rel => exact ⟨i + 1, by go_num, by omega, by omega, rfl, by rw [HS.out, HX.out]; exact t3, hf.trans f3⟩
        · have h40' : ¬ (x.l.length : Int) ≤ 40 := by omega
          have HX := hid (show stepR cur x = cur from by unfold stepR; rw [if_neg h40])
          go_wp2_with fail
          go_roundg (61 - (i + 1))
          case measure => rw [HN.out]; omega
          case rel => exact ⟨i + 1, by go_num, by omega, by omega, rfl, by rw [HS.out, HX.out]; exact HT.out, hf⟩
      · go_wp2_with fail
        go_ret
        have : i = 60 := by omega
        subst this
        exact ⟨_, rfl, ht, hf⟩
    · go_wp2_with fail
      go_ret
      have : i = l.length := by omega
      subst this
      refine ⟨_, rfl, ?_, hf⟩
      have e : l.take l.length = l.take 60 := by rw [List.take_of_length_le (Nat.le_refl _), List.take_of_length_le hi2]
      rw [e] at ht
      exact ht
end Go.Proofs.Ytdejbinmnoabeaa
