/- Walks of the store of keys: Commit. Conditions: the store reads as KvAt says. -/
import Derived.Test.YtekebjcknhjceaaKvW5
import Derived.BigRegion
namespace Go.Mine
theorem setVs_keep : ∀ (l : List Ch) (s : KS), (l.foldl setV s).ws = s.ws ∧ (l.foldl setV s).lk = s.lk
  | [], _ => ⟨rfl, rfl⟩
  | c :: cs, s => setVs_keep cs (setV s c)
theorem commit_low {s : KS} {n : Int} (h : n < 1) : s.commit n = (1, s) := by simp [KS.commit, h]
theorem commit_do {s : KS} {n : Int} (h : ¬ n < 1) : s.commit n = (0, ((s.listOf n).foldl setV s).gone n) := by simp [KS.commit, h]
end Go.Mine
namespace Go.Proofs.Ytekebjcknhjceaa
open Go.RowKit Go.Mine Go.Proofs.YtekebjcknhjceaaW.PrintWords
open Go.ChangeMaps (setBlock)
set_option linter.unusedVariables false
set_option linter.unusedSimpArgs false

set_option maxRecDepth 100000 in
set_option maxHeartbeats 4000000 in
theorem commit_any {F : Nat → Prop} {w : World} {b0 : Nat} {s : KS} (h : KvAt F w b0 s) (n : Int) :
    Calls Try.prog 16 #[.pointer (some ⟨b0, 0, none⟩), .int .i64 n] w (SPost F w b0 (s.commit n).1 (s.commit n).2) := by
  have hgone := gone_any h n
  have hat := h
  obtain ⟨hok, I, L, mo, lo, h, hws⟩ := h
  have hl := run_lookupO Try.underlying64 key3 h.map (zero77 w) n false
  simp only [Bool.false_eq_true, if_false] at hl
  rw [mget_ws h n] at hl
  have hg := aget_ws n I
  rw [← hws] at hg
  have hc : w.cell? ⟨b0, 32, none⟩ = some (.map mo) := by rw [cell_of_row w b0 32 _ _ _ h.blk]; exact sc32 h.lv h.lth mo lo
  have HOK := hid hok
  have HW := hid hws
  have HAT := hid hat
  have HGN := hid hgone
  have H := hid h
  clear hok hws hat hgone h
  go_enter Try.func16, Try.ntmps16
  go_wp2_with fail
  refine (fit_any _ _ _).mono ?_
  rintro e w1 ⟨rfl, rfl⟩
  by_cases hn : n < 1
  · have HE := hid (commit_low (s := s) hn)
    simp only [reduceCtorEq, if_false, hn, if_true]
    go_wp2_with fail
    go_ret
    exact ⟨by rw [HE.out]; rfl, ⟨F, by rw [HE.out]; exact HAT.out, Grew.refl _ _⟩, Fr.refl _ _⟩
  · simp only [reduceCtorEq, if_false, hn]
    have HE := hid (commit_do (s := s) hn)
    clear hn
    cases hf : I.find? (fun x => decide (x.n = n)) with
    | none =>
      rw [hf] at hl hg
      simp only [Option.map_none, Option.getD_none] at hl hg
      have hlo : s.listOf n = [] := by simp [KS.listOf, hg]
      have HLO := hid hlo
      clear hf hg hlo
      go_wp2_with fail
      refine HGN.out.mono ?_
      rintro e w2 ⟨rfl, h2, f2⟩
      go_wp2_with fail
      go_ret
      exact ⟨by rw [HE.out]; rfl, by rw [HE.out, HLO.out]; exact h2, f2⟩
    | some x =>
      obtain ⟨I1, I2, hI, hxn⟩ := find_split hf
      have hxI : x ∈ I := by rw [hI]; simp
      have hx := H.out.wk x hxI
      rw [hf] at hl hg
      simp only [Option.map_some, Option.getD_some] at hl hg
      have hlo : s.listOf n = x.l := by simp [KS.listOf, hg]
      have hcl : w.cell? ⟨x.wb, 0, none⟩ = some x.v := by rw [cell_of_row w x.wb 0 _ _ _ hx.2.1]; rfl
      obtain ⟨A, c, hv, hAc, hch⟩ := hx.2.2.1.at_
      have hrw : RW x.l := HOK.out.chs _ (aget_mem hg)
      have hlen := hrw.len
      have hne : ∀ b off, A = some ⟨b, off, none⟩ → b ≠ b0 := by
        intro b off he
        have : x.v.ownBlock = some b := by rw [hv, he]; rfl
        exact (H.out.row_ne hxI this).1
      rw [hv] at hcl
      have HRW := hid hrw
      have HCH := hid hch
      have HNE := hid hne
      rw [hlo] at HE
      clear hf hg hx hv hrw hch hlo hI hne hxI HGN
      go_wp2_with fail
      go_loopg [29] (x.l.length + 1) (fun m v wr => ∃ i : Nat, v = .int .i64 i ∧ i ≤ x.l.length ∧ m = x.l.length + 1 - i ∧ KvR F wr b0 ((x.l.take i).foldl setV s).vs ((x.l.take i).foldl setV s).th s.lk I L mo lo ∧ Fr (fun j => j = b0) w wr)
      case atStart => exact ⟨0, rfl, Nat.zero_le _, rfl, H.out, Fr.refl _ _⟩
      case round =>
        obtain ⟨i, rfl, hi, hm, hR, hfr⟩ := hrel
        have HN := hid hm
        have HR := hid hR
        clear hm hR
        by_cases h1 : i < x.l.length
        · obtain ⟨y, hy⟩ : ∃ y, x.l[i]? = some y := ⟨_, List.getElem?_eq_getElem h1⟩
          obtain ⟨b, off, hA, hb1, hcc⟩ := HCH.out i y hy
          have hbn := HNE.out b off hA
          subst hA
          have k0 : wr.cell? ⟨b, off + i * 3, none⟩ = some (.int .i64 y.kind) := hfr.cell (hcc 0 _ rfl) hbn
          have k1 := hfr.cell (hcc 1 _ rfl) hbn
          have k2 := hfr.cell (hcc 2 _ rfl) hbn
          have hyk := (chOk_iff y).1 (HRW.out.1 y (List.mem_of_getElem? hy))
          obtain ⟨k, hk⟩ := Int.eq_ofNat_of_zero_le hyk.2.1
          have hk16 : (k : Int) < 16 := by rw [← hk]; exact hyk.2.2
          have hk0 : (0 : Int) ≤ k := by omega
          rw [hk] at k1
          have htk : x.l.take (i + 1) = x.l.take i ++ [y] := by
            rw [List.take_succ_eq_append_getElem h1]
            have : x.l[i] = y := by rw [List.getElem?_eq_getElem h1] at hy; exact Option.some.inj hy
            rw [this]
          have HTK := hid htk
          have HK := hid hk
          clear hcc hy hyk htk hk
          go_wp2_with fail
          have HRa := hid (HR.out.fr ((Fr.refl (fun _ => False) wr).alloc (.cells #[.int .i64 y.kind, .int .i64 k, .int .u64 y.val] 60)) (fun _ _ => id))
          have hfa := hfr.alloc (.cells #[.int .i64 y.kind, .int .i64 k, .int .u64 y.val] 60)
          have hbx : (wr.alloc (.cells #[.int .i64 y.kind, .int .i64 k, .int .u64 y.val] 60)).heap[wr.heap.size]? = some (.cells #[.int .i64 y.kind, .int .i64 k, .int .u64 y.val] 60 (0, 0)) := (MapKept.heap_alloc wr _).1
          have hb0n : b0 ≠ wr.heap.size := by have := HR.out.fb _ HR.out.b; omega
          clear k0 k1 k2 HR hfr
          generalize wr.alloc (.cells #[.int .i64 y.kind, .int .i64 k, .int .u64 y.val] 60) = wz at *
          have k0 : wz.cell? ⟨wr.heap.size, 0, none⟩ = some (.int .i64 y.kind) := by rw [cell_of_row wz _ 0 _ _ _ hbx]; rfl
          have k1 : wz.cell? ⟨wr.heap.size, 1, none⟩ = some (.int .i64 k) := by rw [cell_of_row wz _ 1 _ _ _ hbx]; rfl
          have k2 : wz.cell? ⟨wr.heap.size, 2, none⟩ = some (.int .u64 y.val) := by rw [cell_of_row wz _ 2 _ _ _ hbx]; rfl
          obtain ⟨q0, q1⟩ := HRa.out.bcells k (by omega)
          have z0 : wz.frozen? ⟨b0, k, none⟩ = false := by simp [World.frozen?, HRa.out.blk]
          have z1 : wz.frozen? ⟨b0, 16 + k, none⟩ = false := by simp [World.frozen?, HRa.out.blk]
          have e1 := blk_set HRa.out.blk k (.int .u64 y.val)
          rw [setv HRa.out.lv HRa.out.lth _ _ k (by omega)] at e1
          have e2 := blk_set e1 (16 + k) (.bool (y.kind == 1))
          rw [sett (by simp [HRa.out.lv]) HRa.out.lth _ _ k (by omega)] at e2
          have fz : Fr (fun j => j = b0) wz (((wz.setCell ⟨b0, k, none⟩ (.int .u64 y.val)).setCell ⟨b0, 16 + k, none⟩ (.bool (y.kind == 1))).drew) := (Fr.setCell (S := fun j => j = b0) (p := ⟨b0, 16 + k, none⟩) (Fr.setCell (S := fun j => j = b0) (p := ⟨b0, k, none⟩) (Fr.refl _ wz) (.inl rfl) _) (.inl rfl) _).drew
          have hV := HRa.out.vals fz (by simp [HRa.out.lv]) (by simp [HRa.out.lth]) (show (((wz.setCell ⟨b0, k, none⟩ (.int .u64 y.val)).setCell ⟨b0, 16 + k, none⟩ (.bool (y.kind == 1))).drew).heap[b0]? = _ from e2)
          have hsv : (x.l.take (i + 1)).foldl setV s = setV ((x.l.take i).foldl setV s) y := by rw [HTK.out, List.foldl_append]; rfl
          have HSV := hid hsv
          have HV := hid hV
          have hff := hfa.trans fz (fun j hj => .inl hj)
          have HFF := hid hff
          clear e1 e2 hV hsv fz hff
          go_region
          all_goals
            go_wp2_with fail
            go_roundg (x.l.length + 1 - (i + 1))
            case measure => rw [HN.out]; omega
            case rel =>
              refine ⟨i + 1, by go_num, by omega, rfl, ?_, HFF.out⟩
              rw [HSV.out]
              have hkk : y.key.toNat = k := by rw [HK.out]; rfl
              simp only [setV, hkk]
              exact HV.out
        · have : i = x.l.length := by omega
          subst this
          rw [List.take_length] at HR
          have hk2 := setVs_keep x.l s
          have hok2 := KS.Ok.setVs x.l HOK.out (fun c hc => HRW.out.1 c hc)
          have hat2 : KvAt F wr b0 (x.l.foldl setV s) := ⟨hok2, I, L, mo, lo, by rw [hk2.2]; exact HR.out, by rw [hk2.1]; exact HW.out⟩
          have hgn := hid (gone_any hat2 n)
          have hfF : Fr F w wr := hfr.mono (fun j hj => by rw [hj]; exact H.out.b)
          clear hk2 hok2 hat2 hc hl
          go_wp2_with fail
          refine hgn.out.mono ?_
          rintro e w2 ⟨rfl, ⟨F', h2, g2⟩, f2⟩
          go_wp2_with fail
          go_ret
          exact ⟨by rw [HE.out]; rfl, ⟨F', by rw [HE.out]; exact h2, fun j hj => (g2 j hj).imp id (fun q => Nat.le_trans hfF.size q)⟩, hfF.trans f2 (fun j hj => .inl hj)⟩
end Go.Proofs.Ytekebjcknhjceaa
