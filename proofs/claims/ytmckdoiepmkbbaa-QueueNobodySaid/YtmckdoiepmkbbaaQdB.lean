/- Walks of the document's queue: Values, drop, Taker. Conditions: the queue reads as DAt says. -/
import Derived.Test.YtmckdoiepmkbbaaQdA
namespace Go.Mine
set_option linter.unusedVariables false
set_option linter.unusedSimpArgs false
def takesIt (num : Int) (l : List Ch) : Bool := l.any (fun c => c.kind == 4 && c.key == num)
def takerW (num : Int) (ws : List (Int × KW)) : Int := ((ws.find? (fun x => takesIt num x.2.l)).map (·.1)).getD 0
end Go.Mine
namespace Go.Proofs.Ytmckdoiepmkbbaa
open Go.RowKit Go.Mine Go.Proofs.YtmckdoiepmkbbaaW.PrintWords
set_option linter.unusedVariables false
set_option linter.unusedSimpArgs false
theorem info59 : (Try.prog.info? 59).map (fun i => (i.zero, i.size, i.bytes)) = some (some (.pointer none), 1, 8) := by kernel_rfl
theorem info85 : (Try.prog.info? 85).map (fun i => (i.zero, i.size, i.bytes)) = some (some (.agg #[.int .i64 0, .int .u64 0]), 2, 16) := by kernel_rfl
set_option maxRecDepth 100000 in
set_option maxHeartbeats 2000000 in
theorem dvalues_any {F : Nat → Prop} {w : World} {b : Nat} {s : QS} (h : DAt F w b s) (hn : s.its.length ≤ 100000) :
    Calls Try.prog 25 #[.pointer (some ⟨b, 0, none⟩)] w fun e w' => ∃ v, e = .returned v ∧ FR eU 28 w' v (s.its.map (·.val)) ∧ (∀ k, v.ownBlock = some k → w.heap.size ≤ k) ∧ Below w.heap.size w w' := by
  obtain ⟨I, iv, qv, hR, hws⟩ := h
  have hc : w.cell? ⟨b, 0, none⟩ = some iv := by rw [cell_of_row w b 0 _ _ _ hR.blk]; rfl
  obtain ⟨A, c, rfl, hAc, hat⟩ := hR.it.at_
  have HAT : Hid (RowAt encD 2 w w.heap.size A s.its) := hid hat
  clear hat hR hws
  go_enter Try.func25, Try.ntmps25
  go_wp2_with fail
  go_loopg [3, 4] (s.its.length + 1) (fun m v3 v13 wr => ∃ i : Nat, v13 = .int .i64 i ∧ i ≤ s.its.length ∧ m = s.its.length + 1 - i ∧ eU.kd.R 28 wr w.heap.size (fun _ => True) v3 ((s.its.map (·.val)).take i) ∧ Below w.heap.size w wr)
  case atStart => exact ⟨0, rfl, Nat.zero_le _, rfl, Kd.R_nil _ _ _ _ _, Below.refl _ _⟩
  case round =>
    obtain ⟨i, rfl, hi, hm, hv, hb⟩ := hrel
    have HN := hid hm
    have hcr : wr.cell? ⟨b, 0, none⟩ = some (.slice A s.its.length c) := (hb.cell (World.block_lt_of_cell? _ _ hc)).trans hc
    clear hm
    by_cases h1 : i < s.its.length
    · obtain ⟨x, hx⟩ : ∃ x, s.its[i]? = some x := ⟨_, List.getElem?_eq_getElem h1⟩
      obtain ⟨b', off, rfl, hbb, hcc⟩ := (HAT.out.below hb) i x hx
      have k0 : wr.cell? ⟨b', off + i * 2, none⟩ = some (.int .i64 x.num) := hcc 0 _ rfl
      have k1 : wr.cell? ⟨b', off + i * 2 + 1, none⟩ = some (.int .u64 x.val) := hcc 1 _ rfl
      have hst : (s.its.map (·.val)).take (i + 1) = (s.its.map (·.val)).take i ++ [x.val] := by
        have hl : i < (s.its.map (·.val)).length := by rw [List.length_map]; exact h1
        rw [List.take_succ_eq_append_getElem hl]
        congr 2
        have := (List.getElem?_eq_some_iff.1 hx).2
        simp [this]
      have hlt : ((s.its.map (·.val)).take i).length ≤ 100000 := by rw [List.length_take, List.length_map]; omega
      obtain ⟨A3, c3, hv3⟩ := Kd.R_slice hv
      subst hv3
      have HST := hid hst
      have HV2 := hid hv
      have HBW := hid hb
      have hsz : w.heap.size ≤ wr.heap.size := hb.size
      clear hcc hx hst hv
      generalize (s.its.map (·.val)).take i = xs at *
      go_wp2_with (at_builtin; go_loud (refine Kd.R_append eU.kd (w0 := w) w.heap.size rfl (.tmp 14) (.tmp 23) 22 28 _ 8 rfl Try.underlying22 info28 (by rfl) (by decide) (by decide) (.slice A3 xs.length c3) xs x.val [.int .u64 x.val] (fun _ => True) (fun _ => False) rfl (by first | rfl | (simp; rfl)) rfl (fun _ q => q.elim) (fun _ _ => trivial) HV2.out HBW.out hsz (by omega) ?_); intro v8 w8 ho8 hb8 hg8 hat8; have HO8 := hid ho8; have HB8 := hid hb8; clear ho8 hb8 hg8 hat8)
      go_roundg (s.its.length + 1 - (i + 1))
      case measure => rw [HN.out]; omega
      case rel => exact ⟨i + 1, by go_num, by omega, rfl, by rw [HST.out]; exact HO8.out, HB8.out⟩
    · have : i = s.its.length := by omega
      subst this
      have hq : (s.its.map (·.val)).take s.its.length = s.its.map (·.val) := List.take_of_length_le (by simp)
      rw [hq] at hv
      have HV := hid hv
      go_wp2_with fail
      go_ret
      exact ⟨_, rfl, Kd.R_lower HV.out (Nat.zero_le _), Kd.R_base HV.out, hb⟩
def DPost (F : Nat → Prop) (w : World) (b : Nat) (r : Value) (s' : QS) (e : Ending) (w' : World) : Prop :=
  e = .returned r ∧ (∃ F', DAt F' w' b s' ∧ Grew F F' w) ∧ Fr F w w'
set_option maxRecDepth 100000 in
set_option maxHeartbeats 4000000 in
theorem ddrop_any {F : Nat → Prop} {w : World} {b : Nat} {s : QS} (h : DAt F w b s) (hn : s.ws.length ≤ 1000) (n : Int) :
    Calls Try.prog 57 #[.pointer (some ⟨b, 0, none⟩), .int .i64 n] w (DPost F w b (.tuple #[]) ⟨s.its, adel n s.ws, s.gv⟩) := by
  obtain ⟨I, iv, qv, hR, hws⟩ := h
  have hIl : I.length ≤ 1000 := by rw [hws] at hn; simpa [wsOf] using hn
  have hc : w.cell? ⟨b, 1, none⟩ = some qv := by rw [cell_of_row w b 1 _ _ _ hR.blk]; rfl
  obtain ⟨A, c, hqv, hAc, hat⟩ := hR.wp.at_
  rw [hqv] at hc
  have HR := hid hR
  have HAT := hid hat
  have HWS := hid hws
  clear hat hR hws hqv
  go_enter Try.func57, Try.ntmps57
  go_wp2_with fail
  go_loopg [4, 5] (I.length + 1) (fun m v4 v5 wr => ∃ i : Nat, v5 = .int .i64 i ∧ i ≤ I.length ∧ m = I.length + 1 - i ∧ eWI.kd.R 59 wr w.heap.size (fun _ => True) v4 ((I.take i).filter (fun x => !(x.n == n))) ∧ Below w.heap.size w wr)
  case atStart => exact ⟨0, rfl, Nat.zero_le _, rfl, Kd.R_nil _ _ _ _ _, Below.refl _ _⟩
  case round =>
    obtain ⟨i, rfl, hi, hm, hv, hb⟩ := hrel
    have HN := hid hm
    have HB := hid hb
    have hcr : wr.cell? ⟨b, 1, none⟩ = some (.slice A I.length c) := (hb.cell (World.block_lt_of_cell? _ _ hc)).trans hc
    obtain ⟨A3, c3, hv3⟩ := Kd.R_slice hv
    subst hv3
    have HV := hid hv
    clear hm hv
    by_cases h1 : i < I.length
    · obtain ⟨x, hx⟩ : ∃ x, I[i]? = some x := ⟨_, List.getElem?_eq_getElem h1⟩
      obtain ⟨b', off, rfl, hbb, hcc⟩ := (HAT.out.below hb) i x hx
      have k0 : wr.cell? ⟨b', off + i, none⟩ = some (ptrV x.wb) := by have := hcc 0 _ rfl; simpa [eWI] using this
      have hw1 := (HR.out.wk x (List.mem_of_getElem? hx)).2.1
      have hw2 : w.cell? ⟨x.wb, 0, none⟩ = some (.int .i64 x.n) := by rw [cell_of_row _ _ 0 _ _ _ hw1]; rfl
      have k1 : wr.cell? ⟨x.wb, 0, none⟩ = some (.int .i64 x.n) := (hb.cell (World.block_lt_of_cell? _ _ hw2)).trans hw2
      have htk : I.take (i + 1) = I.take i ++ [x] := by
        rw [List.take_succ_eq_append_getElem h1]
        have : I[i] = x := by rw [List.getElem?_eq_getElem h1] at hx; exact Option.some.inj hx
        rw [this]
      have hdl : ((I.take i).filter (fun x => !(x.n == n))).length ≤ 1000 := by
        have := List.length_filter_le (fun x : WI => !(x.n == n)) (I.take i)
        rw [List.length_take] at this
        omega
      have hsz : w.heap.size ≤ wr.heap.size := hb.size
      have hfd : (I.take (i + 1)).filter (fun x => !(x.n == n)) = (I.take i).filter (fun x => !(x.n == n)) ++ (if (x.n == n) then [] else [x]) := by
        rw [htk, List.filter_append]
        congr 1
        cases hq : (x.n == n) <;> simp [hq] <;> simpa using hq
      have HFD := hid hfd
      clear hcc hx htk hw1 hw2 hb hfd
      generalize ((I.take i).filter (fun x => !(x.n == n))) = xs at *
      cases qe : (x.n == n)
      · have qe' : (x.n != n) = true := by unfold bne; rw [qe]; rfl
        go_wp2_with (at_builtin; go_loud (refine Kd.R_append eWI.kd (w0 := w) w.heap.size rfl (.tmp 27) (.tmp 35) 53 59 _ 8 rfl Try.underlying53 info59 (by rfl) (by decide) (by decide) (.slice A3 xs.length c3) xs x [ptrV x.wb] (fun _ => True) (fun _ => False) rfl (by first | rfl | (simp; rfl)) rfl (fun _ q => q.elim) (fun _ _ => trivial) HV.out HB.out hsz (by omega) ?_); intro v7 w7 ho7 hb7 hg7 hat7; have HO7 := hid ho7; have HB7 := hid hb7; clear ho7 hb7 hg7 hat7)
        go_roundg (I.length + 1 - (i + 1))
        case measure => rw [HN.out]; omega
        case rel => exact ⟨i + 1, by go_num, by omega, rfl, by rw [HFD.out, qe]; exact HO7.out, HB7.out⟩
      · have qe' : (x.n != n) = false := by unfold bne; rw [qe]; rfl
        go_wp2_with fail
        go_roundg (I.length + 1 - (i + 1))
        case measure => rw [HN.out]; omega
        case rel => exact ⟨i + 1, by go_num, by omega, rfl, by rw [HFD.out, qe]; simpa using HV.out, HB.out⟩
    · have hil : i = I.length := by omega
      subst hil
      have ht : (I.take I.length).filter (fun x => !(x.n == n)) = I.filter (fun x => !(x.n == n)) := by rw [List.take_length]
      rw [ht] at HV ⊢
      obtain ⟨xs, hxs⟩ : ∃ xs, xs = I.filter (fun x => !(x.n == n)) := ⟨_, rfl⟩
      rw [← hxs] at HV ⊢
      have HT := hid hxs
      clear ht hxs
      have hRr := HR.out.below HB.out
      have hblk := hRr.blk
      have hz : wr.frozen? ⟨b, 1, none⟩ = false := by simp [World.frozen?, hblk]
      have hro := Kd.R_base HV.out
      have hrw : FR eWI 59 wr (.slice A3 xs.length c3) (I.filter (fun x => !(x.n == n))) := by rw [← HT.out]; exact Kd.R_lower HV.out (Nat.zero_le _)
      have hf1 : Fr (fun i => i = b) wr (wr.setCell ⟨b, 1, none⟩ (.slice A3 xs.length c3)) := Fr.setCell (S := fun i => i = b) (p := ⟨b, 1, none⟩) (Fr.refl _ wr) (.inl rfl) _
      have hb1 : (wr.setCell ⟨b, 1, none⟩ (.slice A3 xs.length c3)).heap[b]? = some (.cells #[iv, .slice A3 xs.length c3, .int .i64 s.gv] 55 (0, 0)) := blk_set' hblk 1 _
      have hi1 : FR eD 85 (wr.setCell ⟨b, 1, none⟩ (.slice A3 xs.length c3)) iv s.its := hRr.it.move (fun k hk => hf1.block k (hRr.it.lt hk) (fun q => hRr.iv_ne.1 (by rw [hk, q])))
      have hq1 : FR eWI 59 (wr.setCell ⟨b, 1, none⟩ (.slice A3 xs.length c3)) (.slice A3 xs.length c3) (I.filter (fun x => !(x.n == n))) := hrw.move (fun k hk => hf1.block k (hrw.lt hk) (fun q => hrw.ne hblk (by decide) (by rw [hk, q])))
      have hFb : b < w.heap.size := HR.out.fb _ HR.out.bF
      have hfall : Fr (fun i => i = b) w (wr.setCell ⟨b, 1, none⟩ (.slice A3 xs.length c3)) := ((Fr.of_below HB.out (Nat.le_refl _)).mono (fun _ q => q.elim)).trans hf1 (fun i hi => .inl hi)
      have hfin := HR.out.turn (hfall.mono (fun i hi => .inl hi)) hb1 hi1 hq1 List.filter_sublist (fun j hj => .inl hj) (fun j hj => .inr (hro j hj))
      have HFIN := hid hfin
      have HFALL := hid hfall
      clear hRr hblk hro hrw hf1 hb1 hi1 hq1 hfin hfall
      go_wp2_with fail
      go_end0
      exact ⟨rfl, ⟨_, ⟨_, _, _, HFIN.out, by rw [← adel_wsOf, ← HWS.out]⟩, grew_more _ _ _⟩, HFALL.out.mono (fun i (hi : i = b) => by rw [hi]; exact HR.out.bF)⟩
end Go.Proofs.Ytmckdoiepmkbbaa
