/- PshCut: its call. -/
import Derived.Test.YtfndcfffbpbbhaaQPo
import Derived.Test.YtfndcfffbpbbhaaQx13
import Derived.Test.YtfndcfffbpbbhaaQAl
import Derived.Test.YtfndcfffbpbbhaaQByteRow
namespace Go.Proofs.Ytfndcfffbpbbhaa.Q
open Go.RowKit Go.Mine Go.Proofs.YtfndcfffbpbbhaaW.PrintWords Go.Proofs.YtfndcfffbpbbhaaW.PrintLast Go.Proofs.YtfndcfffbpbbhaaW.PrintMore
set_option linter.unusedVariables false
set_option linter.unusedSimpArgs false
theorem cut_read {a b c d : Int} {m : Bool} {x y : Int} {A : Option Addr} {cp : Nat} {w : World} {k : Nat} (hr : rightM a b c d m x y = true) (hx : U32b x) (hy : U32b y)
    (hC : Kd.C (Kd.int .u8) w A (frameM a b c d m x y).length (frameM a b c d m x y)) (hc : (frameM a b c d m x y).length ≤ cp) (hk : k < (frameM a b c d m x y).length) :
    Calls Try.prog 15 #[.slice A k cp] w fun e w' => e = .returned (.tuple #[.agg #[.int .i64 0, .int .i64 0, .int .u32 0, .int .u32 0, .bool false, .int .u32 0, .int .u32 0], .int .i64 11]) ∧ Below w.heap.size w w' := by
  have hl : ((frameM a b c d m x y).take k).length = k := by rw [List.length_take]; omega
  have := psh_Read.calls A cp ((frameM a b c d m x y).take k) _ _ _ _ _ _ _ _ w (Kd.C_take hC (by omega)) (by omega) (read_cut_short hr hx hy hk)
  rwa [hl] at this
set_option maxRecDepth 100000 in
set_option maxHeartbeats 8000000 in
theorem cut_walk (a b c d : Int) (m : Bool) (x y cut : Int) (A : Option Addr) (cp : Nat) (l : List Int) (w : World) (h : U32b c ∧ U32b d ∧ U32b x ∧ U32b y)
    (hr : Go.Mine.RowR (fun _ y cs => cs = [Value.int .u8 y] ∧ (Lit.int .u8 y).wf = true) w w.heap.size 1 A l) (hz : l.length ≤ 9223372036854775807) (hc : l.length ≤ cp) :
    Calls Try.prog 6 #[.agg #[.int .i64 a, .int .i64 b, .int .u32 c, .int .u32 d, .bool m, .int .u32 x, .int .u32 y], .int .i64 cut, .slice A l.length cp] w fun e w' => e = .returned (.bool true) ∧ Below w.heap.size w w' := by
  obtain ⟨hC, hB⟩ := bytes_of hr hz
  have hwr := psh_write_eq (a := a) (b := b) (c := c) (d := d) (m := m) h.2.2.1 h.2.2.2
  have HC := Aside0.mk hC
  have HBY := Aside0.mk hB
  have HU := Aside0.mk h
  clear hr hC hB h
  have hba : Below w.heap.size w (w.alloc (.cells #[.int .i64 a, .int .i64 b, .int .u32 c, .int .u32 d, .bool m, .int .u32 x, .int .u32 y] 26)) := (Below.refl _ _).alloc (Nat.le_refl _) _
  by_cases hright : rightM a b c d m x y = true
  · rw [if_pos hright] at hwr
    have HR := Aside0.mk hright
    have HW := Aside0.mk hwr
    clear hright hwr
    go_enter Try.func6, Try.ntmps6
    go_wp2_with fail
    generalize hwb : w.alloc (.cells #[.int .i64 a, .int .i64 b, .int .u32 c, .int .u32 d, .bool m, .int .u32 x, .int .u32 y] 26) = wb at *
    clear hwb
    refine (psh_Write.calls _ _ _ _ _ _ _ _ _ _ HW.out).mono ?_
    rintro e w1 ⟨v, rfl, ho, hb⟩
    obtain ⟨A1, c1, rfl, hc1, hC1⟩ := Kd.R_reads ho
    have hb1 := hba.trans (hb.mono hba.size)
    have HO := Aside0.mk ho
    have HC1 := Aside0.mk hC1
    clear ho hC1 hb hba HW
    by_cases hl1 : 1000 < l.length
    · go_wp2_with fail
      refine (trothlaw06_alive.calls true _ alive6).mono ?_
      rintro e w2 ⟨rfl, hb2⟩
      go_wp2_with fail
      go_ret
      exact ⟨rfl, hb1.trans (hb2.mono hb1.size)⟩
    · by_cases hl0 : 0 < l.length
      · have hlen := data_len a b c d m x y
        have hfl : (frameM a b c d m x y).length ≤ 14 := by
          have : (frameM a b c d m x y).length = (dataM a b c d m x y).length + 4 := by simp [frameM]
          rw [this, hlen]
          split <;> (try split) <;> omega
        have hcp : trothref01_Copy.f (frameM a b c d m x y) = some (frameM a b c d m x y) := by
          unfold trothref01_Copy.f
          rw [if_pos (by simp only [List.length_nil]; omega), List.nil_append]
        have HCP := Aside0.mk (trothref01_Copy.calls A1 c1 (frameM a b c d m x y) _ w1 HC1.out hc1 hcp)
        clear hcp hlen
        go_wp2_with fail
        refine HCP.out.mono ?_
        rintro e w2 ⟨v2, rfl, ho2, hb2⟩
        obtain ⟨A2, c2, rfl, hc2, hC2⟩ := Kd.R_reads ho2
        have hCl2 := Kd.C_below HC.out (hb1.trans (hb2.mono hb1.size))
        have HC2 := Aside0.mk hCl2
        have HO2 := Aside0.mk ho2
        clear ho2 hC2 hCl2
        have hll : ((frameM a b c d m x y).length + l.length) * 1 ≤ 140737488351232 := by omega
        have HLL := Aside0.mk hll
        have HB2 := Aside0.mk hb2
        have HB1 := Aside0.mk hb1
        clear hll hb2 hb1
        go_wp2_with (first | ((with_reducible refine gate_builtin (b := .append) (xs := #[.tmp 31, .tmp 32]) rfl ?_); at_builtin; refine Kd.R_append_rows (Kd.int .u8) (w0 := w1) w1.heap.size rfl (.tmp 31) (.tmp 32) 27 5 (.int .u8 0) 1 rfl Try.underlying27 info5 rfl (by decide) (by omega) (.slice A2 (frameM a b c d m x y).length c2) (frameM a b c d m x y) l A l.length cp (fun _ => True) (fun _ => False) rfl rfl HO2.out HC2.out (fun _ _ h => h) (fun _ h => h.elim) (fun _ _ => trivial) HB2.out HB2.out.size (by have := HLL.out; omega) ?_; intro v3 w3 ho3 hb3 hg3 hat3; obtain ⟨A3, c3, hv3, hc3, hC3⟩ := Kd.R_reads ho3; subst hv3; have hrd := psh_Read.calls A3 c3 (frameM a b c d m x y ++ l) _ _ _ _ _ _ _ _ w3 hC3 hc3 (read_more HR.out HU.out.2.2.1 HU.out.2.2.2 (fun z hz => HBY.out z hz) hl0 (by omega)); rw [List.length_append] at hrd hc3; have HRD := Aside0.mk hrd; have HB3 := Aside0.mk hb3; clear ho3 hb3 hg3 hat3 hC3 hrd; rw [List.length_append]))
        refine HRD.out.mono ?_
        rintro e w4 ⟨rfl, hb4⟩
        have hbw := HB3.out.trans (hb4.mono HB3.out.size)
        have hbv := hbw.alloc hbw.size (.cells #[.int .i64 0, .int .i64 0, .int .u32 0, .int .u32 0, .bool false, .int .u32 0, .int .u32 0] 26)
        have hb5 := HB1.out.trans (hbv.mono HB1.out.size)
        have hCz := Kd.C_below HC1.out hbv
        have HCZ := Aside0.mk hCz
        clear hb4 hbw hbv hCz HRD HCP HB1 HB2 HB3 HO2 HC2
        by_cases hk0 : cut < 0
        · go_wp2_with fail
          refine (trothlaw06_alive.calls true _ alive6).mono ?_
          rintro e w2 ⟨rfl, hb2⟩
          go_wp2_with fail
          go_ret
          exact ⟨rfl, hb5.trans (hb2.mono hb5.size)⟩
        · obtain ⟨k, rfl⟩ := Int.eq_ofNat_of_zero_le (show 0 ≤ cut by omega)
          by_cases hk1 : k < (frameM a b c d m x y).length
          · have hrd := cut_read HR.out HU.out.2.2.1 HU.out.2.2.2 HCZ.out hc1 hk1
            have HRD := Aside0.mk hrd
            clear hrd
            go_wp2_with fail
            refine HRD.out.mono ?_
            rintro e w2 ⟨rfl, hb2⟩
            have hb3 := hb5.trans (hb2.mono hb5.size)
            clear HRD hb2
            go_wp2_with fail
            have hb4 := hb3.alloc hb3.size (.cells #[.int .i64 0, .int .i64 0, .int .u32 0, .int .u32 0, .bool false, .int .u32 0, .int .u32 0] 26)
            refine (trothlaw06_alive.calls true _ alive6).mono ?_
            rintro e w3 ⟨rfl, hb5⟩
            go_wp2_with fail
            go_ret
            exact ⟨rfl, hb4.trans (hb5.mono hb4.size)⟩
          · go_wp2_with fail
            refine (trothlaw06_alive.calls true _ alive6).mono ?_
            rintro e w2 ⟨rfl, hb2⟩
            go_wp2_with fail
            go_ret
            exact ⟨rfl, hb5.trans (hb2.mono hb5.size)⟩
      · by_cases hk0 : cut < 0
        · go_wp2_with fail
          refine (trothlaw06_alive.calls true _ alive6).mono ?_
          rintro e w2 ⟨rfl, hb2⟩
          go_wp2_with fail
          go_ret
          exact ⟨rfl, hb1.trans (hb2.mono hb1.size)⟩
        · obtain ⟨k, rfl⟩ := Int.eq_ofNat_of_zero_le (show 0 ≤ cut by omega)
          by_cases hk1 : k < (frameM a b c d m x y).length
          · have hrd := cut_read HR.out HU.out.2.2.1 HU.out.2.2.2 HC1.out hc1 hk1
            have HRD := Aside0.mk hrd
            clear hrd
            go_wp2_with fail
            refine HRD.out.mono ?_
            rintro e w2 ⟨rfl, hb2⟩
            have hb3 := hb1.trans (hb2.mono hb1.size)
            clear HRD hb2
            go_wp2_with fail
            have hb4 := hb3.alloc hb3.size (.cells #[.int .i64 0, .int .i64 0, .int .u32 0, .int .u32 0, .bool false, .int .u32 0, .int .u32 0] 26)
            refine (trothlaw06_alive.calls true _ alive6).mono ?_
            rintro e w3 ⟨rfl, hb5⟩
            go_wp2_with fail
            go_ret
            exact ⟨rfl, hb4.trans (hb5.mono hb4.size)⟩
          · go_wp2_with fail
            refine (trothlaw06_alive.calls true _ alive6).mono ?_
            rintro e w2 ⟨rfl, hb2⟩
            go_wp2_with fail
            go_ret
            exact ⟨rfl, hb1.trans (hb2.mono hb1.size)⟩
  · rw [if_neg hright] at hwr
    have HW := Aside0.mk hwr
    clear hright hwr
    go_enter Try.func6, Try.ntmps6
    go_wp2_with fail
    generalize hwb : w.alloc (.cells #[.int .i64 a, .int .i64 b, .int .u32 c, .int .u32 d, .bool m, .int .u32 x, .int .u32 y] 26) = wb at *
    clear hwb
    refine (psh_Write.calls _ _ _ _ _ _ _ _ _ _ HW.out).mono ?_
    rintro e w1 ⟨v, rfl, ho, hb⟩
    obtain ⟨A1, c1, rfl, hc1, hC1⟩ := Kd.R_reads ho
    have hb1 := hba.trans (hb.mono hba.size)
    clear ho hC1 hb hba HW
    go_wp2_with fail
    refine (trothlaw06_alive.calls true _ alive6).mono ?_
    rintro e w2 ⟨rfl, hb2⟩
    go_wp2_with fail
    go_ret
    exact ⟨rfl, hb1.trans (hb2.mono hb1.size)⟩
end Go.Proofs.Ytfndcfffbpbbhaa.Q
