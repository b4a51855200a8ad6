/- Walks of slices.IndexFunc and slices.DeleteFunc over a queue's works. Conditions: the rows read. -/
import Derived.Test.YtdejbinmnoabeaaQuD
namespace Go.Proofs.Ytdejbinmnoabeaa.Q
open Go.RowKit Go.Mine Go.Proofs.YtdejbinmnoabeaaW.PrintWords
set_option linter.unusedVariables false
set_option linter.unusedSimpArgs false
/-- A work in memory: number, block, list's value, list, prepared. -/
structure WI where
  n : Int
  wb : Nat
  v : Value
  l : List Ch
  p : Bool
def eWI : Enc WI := ⟨1, fun x => [ptrV x.wb], fun _ => rfl, fun x u hu => by simp at hu; subst hu; rfl⟩
theorem clo_wp (wb : Nat) (m n : Int) (bx : Nat) (w : World) (hm : w.cell? ⟨wb, 0, none⟩ = some (.int .i64 m)) (hk : w.cell? ⟨bx, 0, none⟩ = some (.int .i64 n)) :
    Calls Try.prog 85 #[.pointer (some ⟨wb, 0, none⟩), .pointer (some ⟨bx, 0, none⟩)] w fun e w' => e = .returned (.bool (m == n)) ∧ ∃ q, w' = w.drewN q := by
  go_enter Try.func85, Try.ntmps85
  go_wp2_with fail
  go_quiet (fail)
  go_wp2_with fail
  go_ret
  exact ⟨rfl, _, rfl⟩

set_option maxHeartbeats 1000000 in
theorem idx_wp (A : Option Addr) (l : List WI) (c : Nat) (n : Int) (bx : Nat) (w : World) (hl : RowAt eWI.f 1 w w.heap.size A l) (hw : ∀ x ∈ l, w.cell? ⟨x.wb, 0, none⟩ = some (.int .i64 x.n)) (hk : w.cell? ⟨bx, 0, none⟩ = some (.int .i64 n)) (hn : l.length ≤ 1000000000000) :
    Calls Try.prog 86 #[.slice A l.length c, .func (.func 85) #[] #[.pointer (some ⟨bx, 0, none⟩)]] w fun e w' => e = .returned (.int .i64 (idxP (fun x => x.n == n) l)) ∧ Below w.heap.size w w' := by
  have hbx : bx < w.heap.size := World.block_lt_of_cell? _ _ hk
  have HW := hid hw
  clear hw
  go_enter Try.func86, Try.ntmps86
  go_wp2_with fail
  go_loopg [8] (l.length + 1) (fun m v wr => ∃ i : Nat, v = .int .i64 i ∧ i ≤ l.length ∧ m = l.length + 1 - i ∧ (∀ j, j < i → ∀ y, l[j]? = some y → (y.n == n) = false) ∧ Below w.heap.size w wr)
  case atStart => exact ⟨0, rfl, Nat.zero_le _, rfl, fun j hj => absurd hj (by omega), Below.refl _ _⟩
  case round =>
    obtain ⟨i, rfl, hi, hn', hno, hb⟩ := hrel
    have HN := hid hn'
    have HNO := hid hno
    clear hn' hno
    by_cases h1 : i < l.length
    · obtain ⟨x, hx⟩ : ∃ x, l[i]? = some x := ⟨_, List.getElem?_eq_getElem h1⟩
      obtain ⟨b, off, rfl, hb1, hc⟩ := (hl.below hb) i x hx
      have k0 : wr.cell? ⟨b, off + i, none⟩ = some (ptrV x.wb) := by have := hc 0 _ rfl; simpa using this
      have hkr := (hb.cell (p := ⟨bx, 0, none⟩) hbx).trans hk
      have hwx := HW.out x (List.mem_of_getElem? hx)
      have hwr := (hb.cell (World.block_lt_of_cell? _ _ hwx)).trans hwx
      have HX := hid hx
      have HC := hid (clo_wp x.wb x.n n bx wr hwr hkr)
      clear hc hx hl hwx hwr
      cases hq : (x.n == n)
      · go_wp2_with fail
        refine HC.out.mono ?_
        rintro e w2 ⟨rfl, q, rfl⟩
        rw [hq]
        go_wp2_with fail
        go_roundg (l.length + 1 - (i + 1))
        case measure => rw [HN.out]; omega
        case rel =>
          refine ⟨i + 1, by go_num, by omega, rfl, fun j hj y hy => ?_, hb.trans ((bdN wr q).mono hb.size)⟩
          by_cases hji : j = i
          · subst hji; rw [HX.out] at hy; cases hy; exact hq
          · exact HNO.out j (by omega) y hy
      · go_wp2_with fail
        refine HC.out.mono ?_
        rintro e w2 ⟨rfl, q, rfl⟩
        rw [hq]
        go_wp2_with fail
        go_ret
        exact ⟨by rw [idxP_found HX.out hq HNO.out]; rfl, hb.trans ((bdN wr q).mono hb.size)⟩
    · have : i = l.length := by omega
      subst this
      go_wp2_with fail
      go_ret
      exact ⟨by rw [idxP_none HNO.out]; rfl, hb⟩

set_option maxRecDepth 100000 in
set_option maxHeartbeats 4000000 in
theorem del_wp (v : Value) (l : List WI) (n : Int) (bx : Nat) (w : World) (hr : FR eWI 105 w v l) (hw : ∀ x ∈ l, w.cell? ⟨x.wb, 0, none⟩ = some (.int .i64 x.n) ∧ v.ownBlock ≠ some x.wb) (hk : w.cell? ⟨bx, 0, none⟩ = some (.int .i64 n)) (hne : v.ownBlock ≠ some bx) (hn : l.length ≤ 1000000) :
    Calls Try.prog 84 #[v, .func (.func 85) #[] #[.pointer (some ⟨bx, 0, none⟩)]] w fun e w' => ∃ v', e = .returned v' ∧ FR eWI 105 w' v' (l.filter (fun x => !(x.n == n))) ∧ v'.ownBlock = v.ownBlock ∧ Fr (fun k => v.ownBlock = some k) w w' := by
  obtain ⟨A, c, rfl, hc, hat⟩ := hr.at_
  have hix := idx_wp A l c n bx w hat (fun x hx => (hw x hx).1) hk (by omega)
  have HW := hid hw
  have HR := hid hr
  have HIX := hid hix
  have HNE := hid hne
  have HK := hid hk
  clear hr hix hat hne hk hw
  go_enter Try.func84, Try.ntmps84
  go_wp2_with fail
  refine HIX.out.mono ?_
  rintro e w1 ⟨rfl, f1⟩
  rcases idxP_cases (fun x : WI => x.n == n) l with ⟨e1, e2⟩ | ⟨k, hkl, e1, hp, hno⟩
  · have E2 := hid e2
    rw [e1]
    clear e1 e2
    go_wp2_with fail
    go_ret
    exact ⟨_, rfl, by rw [E2.out]; exact HR.out.below f1, rfl, (Fr.of_below f1 (Nat.le_refl _)).mono (fun _ q => q.elim)⟩
  · have HS := hid (DelI.start (p := fun x : WI => x.n == n) hkl hp hno)
    rw [e1]
    obtain ⟨g, rfl⟩ := HR.out.form (by omega)
    have hk1 : ((k : Int) == -1) = false := by
      simp
    have hbg : bx ≠ g := fun q => HNE.out (by rw [q]; rfl)
    have hr1 := HR.out.below f1
    have hkb := (f1.cell (World.block_lt_of_cell? _ _ HK.out)).trans HK.out
    clear e1 hp hno HIX
    go_wp2_with fail
    go_loopg [5, 6] (l.length - k) (fun m v5 v6 wr => ∃ (i j : Nat) (Y : List WI), v5 = .int .i64 i ∧ v6 = .int .i64 j ∧ m = l.length + 1 - j ∧ DelI (fun x : WI => x.n == n) l Y i j ∧ FR eWI 105 wr (.slice (some ⟨g, 0, none⟩) l.length c) Y ∧ wr.cell? ⟨bx, 0, none⟩ = some (.int .i64 n) ∧ Fr (fun k => k = g) w wr)
    case atStart => exact ⟨k, k + 1, l, rfl, by go_num, by omega, HS.out, hr1, hkb, (Fr.of_below f1 (Nat.le_refl _)).mono (fun _ q => q.elim)⟩
    case round =>
      clear hr1 hkb HS
      obtain ⟨i, j, Y, rfl, rfl, hm, hI, hrY, hkr, hfr⟩ := hrel
      have HM := hid hm
      have HI := hid hI
      have HRY := hid hrY
      have hij := hI.2.1
      have hjl := hI.2.2.1
      have hYl := hI.1
      clear hm hI
      by_cases h1 : j < l.length
      · obtain ⟨x, hx⟩ : ∃ x, l[j]? = some x := ⟨_, List.getElem?_eq_getElem h1⟩
        have hxY : Y[j]? = some x := HI.out.get.trans hx
        obtain ⟨A', c', hv, hc', hatY⟩ := hrY.at_
        rw [hYl] at hv
        cases hv
        obtain ⟨b', off, he, hbb, hcc⟩ := hatY j x hxY
        cases he
        have k0 : wr.cell? ⟨g, j, none⟩ = some (ptrV x.wb) := by have := hcc 0 _ rfl; simpa [eWI] using this
        have hwx := HW.out x (List.mem_of_getElem? hx)
        have hwr := hfr.cell hwx.1 (fun q => hwx.2 (by rw [show x.wb = g from q]; rfl))
        have HC := hid (clo_wp x.wb x.n n bx wr hwr hkr)
        have hkb2 := fun q => ((bdN wr q).cell (World.block_lt_of_cell? _ _ hkr)).trans hkr
        have HRB := hid (fun q => hrY.below (bdN wr q))
        have HFB := hid (fun q => hfr.drewN q)
        have HX := hid hx
        clear hcc hatY hx hxY hrY hwx hwr
        cases hq : (x.n == n)
        · go_wp2_with fail
          refine HC.out.mono ?_
          rintro e w7 ⟨rfl, q7, rfl⟩
          rw [hq]
          obtain ⟨co, hcl, hcM, hcc2, hcz⟩ := Kd.R_elem (HRB.out q7) x (i : Int) (by omega) (by omega)
          have hcl1 : co.length = 1 := hcl
          have hM : co.take 0 ++ [ptrV x.wb] ++ co.drop (0 + [ptrV x.wb].length) = [ptrV x.wb] := by
            rw [List.drop_eq_nil_of_le (by rw [hcl1]; simp)]
            simp
          have HCC := hid hcc2
          have HM3 := hid hM
          have hij2 : (i : Int) < l.length := by omega
          clear hcc2 hM hcM hcz
          go_wp2_with ((with_reducible refine gate_ (.store 105 (.tmp 33) (.tmp 32)) rfl ?_); refine Kd.R_store eWI.kd (w0 := wr.drewN q7) 0 (o' := i) (g := g) (n := l.length) (cap := c) rfl rfl 105 (.tmp 33) (.tmp 32) rfl 105 (i : Int) 0 Y x (ptrV x.wb) [ptrV x.wb] co (fun _ => True) (fun _ => False) rfl (by simp [eWI, Enc.kd]) rfl rfl (by kernel_rfl) (eWI.one x) (HRB.out q7) (by omega) (by omega) hcl HCC.out (by simp [eWI, Enc.kd]) HM3.out (fun _ q => q.elim) (Below.refl _ _) ?_; intro w8 hrow8 hb8 hg8; have hk8 := (hg8.block _ (World.block_lt_of_cell? _ _ (hkb2 q7)) (fun q => by cases q; exact hbg rfl)); have HK8 := hid ((World.cell?_of_block (a := ⟨bx, 0, none⟩) hk8).trans (hkb2 q7)); have HROW8 := hid hrow8; have HF8 := hid ((HFB.out q7).trans (Fr.of_grown hg8) (fun i hi => .inl (by cases hi; rfl))); clear hk8 hrow8 hb8 hg8)
          go_roundg (l.length + 1 - (j + 1))
          case measure => rw [HM.out]; omega
          case rel => exact ⟨i + 1, j + 1, _, by go_num, by go_num, rfl, HI.out.keep HX.out hq, HROW8.out, HK8.out, HF8.out⟩
        · go_wp2_with fail
          refine HC.out.mono ?_
          rintro e w7 ⟨rfl, q7, rfl⟩
          rw [hq]
          go_wp2_with fail
          go_roundg (l.length + 1 - (j + 1))
          case measure => rw [HM.out]; omega
          case rel => exact ⟨i, j + 1, Y, rfl, by go_num, rfl, HI.out.skip HX.out hq, HRB.out q7, hkb2 q7, HFB.out q7⟩
      · have hjl2 : j = l.length := by omega
        have hZ : (Builtin.zeroCells #[Value.pointer none] (l.length - i)).toList.length = (l.length - i) * 1 := zeros_len _ _
        obtain ⟨hcr, hcf⟩ := HRY.out.clear (i := i) (by omega) (Builtin.zeroCells #[Value.pointer none] (l.length - i)).toList (by rw [hZ]; show i * 1 + _ ≤ _ * 1; omega)
        have hcl : ∀ ty, (Builtin.clear_ #[85] ty #[.slice (some ⟨g, i, none⟩) (l.length - i) (c - i)]).run Try.prog wr = .ok (.tuple #[]) (wr.setCells g i (Builtin.zeroCells #[Value.pointer none] (l.length - i)).toList) :=
          fun ty => run_clear_row wr 85 105 ty (.pointer none) Try.underlying85 zero105 g i _ _ (by omega) (fun j hj => HRY.out.has (by show _ < _ * 1; have hj' : j < (l.length - i) * 1 := (by rw [← hZ]; exact hj); omega)) (zeros_one (by decide) (fun u hu => by rw [List.mem_singleton.1 hu]; rfl))
        have hcr2 : FR eWI 105 (wr.setCells g i (Builtin.zeroCells #[Value.pointer none] (l.length - i)).toList) (.slice (some ⟨g, 0, none⟩) i c) (Y.take i) := by have := hcr; rw [show i * eWI.sz = i from Nat.mul_one i] at this; exact this
        have hcf2 : Fr (fun k => k = g) wr (wr.setCells g i (Builtin.zeroCells #[Value.pointer none] (l.length - i)).toList) := by have := hcf; rw [show i * eWI.sz = i from Nat.mul_one i] at this; exact this
        have HCR := hid hcr2
        have HCF := hid hcf2
        have hil : i ≤ l.length := by omega
        have hil2 : (i : Int) ≤ l.length := by omega
        have hic : (i : Int) ≤ c := by omega
        have hlc : (l.length : Int) ≤ c := by omega
        clear hcr hcf hrY hZ hcr2 hcf2
        go_wp2
        go_ret
        refine ⟨_, rfl, ?_, rfl, hfr.trans HCF.out (fun i hi => .inl hi) |>.mono (fun k hk => by rw [hk]; rfl)⟩
        have := HCR.out
        rw [HI.out.done hjl2] at this
        exact this
end Go.Proofs.Ytdejbinmnoabeaa.Q
