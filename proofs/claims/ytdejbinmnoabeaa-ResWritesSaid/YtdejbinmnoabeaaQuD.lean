/- Walks of slices.IndexFunc and slices.DeleteFunc over a queue's items. Conditions: the rows read. -/
import Derived.Test.YtdejbinmnoabeaaQuC
import Derived.Test.YtdejbinmnoabeaaRows
import Derived.WalkSpells
import Derived.WalkLawsBesides
import Derived.StillTailTactics
import Derived.Deep.DeepCutAuto
import Derived.Deep.CutBlock
import Derived.Deep.LoopGhost
import Derived.BigQuiet
import Derived.Deep.RegionLaw
namespace Go.Mine
/-- An item: number, value, the work that has taken it. -/
structure It where
  num : Int
  val : Int
  by_ : Int
deriving DecidableEq
theorem stop_ {p : Prop} (h : Stop p) : p := h
end Go.Mine
namespace Go.Proofs.Ytdejbinmnoabeaa.Q
open Go.RowKit Go.Mine Go.Proofs.YtdejbinmnoabeaaW.PrintWords
set_option linter.unusedVariables false
set_option linter.unusedSimpArgs false
def encIt (x : It) : List Value := [.int .i64 x.num, .int .u64 x.val, .int .i64 x.by_]
def eIt : Enc It := ⟨3, encIt, fun _ => rfl, fun x u hu => by simp [encIt] at hu; rcases hu with rfl | rfl | rfl <;> rfl⟩
theorem info108 : (Try.prog.info? 108).map (fun i => (i.zero, i.size, i.bytes)) = some (some (.agg #[.int .i64 0, .int .u64 0, .int .i64 0]), 3, 24) := by kernel_rfl
theorem info105 : (Try.prog.info? 105).map (fun i => (i.zero, i.size, i.bytes)) = some (some (.pointer none), 1, 8) := by kernel_rfl
theorem info62 : (Try.prog.info? 62).map (fun i => (i.zero, i.size, i.bytes)) = some (some (.agg #[.int .i64 0, .int .i64 0, .int .u64 0]), 3, 24) := by kernel_rfl
theorem zero108 (w : World) : (zeroValue 108).run Try.prog w = .ok (.agg #[.int .i64 0, .int .u64 0, .int .i64 0]) w := by kernel_rfl
theorem zero105 (w : World) : (zeroValue 105).run Try.prog w = .ok (.pointer none) w := by kernel_rfl
theorem blk_lt {w : World} {b : Nat} {o : Obj} (h : w.heap[b]? = some o) : b < w.heap.size := (Array.getElem?_eq_some_iff.1 h).1
theorem bdN (w : World) (n : Nat) : Below w.heap.size w (w.drewN n) := ⟨rfl, rfl, rfl, Nat.le_refl _, fun _ _ => rfl⟩
theorem bd1 (w : World) : Below w.heap.size w w.drew := ⟨rfl, rfl, rfl, Nat.le_refl _, fun _ _ => rfl⟩
/-- Zero cells are cells. -/
theorem zeros_len (z : Array Value) (n : Nat) : (Builtin.zeroCells z n).toList.length = n * z.size := by
  simp [Builtin.zeroCells]
theorem zeros_one {z : Array Value} {n : Nat} (h0 : 0 < z.size) (hz : ∀ u ∈ z.toList, u.oneCell' = true) : ∀ u ∈ (Builtin.zeroCells z n).toList, u.oneCell' = true := by
  intro u hu
  simp only [Builtin.zeroCells, Array.toList_map, List.mem_map] at hu
  obtain ⟨i, _, rfl⟩ := hu
  have hlt := Nat.mod_lt i h0
  rw [getElem!_pos z _ hlt]
  exact hz _ (by simp)

set_option maxHeartbeats 1000000 in
theorem idx_it (A : Option Addr) (l : List It) (c : Nat) (n : Int) (bx : Nat) (w : World) (hl : RowAt encIt 3 w w.heap.size A l) (hk : w.cell? ⟨bx, 0, none⟩ = some (.int .i64 n)) (hn : l.length ≤ 1000000000000) :
    Calls Try.prog 83 #[.slice A l.length c, .func (.func 78) #[] #[.pointer (some ⟨bx, 0, none⟩)]] w fun e w' => e = .returned (.int .i64 (idxP (fun x => x.by_ == n) l)) ∧ Below w.heap.size w w' := by
  have hbx : bx < w.heap.size := World.block_lt_of_cell? _ _ hk
  go_enter Try.func83, Try.ntmps83
  go_wp2
  go_loopg [8] (l.length + 1) (fun m v wr => ∃ i : Nat, v = .int .i64 i ∧ i ≤ l.length ∧ m = l.length + 1 - i ∧ (∀ j, j < i → ∀ y, l[j]? = some y → (y.by_ == n) = false) ∧ Below w.heap.size w wr)
  case atStart => exact ⟨0, rfl, Nat.zero_le _, rfl, fun j hj => absurd hj (by omega), Below.refl _ _⟩
  case round =>
    obtain ⟨i, rfl, hi, hn', hno, hb⟩ := hrel
    have HN := hid hn'
    have HNO := hid hno
    clear hn' hno
    by_cases h1 : i < l.length
    · obtain ⟨x, hx⟩ : ∃ x, l[i]? = some x := ⟨_, List.getElem?_eq_getElem h1⟩
      obtain ⟨b, off, rfl, hb1, hc⟩ := (hl.below hb) i x hx
      have k0 : wr.cell? ⟨b, off + i * 3, none⟩ = some (.int .i64 x.num) := hc 0 _ rfl
      have k1 := hc 1 _ rfl
      have k2 := hc 2 _ rfl
      have hkr := (hb.cell (p := ⟨bx, 0, none⟩) hbx).trans hk
      have hkr' : (wr.alloc (.cells #[.int .i64 x.num, .int .u64 x.val, .int .i64 x.by_] 108)).cell? ⟨bx, 0, none⟩ = some (.int .i64 n) := by
        rw [World.cell?_alloc_lt _ _ _ (World.block_lt_of_cell? _ _ hkr)]; exact hkr
      have HX := hid hx
      clear hc hx hl
      cases hq : (x.by_ == n)
      · go_wp2
        go_roundg (l.length + 1 - (i + 1))
        case measure => rw [HN.out]; omega
        case rel =>
          refine ⟨i + 1, by go_num, by omega, rfl, fun j hj y hy => ?_, hb.alloc hb.size _⟩
          by_cases hji : j = i
          · subst hji; rw [HX.out] at hy; cases hy; exact hq
          · exact HNO.out j (by omega) y hy
      · go_wp2
        go_ret
        exact ⟨by rw [idxP_found HX.out hq HNO.out]; rfl, hb.alloc hb.size _⟩
    · have : i = l.length := by omega
      subst this
      go_wp2
      go_ret
      exact ⟨by rw [idxP_none HNO.out]; rfl, hb⟩

theorem clo_it (x : It) (n : Int) (bx : Nat) (w : World) (hk : w.cell? ⟨bx, 0, none⟩ = some (.int .i64 n)) :
    Calls Try.prog 78 #[.agg #[.int .i64 x.num, .int .u64 x.val, .int .i64 x.by_], .pointer (some ⟨bx, 0, none⟩)] w fun e w' => e = .returned (.bool (x.by_ == n)) ∧ w' = w.alloc (.cells #[.int .i64 x.num, .int .u64 x.val, .int .i64 x.by_] 108) := by
  have hk' : (w.alloc (.cells #[.int .i64 x.num, .int .u64 x.val, .int .i64 x.by_] 108)).cell? ⟨bx, 0, none⟩ = some (.int .i64 n) := by
    rw [World.cell?_alloc_lt _ _ _ (World.block_lt_of_cell? _ _ hk)]; exact hk
  go_enter Try.func78, Try.ntmps78
  go_wp2
  go_ret
  exact ⟨rfl, rfl⟩
set_option maxRecDepth 100000 in
set_option maxHeartbeats 4000000 in
theorem del_it (v : Value) (l : List It) (n : Int) (bx : Nat) (w : World) (hr : FR eIt 108 w v l) (hk : w.cell? ⟨bx, 0, none⟩ = some (.int .i64 n)) (hne : v.ownBlock ≠ some bx) (hn : l.length ≤ 1000000) :
    Calls Try.prog 77 #[v, .func (.func 78) #[] #[.pointer (some ⟨bx, 0, none⟩)]] w fun e w' => ∃ v', e = .returned v' ∧ FR eIt 108 w' v' (l.filter (fun x => !(x.by_ == n))) ∧ v'.ownBlock = v.ownBlock ∧ Fr (fun k => v.ownBlock = some k) w w' := by
  obtain ⟨A, c, rfl, hc, hat⟩ := hr.at_
  have hix := idx_it A l c n bx w hat hk (by omega)
  have HR := hid hr
  have HIX := hid hix
  have HNE := hid hne
  have HK := hid hk
  clear hr hix hat hne hk
  go_enter Try.func77, Try.ntmps77
  go_wp2_with fail
  refine HIX.out.mono ?_
  rintro e w1 ⟨rfl, f1⟩
  rcases idxP_cases (fun x : It => x.by_ == n) l with ⟨e1, e2⟩ | ⟨k, hkl, e1, hp, hno⟩
  · have E2 := hid e2
    rw [e1]
    clear e1 e2
    go_wp2_with fail
    go_ret
    exact ⟨_, rfl, by rw [E2.out]; exact HR.out.below f1, rfl, (Fr.of_below f1 (Nat.le_refl _)).mono (fun _ q => q.elim)⟩
  · have HS := hid (DelI.start (p := fun x : It => x.by_ == n) hkl hp hno)
    rw [e1]
    obtain ⟨g, rfl⟩ := HR.out.form (by omega)
    have hk1 : ((k : Int) == -1) = false := by
      simp
    have hbg : bx ≠ g := fun q => HNE.out (by rw [q]; rfl)
    have hr1 := HR.out.below f1
    have hkb := (f1.cell (World.block_lt_of_cell? _ _ HK.out)).trans HK.out
    clear e1 hp hno HIX
    go_wp2_with fail
    go_loopg [5, 6] (l.length - k) (fun m v5 v6 wr => ∃ (i j : Nat) (Y : List It), v5 = .int .i64 i ∧ v6 = .int .i64 j ∧ m = l.length + 1 - j ∧ DelI (fun x : It => x.by_ == n) l Y i j ∧ FR eIt 108 wr (.slice (some ⟨g, 0, none⟩) l.length c) Y ∧ wr.cell? ⟨bx, 0, none⟩ = some (.int .i64 n) ∧ Fr (fun k => k = g) w wr)
    case atStart => exact ⟨k, k + 1, l, rfl, by go_num, by omega, HS.out, hr1, hkb, (Fr.of_below f1 (Nat.le_refl _)).mono (fun _ q => q.elim)⟩
    case round =>
      clear hr1 hkb HS
      obtain ⟨i, j, Y, rfl, rfl, hm, hI, hrY, hkr, hfr⟩ := hrel
      have HM := hid hm
      have HI := hid hI
      have HRY := hid hrY
      have hij := hI.2.1
      have hjl := hI.2.2.1
      have hYl := hI.1
      clear hm hI
      by_cases h1 : j < l.length
      · obtain ⟨x, hx⟩ : ∃ x, l[j]? = some x := ⟨_, List.getElem?_eq_getElem h1⟩
        have hxY : Y[j]? = some x := HI.out.get.trans hx
        obtain ⟨A', c', hv, hc', hatY⟩ := hrY.at_
        rw [hYl] at hv
        cases hv
        obtain ⟨b', off, he, hbb, hcc⟩ := hatY j x hxY
        cases he
        have k0 : wr.cell? ⟨g, 0 + j * 3, none⟩ = some (.int .i64 x.num) := hcc 0 _ rfl
        have k1 : wr.cell? ⟨g, 0 + j * 3 + 1, none⟩ = some (.int .u64 x.val) := hcc 1 _ rfl
        have k2 : wr.cell? ⟨g, 0 + j * 3 + 2, none⟩ = some (.int .i64 x.by_) := hcc 2 _ rfl
        rw [Nat.zero_add] at k0 k1 k2
        have hba : Below wr.heap.size wr (wr.alloc (.cells #[.int .i64 x.num, .int .u64 x.val, .int .i64 x.by_] 108)) := (Below.refl _ _).alloc (Nat.le_refl _) _
        have hxa : (wr.alloc (.cells #[.int .i64 x.num, .int .u64 x.val, .int .i64 x.by_] 108)).heap[wr.heap.size]? = some (.cells #[.int .i64 x.num, .int .u64 x.val, .int .i64 x.by_] 108 (0, 0)) := (MapKept.heap_alloc wr _).1
        have hka := (hba.cell (World.block_lt_of_cell? _ _ hkr)).trans hkr
        have hra := hrY.below hba
        have hfa := hfr.alloc (.cells #[.int .i64 x.num, .int .u64 x.val, .int .i64 x.by_] 108)
        have hbb2 : Below (wr.alloc (.cells #[.int .i64 x.num, .int .u64 x.val, .int .i64 x.by_] 108)).heap.size (wr.alloc (.cells #[.int .i64 x.num, .int .u64 x.val, .int .i64 x.by_] 108)) ((wr.alloc (.cells #[.int .i64 x.num, .int .u64 x.val, .int .i64 x.by_] 108)).alloc (.cells #[.int .i64 x.num, .int .u64 x.val, .int .i64 x.by_] 108)) := (Below.refl _ _).alloc (Nat.le_refl _) _
        have hkb2 := (hbb2.cell (World.block_lt_of_cell? _ _ hka)).trans hka
        have hxb2 := (hbb2.block _ (blk_lt hxa)).trans hxa
        have hrb2 := hra.below hbb2
        have hfb2 := hfa.alloc (.cells #[.int .i64 x.num, .int .u64 x.val, .int .i64 x.by_] 108)
        have e0 : ((wr.alloc (.cells #[.int .i64 x.num, .int .u64 x.val, .int .i64 x.by_] 108)).alloc (.cells #[.int .i64 x.num, .int .u64 x.val, .int .i64 x.by_] 108)).cell? ⟨wr.heap.size, 0, none⟩ = some (.int .i64 x.num) := by rw [cell_of_row _ _ 0 _ _ _ hxb2]; rfl
        have e1 : ((wr.alloc (.cells #[.int .i64 x.num, .int .u64 x.val, .int .i64 x.by_] 108)).alloc (.cells #[.int .i64 x.num, .int .u64 x.val, .int .i64 x.by_] 108)).cell? ⟨wr.heap.size, 1, none⟩ = some (.int .u64 x.val) := by rw [cell_of_row _ _ 1 _ _ _ hxb2]; rfl
        have e2 : ((wr.alloc (.cells #[.int .i64 x.num, .int .u64 x.val, .int .i64 x.by_] 108)).alloc (.cells #[.int .i64 x.num, .int .u64 x.val, .int .i64 x.by_] 108)).cell? ⟨wr.heap.size, 2, none⟩ = some (.int .i64 x.by_) := by rw [cell_of_row _ _ 2 _ _ _ hxb2]; rfl
        have HRB := hid hrb2
        have HFB := hid hfb2
        have HX := hid hx
        have HXA := hid hxa
        clear hbb2 hxb2 hrb2 hfb2 hfa
        have HRA := hid hra
        clear hcc hatY hx hxY hxa hra hba hrY
        cases hq : (x.by_ == n)
        · obtain ⟨co, hcl, hcM, hcc2, hcz⟩ := Kd.R_elem HRB.out ⟨0, 0, 0⟩ (i : Int) (by omega) (by omega)
          have hcl3 : co.length = 3 := hcl
          have hM : co.take 0 ++ encIt x ++ co.drop (0 + (encIt x).length) = encIt x := by
            rw [List.drop_eq_nil_of_le (by rw [hcl3]; simp [encIt])]
            simp
          have HCC := hid hcc2
          have HM3 := hid hM
          have hij2 : (i : Int) < l.length := by omega
          clear hcc2 hM hcM hcz
          go_wp2_with fail
          refine (clo_it x n bx _ hka).mono ?_
          rintro e w7 ⟨rfl, rfl⟩
          rw [hq]
          go_wp2_with ((with_reducible refine gate_ (.store 108 (.tmp 33) (.tmp 32)) rfl ?_); refine Kd.R_store eIt.kd (w0 := ((wr.alloc (.cells #[.int .i64 x.num, .int .u64 x.val, .int .i64 x.by_] 108)).alloc (.cells #[.int .i64 x.num, .int .u64 x.val, .int .i64 x.by_] 108))) 0 (o' := i * 3) (g := g) (n := l.length) (cap := c) rfl rfl 108 (.tmp 33) (.tmp 32) rfl 108 (i : Int) 0 Y x (.agg #[.int .i64 x.num, .int .u64 x.val, .int .i64 x.by_]) (encIt x) co (fun _ => True) (fun _ => False) rfl (by simp [eIt, Enc.kd]) rfl rfl (by kernel_rfl) (eIt.one x) HRB.out (by omega) (by omega) hcl HCC.out (by simp [eIt, Enc.kd, encIt]) HM3.out (fun _ q => q.elim) (Below.refl _ _) ?_; intro w8 hrow8 hb8 hg8; have hk8 := (hg8.block _ (World.block_lt_of_cell? _ _ hkb2) (fun q => by cases q; exact hbg rfl)); have HK8 := hid ((World.cell?_of_block (a := ⟨bx, 0, none⟩) hk8).trans hkb2); have HROW8 := hid hrow8; have HF8 := hid (HFB.out.trans (Fr.of_grown hg8) (fun i hi => .inl (by cases hi; rfl))); clear hk8 hrow8 hb8 hg8)
          go_roundg (l.length + 1 - (j + 1))
          case measure => rw [HM.out]; omega
          case rel => exact ⟨i + 1, j + 1, _, by go_num, by go_num, rfl, HI.out.keep HX.out hq, HROW8.out, HK8.out, HF8.out⟩
        · go_wp2_with fail
          refine (clo_it x n bx _ hka).mono ?_
          rintro e w7 ⟨rfl, rfl⟩
          rw [hq]
          go_wp2_with fail
          go_roundg (l.length + 1 - (j + 1))
          case measure => rw [HM.out]; omega
          case rel => exact ⟨i, j + 1, Y, rfl, by go_num, rfl, HI.out.skip HX.out hq, HRB.out, hkb2, HFB.out⟩
      · have hjl2 : j = l.length := by omega
        have hZ : (Builtin.zeroCells #[.int .i64 0, .int .u64 0, .int .i64 0] (l.length - i)).toList.length = (l.length - i) * 3 := zeros_len _ _
        obtain ⟨hcr, hcf⟩ := HRY.out.clear (i := i) (by omega) (Builtin.zeroCells #[.int .i64 0, .int .u64 0, .int .i64 0] (l.length - i)).toList (by rw [hZ]; show i * 3 + _ ≤ _ * 3; omega)
        have hcl : ∀ ty, (Builtin.clear_ #[84] ty #[.slice (some ⟨g, i * 3, none⟩) (l.length - i) (c - i)]).run Try.prog wr = .ok (.tuple #[]) (wr.setCells g (i * 3) (Builtin.zeroCells #[.int .i64 0, .int .u64 0, .int .i64 0] (l.length - i)).toList) :=
          fun ty => run_clear_row wr 84 108 ty (.agg #[.int .i64 0, .int .u64 0, .int .i64 0]) Try.underlying84 zero108 g (i * 3) _ _ (by omega) (fun j hj => HRY.out.has (by show _ < _ * 3; have hj' : j < (l.length - i) * 3 := (by rw [← hZ]; exact hj); omega)) (zeros_one (by decide) (eIt.one ⟨0, 0, 0⟩))
        have HCR := hid hcr
        have HCF := hid hcf
        have hil : i ≤ l.length := by omega
        have hil2 : (i : Int) ≤ l.length := by omega
        have hic : (i : Int) ≤ c := by omega
        have hlc : (l.length : Int) ≤ c := by omega
        clear hcr hcf hrY hZ
        go_wp2
        go_ret
        refine ⟨_, rfl, ?_, rfl, hfr.trans HCF.out (fun i hi => .inl hi) |>.mono (fun k hk => by rw [hk]; rfl)⟩
        have := HCR.out
        rw [HI.out.done hjl2] at this
        exact this
end Go.Proofs.Ytdejbinmnoabeaa.Q
