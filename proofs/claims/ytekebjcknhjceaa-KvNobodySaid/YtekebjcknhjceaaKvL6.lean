/- Walk of trothlaw13.KvKept: it answers true. Condition: the calls' slice reads as its list. -/
import Derived.Test.YtekebjcknhjceaaKvR
namespace Go.Mine
set_option linter.unusedVariables false
set_option linter.unusedSimpArgs false
/-- A prepared work. -/
def Prepd (n : Int) (l : List Ch) (s : KS) : Prop := aget n s.ws = some ⟨l, true⟩
theorem Prepd.touch {n : Int} {l : List Ch} {s : KS} (h : Prepd n l s) (k : Int) (al : Bool) : ∃ a, s.touch n k al = (a, s) ∧ a ≠ 0 := by
  unfold KS.touch
  split
  · exact ⟨1, rfl, by decide⟩
  · rw [if_pos (by rw [h]; rfl)]
    exact ⟨7, rfl, by decide⟩
theorem Prepd.change {n : Int} {l : List Ch} {s : KS} (h : Prepd n l s) (c : Ch) : ∃ a, s.change n c = (a, s) ∧ a ≠ 0 := by
  obtain ⟨a, e, ha⟩ := h.touch c.key true
  refine ⟨a, ?_, ha⟩
  unfold KS.change
  simp only
  rw [e, if_pos ha]
theorem Prepd.get {n k : Int} {l : List Ch} {s : KS} (h : Prepd n l s) (hn : ¬ n < 1) (h0 : 0 ≤ k) (h1 : k < 16) : s.get n k = ((0, false, 7), s) := by
  have e : s.touch n k false = (7, s) := by
    unfold KS.touch
    rw [if_neg (by omega), if_pos (by rw [h]; rfl)]
  unfold KS.get
  simp only
  rw [e, if_pos (show (7 : Int) ≠ 0 by decide)]
theorem Prepd.prepare {n : Int} {l : List Ch} {s : KS} (h : Prepd n l s) (hn : ¬ n < 1) : s.prepare n = (([], 7), s) := by
  unfold Prepd at h
  simp [KS.prepare, hn, h]
theorem Prepd.busy {n : Int} {l : List Ch} {s : KS} (h : Prepd n l s) : s.busy n = true := by
  unfold KS.busy
  rw [h]; rfl
theorem Prepd.list {n : Int} {l : List Ch} {s : KS} (h : Prepd n l s) : s.listOf n = l := by
  unfold KS.listOf
  rw [h]; rfl
/-- Prepare's answers. -/
theorem prep_cases {n : Int} {s : KS} (hs : s.Ok) : ((s.prepare n).1.2 = 1 ∧ (s.prepare n).1.1 = []) ∨ ((s.prepare n).1.2 = 7 ∧ (s.prepare n).1.1 = []) ∨ ((s.prepare n).1.2 = 0 ∧ (s.prepare n).1.1 = []) ∨ (¬ n < 1 ∧ (s.prepare n).1.2 = 0 ∧ (s.prepare n).1.1 ≠ [] ∧ RW (s.prepare n).1.1 ∧ Prepd n (s.prepare n).1.1 (s.prepare n).2) := by
  by_cases hn : n < 1
  · left; simp [KS.prepare, hn]
  · cases hg : aget n s.ws with
    | none => right; right; left; simp [KS.prepare, hn, hg]
    | some v =>
      cases hp : v.p with
      | true => right; left; simp [KS.prepare, hn, hg, hp]
      | false =>
        by_cases hl : v.l = []
        · right; right; left; simp [KS.prepare, hn, hg, hp, hl]
        · right; right; right
          rw [KS.prep_done_ hn hg hp hl]
          exact ⟨hn, rfl, hl, hs.chs _ (aget_mem hg), aget_put_self _ _ hs.keys⟩
/-- After the commit the changed keys have the changes' values. -/
theorem kept_value {n : Int} {l : List Ch} {s : KS} (hs : s.Ok) (hr : RW l) {y : Ch} (hy : y ∈ l) : ((l.foldl setV s).gone n).value y.key = (y.val, y.kind == 1) := by
  have hk := ((chOk_iff y).1 (hr.1 y hy)).2
  obtain ⟨k, hk'⟩ := Int.eq_ofNat_of_zero_le hk.1
  have hg := setVs_get l s hs.lv hs.lt hr.1 hr.2 k (by omega)
  have hf : l.find? (fun c => c.key == (k : Int)) = some y := by
    obtain ⟨i, hi, he⟩ := List.getElem_of_mem hy
    rw [List.find?_eq_some_iff_getElem]
    refine ⟨by simpa using hk', i, hi, he, fun j hj => ?_⟩
    have := hr.apart hj (List.getElem?_eq_getElem (show j < l.length by omega)) (List.getElem?_eq_getElem hi)
    rw [he, hk'] at this
    simpa using this
  rw [hf] at hg
  unfold KS.value
  rw [if_neg (by omega)]
  show (((l.foldl setV s).vs.getD y.key.toNat 0), ((l.foldl setV s).th.getD y.key.toNat false)) = _
  rw [hk']
  exact hg
end Go.Mine
namespace Go.Proofs.Ytekebjcknhjceaa
open Go.RowKit Go.Mine Go.Proofs.YtekebjcknhjceaaW.PrintWords
set_option linter.unusedVariables false
set_option linter.unusedSimpArgs false

theorem Beside.grew {F F' : Nat → Prop} {w w' : World} {A : Option Addr} (h : Beside F w A) (hg : Grew F F' w) (hs : w.heap.size ≤ w'.heap.size) : Beside F' w' A := by
  intro b off e
  obtain ⟨h1, h2⟩ := h b off e
  refine ⟨fun q => ?_, Nat.lt_of_lt_of_le h2 hs⟩
  rcases hg b q with r | r
  · exact h1 r
  · omega
/-- A store and a list of changes beside it. -/
def StL (B : Nat) (w : World) (F : Nat → Prop) (b0 : Nat) (s : KS) (A : Option Addr) (l : List Ch) : Prop := KvAt F w b0 s ∧ ChAt w w.heap.size A l ∧ Beside F w A ∧ (∀ i, F i → B ≤ i) ∧ B ≤ w.heap.size
theorem StL.below {B : Nat} {w w' : World} {F : Nat → Prop} {b0 : Nat} {s : KS} {A : Option Addr} {l : List Ch} (h : StL B w F b0 s A l) (hb : Below w.heap.size w w') : StL B w' F b0 s A l :=
  ⟨h.1.below hb, (h.2.1.below hb).up hb.size, h.2.2.1.grew (Grew.refl _ _) hb.size, h.2.2.2.1, Nat.le_trans h.2.2.2.2 hb.size⟩
theorem StL.one {B : Nat} {w w' : World} {F F' : Nat → Prop} {b0 : Nat} {s s' : KS} {A : Option Addr} {l : List Ch} (h : StL B w F b0 s A l) (hk : KvAt F' w' b0 s') (hg : Grew F F' w) (hf : Fr F w w') : StL B w' F' b0 s' A l ∧ Below B w w' := by
  obtain ⟨h1, h2, h3, h4, h5⟩ := h
  refine ⟨⟨hk, (h2.fr hf h3).up hf.size, h3.grew hg hf.size, fun i hi => ?_, Nat.le_trans h5 hf.size⟩, hf.below h5 (fun k hk q => by have := h4 k q; omega)⟩
  rcases hg i hi with r | r
  · exact h4 i r
  · exact Nat.le_trans h5 r

set_option maxRecDepth 100000 in
set_option maxHeartbeats 8000000 in
theorem kept_any (A : Option Addr) (l : List KOp) (c : Nat) (work key val : Int) (w : World) (hl : OpsAt w w.heap.size A l) :
    Calls Try.prog 9 #[.slice A l.length c, .int .i64 work, .int .i64 key, .int .u64 val] w fun e w' => e = .returned (.bool true) ∧ Below w.heap.size w w' := by
  go_enter Try.func9, Try.ntmps9
  go_wp2_with fail
  refine (played_any A l c _ w (Nat.le_refl _) hl).mono ?_
  rintro e w1 ⟨b0, rfl, t1, f1⟩
  obtain ⟨⟨F, hk, hF⟩, hB⟩ := t1
  have hp := prepare_any hk work
  have hpc := prep_cases (n := work) hk.1
  unfold PrepPost at hp
  generalize (playK l).prepare work = pr at *
  obtain ⟨⟨pl, pe⟩, s1⟩ := pr
  simp only at hp hpc
  have HP := hid hp
  have HK := hid hk
  have HPC := hid hpc
  clear hp hk hl hpc
  go_wp2_with fail
  refine HP.out.mono ?_
  rintro e w3 ⟨v3, rfl, ⟨F3, hk3, hg3, ho3⟩, hr3, hf3⟩
  have hb13 : Below w.heap.size w1 w3 := hf3.below hB (fun k hk q => by have := hF k q; omega)
  have hw3 := f1.trans hb13
  obtain ⟨A3, c3, hv3, hc3, hch3⟩ := hr3.at_
  subst hv3
  have hst : StL w.heap.size w3 F3 b0 s1 A3 pl := by
    refine ⟨hk3, hch3, fun b off e => ?_, fun i hi => ?_, Nat.le_trans hB hf3.size⟩
    · have h5 : (Value.slice A3 pl.length c3).ownBlock = some b := by rw [e]; rfl
      exact ⟨(ho3 b h5).2, hr3.lt b h5⟩
    · rcases hg3 i hi with r | r
      · exact hF i r
      · exact Nat.le_trans hB r
  have HST := hid hst
  clear hk3 hg3 ho3 hr3 hf3 hch3 hst HP HK hB hF
  rcases HPC.out with ⟨rfl, rfl⟩ | ⟨rfl, rfl⟩ | ⟨rfl, rfl⟩ | ⟨hn, rfl, hne, hrw, hpd⟩
  · clear HPC
    go_wp2_with fail
    refine (alive_any _).mono ?_
    rintro e w5 ⟨rfl, f5⟩
    go_wp2_with fail
    go_ret
    exact ⟨rfl, hw3.trans (f5.mono hw3.size)⟩
  · clear HPC
    go_wp2_with fail
    refine (alive_any _).mono ?_
    rintro e w5 ⟨rfl, f5⟩
    go_wp2_with fail
    go_ret
    exact ⟨rfl, hw3.trans (f5.mono hw3.size)⟩
  · clear HPC
    go_wp2_with fail
    refine (alive_any _).mono ?_
    rintro e w5 ⟨rfl, f5⟩
    go_wp2_with fail
    go_ret
    exact ⟨rfl, hw3.trans (f5.mono hw3.size)⟩
  · clear HPC
    have hn : ¬ work < 1 := by omega
    have hlen : 0 < pl.length := List.length_pos_iff.2 hne
    have hll : ((pl.length : Int) == 0) = false := by
      have : pl.length ≠ 0 := by omega
      simpa using this
    obtain ⟨y, hy⟩ : ∃ y, pl[0]? = some y := ⟨_, List.getElem?_eq_getElem hlen⟩
    obtain ⟨b, off, hA3, hbb, hcc⟩ := HST.out.2.1 0 y hy
    subst hA3
    have z1 : w3.cell? ⟨b, off + 1, none⟩ = some (.int .i64 y.key) := by have := hcc 1 _ rfl; simpa using this
    have hyk := (chOk_iff y).1 (hrw.1 y (List.mem_of_getElem? hy))
    have c4 := get_any HST.out.1 work y.key
    unfold GetPost at c4
    rw [hpd.get hn hyk.2.1 hyk.2.2] at c4
    have HN := hid hn
    have HRW := hid hrw
    have HPD := hid hpd
    have C4 := hid c4
    clear hne hcc hy hyk c4 hn hrw hpd
    go_wp2_with fail
    refine C4.out.mono ?_
    rintro e w4 ⟨F4, rfl, hk4, hg4, hf4⟩
    obtain ⟨ht4, hb4⟩ := HST.out.one hk4 hg4 hf4
    have HT4 := hid ht4
    have hw4 := hw3.trans hb4
    have c5 := prepare_any HT4.out.1 work
    unfold PrepPost at c5
    rw [HPD.out.prepare (show ¬ work < 1 by have := HN.out; omega)] at c5
    have C5 := hid c5
    clear hk4 hg4 hf4 hb4 ht4 c5 C4 HST
    go_wp2_with fail
    refine C5.out.mono ?_
    rintro e w5 ⟨v5, rfl, ⟨F5, hk5, hg5, _⟩, _, hf5⟩
    obtain ⟨ht5, hb5⟩ := HT4.out.one hk5 hg5 hf5
    have HT5 := hid ht5
    have hw5 := hw4.trans hb5
    obtain ⟨a6, he6, ha6⟩ := HPD.out.change ⟨1, key, val⟩
    obtain ⟨a7, he7, ha7⟩ := HPD.out.change ⟨2, key, 0⟩
    have c6 := put_any HT5.out.1 work key val
    unfold ChangePost at c6
    rw [he6] at c6
    have C6 := hid c6
    have hz6 : (a6 == 0) = false := by simpa using ha6
    have hz7 : (a7 == 0) = false := by simpa using ha7
    have HE7 := hid he7
    clear hk5 hg5 hf5 hb5 ht5 c6 C5 HT4 he6 he7 ha6 ha7
    go_wp2_with fail
    refine C6.out.mono ?_
    rintro e w6 ⟨F6, rfl, hk6, hg6, hf6⟩
    obtain ⟨ht6, hb6⟩ := HT5.out.one hk6 hg6 hf6
    have HT6 := hid ht6
    have hw6 := hw5.trans hb6
    have c7 := del_any HT6.out.1 work key
    unfold ChangePost at c7
    rw [HE7.out] at c7
    have C7 := hid c7
    clear hk6 hg6 hf6 hb6 ht6 c7 C6 HT5 HE7
    go_wp2_with fail
    refine C7.out.mono ?_
    rintro e w7 ⟨F7, rfl, hk7, hg7, hf7⟩
    obtain ⟨ht7, hb7⟩ := HT6.out.one hk7 hg7 hf7
    have HT7 := hid ht7
    have hw7 := hw6.trans hb7
    have c8 := busy_any HT7.out.1 work
    rw [HPD.out.busy] at c8
    have C8 := hid c8
    clear hk7 hg7 hf7 hb7 ht7 c8 C7 HT6
    go_wp2_with fail
    refine C8.out.mono ?_
    rintro e w8 ⟨rfl, rfl⟩
    have C9 := hid (refRight_any _ pl c3 _ _ HT7.out.2.1 (Nat.le_refl _) HRW.out)
    go_wp2_with fail
    refine C9.out.mono ?_
    rintro e w9 ⟨rfl, f9⟩
    have HT9 := hid (HT7.out.below f9)
    have hw9 := hw7.trans (f9.mono hw7.size)
    have c10 := commit_any HT9.out.1 work
    rw [commit_do (show ¬ work < 1 by have := HN.out; omega), HPD.out.list] at c10
    have C10 := hid c10
    clear c10 C8 C9 HT7
    go_wp2_with fail
    refine C10.out.mono ?_
    rintro e w10 ⟨rfl, ⟨F10, hk10, hg10⟩, hf10⟩
    obtain ⟨ht10, hb10⟩ := HT9.out.one hk10 hg10 hf10
    have HT10 := hid ht10
    have hw10 := hw9.trans hb10
    have hle := HRW.out.len
    have hok1 : Hid s1.Ok := hid HT9.out.1.1
    clear hk10 hg10 hf10 hb10 ht10 C10 HT9
    go_wp2_with fail
    go_loopg [17] (pl.length + 1) (fun m v wr => ∃ i : Nat, v = .int .i64 i ∧ i ≤ pl.length ∧ m = pl.length + 1 - i ∧ ∃ q, wr = w10.drewN q)
    case atStart => exact ⟨0, rfl, Nat.zero_le _, rfl, 0, rfl⟩
    case round =>
      obtain ⟨i, rfl, hi, hm, q, hq⟩ := hrel
      subst hq
      have HM := hid hm
      clear hm
      by_cases h1 : i < pl.length
      · obtain ⟨x, hx⟩ : ∃ x, pl[i]? = some x := ⟨_, List.getElem?_eq_getElem h1⟩
        obtain ⟨b', off', he', _, hcx⟩ := HT10.out.2.1 i x hx
        cases he'
        have x0 : w10.cell? ⟨b, off + i * 3, none⟩ = some (.int .i64 x.kind) := by have := hcx 0 _ rfl; simpa using this
        have x1 : w10.cell? ⟨b, off + i * 3 + 1, none⟩ = some (.int .i64 x.key) := hcx 1 _ rfl
        have x2 : w10.cell? ⟨b, off + i * 3 + 2, none⟩ = some (.int .u64 x.val) := hcx 2 _ rfl
        have c11 := value_any (HT10.out.1.below (bdN w10 q)) x.key
        rw [kept_value hok1.out HRW.out (List.mem_of_getElem? hx)] at c11
        have C11 := hid c11
        have dk : ((x.kind == 1) != (x.kind == 1)) = false := by simp
        have dv : (x.val != x.val) = false := by simp
        clear hcx hx c11
        go_wp2_with fail
        refine C11.out.mono ?_
        rintro e w11 ⟨rfl, m11, hw11⟩
        subst hw11
        go_wp2_with fail
        go_roundg (pl.length + 1 - (i + 1))
        case measure => rw [HM.out]; omega
        case rel => exact ⟨i + 1, by go_num, by omega, rfl, _, rfl⟩
      · go_wp2_with fail
        refine (alive_any _).mono ?_
        rintro e w12 ⟨rfl, f12⟩
        have hf11 := hw10.trans ((bdN w10 q).mono hw10.size)
        have hf12 := hf11.trans (f12.mono hf11.size)
        have c13 := busy_any ((HT10.out.below (bdN w10 q)).below f12).1 work
        rw [gone_busy] at c13
        have C13 := hid c13
        clear c13
        go_wp2_with fail
        refine C13.out.mono ?_
        rintro e w13 ⟨rfl, rfl⟩
        go_wp2_with fail
        go_ret
        exact ⟨rfl, hf12⟩
end Go.Proofs.Ytekebjcknhjceaa
