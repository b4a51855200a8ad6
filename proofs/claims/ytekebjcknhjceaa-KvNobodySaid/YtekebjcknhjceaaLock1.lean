/- Walk of (*lock.Table).Take on a table that has a map: it tells and leaves what takeSpec says. Condition: the table reads as a list of locks. -/
import Derived.Test.YtekebjcknhjceaaLock0
import Derived.Deep.DeepCutAuto
import Derived.Deep.CutBlock
import Derived.Deep.LoopGhost
namespace Go.Proofs.Ytekebjcknhjceaa
open Go.RowKit Go.Mine
open Go.ChangeMaps (setBlock)
set_option linter.unusedVariables false
set_option linter.unusedSimpArgs false

def conf (o k : Int) (al was : Bool) (e : (Int × Int) × Bool × Nat) : Bool := e.1.1 == k && e.1.2 != o && (e.2.1 || al || was)
def takeSpec (L : Tab) (o k : Int) (al : Bool) (c : Nat) : Int × Tab :=
  if L.any (conf o k al ((mget (k, o) L).getD false)) then (120, L)
  else if !(mget (k, o) L).isSome && decide (64 ≤ L.length) then (5, L)
  else (0, mput (k, o) ((mget (k, o) L).getD false || al) c L)
def TakePost (L : Tab) (o k : Int) (al : Bool) (b c : Nat) (w : World) (e : Ending) (w' : World) : Prop :=
  ∃ n L' c', takeSpec L o k al c = (n, L') ∧ e = .returned (.int .i64 n) ∧ MapAt eK2 Value.bool w' b L' c' ∧ Fr (· = b) w w'

theorem any_false {L : Tab} {f : (Int × Int) × Bool × Nat → Bool} (h : ∀ y ∈ L, y ∈ ([] : Tab) ∨ f y = false) : L.any f = false := by
  rw [List.any_eq_false]
  intro y hy
  rcases h y hy with h | h
  · cases h
  · simp [h]

theorem takePost_full {L : Tab} {o k : Int} {al was have_ : Bool} {b c : Nat} {w w' : World} (Hw : was = (mget (k, o) L).getD false) (Hh : have_ = (mget (k, o) L).isSome)
    (hno : L.any (conf o k al was) = false) (h1 : have_ = false) (h2 : 64 ≤ L.length) (fr : Fr (fun _ => False) w w') (hm : MapAt eK2 Value.bool w' b L c) : TakePost L o k al b c w (.returned (.int .i64 5)) w' := by
  subst Hw
  refine ⟨5, L, c, ?_, rfl, hm, fr.mono (fun _ h => h.elim)⟩
  simp [takeSpec, hno, ← Hh, h1, h2]

theorem takePost_ok {L : Tab} {o k : Int} {al was have_ x : Bool} {b c : Nat} {w w' wr : World} (Hw : was = (mget (k, o) L).getD false) (Hh : have_ = (mget (k, o) L).isSome)
    (hno : L.any (conf o k al was) = false) (hroom : ¬ (have_ = false ∧ 64 ≤ L.length)) (fr : Fr (fun _ => False) w wr) (hm : MapAt eK2 Value.bool wr b L c) {cc : Nat} (hcc : cc = (if (mget (k, o) L).isSome then c else c + 1)) (hx : x = (was || al))
    (hw' : w' = setBlock wr.drew b (.map (ents eK2 Value.bool (mput (k, o) x c L)) cc)) : TakePost L o k al b c w (.returned (.int .i64 0)) w' := by
  subst Hw hw' hx hcc
  have hm' : MapAt eK2 Value.bool wr.drew b L c := hm.fr (Fr.refl (fun _ => False) wr).drew id
  refine ⟨0, _, _, ?_, rfl, hm'.put (k, o) _, ((fr.mono (S' := (· = b)) (fun _ h => h.elim)).drew).setBlock (b := b) (.inl rfl) _⟩
  rw [Hh] at hroom
  unfold takeSpec
  rw [if_neg (by simp [hno]), if_neg (by simpa using hroom)]

theorem takePost_locked {L : Tab} {o k : Int} {al was : Bool} {b c : Nat} {w w' : World} (Hw : was = (mget (k, o) L).getD false) {y : (Int × Int) × Bool × Nat} (hy : y ∈ L) (hc : conf o k al was y = true)
    (fr : Fr (fun _ => False) w w') (hm : MapAt eK2 Value.bool w' b L c) : TakePost L o k al b c w (.returned (.int .i64 120)) w' := by
  subst Hw
  refine ⟨120, L, c, ?_, rfl, hm, fr.mono (fun _ h => h.elim)⟩
  unfold takeSpec
  rw [if_pos (List.any_eq_true.2 ⟨y, hy, hc⟩)]

theorem next_left {L left : Tab} {f : (Int × Int) × Bool × Nat → Bool} {c : Nat} {k : Int × Int} {v : Bool} {st : Nat} (ho : Ok L c) (hsub : ∀ y ∈ left, y ∈ L) (hx : (k, v, st) ∈ L) (h : ∀ y ∈ L, y ∈ left ∨ f y = false) (hf : f (k, v, st) = false) :
    ∀ y ∈ L, y ∈ left.filter (fun y => decide (y.2.2 ≠ st)) ∨ f y = false := by
  intro y hy
  rcases h y hy with hl | hn
  · by_cases e : y.2.2 = st
    · have : y = (k, v, st) := by
        exact ho.born_inj hy hx e
      exact .inr (this ▸ hf)
    · exact .inl (List.mem_filter.2 ⟨hl, by simpa using e⟩)
  · exact .inr hn

attribute [local go_sem] eK2 in
set_option maxHeartbeats 1000000 in
theorem take_some (b0 off : Nat) (b c : Nat) (L : Tab) (o k : Int) (al : Bool) (w : World) (hc0 : w.cell? ⟨b0, off, none⟩ = some (.map (some b))) (hm : MapAt eK2 Value.bool w b L c) :
    Calls Try.prog 42 #[.pointer (some ⟨b0, off, none⟩), .int .i64 o, .int .i64 k, .bool al] w (TakePost L o k al b c w) := by
  obtain ⟨was, hwas⟩ : ∃ x, x = (mget (k, o) L).getD false := ⟨_, rfl⟩
  obtain ⟨have_, hhave⟩ : ∃ x, x = (mget (k, o) L).isSome := ⟨_, rfl⟩
  have hv : ((mget (k, o) L).map Value.bool).getD (.bool false) = .bool was := by rw [hwas]; cases mget (k, o) L <;> rfl
  have hl : ∀ w', MapAt eK2 Value.bool w' b L c → (Instr.lookup 65 (.map (some b)) (.agg #[.int .i64 k, .int .i64 o]) true).run Try.prog w' = .ok (.tuple #[.bool was, .bool have_]) w' := by
    intro w' h
    have := run_lookup Try.underlying65 key53 h (zero4 w') (k, o) true
    simpa [eK2, hv, ← hhave] using this
  have Hw := hid hwas
  have Hh := hid hhave
  have hb0 : b0 < w.heap.size := World.block_lt_of_cell? _ _ hc0
  have hne : b0 ≠ b := by
    rintro rfl
    have := hm.heap
    simp [World.cell?, this] at hc0
  have fA : Fr (fun _ => False) w (w.alloc (.cells #[.int .i64 k, .int .i64 o] 101)) := (Fr.refl _ _).alloc _
  have hmA := hm.fr fA id
  have hlk : ∀ n, (Instr.lookup 65 (.map (some b)) (.agg #[.int .i64 k, .int .i64 o]) true).run Try.prog ((w.alloc (.cells #[.int .i64 k, .int .i64 o] 101)).drewN n) = .ok (.tuple #[.bool was, .bool have_]) ((w.alloc (.cells #[.int .i64 k, .int .i64 o] 101)).drewN n) :=
    fun n => hl _ (hmA.fr ((Fr.refl (fun _ => False) _).drewN n) id)
  clear hwas hhave hv
  have HL := hid hl
  clear hl
  go_enter Try.func42, Try.ntmps42
  go_wp2
  go_quiet (fail)
  clear hlk
  have hmB : MapAt eK2 Value.bool ((w.alloc (.cells #[.int .i64 k, .int .i64 o] 101)).drewN nq) b L c := hmA.fr ((Fr.refl (fun _ => False) _).drewN nq) id
  go_wp2_with (at_range; refine wl_range rfl rfl Try.underlying65 rfl hmB (w.heap.size + 1) (by simp) ?_; intro w2 hi2 f2 s2)
  have g2 : Fr (fun _ => False) w w2 := (fA.drewN nq).trans f2 (by simp)
  have hk2 : w2.heap[w.heap.size]? = some (.cells #[.int .i64 k, .int .i64 o] 101 (0, 0)) := f2.at_ (MapKept.heap_alloc w _).1 id
  go_frame
  go_loopg [] (L.length + 1) (fun n wr => ∃ left, n = left.length + 1 ∧ MapAt eK2 Value.bool wr b L c ∧ IterAt wr (w.heap.size + 1) b c L left ∧ (∀ y ∈ L, y ∈ left ∨ conf o k al was y = false) ∧ Fr (fun _ => False) w wr ∧ wr.heap[w.heap.size]? = some (.cells #[.int .i64 k, .int .i64 o] 101 (0, 0)))
  case atStart => exact ⟨L, rfl, hmB.fr f2 id, hi2, fun y hy => .inl hy, g2, hk2⟩
  case round =>
    obtain ⟨left, hn, hmr, hir, hcf, fr, hkr⟩ := hrel
    have hkr0 : wr.cell? ⟨w.heap.size, 0, none⟩ = some (.int .i64 k) := cell_of_row wr _ 0 _ _ _ hkr
    have hkr1 : wr.cell? ⟨w.heap.size, 1, none⟩ = some (.int .i64 o) := cell_of_row wr _ 1 _ _ _ hkr
    have HN := hid hn
    have HC := hid hcf
    have HK := hid hkr
    clear hn hcf hkr
    have hcr := fr.cell hc0 id
    have hlen := fun ty => run_len (ty := ty) Try.underlying65 (show MapO eK2 Value.bool wr (some b) L from ⟨c, hmr⟩)
    obtain ⟨cc, hcc⟩ : ∃ x, x = (if (mget (k, o) L).isSome then c else c + 1) := ⟨_, rfl⟩
    have Hcc := hid hcc
    clear hcc
    have hupd : ∀ v, (Instr.mapUpdate 65 (.map (some b)) (.agg #[.int .i64 k, .int .i64 o]) (.bool v)).run Try.prog wr.drew = .ok () (setBlock wr.drew b (.map (ents eK2 Value.bool (mput (k, o) v c L)) cc)) :=
      fun v => Hcc.out ▸ run_update Try.underlying65 key53 (hmr.fr (Fr.refl (fun _ => False) wr).drew id) (k, o) v
    have hmn := Go.run_eql_map_nil (P := Try.prog) wr 65 101 4 (some b) Try.underlying65
    go_wp2_with (at_next; refine wl_next rfl rfl rfl hmr hir (fun hnil => ?_) (fun k' a' st hx w3 hxL hm3 hi3 hen f3 s3 => ?_))
    · refine stop ?_
      have hno : L.any (conf o k al was) = false := by have h0 := hnil.out; subst h0; exact any_false HC.out
      have HNo := hid hno
      clear hno
      cases have_
      · by_cases h64 : (64 : Int) ≤ L.length
        · go_wp2
          go_ret
          exact takePost_full Hw.out Hh.out HNo.out rfl (by omega) fr hmr
        · cases was
          all_goals
            go_wp2
            go_region
            all_goals
              go_wp2
              go_ret
              refine takePost_ok Hw.out Hh.out HNo.out (by omega) fr hmr Hcc.out ?_ rfl; simp
      · cases was
        all_goals
          go_wp2
          go_region
          all_goals
            go_wp2
            go_ret
            refine takePost_ok Hw.out Hh.out HNo.out (by simp) fr hmr Hcc.out ?_ rfl; simp
    · refine stop ?_
      clear hupd hlen hcr
      clear Hcc hmn
      cases al <;> cases was
      all_goals
        go_wp2
        all_goals
          first
          | (go_ret
             refine takePost_locked Hw.out hxL ?_ ((fr.trans f3 (by intro i hi; right; omega)).alloc _) (hm3.fr ((Fr.refl (fun _ => False) w3).alloc _) id)
             simp_all [conf])
          | (go_roundg ((left.filter (fun y => decide (y.2.2 ≠ st))).length + 1)
             case measure => rw [HN.out]; exact Nat.succ_lt_succ (mfilter_lt hx (by simp))
             case rel =>
               refine ⟨_, rfl, hm3.fr ((Fr.refl (fun _ => False) w3).alloc _) id, hi3.fr ((Fr.refl (fun _ => False) w3).alloc _) id, next_left hm3.ok hir.sub hxL HC.out ?_, (fr.trans f3 (by intro i hi; right; omega)).alloc _, ((Fr.refl (fun _ => False) w3).alloc _).at_ (f3.at_ HK.out (by simp)) id⟩
               simp_all [conf])
end Go.Proofs.Ytekebjcknhjceaa
