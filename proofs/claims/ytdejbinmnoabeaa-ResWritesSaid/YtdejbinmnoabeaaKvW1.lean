/- Walks of the store of keys: touch. Conditions: the store reads as KvAt Pz says. -/
import Derived.Test.YtdejbinmnoabeaaKvW0
import Derived.Test.YtdejbinmnoabeaaMapLib
namespace Go.Proofs.Ytdejbinmnoabeaa.K
variable {Pz : List Value}
open Go.RowKit Go.Mine Go.Proofs.YtdejbinmnoabeaaW.PrintWords
open Go.ChangeMaps (setBlock)
set_option linter.unusedVariables false
set_option linter.unusedSimpArgs false

def wsOf (I : List WI) : List (Int × KW) := I.map (fun x => (x.n, (⟨x.l, x.p⟩ : KW)))
/-- The store at block b0 reads as s; its blocks are F. -/
def KvAt (Pz : List Value) (F : Nat → Prop) (w : World) (b0 : Nat) (s : KS) : Prop := s.Ok ∧ ∃ I L mo lo, KvR Pz F w b0 s.vs s.th s.lk I L mo lo ∧ s.ws = wsOf I
/-- .. and work n, not prepared, lies at block wb. -/
def KvWk (Pz : List Value) (F : Nat → Prop) (w : World) (b0 : Nat) (s : KS) (n : Int) (wb : Nat) : Prop :=
  s.Ok ∧ ∃ I1 x I2 L mo lo, KvR Pz F w b0 s.vs s.th s.lk (I1 ++ x :: I2) L mo lo ∧ s.ws = wsOf (I1 ++ x :: I2) ∧ x.n = n ∧ x.p = false ∧ x.wb = wb
theorem KvWk.at_ {F : Nat → Prop} {w : World} {b0 : Nat} {s : KS} {n : Int} {wb : Nat} (h : KvWk Pz F w b0 s n wb) : KvAt Pz F w b0 s := by
  obtain ⟨h1, I1, x, I2, L, mo, lo, h2, h3, _⟩ := h
  exact ⟨h1, _, L, mo, lo, h2, h3⟩
theorem KvAt.fb {F : Nat → Prop} {w : World} {b0 : Nat} {s : KS} (h : KvAt Pz F w b0 s) : ∀ i, F i → i < w.heap.size := by
  obtain ⟨h1, I, L, mo, lo, h2, h3⟩ := h
  exact h2.fb
theorem KvAt.b {F : Nat → Prop} {w : World} {b0 : Nat} {s : KS} (h : KvAt Pz F w b0 s) : F b0 := by
  obtain ⟨h1, I, L, mo, lo, h2, h3⟩ := h
  exact h2.b
theorem KvAt.fr {F S : Nat → Prop} {w w' : World} {b0 : Nat} {s : KS} (h : KvAt Pz F w b0 s) (hf : Fr S w w') (hS : ∀ i, F i → ¬ S i) : KvAt Pz F w' b0 s := by
  obtain ⟨h1, I, L, mo, lo, h2, h3⟩ := h
  exact ⟨h1, I, L, mo, lo, h2.fr hf hS, h3⟩
theorem KvAt.below {F : Nat → Prop} {w w' : World} {b0 : Nat} {s : KS} (h : KvAt Pz F w b0 s) (hb : Below w.heap.size w w') : KvAt Pz F w' b0 s := h.fr (Fr.of_below hb (Nat.le_refl _)) (fun _ _ q => q)
theorem aget_ws (n : Int) (I : List WI) : aget n (wsOf I) = (I.find? (fun x => decide (x.n = n))).map (fun x => (⟨x.l, x.p⟩ : KW)) := by
  unfold aget wsOf
  rw [List.find?_map]
  simp only [Option.map_map]
  rfl
theorem mget_ws {F : Nat → Prop} {w : World} {b0 : Nat} {vs : List Int} {th : List Bool} {lk : LTab} {I : List WI} {L : List (Int × Nat × Nat)} {mo lo : Option Nat} (h : KvR Pz F w b0 vs th lk I L mo lo) (n : Int) :
    mget n L = (I.find? (fun x => decide (x.n = n))).map (·.wb) := by
  rw [kv_get, h.kvL]
  unfold aget
  rw [List.find?_map]
  simp only [Option.map_map]
  rfl
theorem find_split {I : List WI} {n : Int} {x : WI} (h : I.find? (fun x => decide (x.n = n)) = some x) : ∃ I1 I2, I = I1 ++ x :: I2 ∧ x.n = n := by
  have h1 := List.find?_some h
  have h2 := List.mem_of_find?_eq_some h
  obtain ⟨I1, I2, h3⟩ := List.append_of_mem h2
  exact ⟨I1, I2, h3, by simpa using h1⟩

def TouchPost (Pz : List Value) (F : Nat → Prop) (w : World) (b0 : Nat) (s : KS) (n key : Int) (al : Bool) (e : Ending) (w' : World) : Prop :=
  ∃ p F', e = .returned (.tuple #[.pointer p, .int .i64 (s.touch n key al).1]) ∧ KvAt Pz F' w' b0 (s.touch n key al).2 ∧ Grew F F' w ∧ Fr F w w' ∧
    ((s.touch n key al).1 = 0 → ∃ wb, p = some ⟨wb, 0, none⟩ ∧ KvWk Pz F' w' b0 (s.touch n key al).2 n wb)

theorem touch_bad {s : KS} {n key : Int} {al : Bool} (h : n < 1 ∨ key < 0 ∨ 16 ≤ key) : s.touch n key al = (1, s) := by unfold KS.touch; rw [if_pos h]
theorem touch_prep {s : KS} {n key : Int} {al : Bool} (h : ¬ (n < 1 ∨ key < 0 ∨ 16 ≤ key)) (hp : ((aget n s.ws).map (·.p)).getD false = true) : s.touch n key al = (7, s) := by unfold KS.touch; rw [if_neg h, if_pos hp]
theorem touch_lock {s : KS} {n key : Int} {al : Bool} (h : ¬ (n < 1 ∨ key < 0 ∨ 16 ≤ key)) (hp : ((aget n s.ws).map (·.p)).getD false = false) (hl : (takeA s.lk n key al).1 ≠ 0) : s.touch n key al = ((takeA s.lk n key al).1, s) := by
  unfold KS.touch; rw [if_neg h, if_neg (by simp [hp]), if_pos hl]
theorem touch_done {s : KS} {n key : Int} {al : Bool} (h : ¬ (n < 1 ∨ key < 0 ∨ 16 ≤ key)) (hp : ((aget n s.ws).map (·.p)).getD false = false) (hl : (takeA s.lk n key al).1 = 0) :
    s.touch n key al = (0, ⟨s.vs, s.th, if (aget n s.ws).isSome then s.ws else s.ws ++ [(n, ⟨[], false⟩)], (takeA s.lk n key al).2⟩) := by
  unfold KS.touch; rw [if_neg h, if_neg (by simp [hp]), if_neg (by simp [hl])]

set_option maxRecDepth 100000 in
set_option maxHeartbeats 2000000 in
theorem touch_any {F : Nat → Prop} {w : World} {b0 : Nat} {s : KS} (h : KvAt Pz F w b0 s) (n key : Int) (al : Bool) :
    Calls Try.prog 73 #[.pointer (some ⟨b0, 0, none⟩), .int .i64 n, .int .i64 key, .bool al] w (TouchPost Pz F w b0 s n key al) := by
  have hat := h
  obtain ⟨hok, I, L, mo, lo, h, hws⟩ := h
  have hl := run_lookupO Try.underlying78 key3 h.map (zero103 w) n false
  simp only [Bool.false_eq_true, if_false] at hl
  rw [mget_ws h n] at hl
  have hg := aget_ws n I
  rw [← hws] at hg
  have hc : w.cell? ⟨b0, 32, none⟩ = some (.map mo) := by rw [cell_of_row w b0 32 _ _ _ h.blk]; exact sc32 h.lv h.lth mo lo
  have HOK := hid hok
  have HW := hid hws
  have HAT := hid hat
  have H := hid h
  have htk := take_A h.lt n key al
  have HT := hid htk
  clear hok hws hat htk
  by_cases hbad : n < 1 ∨ key < 0 ∨ 16 ≤ key
  · have e := touch_bad (s := s) (al := al) hbad
    have HE := hid e
    clear e h hl hg
    have hend : ∀ w', w' = w → TouchPost Pz F w b0 s n key al (.returned (.tuple #[.pointer none, .int .i64 1])) w' := by
      intro w' hw'
      subst hw'
      refine ⟨none, F, ?_, ?_, Grew.refl _ _, Fr.refl _ _, ?_⟩
      · rw [HE.out]
      · rw [HE.out]; exact HAT.out
      · rw [HE.out]; intro q; cases q
    have HEND := hid hend
    clear hend
    by_cases h1 : n < 1
    · go_enter Try.func73, Try.ntmps73
      go_wp2_with fail
      go_ret2
      exact HEND.out _ rfl
    · by_cases h2 : key < 0
      · go_enter Try.func73, Try.ntmps73
        go_wp2_with fail
        go_ret2
        exact HEND.out _ rfl
      · have h3 : 16 ≤ key := by omega
        go_enter Try.func73, Try.ntmps73
        go_wp2_with fail
        go_ret2
        exact HEND.out _ rfl
  · have HB := hid hbad
    have b1 : ¬ n < 1 := fun q => hbad (.inl q)
    have b2 : ¬ key < 0 := fun q => hbad (.inr (.inl q))
    have b3 : ¬ 16 ≤ key := fun q => hbad (.inr (.inr q))
    have h' := h
    clear hbad h
    cases hf : I.find? (fun x => decide (x.n = n)) with
    | none =>
      rw [hf] at hl hg
      simp only [Option.map_none, Option.getD_none] at hl hg
      have hp : ((aget n s.ws).map (·.p)).getD false = false := by rw [hg]; rfl
      have HF := hid hf
      have HP := hid hp
      have HG := hid hg
      clear hf hp hg h'
      go_enter Try.func73, Try.ntmps73
      go_wp2_with fail
      refine HT.out.mono ?_
      rintro e w1 ⟨rfl, ht1, hf1⟩
      obtain ⟨lo1, h1⟩ := H.out.locks ht1 hf1
      have fF : Fr F w w1 := hf1.mono (fun i hi => hi.elim (fun q => q ▸ H.out.b) (fun q => H.out.lF i q))
      cases hz : ((takeA s.lk n key al).1 == 0)
      · have hne : (takeA s.lk n key al).1 ≠ 0 := by simpa using hz
        have HE := hid (touch_lock HB.out HP.out hne)
        rw [takeA_keep hne] at h1
        have HNE := hid hne
        clear hne
        go_wp2_with fail
        go_ret2
        refine ⟨none, more F w w1, by rw [HE.out]; rfl, ?_, grew_more _ _ _, fF, ?_⟩
        · rw [HE.out]; exact ⟨HOK.out, I, L, mo, lo1, h1, HW.out⟩
        · rw [HE.out]; intro q; exact absurd q HNE.out
      · have hne : (takeA s.lk n key al).1 = 0 := by simpa using hz
        have he := touch_done HB.out HP.out hne
        have hok' := HOK.out.touch n key al
        rw [HG.out] at he
        simp only [Option.isSome_none, Bool.false_eq_true, if_false] at he
        rw [he] at hok'
        have HE := hid he
        have HOK' := hid hok'
        have H1 := hid h1
        have hset := set_any n w1.heap.size b0 s.vs s.th mo lo1 L (w1.alloc (.cells #[.slice none 0 0, .bool false] 114)) h1.lv h1.lth ((Below.heap_alloc _ _ _ (blk_lt h1.blk)).trans h1.blk) (h1.map.fr ((Fr.refl (fun _ => False) w1).alloc _) (fun _ _ => id))
        have HS := hid hset
        have hnew := (MapKept.heap_alloc w1 (.cells #[.slice none 0 0, .bool false] 114)).1
        have HN := hid hnew
        clear hne he hok' h1 hset hnew
        go_wp2_with fail
        refine HS.out.mono ?_
        rintro e w2 ⟨rfl, mo', L', hb', hm', hk', hmo', hf'⟩
        have hkv : kv L' = (I ++ [(⟨n, w1.heap.size, .slice none 0 0, [], false⟩ : WI)]).map (fun x => (x.n, x.wb)) := by
          have hn : aget n (kv L) = none := by rw [← kv_get, mget_ws H.out, HF.out]; rfl
          rw [hk', aput, hn, H.out.kvL]
          simp
        have hf2 : Fr (fun i => i = b0 ∨ mo = some i) w1 w2 := ((Fr.refl _ w1).alloc _).trans hf' (fun i hi => .inl hi)
        have hlt1 := H1.out.fb
        have h3 : w2.heap[w1.heap.size]? = some (.cells #[.slice none 0 0, .bool false] 114 (0, 0)) := hf'.at_ HN.out (by
          rintro (q | q)
          · have := hlt1 _ H1.out.b; omega
          · have := hlt1 _ (H1.out.mF _ q); omega)
        have h4 := H1.out.add (x := ⟨n, w1.heap.size, .slice none 0 0, [], false⟩) hb' hm' (hmo'.imp id (fun q b hb => Nat.le_trans (by simp) (q b hb))) hf2 hkv (Nat.le_refl _) (fun k hk => by simp [Value.ownBlock] at hk) h3 (ChRow.none_ _)
        have hwk : KvWk Pz (more (more F w w1) w1 w2) w2 b0 ⟨s.vs, s.th, s.ws ++ [(n, ⟨[], false⟩)], (takeA s.lk n key al).2⟩ n w1.heap.size :=
          ⟨HOK'.out, I, _, [], L', mo', lo1, h4, by rw [HW.out]; simp [wsOf], rfl, rfl, rfl⟩
        have hfr : Fr F w w2 := fF.trans hf2 (fun i hi => by
          rcases hi with q | q
          · exact .inl (q ▸ H.out.b)
          · exact .inl (H.out.mF i q))
        have hgr := (grew_more F w w1).trans (grew_more (more F w w1) w1 w2) hf1.size
        clear h3 h4 hf2 hlt1 hkv hk' hm' hb' hf' hmo'
        go_wp2_with fail
        go_ret2
        refine ⟨some ⟨w1.heap.size, 0, none⟩, _, by rw [HE.out]; rfl, ?_, hgr, hfr, fun _ => ⟨w1.heap.size, rfl, ?_⟩⟩
        · rw [HE.out]; exact hwk.at_
        · rw [HE.out]; exact hwk
    | some x =>
      obtain ⟨I1, I2, hI, hxn⟩ := find_split hf
      have hx := h'.wk x (by rw [hI]; simp)
      rw [hf] at hl hg
      simp only [Option.map_some, Option.getD_some] at hl hg
      have hp : ((aget n s.ws).map (·.p)).getD false = x.p := by rw [hg]; rfl
      have hcp : w.cell? ⟨x.wb, 1, none⟩ = some (.bool x.p) := by rw [cell_of_row w x.wb 1 _ _ _ hx.2.1]; rfl
      have HG := hid hg
      have HP := hid hp
      have HI := hid hI
      clear hf hp hg hx hI h'
      cases hxp : x.p
      · rw [hxp] at hcp
        have hp0 : ((aget n s.ws).map (·.p)).getD false = false := HP.out.trans hxp
        have HP0 := hid hp0
        clear hp0
        go_enter Try.func73, Try.ntmps73
        go_wp2_with fail
        refine HT.out.mono ?_
        rintro e w1 ⟨rfl, ht1, hf1⟩
        obtain ⟨lo1, h1⟩ := H.out.locks ht1 hf1
        have fF : Fr F w w1 := hf1.mono (fun i hi => hi.elim (fun q => q ▸ H.out.b) (fun q => H.out.lF i q))
        cases hz : ((takeA s.lk n key al).1 == 0)
        · have hne : (takeA s.lk n key al).1 ≠ 0 := by simpa using hz
          have HE := hid (touch_lock HB.out HP0.out hne)
          rw [takeA_keep hne] at h1
          have HNE := hid hne
          clear hne
          go_wp2_with fail
          go_ret2
          refine ⟨none, more F w w1, by rw [HE.out]; rfl, ?_, grew_more _ _ _, fF, ?_⟩
          · rw [HE.out]; exact ⟨HOK.out, I, L, mo, lo1, h1, HW.out⟩
          · rw [HE.out]; intro q; exact absurd q HNE.out
        · have hne : (takeA s.lk n key al).1 = 0 := by simpa using hz
          have he := touch_done HB.out HP0.out hne
          have hok' := HOK.out.touch n key al
          rw [HG.out] at he
          simp only [Option.isSome_some, if_true] at he
          rw [he] at hok'
          have HE := hid he
          have HOK' := hid hok'
          rw [HI.out] at h1
          have hwk : KvWk Pz (more F w w1) w1 b0 ⟨s.vs, s.th, s.ws, (takeA s.lk n key al).2⟩ n x.wb :=
            ⟨HOK'.out, I1, x, I2, L, mo, lo1, h1, by rw [HW.out, HI.out], hxn, hxp, rfl⟩
          clear hne he hok' h1
          go_wp2_with fail
          go_ret2
          refine ⟨some ⟨x.wb, 0, none⟩, more F w w1, by rw [HE.out]; rfl, ?_, grew_more _ _ _, fF, fun _ => ⟨x.wb, rfl, ?_⟩⟩
          · rw [HE.out]; exact hwk.at_
          · rw [HE.out]; exact hwk
      · rw [hxp] at hcp
        have HE := hid (touch_prep (al := al) HB.out (HP.out.trans hxp))
        go_enter Try.func73, Try.ntmps73
        go_wp2_with fail
        go_ret2
        refine ⟨none, F, by rw [HE.out]; rfl, ?_, Grew.refl _ _, Fr.refl _ _, ?_⟩
        · rw [HE.out]; exact HAT.out
        · rw [HE.out]; intro q; cases q
end Go.Proofs.Ytdejbinmnoabeaa.K
