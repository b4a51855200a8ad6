/- Walks of the store of keys: Restore. Conditions: the store reads as KvAt says; the list is none of the store's blocks. -/
import Derived.Test.YtekebjcknhjceaaKvW7
namespace Go.Mine
theorem rest_low {s : KS} {n : Int} {l : List Ch} (h : n < 1) : s.restore n l = (1, s) := by simp [KS.restore, h]
theorem rest_bad {s : KS} {n : Int} {l : List Ch} (h : ¬ n < 1) (hr : rightL l [] = false) : s.restore n l = (1, s) := by simp [KS.restore, h, hr]
theorem rest_there {s : KS} {n : Int} {l : List Ch} (h : ¬ n < 1) (hr : rightL l [] = true) (hg : (aget n s.ws).isSome = true) : s.restore n l = (7, s) := by simp [KS.restore, h, hr, hg]
theorem rest_lock {s : KS} {n : Int} {l : List Ch} (h : ¬ n < 1) (hr : rightL l [] = true) (hg : aget n s.ws = none) (ht : (takeAll n l s.lk).1 ≠ 0) : s.restore n l = ((takeAll n l s.lk).1, { s with lk := dropA n (takeAll n l s.lk).2 }) := by simp [KS.restore, h, hr, hg, ht]
theorem rest_do {s : KS} {n : Int} {l : List Ch} (h : ¬ n < 1) (hr : rightL l [] = true) (hg : aget n s.ws = none) (ht : (takeAll n l s.lk).1 = 0) : s.restore n l = (0, ⟨s.vs, s.th, if l = [] then s.ws else s.ws ++ [(n, ⟨l, true⟩)], (takeAll n l s.lk).2⟩) := by simp [KS.restore, h, hr, hg, ht]
theorem takeAll_step {n : Int} {l : List Ch} {i : Nat} {y : Ch} {A : LTab} (hy : l[i]? = some y) : takeAll n (l.drop i) A = if (takeA A n y.key true).1 ≠ 0 then ((takeA A n y.key true).1, A) else takeAll n (l.drop (i + 1)) (takeA A n y.key true).2 := by
  have h1 := (List.getElem?_eq_some_iff.1 hy).1
  have h2 := (List.getElem?_eq_some_iff.1 hy).2
  rw [List.drop_eq_getElem_cons h1, h2, takeAll]
end Go.Mine
namespace Go.Proofs.Ytekebjcknhjceaa
open Go.RowKit Go.Mine Go.Proofs.YtekebjcknhjceaaW.PrintWords
open Go.ChangeMaps (setBlock)
set_option linter.unusedVariables false
set_option linter.unusedSimpArgs false

/-- A slice lies beside a set of blocks. -/
def Beside (F : Nat → Prop) (w : World) (A : Option Addr) : Prop := ∀ b off, A = some ⟨b, off, none⟩ → ¬ F b ∧ b < w.heap.size
theorem ChAt.fr {F : Nat → Prop} {w w' : World} {B : Nat} {A : Option Addr} {l : List Ch} (h : ChAt w B A l) (hf : Fr F w w') (hA : Beside F w A) : ChAt w' B A l := by
  intro i x hx
  obtain ⟨b, off, e, hlt, hc⟩ := h i x hx
  exact ⟨b, off, e, hlt, fun j v hv => hf.cell (hc j v hv) (hA b off e).1⟩

set_option maxRecDepth 100000 in
set_option maxHeartbeats 4000000 in
theorem restore_any {F : Nat → Prop} {w : World} {b0 : Nat} {s : KS} (h : KvAt F w b0 s) (n : Int) (A : Option Addr) (l : List Ch) (c : Nat) (hl : ChAt w w.heap.size A l) (hA : Beside F w A) (hn : l.length ≤ 1000000) (hc : l.length ≤ c) :
    Calls Try.prog 27 #[.pointer (some ⟨b0, 0, none⟩), .int .i64 n, .slice A l.length c] w (SPost F w b0 (s.restore n l).1 (s.restore n l).2) := by
  have hright := right_any A l c _ w hl (Nat.le_refl _) (by omega)
  have HRI := hid hright
  have H := hid h
  clear hright
  go_enter Try.func27, Try.ntmps27
  go_wp2_with fail
  refine (fit_any _ _ _).mono ?_
  rintro e w1 ⟨rfl, rfl⟩
  by_cases hn1 : n < 1
  · have HE := hid (rest_low (s := s) (l := l) hn1)
    simp only [reduceCtorEq, if_false, hn1, if_true]
    go_wp2_with fail
    go_ret
    exact ⟨by rw [HE.out]; rfl, ⟨F, by rw [HE.out]; exact H.out, Grew.refl _ _⟩, Fr.refl _ _⟩
  · simp only [reduceCtorEq, if_false, hn1]
    have HN1 := hid hn1
    clear hn1
    go_wp2_with fail
    refine HRI.out.mono ?_
    rintro e w1 ⟨rfl, f1⟩
    have f1r : Fr (fun _ => False) w w1 := Fr.of_below f1 (Nat.le_refl _)
    have h1 := h.below f1
    have hl1 := (hl.below f1).up f1.size
    have hA1 : Beside F w1 A := fun b off e => ⟨(hA b off e).1, Nat.lt_of_lt_of_le (hA b off e).2 f1.size⟩
    have fr1 : Fr F w w1 := f1r.mono (fun _ q => q.elim)
    clear HRI hl hA h f1r
    cases hr : rightL l []
    · have HE := hid (rest_bad (s := s) (n := n) (by have := HN1.out; omega) hr)
      go_wp2_with fail
      go_ret
      exact ⟨by rw [HE.out]; rfl, ⟨F, by rw [HE.out]; exact h1, Grew.refl _ _⟩, fr1⟩
    · have HRT := hid hr
      clear hr
      have hat := h1
      obtain ⟨hok, I, L, mo, lo, hR, hws⟩ := h1
      have hlk := run_lookupO Try.underlying64 key3 hR.map (zero77 w1) n false
      simp only [Bool.false_eq_true, if_false] at hlk
      rw [mget_ws hR n] at hlk
      have hg := aget_ws n I
      rw [← hws] at hg
      have hcm : w1.cell? ⟨b0, 32, none⟩ = some (.map mo) := by rw [cell_of_row w1 b0 32 _ _ _ hR.blk]; exact sc32 hR.lv hR.lth mo lo
      have HOK := hid hok
      have HW := hid hws
      have HAT := hid hat
      have HR := hid hR
      clear hok hws hat hR
      cases hf : I.find? (fun x => decide (x.n = n)) with
      | some x =>
        rw [hf] at hlk hg
        simp only [Option.map_some, Option.getD_some] at hlk hg
        have HE := hid (rest_there (n := n) (by have := HN1.out; omega) HRT.out (by rw [hg]; rfl))
        clear hf hg
        go_wp2_with fail
        go_ret
        exact ⟨by rw [HE.out]; rfl, ⟨F, by rw [HE.out]; exact HAT.out, Grew.refl _ _⟩, fr1⟩
      | none =>
        rw [hf] at hlk hg
        simp only [Option.map_none, Option.getD_none] at hlk hg
        have HG := hid hg
        have HF := hid hf
        clear hg hf
        go_wp2_with fail
        clear hlk hcm
        go_loopg [29] (l.length + 1) (fun m v wr => ∃ (i : Nat) (Ai : LTab) (lo' : Option Nat) (F' : Nat → Prop), v = .int .i64 i ∧ i ≤ l.length ∧ m = l.length + 1 - i ∧ takeAll n l s.lk = takeAll n (l.drop i) Ai ∧ Right Ai ∧ KvR F' wr b0 s.vs s.th Ai I L mo lo' ∧ Grew F F' w1 ∧ Fr F w1 wr)
        case atStart => exact ⟨0, s.lk, lo, F, rfl, Nat.zero_le _, rfl, rfl, HOK.out.rk, HR.out, Grew.refl _ _, Fr.refl _ _⟩
        case round =>
          obtain ⟨i, Ai, lo', F', rfl, hi, hm, hta, hri, hRi, hgr, hfr⟩ := hrel
          have HN := hid hm
          have HTA := hid hta
          have HRI := hid hri
          have HRi := hid hRi
          clear hm hta hri hRi
          by_cases hil : i < l.length
          · obtain ⟨y, hy⟩ : ∃ y, l[i]? = some y := ⟨_, List.getElem?_eq_getElem hil⟩
            obtain ⟨b, off, rfl, hbb, hcc⟩ := (hl1.fr hfr hA1) i y hy
            have k0 : wr.cell? ⟨b, off + i * 3, none⟩ = some (.int .i64 y.kind) := hcc 0 _ rfl
            have k1 := hcc 1 _ rfl
            have k2 := hcc 2 _ rfl
            have HST := hid (HTA.out.trans (takeAll_step (A := Ai) hy))
            clear hcc hy
            go_wp2_with fail
            have fa : Fr (fun _ => False) wr (wr.alloc (.cells #[.int .i64 y.kind, .int .i64 y.key, .int .u64 y.val] 60)) := (Fr.refl _ wr).alloc _
            have HRa := hid (HRi.out.fr fa (fun _ _ => id))
            have hfa := hfr.trans fa (fun _ q => q.elim)
            have hbx : (wr.alloc (.cells #[.int .i64 y.kind, .int .i64 y.key, .int .u64 y.val] 60)).heap[wr.heap.size]? = some (.cells #[.int .i64 y.kind, .int .i64 y.key, .int .u64 y.val] 60 (0, 0)) := (MapKept.heap_alloc wr _).1
            clear k0 k1 k2 HRi fa
            generalize wr.alloc (.cells #[.int .i64 y.kind, .int .i64 y.key, .int .u64 y.val] 60) = wa at *
            have k1 : wa.cell? ⟨wr.heap.size, 1, none⟩ = some (.int .i64 y.key) := by rw [cell_of_row wa _ 1 _ _ _ hbx]; rfl
            go_still_tail 6, (by kernel_rfl)
            change wpList _ _ _ _ _ wa.drew
            have fz : Fr (fun _ => False) wa wa.drew := (Fr.refl _ wa).drew
            have HRz := hid (HRa.out.fr fz (fun _ _ => id))
            have hfz := hfa.trans fz (fun _ q => q.elim)
            clear k1 HRa fz hfa hbx
            generalize wa.drew = wz at *
            have HT := hid (take_A HRz.out.lt n y.key true)
            go_wp2_with fail
            refine HT.out.mono ?_
            rintro e w2 ⟨rfl, ht2, hf2⟩
            obtain ⟨lo2, h2⟩ := HRz.out.locks ht2 hf2
            have hfF : Fr F' wz w2 := hf2.mono (fun j hj => hj.elim (fun q => q ▸ HRz.out.b) (fun q => HRz.out.lF j q))
            have hfr2 : Fr F w1 w2 := hfz.trans hfF (fun j hj => hgr j hj)
            have hgr2 : Grew F (more F' wz w2) w1 := hgr.trans (grew_more F' wz w2) hfz.size
            cases hz : ((takeA Ai n y.key true).1 != 0)
            · have h0 : (takeA Ai n y.key true).1 = 0 := by simpa using hz
              have hst := HST.out
              rw [if_neg (by simp [h0])] at hst
              have HS2 := hid hst
              have HRk := hid (HRI.out.take n y.key true)
              have H2 := hid h2
              clear h0 hst h2 ht2 hf2 hfF hfz HRz HT
              go_wp2_with fail
              go_roundg (l.length + 1 - (i + 1))
              case measure => rw [HN.out]; omega
              case rel => exact ⟨i + 1, _, lo2, _, by go_num, by omega, rfl, HS2.out, HRk.out, H2.out, hgr2, hfr2⟩
            · have hne : (takeA Ai n y.key true).1 ≠ 0 := by simpa using hz
              have hst := HST.out
              rw [if_pos hne] at hst
              have htn : (takeAll n l s.lk).1 ≠ 0 := by rw [hst]; exact hne
              have HE := hid (rest_lock (n := n) (by have := HN1.out; omega) HRT.out HG.out htn)
              have HS2 := hid hst
              rw [takeA_keep hne] at h2
              have H2 := hid h2
              have HD := hid (drop_A h2.lt (by have := HRI.out.len; omega) n)
              clear hne hst htn h2 ht2 hf2 hfF hfz HRz HT
              go_wp2_with fail
              refine HD.out.mono ?_
              rintro e w3 ⟨rfl, ht3, hf3⟩
              have h3 := H2.out.locks' ht3 hf3
              have hfr3 : Fr F w w3 := fr1.trans (hfr2.trans (hf3.mono (fun j hj => H2.out.lF j hj)) (fun j hj => hgr2 j hj)) (fun j hj => .inl hj)
              have H3 := hid h3
              have hok3 := (HOK.out.restore n l)
              have HOK3 := hid hok3
              clear h3 ht3 hf3 hok3 hfr2
              go_wp2_with fail
              go_ret
              refine ⟨by rw [HE.out, HS2.out]; rfl, ⟨_, ⟨HOK3.out, I, L, mo, lo2, ?_, by rw [HE.out]; exact HW.out⟩, fun j hj => (hgr2 j hj).imp id (fun q => Nat.le_trans fr1.size q)⟩, hfr3⟩
              rw [HE.out, HS2.out]
              exact H3.out
          · have : i = l.length := by omega
            subst this
            have hta := HTA.out
            rw [List.drop_length] at hta
            have hz : (takeAll n l s.lk).1 = 0 := by rw [hta]; rfl
            have HE := hid (rest_do (n := n) (by have := HN1.out; omega) HRT.out HG.out hz)
            have HTT := hid hta
            have HOK3 := hid (HOK.out.restore n l)
            clear hta hz
            have hfrw : Fr F w wr := fr1.trans hfr (fun j hj => .inl hj)
            by_cases hl0 : l = []
            · have hll : (l.length : Int) = 0 := by simp [hl0]
              have HL0 := hid hl0
              clear hl0
              go_wp2_with fail
              go_ret
              refine ⟨by rw [HE.out]; rfl, ⟨F', ⟨HOK3.out, I, L, mo, lo', ?_, ?_⟩, fun j hj => (hgr j hj).imp id (fun q => Nat.le_trans fr1.size q)⟩, hfrw⟩
              · rw [HE.out, HTT.out]; exact HRi.out
              · rw [HE.out]; simp only [HL0.out, if_true]; exact HW.out
            · have hlp : (0 : Int) < l.length := by
                have : l.length ≠ 0 := fun q => hl0 (List.eq_nil_of_length_eq_zero q)
                omega
              have HL0 := hid hl0
              have HCL := hid (clone_any A l c _ wr (hl1.fr hfr hA1) (by omega) hc)
              clear hl0
              go_wp2_with fail
              refine HCL.out.mono ?_
              rintro e w2 ⟨v2, rfl, hr2, ho2, hb2⟩
              have f2 : Fr (fun _ => False) wr w2 := Fr.of_below hb2 (Nat.le_refl _)
              have h2 := HRi.out.fr f2 (fun _ _ => id)
              have hset := set_any n w2.heap.size b0 s.vs s.th mo lo' L (w2.alloc (.cells #[v2, .bool true] 84)) h2.lv h2.lth ((Below.heap_alloc _ _ _ (blk_lt h2.blk)).trans h2.blk) (h2.map.fr ((Fr.refl (fun _ => False) w2).alloc _) (fun _ _ => id))
              have HS := hid hset
              have HNW := hid (MapKept.heap_alloc w2 (.cells #[v2, .bool true] 84)).1
              obtain ⟨A2, c2, hv2, _, _⟩ := hr2.at_
              subst hv2
              have HR2 := hid hr2
              have HO2 := hid ho2
              have H2 := hid h2
              clear hset h2 hr2 ho2
              go_wp2_with fail
              refine HS.out.mono ?_
              rintro e w3 ⟨rfl, mo', L', hb', hm', hk', hmo', hf'⟩
              have hkv : kv L' = (I ++ [(⟨n, w2.heap.size, .slice A2 l.length c2, l, true⟩ : WI)]).map (fun x => (x.n, x.wb)) := by
                have hn : aget n (kv L) = none := by rw [← kv_get, mget_ws HRi.out, HF.out]; rfl
                rw [hk', aput, hn, HRi.out.kvL]
                simp
              have hlt := HRi.out.fb
              have hnb : ∀ k, wr.heap.size ≤ k → ¬ (k = b0 ∨ mo = some k) := by
                rintro k hk (q | q)
                · have := hlt _ HRi.out.b; omega
                · have := hlt _ (HRi.out.mF _ q); omega
              have hf3 : Fr (fun i => i = b0 ∨ mo = some i) wr w3 := ((f2.mono (fun _ q => q.elim)).alloc _).trans hf' (fun i hi => .inl hi)
              have h3 := hf'.at_ HNW.out (hnb _ f2.size)
              have hr3 : ChRow w3 (.slice A2 l.length c2) l := HR2.out.move (fun k hk => (hf'.block k (by have := HR2.out.lt k hk; simp; omega) (hnb _ (HO2.out k hk))).trans (Below.heap_alloc _ _ _ (HR2.out.lt k hk)))
              have h4 := HRi.out.add (x := ⟨n, w2.heap.size, .slice A2 l.length c2, l, true⟩) hb' hm' (hmo'.imp id (fun q b hb => Nat.le_trans (Nat.le_trans f2.size (by simp)) (q b hb))) hf3 hkv f2.size (fun k hk => HO2.out k hk) h3 hr3
              have H4 := hid h4
              have hfr4 : Fr F w w3 := hfrw.trans hf3 (fun j hj => by
                have hq : F' j := hj.elim (fun q => q ▸ HRi.out.b) (fun q => HRi.out.mF j q)
                exact (hgr j hq).imp id (fun q => Nat.le_trans fr1.size q))
              have hgr4 : Grew F (more F' wr w3) w := fun j hj => (((hgr.trans (grew_more F' wr w3) hfr.size) j hj).imp id (fun q => Nat.le_trans fr1.size q))
              clear h4 hr3 h3 hf3 hnb hlt hkv hk' hm' hb' hf' hmo'
              go_wp2_with fail
              go_ret
              refine ⟨by rw [HE.out]; rfl, ⟨more F' wr w3, ⟨HOK3.out, I ++ [(⟨n, w2.heap.size, .slice A2 l.length c2, l, true⟩ : WI)], L', mo', lo', ?_, ?_⟩, hgr4⟩, hfr4⟩
              rotate_left
              · rw [HE.out]; simp only [HL0.out, if_false]; rw [HW.out]; exact (by simp [wsOf] : wsOf I ++ [(n, (⟨l, true⟩ : KW))] = wsOf (I ++ [(⟨n, w2.heap.size, .slice A2 l.length c2, l, true⟩ : WI)]))
              · rw [HE.out, HTT.out]; exact H4.out
end Go.Proofs.Ytekebjcknhjceaa
