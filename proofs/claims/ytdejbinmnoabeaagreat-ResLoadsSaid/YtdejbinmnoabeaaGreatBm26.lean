/- Texts of this seat, put together: QdH, RdS. -/
import Derived.Test.YtdejbinmnoabeaaGreatBm17
import Derived.Test.YtdejbinmnoabeaaGreatBm25
import Derived.BigQuiet
namespace Go.Proofs.YtdejbinmnoabeaaGreat.E
open Go.Proofs.YtdejbinmnoabeaaGreat.Q
variable {Zd : Z3}
open Go.RowKit Go.Mine Go.Proofs.YtdejbinmnoabeaaGreatW.PrintWords
set_option linter.unusedVariables false
set_option linter.unusedSimpArgs false
set_option maxRecDepth 100000 in
set_option maxHeartbeats 8000000 in
theorem dload_any {F : Nat → Prop} {w : World} {b : Nat} {s : QS} (h : DAt Zd F w b s) (hb : s.Bd) (A : Option Addr) (vals : List Int) (c : Nat) (next : Int) (hv : UAt w w.heap.size A vals) (hA : vals ≠ [] → Beside F A) (hlen : vals.length ≤ 100000000000000000) :
    Calls Tryz.prog 50 #[.pointer (some ⟨b, 3, none⟩), .slice A vals.length c, .int .i64 next] w (DPost Zd F w b (.int .i64 (s.load vals next).1) (s.load vals next).2) := by
  have h0 := h
  obtain ⟨I, iv, qv, hR, hws⟩ := h
  obtain ⟨hb1, hb2, hb3, hb4, hb5, hb6, hb7⟩ := hb
  have hIl : I.length ≤ 1000 := by rw [hws] at hb3; simpa [wsOf] using hb3
  have hwl : s.ws.length = I.length := by rw [hws]; simp [wsOf]
  obtain ⟨A0, cc0, rfl, hc0, _⟩ := hR.it.at_
  obtain ⟨A1, cc1, rfl, hc1, _⟩ := hR.wp.at_
  have c0 : w.cell? ⟨b, 3, none⟩ = some (.slice A0 s.its.length cc0) := by rw [cell_of_row w b 3 _ _ _ hR.blk]; rfl
  have c1 : w.cell? ⟨b, 4, none⟩ = some (.slice A1 I.length cc1) := by rw [cell_of_row w b 4 _ _ _ hR.blk]; rfl
  have HR := hid hR
  have HWS := hid hws
  have H0 := hid h0
  have HA := hid hA
  have HV := hid hv
  clear hR hws h0 hA hv hb4 hb1
  go_enter Tryz.func50, Tryz.ntmps50
  by_cases hp : 0 < s.its.length + s.ws.length
  · have he : s.load vals next = (7, s) := by unfold QS.load; rw [if_pos hp]
    have HE := hid he
    obtain ⟨NI, hNI⟩ : ∃ NI, NI = s.its.length := ⟨_, rfl⟩
    obtain ⟨NJ, hNJ⟩ : ∃ NJ, NJ = I.length := ⟨_, rfl⟩
    rw [← hNI] at c0
    rw [← hNJ] at c1
    by_cases hp1 : 0 < s.its.length
    · have hp1' : 0 < (NI : Int) := by omega
      clear he hp hp1 hNI hNJ hwl hIl hb2 hb3 hc0 hc1
      go_wp2_with fail
      go_ret
      exact ⟨by rw [HE.out]; rfl, ⟨F, by rw [HE.out]; exact H0.out, Grew.refl _ _⟩, Fr.refl _ w⟩
    · have hp1' : ¬ 0 < (NI : Int) := by omega
      have hp2' : 0 < (NJ : Int) := by omega
      clear he hp hp1 hNI hNJ hwl hIl hb2 hb3 hc0 hc1
      go_wp2_with fail
      go_ret
      exact ⟨by rw [HE.out]; rfl, ⟨F, by rw [HE.out]; exact H0.out, Grew.refl _ _⟩, Fr.refl _ w⟩
  · have hi0 : s.its = [] := List.eq_nil_of_length_eq_zero (by omega)
    have hI0 : I = [] := List.eq_nil_of_length_eq_zero (by omega)
    subst hI0
    rw [hi0] at c0 HR
    simp only [List.length_nil] at c0 c1 HR
    by_cases hbad : 16 < vals.length ∨ next ≤ vals.length ∨ 4611686018427387904 < next
    · have he : s.load vals next = (1, s) := by unfold QS.load; rw [if_neg hp, if_pos hbad]
      have HE := hid he
      clear he hp hi0
      by_cases g1 : 16 < vals.length
      · have g1' : 16 < (vals.length : Int) := by omega
        clear hbad g1
        go_wp2_with fail
        go_ret
        exact ⟨by rw [HE.out]; rfl, ⟨F, by rw [HE.out]; exact H0.out, Grew.refl _ _⟩, Fr.refl _ w⟩
      · have g1' : ¬ 16 < (vals.length : Int) := by omega
        by_cases g2 : next ≤ vals.length
        · clear hbad g1
          go_wp2_with fail
          go_ret
          exact ⟨by rw [HE.out]; rfl, ⟨F, by rw [HE.out]; exact H0.out, Grew.refl _ _⟩, Fr.refl _ w⟩
        · have g3 : 4611686018427387904 < next := by omega
          clear hbad g1
          go_wp2_with fail
          go_ret
          exact ⟨by rw [HE.out]; rfl, ⟨F, by rw [HE.out]; exact H0.out, Grew.refl _ _⟩, Fr.refl _ w⟩
    · have he : s.load vals next = (0, ⟨loadI vals next, s.ws, next - 1⟩) := by unfold QS.load; rw [if_neg hp, if_neg hbad]
      have HE := hid he
      have g1' : ¬ 16 < (vals.length : Int) := by omega
      have g2' : ¬ next ≤ vals.length := by omega
      have g3' : ¬ 4611686018427387904 < next := by omega
      have hg1 : vals.length ≤ 16 := by omega
      have hg2 : (vals.length : Int) < next := by omega
      have hg3 : next ≤ 4611686018427387904 := by omega
      have HG := hid (And.intro hg1 (And.intro hg2 hg3))
      clear he hp hi0 hbad
      go_wp2_with fail
      clear c0 c1
      go_loopg [7] (vals.length + 1) (fun m v7 wr => ∃ (i : Nat) (F' : Nat → Prop) (iv' : Value), v7 = .int .i64 i ∧ i ≤ vals.length ∧ m = vals.length + 1 - i ∧ QR Zd eD T1 F' wr b ((loadI vals next).take i) [] s.gv iv' (.slice A1 0 cc1) ∧ Grew F F' w ∧ Fr F w wr)
      case atStart => exact ⟨0, F, _, rfl, Nat.zero_le _, rfl, by simpa using HR.out, Grew.refl _ _, Fr.refl _ _⟩
      case round =>
        obtain ⟨i, F', iv', rfl, hi, hm, hQ, hgr, hfr⟩ := hrel
        have HN := hid hm
        have HQ := hid hQ
        have HGR := hid hgr
        have HFR := hid hfr
        clear hm hgr
        by_cases h1 : i < vals.length
        · obtain ⟨y, hy⟩ : ∃ y, vals[i]? = some y := ⟨_, List.getElem?_eq_getElem h1⟩
          obtain ⟨b', off, rfl, hbb, hcc⟩ := (RowAt.fr HV.out hfr HA.out) i y hy
          have k0 : wr.cell? ⟨b', off + i, none⟩ = some (.int .u64 y) := by have := hcc 0 _ rfl; simpa using this
          have hst := loadI_take (next := next) hy
          have hlL : ((loadI vals next).take i).length ≤ 1000 := by rw [List.length_take, loadI_len]; omega
          obtain ⟨A3, c3, hv3, hc3, _⟩ := hQ.it.at_
          subst hv3
          have z0 : wr.cell? ⟨b, 3, none⟩ = some (.slice A3 ((loadI vals next).take i).length c3) := by rw [cell_of_row _ b 3 _ _ _ hQ.blk]; rfl
          have ww1 : IntKind.i64.wrap (next - (vals.length : Int)) = next - vals.length := wr64 (by have := HG.out; omega) (by have := HG.out; omega)
          have ww2 : IntKind.i64.wrap (next - (vals.length : Int) + (i : Int)) = next - vals.length + i := wr64 (by have := HG.out; omega) (by have := HG.out; omega)
          have z0a : (wr.alloc (.cells #[.int .i64 (next - vals.length + i), .int .u64 y] 129)).cell? ⟨b, 3, none⟩ = some (.slice A3 ((loadI vals next).take i).length c3) := by rw [World.cell?_alloc_lt _ _ _ (World.block_lt_of_cell? _ _ z0)]; exact z0
          have HST := hid hst
          have HQD := hid (hQ.below (bd1 wr))
          clear hcc hy hst hQ hfr
          generalize hL : (loadI vals next).take i = L at *
          have HL := hid hL
          clear hL g1' g2' g3' hg1 hg2 hg3
          go_wp2_with fail
          go_region_law (refine Kd.R_append_step eD.kd (w0 := wr.drew) 0 (by rfl) (.tmp 45) (.tmp 57) 33 129 _ 16 rfl Tryz.underlying33 info129 (by rfl) (by decide) (by decide) (.slice A3 L.length c3) L ⟨next - vals.length + i, y, 0⟩ (encD ⟨next - vals.length + i, y, 0⟩) (fun _ => True) (fun _ => False) (by simp [Act.eval, Act.put]) (by simp [Act.eval, Act.put]) rfl (fun _ q => q.elim) (fun _ _ => trivial) HQD.out.it (Below.refl _ _) (Nat.zero_le _) (by omega) ?_; intro v5 w5 ho5 hb5 hg5 hat5; have hb5' : w5.heap[b]? = some (.cells #[Zd.a, Zd.b, Zd.c, .slice A3 L.length c3, .slice A1 0 cc1, .int .i64 s.gv] 38 (0, 0)) := (hg5.block _ (HQD.out.fb _ HQD.out.bF) (fun q => HQD.out.iv_ne.1 q.symm)).trans HQD.out.blk; have hc5 : w5.cell? ⟨b, 3, none⟩ = some (.slice A3 L.length c3) := (by rw [cell_of_row w5 b 3 _ _ _ hb5']; rfl); have hz5 : w5.frozen? ⟨b, 3, none⟩ = false := (by simp [World.frozen?, hb5']); have HO5 := hid ho5; have HG5 := hid hg5; have HT5 := hid hat5; have HB5 := hid hb5'; clear ho5 hg5 hat5 hb5'; obtain ⟨A5, c5, hv5⟩ := Kd.R_slice HO5.out; rw [List.length_append, List.length_singleton] at hv5; subst hv5)
          all_goals
            have hf6 : Fr (fun k => k = b ∨ (Value.slice A3 L.length c3).ownBlock = some k) wr.drew (w5.setCell ⟨b, 3, none⟩ (.slice A5 (L.length + 1) c5)) := Fr.setCell (p := ⟨b, 3, none⟩) ((Fr.of_grown HG5.out).mono (fun j hj => .inr hj)) (.inl (.inl rfl)) _
            have hi6 : FR eD 129 (w5.setCell ⟨b, 3, none⟩ (.slice A5 (L.length + 1) c5)) (.slice A5 (L.length + 1) c5) (L ++ [⟨next - vals.length + i, y, 0⟩]) := FR.move HO5.out (fun j hj => Below.heap_setCell _ _ _ _ (fun q => FR.ne HO5.out HB5.out (by decide) (by rw [hj]; exact congrArg some q)))
            have hq6 : FR eWI 102 (w5.setCell ⟨b, 3, none⟩ (.slice A5 (L.length + 1) c5)) (.slice A1 0 cc1) [] := HQD.out.wp.move (fun k hk => hf6.block k (HQD.out.wp.lt hk) (fun q => by
              rcases q with q | q
              · exact HQD.out.iv_ne.2.1 (by rw [hk, q])
              · exact HQD.out.iv_ne.2.2 k q hk))
            have hfin := HQD.out.turn (hf6.mono (fun k hk => hk.imp id (fun q => .inl q))) (blk_set' HB5.out 3 (.slice A5 (L.length + 1) c5)) hi6 hq6 (List.Sublist.refl _) (fun j hj => by
              rcases HT5.out with q | ⟨b', q, hb⟩
              · exact .inl (q ▸ hj)
              · rw [hj] at q; cases q; exact .inr hb) (fun j hj => .inl hj)
            have hff := HFR.out.drew.trans hf6 (fun j hj => HGR.out j (by
              rcases hj with q | q
              · rw [q]; exact HQD.out.bF
              · exact HQD.out.iF _ q))
            have hgf := HGR.out.trans (grew_more F' wr.drew (w5.setCell ⟨b, 3, none⟩ (.slice A5 (L.length + 1) c5))) HFR.out.size
            have HFIN := hid hfin
            have HFF := hid hff
            have HGF := hid hgf
            clear hf6 hi6 hq6 hfin hff hgf
            go_wp2_with fail
            go_roundg (vals.length + 1 - (i + 1))
            case measure => rw [HN.out]; omega
            case rel => exact ⟨i + 1, _, _, by go_num, by omega, rfl, by rw [HST.out]; exact HFIN.out, HGF.out, HFF.out⟩
        · have hil : i = vals.length := by omega
          subst hil
          have ht : (loadI vals next).take vals.length = loadI vals next := List.take_of_length_le (by rw [loadI_len]; exact Nat.le_refl _)
          rw [ht] at hQ
          have kg : wr.cell? ⟨b, 5, none⟩ = some (.int .i64 s.gv) := by rw [cell_of_row _ b 5 _ _ _ hQ.blk]; rfl
          have hzg : wr.frozen? ⟨b, 5, none⟩ = false := by simp [World.frozen?, hQ.blk]
          have ww : IntKind.i64.wrap (next - 1) = next - 1 := wr64 (by have := HG.out; omega) (by have := HG.out; omega)
          have hf1 : Fr (fun k => k = b) wr (wr.setCell ⟨b, 5, none⟩ (.int .i64 (next - 1))) := Fr.setCell (S := fun k => k = b) (p := ⟨b, 5, none⟩) (Fr.refl _ _) (.inl rfl) _
          have hQ1 := hQ.turn (hf1.mono (fun k hk => .inl hk)) (blk_set' hQ.blk 5 (.int .i64 (next - 1))) (hQ.it.move (fun k hk => hf1.block k (hQ.it.lt hk) (fun q => hQ.iv_ne.1 (by rw [hk, q])))) (hQ.wp.move (fun k hk => hf1.block k (hQ.wp.lt hk) (fun q => hQ.iv_ne.2.1 (by rw [hk, q])))) (List.Sublist.refl _) (fun j hj => .inl hj) (fun j hj => .inl hj)
          have hfall := HFR.out.trans hf1 (fun j hj => HGR.out j (by rw [hj]; exact hQ.bF))
          have hgall := HGR.out.trans (grew_more F' wr (wr.setCell ⟨b, 5, none⟩ (.int .i64 (next - 1)))) HFR.out.size
          have HQ1 := hid hQ1
          have HFALL := hid hfall
          have HGALL := hid hgall
          clear hf1 hQ1 hfall hgall hQ HQ ht
          go_wp2_with fail
          go_ret
          exact ⟨by rw [HE.out]; rfl, ⟨_, by rw [HE.out]; exact ⟨[], _, _, HQ1.out, HWS.out⟩, HGALL.out⟩, HFALL.out⟩
end Go.Proofs.YtdejbinmnoabeaaGreat.E
namespace Go.Proofs.YtdejbinmnoabeaaGreat
open Go.RowKit Go.Mine Go.Proofs.YtdejbinmnoabeaaGreatW.PrintWords
set_option linter.unusedVariables false
set_option linter.unusedSimpArgs false
theorem wsK_nil {I : List K.WI} (h : ([] : List (Int × KW)) = K.wsOf I) : I = [] := by
  have := congrArg List.length h
  unfold K.wsOf at this
  rw [List.length_map] at this
  exact List.eq_nil_of_length_eq_zero this.symm
theorem DR.addp {F : Nat → Prop} {w : World} {b : Nat} {LP : List (Int × Int)} {s : RM} (h : DR F w b LP s) (hws : s.k.ws = []) :
    ∃ pv q1 q2 q3 q4 q5, w.heap[b]? = some (.cells #[pv, q1, q2, q3, q4, q5] 38 (0, 0)) ∧ D.PrRow w pv LP ∧ (∀ k, pv.ownBlock = some k → F k) ∧ pv.ownBlock ≠ some b ∧
      ∀ w' pv' L', Fr (fun i => i = b ∨ pv.ownBlock = some i) w w' → w'.heap[b]? = some (.cells #[pv', q1, q2, q3, q4, q5] 38 (0, 0)) → D.PrRow w' pv' L' → (∀ j, pv'.ownBlock = some j → pv.ownBlock = some j ∨ w.heap.size ≤ j) → DR (fun i => F i ∨ (w.heap.size ≤ i ∧ i < w'.heap.size)) w' b L' s := by
  obtain ⟨FD, FE, I, pv, qv, tv, J, iv, jv, h⟩ := h
  have hI : I = [] := wsK_nil (by rw [← h.dw]; exact hws.symm)
  subst hI
  refine ⟨pv, qv, tv, iv, jv, _, h.ds.blk, h.ds.pr, fun k hk => h.fd k (h.ds.pF k hk), h.ds.pr.ne h.ds.blk (by decide), ?_⟩
  intro w' pv' L' hf hb hp ho
  have hlt : ∀ k, pv'.ownBlock = some k → k < w'.heap.size := fun k hk => D.row_lt hp k hk
  have hno : ∀ k t, (∃ cells, w.heap[k]? = some (.cells cells t (0, 0))) → t ≠ 38 → t ≠ 106 → ¬ (k = b ∨ pv.ownBlock = some k) := by
    intro k t hk h1 h2 q
    rcases q with q | q
    · subst q; exact D.types_ne hk ⟨_, h.ds.blk⟩ h1
    · exact D.types_ne hk (h.ds.pr.typed q) h2
  refine ⟨fun i => FD i ∨ (w.heap.size ≤ i ∧ i < w'.heap.size), FE, [], pv', qv, tv, J, iv, jv, ⟨⟨?_, .inl h.ds.b, hb, hp, h.ds.wp.move (fun k hk => hf.block k (D.row_lt h.ds.wp k hk) (hno k _ (h.ds.wp.typed hk) (by decide) (by decide))), h.ds.lr.move (fun k hk => hf.block k (D.row_lt h.ds.lr k hk) (hno k _ (h.ds.lr.typed hk) (by decide) (by decide))), ?_, fun k hk => .inl (h.ds.qF k hk), fun k hk => .inl (h.ds.tF k hk), fun x hx => absurd hx List.not_mem_nil, List.Pairwise.nil⟩, h.dw, dq_rebase h.qr hf (fun i hi hne q => ?_) hb, h.qw, ?_, ?_, fun i hi => .inl (h.fe i hi), ?_⟩⟩
  · intro i hi
    rcases hi with r | r
    · exact Nat.lt_of_lt_of_le (h.ds.fb i r) hf.size
    · exact r.2
  · intro k hk
    rcases ho k hk with r | r
    · exact .inl (h.ds.pF k r)
    · exact .inr ⟨r, hlt k hk⟩
  · rcases q with q | q
    · exact hne q
    · exact hne (h.disj i (h.ds.pF i q) hi)
  · intro i hi hq
    rcases hi with r | r
    · exact h.disj i r hq
    · have := h.fb i (h.fe i hq); omega
  · intro i hi
    rcases hi with r | r
    · exact .inl (h.fd i r)
    · exact .inr r
  · intro i hi
    rcases hi with r | r
    · exact Nat.lt_of_lt_of_le (h.fb i r) hf.size
    · exact r.2
theorem DR.turnk {F : Nat → Prop} {w : World} {b : Nat} {LP : List (Int × Int)} {s : RM} (h : DR F w b LP s) (k : KS) (h1 : k.lk = s.k.lk) (h2 : k.ws = s.k.ws) : DR F w b LP ⟨k, s.q⟩ := by
  obtain ⟨FD, FE, I, pv, qv, tv, J, iv, jv, h⟩ := h
  exact ⟨FD, FE, I, pv, qv, tv, J, iv, jv, ⟨by show D.DsR _ FD w b LP I k.lk pv qv tv; rw [h1]; exact h.ds, by show k.ws = _; rw [h2]; exact h.dw, h.qr, h.qw, h.disj, h.fd, h.fe, h.fb⟩⟩
def Bd (w : World) (bx : Nat) (A1 : Option Addr) (n1 c1 : Nat) (A2 : Option Addr) (n2 c2 : Nat) (nx : Int) : Prop := w.heap[bx]? = some (.cells #[.slice A1 n1 c1, .slice A2 n2 c2, .int .i64 nx] 54 (0, 0))
def DLoadPost (w : World) (P : List (Int × Int)) (lr : Int × RM) (e : Ending) (w' : World) : Prop :=
  ∃ p, e = .returned (.tuple #[.pointer p, .int .i64 lr.1]) ∧ Below w.heap.size w w' ∧ (lr.1 ≠ 0 → p = none) ∧ (lr.1 = 0 → ∃ b F, p = some ⟨b, 0, none⟩ ∧ DR F w' b P lr.2 ∧ ∀ i, F i → w.heap.size ≤ i)
set_option maxRecDepth 100000 in
set_option maxHeartbeats 4000000 in
theorem dload_img {w : World} {v : Value} {P : List (Int × Int)} {L : List Int} {nx : Int} (h : ImgAt w w.heap.size v ⟨P, L, nx⟩) (hP : P.length ≤ 100) (hL : L.length ≤ 100) :
    Calls Tryz.prog 17 #[v] w (DLoadPost w P (loadRM P L nx)) := by
  obtain ⟨A1, c1, A2, c2, rfl, hp, hu, l1, l2⟩ := h
  have HP := hid hp
  have HU := hid hu
  have HPL := hid hP
  have HLL := hid hL
  have hbx : Bd (w.alloc (.cells #[.slice A1 P.length c1, .slice A2 L.length c2, .int .i64 nx] 54)) w.heap.size A1 P.length c1 A2 L.length c2 nx := (MapKept.heap_alloc w _).1
  have hba : Below w.heap.size w (w.alloc (.cells #[.slice A1 P.length c1, .slice A2 L.length c2, .int .i64 nx] 54)) := (Below.refl _ _).alloc (Nat.le_refl _) _
  have hlt : w.heap.size < (w.alloc (.cells #[.slice A1 P.length c1, .slice A2 L.length c2, .int .i64 nx] 54)).heap.size := by simp
  have HBX := hid hbx
  have HBA := hid hba
  have HLT := hid hlt
  clear hp hu hbx hba hlt l1 l2 hL
  have hr1 := DR.new (w.alloc (.cells #[.slice A1 P.length c1, .slice A2 L.length c2, .int .i64 nx] 54))
  have hf1 : Below (w.alloc (.cells #[.slice A1 P.length c1, .slice A2 L.length c2, .int .i64 nx] 54)).heap.size (w.alloc (.cells #[.slice A1 P.length c1, .slice A2 L.length c2, .int .i64 nx] 54)) ((w.alloc (.cells #[.slice A1 P.length c1, .slice A2 L.length c2, .int .i64 nx] 54)).alloc (.cells #[.slice none 0 0, .slice none 0 0, .slice none 0 0, .slice none 0 0, .slice none 0 0, .int .i64 0] 38)) := (Below.refl _ _).alloc (Nat.le_refl _) _
  have hx1 := (hf1.block _ HLT.out).trans HBX.out
  have HX1 : Hid (Bd ((w.alloc (.cells #[.slice A1 P.length c1, .slice A2 L.length c2, .int .i64 nx] 54)).alloc (.cells #[.slice none 0 0, .slice none 0 0, .slice none 0 0, .slice none 0 0, .slice none 0 0, .int .i64 0] 38)) w.heap.size A1 P.length c1 A2 L.length c2 nx) := hid hx1
  have HB1 := hid (HBA.out.trans (hf1.mono HBA.out.size))
  have HR1 : Hid (DR (fun i => i = (w.alloc (.cells #[.slice A1 P.length c1, .slice A2 L.length c2, .int .i64 nx] 54)).heap.size) ((w.alloc (.cells #[.slice A1 P.length c1, .slice A2 L.length c2, .int .i64 nx] 54)).alloc (.cells #[.slice none 0 0, .slice none 0 0, .slice none 0 0, .slice none 0 0, .slice none 0 0, .int .i64 0] 38)) (w.alloc (.cells #[.slice A1 P.length c1, .slice A2 L.length c2, .int .i64 nx] 54)).heap.size [] RM.new) := hid hr1
  have hsz : (w.alloc (.cells #[.slice A1 P.length c1, .slice A2 L.length c2, .int .i64 nx] 54)).heap.size = w.heap.size + 1 := by simp
  have HSZ := hid hsz
  clear hr1 hf1 hx1 HBX HBA HLT hsz
  go_enter Tryz.func17, Tryz.ntmps17
  go_wp2_with fail
  generalize ((w.alloc (.cells #[.slice A1 P.length c1, .slice A2 L.length c2, .int .i64 nx] 54)).alloc (.cells #[.slice none 0 0, .slice none 0 0, .slice none 0 0, .slice none 0 0, .slice none 0 0, .int .i64 0] 38)) = w1 at *
  have HR1' : Hid (DR (fun i => i = w.heap.size + 1) w1 (w.heap.size + 1) [] RM.new) := by have := HR1; rw [HSZ.out] at this; exact this
  generalize hbn : w.heap.size + 1 = b at *
  generalize hbw : w.heap.size = B at *
  have hwB : B < b := by omega
  have HWB2 := hid hwB
  have HBW := hid hbw
  clear HSZ hbn hbw hwB HR1
  go_loopg [5] (P.length + 1) (fun g v5 wr => ∃ (i : Nat) (t : KS) (F : Nat → Prop) (la : Int), v5 = .int .i64 i ∧ i ≤ P.length ∧ g = P.length + 1 - i ∧ LdI P i la t ∧ ((i = 0 ∧ la = -1) ∨ (0 < i ∧ 0 ≤ la ∧ ∃ y, P[i - 1]? = some y ∧ y.1 = la)) ∧ DR F wr b (P.take i) RM.new ∧ (∀ j, F j → b ≤ j) ∧ Bd wr B A1 P.length c1 A2 L.length c2 nx ∧ Below B w wr)
  case atStart => exact ⟨0, KS.new, _, -1, rfl, Nat.zero_le _, rfl, LdI.start P, .inl ⟨rfl, rfl⟩, HR1'.out, fun j hj => by rw [hj]; exact Nat.le_refl _, HX1.out, HB1.out⟩
  case round =>
    obtain ⟨i, t, F, la, rfl, hi, hg, hld, hpv, hrx, hF, hbx, hbe⟩ := hrel
    have HG := hid hg
    have HLD := hid hld
    have HPV := hid hpv
    have HRX := hid hrx
    have HF := hid hF
    have HBX := hid hbx
    have HBE := hid hbe
    have hpr := HP.out.below hbe
    have HPR := hid hpr
    have hlo := hld.lo
    have hBlt : B < wr.heap.size := Q.blk_lt hbx
    have HBLT := hid hBlt
    have k0 := cell_of_row _ _ 0 _ _ _ hbx
    clear hg hld hpv hrx hF hbe hpr HX1 HB1 hBlt hbx
    by_cases h1 : i < P.length
    · obtain ⟨x, hx⟩ : ∃ x, P[i]? = some x := ⟨_, List.getElem?_eq_getElem h1⟩
      obtain ⟨pb, po, rfl, hpb, hpc⟩ := HPR.out i _ hx
      obtain ⟨xk, xv⟩ := x
      have p0 : wr.cell? ⟨pb, po + i * 2, none⟩ = some (.int .i64 xk) := hpc 0 _ rfl
      have p1 : wr.cell? ⟨pb, po + i * 2 + 1, none⟩ = some (.int .u64 xv) := hpc 1 _ rfl
      have HX := hid hx
      clear hpc hx
      go_wp2_with fail
      have hz := (MapKept.heap_alloc wr (.cells #[.int .i64 xk, .int .u64 xv] 106)).1
      have hwa : Below wr.heap.size wr (wr.alloc (.cells #[.int .i64 xk, .int .u64 xv] 106)) := (Below.refl _ _).alloc (Nat.le_refl _) _
      have hBxa : Bd (wr.alloc (.cells #[.int .i64 xk, .int .u64 xv] 106)) B (some ⟨pb, po, none⟩) P.length c1 A2 L.length c2 nx := (hwa.block _ HBLT.out).trans HBX.out
      have hBea : Below B w (wr.alloc (.cells #[.int .i64 xk, .int .u64 xv] 106)) := HBE.out.trans (hwa.mono (Nat.le_of_lt HBLT.out))
      have hpra := HPR.out.below (hwa.mono (Nat.le_of_lt HBLT.out))
      have hRa := HRX.out.below hwa
      have hnb : ¬ F wr.heap.size := fun q => by have := HRX.out.fb _ q; omega
      have hbz : b < wr.heap.size := HRX.out.fb _ HRX.out.bF
      generalize (wr.alloc (.cells #[.int .i64 xk, .int .u64 xv] 106)) = wa at *
      generalize wr.heap.size = bp at *
      have z0 : wa.cell? ⟨bp, 0, none⟩ = some (.int .i64 xk) := by rw [cell_of_row _ _ 0 _ _ _ hz]; rfl
      have y0 : wa.cell? ⟨B, 0, none⟩ = some (.slice (some ⟨pb, po, none⟩) P.length c1) := by rw [cell_of_row _ _ 0 _ _ _ hBxa]; rfl
      have HZ := hid hz
      have HBXA := hid hBxa
      have HBEA := hid hBea
      have HPRA := hid hpra
      have HRA := hid hRa
      have HNB := hid hnb
      have HBZ := hid hbz
      clear hz hwa hBxa hBea hpra hRa hnb hbz p0 p1 k0
      by_cases q0 : xk < 0
      · have d0 : decide (xk < 0) = true := decide_eq_true q0
        have HM := hid (show (loadRM P L nx) = (3, RM.new) from by unfold loadRM; rw [if_pos (HLD.out.bad HX.out (.inl (by show xk ≤ la; omega)))])
        clear q0
        go_quiet (fail)
        go_wp2_with fail
        go_ret2
        rw [HM.out]
        exact ⟨none, rfl, by rw [HBW.out]; exact HBEA.out.trans ((Q.bdN _ _).mono (by have := Q.blk_lt HBXA.out; omega)), fun _ => rfl, fun q => by cases q⟩
      · have d0 : decide (xk < 0) = false := decide_eq_false q0
        by_cases q2 : 15 < xk
        · have d2 : decide (15 < xk) = true := decide_eq_true q2
          have HM := hid (show (loadRM P L nx) = (3, RM.new) from by unfold loadRM; rw [if_pos (HLD.out.bad HX.out (.inr (by show 16 ≤ xk; omega)))])
          clear q0 q2
          go_quiet (fail)
          go_wp2_with fail
          go_ret2
          rw [HM.out]
          exact ⟨none, rfl, by rw [HBW.out]; exact HBEA.out.trans ((Q.bdN _ _).mono (by have := Q.blk_lt HBXA.out; omega)), fun _ => rfl, fun q => by cases q⟩
        · have d2 : decide (15 < xk) = false := decide_eq_false q2
          rcases HPV.out with ⟨e0, ela⟩ | ⟨hi0, hla0, y, hy, hyl⟩
          · have d3 : decide ((0 : Int) < (i : Int)) = false := decide_eq_false (by omega)
            have d3n : decide (0 < i) = false := decide_eq_false (by omega)
            have HN := hid (HLD.out.next HX.out (show ¬ xk ≤ la by omega) (show ¬ 16 ≤ xk by omega))
            have HXK := hid (show 0 ≤ xk by omega)
            clear q0 q2 e0 ela
            go_quiet (fail)
            have hwb : Below wa.heap.size wa (wa.drewN nq) := Q.bdN _ _
            have hRb := HRA.out.below hwb
            have hzb := (hwb.block _ (Q.blk_lt HZ.out)).trans HZ.out
            have hbxb : Bd (wa.drewN nq) B (some ⟨pb, po, none⟩) P.length c1 A2 L.length c2 nx := (hwb.block _ (Q.blk_lt HBXA.out)).trans HBXA.out
            have hbeb := HBEA.out.trans (hwb.mono (by have := Q.blk_lt HBXA.out; omega))
            have hszb : bp < (wa.drewN nq).heap.size := Q.blk_lt HZ.out
            generalize (wa.drewN nq) = wb at *
            obtain ⟨pv, q1, q2, q3, q4, q5, hblk, hprw, hpF, hpb2, hnew⟩ := DR.addp (hRb.below (Q.bd1 wb)) rfl
            obtain ⟨A3, c3, hv3⟩ := Kd.R_slice hprw
            subst hv3
            have hbb : b < wb.drew.heap.size := Q.blk_lt hblk
            have x0 : wb.cell? ⟨b, 0, none⟩ = some (.slice A3 (P.take i).length c3) := by have := cell_of_row wb.drew b 0 _ _ _ hblk; exact this
            have x0a : (wb.alloc (.cells #[.int .i64 xk, .int .u64 xv] 106)).cell? ⟨b, 0, none⟩ = some (.slice A3 (P.take i).length c3) := by rw [World.cell?_alloc_lt _ _ _ (World.block_lt_of_cell? _ _ x0)]; exact x0
            have x1 : wb.cell? ⟨bp, 0, none⟩ = some (.int .i64 xk) := by rw [cell_of_row wb bp 0 _ _ _ hzb]; rfl
            have x2 : wb.cell? ⟨bp, 1, none⟩ = some (.int .u64 xv) := by rw [cell_of_row wb bp 1 _ _ _ hzb]; rfl
            have htk : P.take (i + 1) = P.take i ++ [(xk, xv)] := by
              obtain ⟨h3, h4⟩ := List.getElem?_eq_some_iff.1 HX.out
              rw [List.take_succ_eq_append_getElem h3, h4]
            have hlL : (P.take i).length ≤ 100 := by rw [List.length_take]; have := HPL.out; omega
            have HTK := hid htk
            have HBLK := hid hblk
            have HPRW := hid hprw
            have HPF := hid hpF
            have HPB := hid hpb2
            have HNEW := hid hnew
            have HBXB := hid hbxb
            have HBEB := hid hbeb
            have HSZB := hid hszb
            have HBB := hid hbb
            clear hwb hRb hzb hbxb hbeb hszb hblk hprw hpF hpb2 hnew hbb htk z0 y0
            generalize P.take i = Lp at *
            go_wp2_with fail
            go_region_law (refine Kd.R_append_step D.kpr (w0 := wb.drew) 0 (by rfl) (.tmp 52) (.tmp 54) 26 106 _ 16 rfl Tryz.underlying26 info106 (by rfl) (by decide) (by decide) (.slice A3 Lp.length c3) Lp (xk, xv) (D.encPr (xk, xv)) (fun _ => True) (fun _ => False) (by simp [Act.eval, Act.put]) (by simp [Act.eval, Act.put]) rfl (fun _ q => q.elim) (fun _ _ => trivial) HPRW.out (Below.refl _ _) (Nat.zero_le _) (by omega) ?_; intro v5 w5 ho5 hb5 hg5 hat5; have hb5' : w5.heap[b]? = some (.cells #[.slice A3 Lp.length c3, q1, q2, q3, q4, q5] 38 (0, 0)) := (hg5.block _ HBB.out (fun q => HPB.out q.symm)).trans HBLK.out; have hc5 : w5.cell? ⟨b, 0, none⟩ = some (.slice A3 Lp.length c3) := (by rw [cell_of_row w5 b 0 _ _ _ hb5']; rfl); have hz5 : w5.frozen? ⟨b, 0, none⟩ = false := (by simp [World.frozen?, hb5']); have HO5 := hid ho5; have HG5 := hid hg5; have HT5 := hid hat5; have HB5 := hid hb5'; clear ho5 hg5 hat5 hb5'; obtain ⟨A5, c5, hv5⟩ := Kd.R_slice HO5.out; rw [List.length_append, List.length_singleton] at hv5; subst hv5)
            all_goals
              have hf6 : Fr (fun k => k = b ∨ (Value.slice A3 Lp.length c3).ownBlock = some k) wb.drew (w5.setCell ⟨b, 0, none⟩ (.slice A5 (Lp.length + 1) c5)) := Fr.setCell (p := ⟨b, 0, none⟩) ((Fr.of_grown HG5.out).mono (fun j hj => .inr hj)) (.inl (.inl rfl)) _
              have hp5 : D.PrRow w5 (.slice A5 (Lp.length + 1) c5) (Lp ++ [(xk, xv)]) := HO5.out
              have hp6 : D.PrRow (w5.setCell ⟨b, 0, none⟩ (.slice A5 (Lp.length + 1) c5)) (.slice A5 (Lp.length + 1) c5) (Lp ++ [(xk, xv)]) := hp5.move (fun j hj => Below.heap_setCell _ _ _ _ (fun q => hp5.ne HB5.out (by decide) (by rw [hj]; exact congrArg some q)))
              have hfin := HNEW.out _ _ _ hf6 (Q.blk_set' HB5.out 0 (.slice A5 (Lp.length + 1) c5)) hp6 (fun j hj => by
                rcases HT5.out with q | ⟨b', q, hb⟩
                · exact .inl (q ▸ hj)
                · rw [hj] at q; cases q; exact .inr hb)
              have hbx6 : Bd (w5.setCell ⟨b, 0, none⟩ (.slice A5 (Lp.length + 1) c5)) B (some ⟨pb, po, none⟩) P.length c1 A2 L.length c2 nx := hf6.at_ HBXB.out (fun q => by
                have h2 := HWB2.out
                rcases q with q | q
                · omega
                · have := HF.out _ (HPF.out _ q); omega)
              have hbe6 : Below B w (w5.setCell ⟨b, 0, none⟩ (.slice A5 (Lp.length + 1) c5)) := (HBEB.out.trans ((Q.bd1 wb).mono (by have h2 := Q.blk_lt HBXB.out; exact Nat.le_of_lt h2))).trans (hf6.below (B := B) (by have h2 := Q.blk_lt HBXB.out; exact Nat.le_of_lt h2) (fun k hk q => by
                have h2 := HWB2.out
                rcases q with q | q
                · omega
                · have := HF.out _ (HPF.out _ q); omega))
              have HFIN := hid hfin
              have HBX6 := hid hbx6
              have HBE6 := hid hbe6
              have HF6 := hid (fun j (hj : F j ∨ (wb.drew.heap.size ≤ j ∧ j < (w5.setCell ⟨b, 0, none⟩ (.slice A5 (Lp.length + 1) c5)).heap.size)) => (hj.elim (fun q => HF.out j q) (fun q => by have := HBB.out; omega) : b ≤ j))
              clear hf6 hp5 hp6 hfin hbx6 hbe6
              have hp100 := HPL.out
              go_wp2_with fail
              go_roundg (P.length + 1 - (i + 1))
              case measure => rw [HG.out]; omega
              case rel => exact ⟨i + 1, _, _, xk, by go_num, by omega, rfl, HN.out, .inr ⟨by omega, HXK.out, _, HX.out, rfl⟩, by rw [HTK.out]; exact HFIN.out, HF6.out, HBX6.out, HBE6.out⟩
          · obtain ⟨j, rfl⟩ : ∃ j, i = j + 1 := ⟨i - 1, by omega⟩
            rw [Nat.add_sub_cancel] at hy
            obtain ⟨yb, yo, hye, hyb, hyc⟩ := HPRA.out j y hy
            cases hye
            have w0 : wa.cell? ⟨pb, po + j * 2, none⟩ = some (.int .i64 la) := by have := hyc 0 _ rfl; rw [← hyl]; exact this
            have d3 : decide ((0 : Int) < (j : Int) + 1) = true := decide_eq_true (by omega)
            have hjl : j < P.length := by omega
            have hp100 := HPL.out
            have hwj : IntKind.i64.wrap (j : Int) = j := Q.wr64 (by omega) (by omega)
            have hwj2 : IntKind.i64.wrap ((j : Int) + 1 - 1) = j := by rw [Int.add_sub_cancel]; exact hwj
            clear hyc hyb hi0 hla0
            by_cases q3 : xk ≤ la
            · have d4 : decide (xk ≤ la) = true := decide_eq_true q3
              have HM := hid (show (loadRM P L nx) = (3, RM.new) from by unfold loadRM; rw [if_pos (HLD.out.bad HX.out (.inl q3))])
              clear q0 q2 q3 hy hyl
              go_quiet (fail)
              go_wp2_with fail
              go_ret2
              rw [HM.out]
              exact ⟨none, rfl, by rw [HBW.out]; exact HBEA.out.trans ((Q.bdN _ _).mono (by have := Q.blk_lt HBXA.out; omega)), fun _ => rfl, fun q => by cases q⟩
            · have d4 : decide (xk ≤ la) = false := decide_eq_false q3
              have HN := hid (HLD.out.next HX.out q3 (show ¬ 16 ≤ xk by omega))
              have HXK := hid (show 0 ≤ xk by omega)
              clear q0 q2 q3 hy hyl
              go_quiet (fail)
              have hwb : Below wa.heap.size wa (wa.drewN nq) := Q.bdN _ _
              have hRb := HRA.out.below hwb
              have hzb := (hwb.block _ (Q.blk_lt HZ.out)).trans HZ.out
              have hbxb : Bd (wa.drewN nq) B (some ⟨pb, po, none⟩) P.length c1 A2 L.length c2 nx := (hwb.block _ (Q.blk_lt HBXA.out)).trans HBXA.out
              have hbeb := HBEA.out.trans (hwb.mono (by have := Q.blk_lt HBXA.out; omega))
              have hszb : bp < (wa.drewN nq).heap.size := Q.blk_lt HZ.out
              generalize (wa.drewN nq) = wb at *
              obtain ⟨pv, q1, q2, q3, q4, q5, hblk, hprw, hpF, hpb2, hnew⟩ := DR.addp (hRb.below (Q.bd1 wb)) rfl
              obtain ⟨A3, c3, hv3⟩ := Kd.R_slice hprw
              subst hv3
              have hbb : b < wb.drew.heap.size := Q.blk_lt hblk
              have x0 : wb.cell? ⟨b, 0, none⟩ = some (.slice A3 (P.take (j + 1)).length c3) := by have := cell_of_row wb.drew b 0 _ _ _ hblk; exact this
              have x0a : (wb.alloc (.cells #[.int .i64 xk, .int .u64 xv] 106)).cell? ⟨b, 0, none⟩ = some (.slice A3 (P.take (j + 1)).length c3) := by rw [World.cell?_alloc_lt _ _ _ (World.block_lt_of_cell? _ _ x0)]; exact x0
              have x1 : wb.cell? ⟨bp, 0, none⟩ = some (.int .i64 xk) := by rw [cell_of_row wb bp 0 _ _ _ hzb]; rfl
              have x2 : wb.cell? ⟨bp, 1, none⟩ = some (.int .u64 xv) := by rw [cell_of_row wb bp 1 _ _ _ hzb]; rfl
              have htk : P.take (j + 1 + 1) = P.take (j + 1) ++ [(xk, xv)] := by
                obtain ⟨h3, h4⟩ := List.getElem?_eq_some_iff.1 HX.out
                rw [List.take_succ_eq_append_getElem h3, h4]
              have hlL : (P.take (j + 1)).length ≤ 100 := by rw [List.length_take]; have := HPL.out; omega
              have HTK := hid htk
              have HBLK := hid hblk
              have HPRW := hid hprw
              have HPF := hid hpF
              have HPB := hid hpb2
              have HNEW := hid hnew
              have HBXB := hid hbxb
              have HBEB := hid hbeb
              have HSZB := hid hszb
              have HBB := hid hbb
              clear hwb hRb hzb hbxb hbeb hszb hblk hprw hpF hpb2 hnew hbb htk z0 y0
              generalize P.take (j + 1) = Lp at *
              go_wp2_with fail
              go_region_law (refine Kd.R_append_step D.kpr (w0 := wb.drew) 0 (by rfl) (.tmp 52) (.tmp 54) 26 106 _ 16 rfl Tryz.underlying26 info106 (by rfl) (by decide) (by decide) (.slice A3 Lp.length c3) Lp (xk, xv) (D.encPr (xk, xv)) (fun _ => True) (fun _ => False) (by simp [Act.eval, Act.put]) (by simp [Act.eval, Act.put]) rfl (fun _ q => q.elim) (fun _ _ => trivial) HPRW.out (Below.refl _ _) (Nat.zero_le _) (by omega) ?_; intro v5 w5 ho5 hb5 hg5 hat5; have hb5' : w5.heap[b]? = some (.cells #[.slice A3 Lp.length c3, q1, q2, q3, q4, q5] 38 (0, 0)) := (hg5.block _ HBB.out (fun q => HPB.out q.symm)).trans HBLK.out; have hc5 : w5.cell? ⟨b, 0, none⟩ = some (.slice A3 Lp.length c3) := (by rw [cell_of_row w5 b 0 _ _ _ hb5']; rfl); have hz5 : w5.frozen? ⟨b, 0, none⟩ = false := (by simp [World.frozen?, hb5']); have HO5 := hid ho5; have HG5 := hid hg5; have HT5 := hid hat5; have HB5 := hid hb5'; clear ho5 hg5 hat5 hb5'; obtain ⟨A5, c5, hv5⟩ := Kd.R_slice HO5.out; rw [List.length_append, List.length_singleton] at hv5; subst hv5)
              all_goals
                have hf6 : Fr (fun k => k = b ∨ (Value.slice A3 Lp.length c3).ownBlock = some k) wb.drew (w5.setCell ⟨b, 0, none⟩ (.slice A5 (Lp.length + 1) c5)) := Fr.setCell (p := ⟨b, 0, none⟩) ((Fr.of_grown HG5.out).mono (fun j hj => .inr hj)) (.inl (.inl rfl)) _
                have hp5 : D.PrRow w5 (.slice A5 (Lp.length + 1) c5) (Lp ++ [(xk, xv)]) := HO5.out
                have hp6 : D.PrRow (w5.setCell ⟨b, 0, none⟩ (.slice A5 (Lp.length + 1) c5)) (.slice A5 (Lp.length + 1) c5) (Lp ++ [(xk, xv)]) := hp5.move (fun j hj => Below.heap_setCell _ _ _ _ (fun q => hp5.ne HB5.out (by decide) (by rw [hj]; exact congrArg some q)))
                have hfin := HNEW.out _ _ _ hf6 (Q.blk_set' HB5.out 0 (.slice A5 (Lp.length + 1) c5)) hp6 (fun j hj => by
                  rcases HT5.out with q | ⟨b', q, hb⟩
                  · exact .inl (q ▸ hj)
                  · rw [hj] at q; cases q; exact .inr hb)
                have hbx6 : Bd (w5.setCell ⟨b, 0, none⟩ (.slice A5 (Lp.length + 1) c5)) B (some ⟨pb, po, none⟩) P.length c1 A2 L.length c2 nx := hf6.at_ HBXB.out (fun q => by
                  have h2 := HWB2.out
                  rcases q with q | q
                  · omega
                  · have := HF.out _ (HPF.out _ q); omega)
                have hbe6 : Below B w (w5.setCell ⟨b, 0, none⟩ (.slice A5 (Lp.length + 1) c5)) := (HBEB.out.trans ((Q.bd1 wb).mono (by have h2 := Q.blk_lt HBXB.out; exact Nat.le_of_lt h2))).trans (hf6.below (B := B) (by have h2 := Q.blk_lt HBXB.out; exact Nat.le_of_lt h2) (fun k hk q => by
                  have h2 := HWB2.out
                  rcases q with q | q
                  · omega
                  · have := HF.out _ (HPF.out _ q); omega))
                have HFIN := hid hfin
                have HBX6 := hid hbx6
                have HBE6 := hid hbe6
                have HF6 := hid (fun j (hj : F j ∨ (wb.drew.heap.size ≤ j ∧ j < (w5.setCell ⟨b, 0, none⟩ (.slice A5 (Lp.length + 1) c5)).heap.size)) => (hj.elim (fun q => HF.out j q) (fun q => by have := HBB.out; omega) : b ≤ j))
                clear hf6 hp5 hp6 hfin hbx6 hbe6
                have hp100 := HPL.out
                go_wp2_with fail
                go_roundg (P.length + 1 - (j + 1 + 1))
                case measure => rw [HG.out]; omega
                case rel => exact ⟨j + 1 + 1, _, _, xk, by go_num, by omega, rfl, HN.out, .inr ⟨by omega, HXK.out, _, HX.out, rfl⟩, by rw [HTK.out]; exact HFIN.out, HF6.out, HBX6.out, HBE6.out⟩
    · have hip : i = P.length := by omega
      have hdn := LdI.done (hip ▸ HLD.out)
      have HDN := hid hdn
      have hB2 := HWB2.out
      have HM := hid (show (loadRM P L nx) = ((QS.new.load L (nxOf L nx)).1, ⟨stOf P, (QS.new.load L (nxOf L nx)).2⟩) from by unfold loadRM; rw [if_neg (by rw [hdn.1]; simp)])
      have htk : P.take i = P := by rw [hip]; exact List.take_of_length_le (Nat.le_refl _)
      have hR := HRX.out
      rw [htk] at hR
      have HR := hid hR
      have HU6 := hid (HU.out.below HBE.out)
      have z1 := cell_of_row _ _ 1 _ _ _ HBX.out
      have z2 := cell_of_row _ _ 2 _ _ _ HBX.out
      obtain ⟨nn, hnn⟩ : ∃ nn, nxOf L nx = nn := ⟨_, rfl⟩
      obtain ⟨e9, he9⟩ : ∃ e9, (QS.new.load L nn).1 = e9 := ⟨_, rfl⟩
      obtain ⟨q9, hq9⟩ : ∃ q9, (QS.new.load L nn).2 = q9 := ⟨_, rfl⟩
      rw [hnn, he9, hq9] at HM
      have K50 : Hid (∀ w', Below wr.heap.size wr w' → Calls Tryz.prog 50 #[.pointer (some ⟨b, 3, none⟩), .slice A2 L.length c2, .int .i64 nn] w' fun e w'' => e = .returned (.int .i64 e9) ∧ (w''.cell? ⟨B, 0, none⟩ = some (.slice A1 P.length c1) ∧ w''.cell? ⟨B, 1, none⟩ = some (.slice A2 L.length c2)) ∧ Hid ((∃ F', DR F' w'' b P ⟨stOf P, q9⟩ ∧ (∀ j, F' j → B ≤ j)) ∧ Below B w w'')) := hid (fun w' hb => by
        have hll := HLL.out
        have hBs : B ≤ wr.heap.size := Nat.le_of_lt HBLT.out
        obtain ⟨FE, Zd, hsub, hq, hst⟩ := (HR.out.below hb).qu
        have h2 := E.dload_any hq QS.Ok.new.bd A2 L c2 nn (Q.RowAt.up (Q.RowAt.below HU6.out (hb.mono hBs)) (Nat.le_trans hBs hb.size)) (fun hn b' off e q => by have := RowAt.block' HU6.out hn e; have := HF.out _ (hsub _ q); have := HWB2.out; omega) (by omega)
        have h2' : Calls Tryz.prog 50 #[.pointer (some ⟨b, 3, none⟩), .slice A2 L.length c2, .int .i64 nn] w' (E.DPost Zd FE w' b (.int .i64 e9) q9) := by rw [← he9, ← hq9]; exact h2
        refine h2'.mono ?_
        rintro e w'' ⟨rfl, ⟨FE', hd', hg'⟩, f'⟩
        have hx := (hst w'' FE' _ hd' hg' f').turnk (stOf P) (stOf_keep P).2 (stOf_keep P).1
        have h3 : b < wr.heap.size := HR.out.fb b HR.out.bF
        have h4 := hb.size
        have y := two_cells hb (And.intro k0 z1)
        have hnB : ¬ FE B := fun q => by have := HF.out _ (hsub _ q); have := HWB2.out; omega
        refine ⟨rfl, ⟨f'.cell y.1 hnB, f'.cell y.2 hnB⟩, hid ⟨⟨_, hx, fun j hj => hj.elim (fun q => by have := HF.out j q; have := HWB2.out; omega) (fun q => (hg' j q).elim (fun q => by have := HF.out j (hsub j q); have := HWB2.out; omega) (fun q => by omega))⟩, (HBE.out.trans (hb.mono hBs)).trans (f'.below (Nat.le_trans hBs hb.size) (fun j hj q => by have := HF.out j (hsub j q); have := HWB2.out; omega))⟩⟩)
      have hS : wr.cell? ⟨B, 0, none⟩ = some (.slice A1 P.length c1) ∧ wr.cell? ⟨B, 1, none⟩ = some (.slice A2 L.length c2) := ⟨k0, z1⟩
      have HNN := hid hnn
      clear hdn hR htk he9 hq9 hnn HLD HPV HRX HPR HR hip hB2
      have hll := HLL.out
      by_cases hn0 : nx = 0
      · subst hn0
        by_cases hl0 : L = []
        · have dl : ((L.length : Int) == 0) = true := by rw [hl0]; rfl
          have hn1 : nn = 1 := by rw [← HNN.out]; unfold nxOf; rw [if_pos ⟨rfl, hl0⟩]
          subst hn1
          clear hl0
          by_cases he0 : e9 = 0
          · subst he0
            go_wp2_with fail
            go_region_held3 (fun w' => w'.cell? ⟨B, 0, none⟩ = some (.slice A1 P.length c1) ∧ w'.cell? ⟨B, 1, none⟩ = some (.slice A2 L.length c2)) (first | exact two_cells (Q.bd1 _) (by assumption) | exact two_cells (Q.bdN _ _) (by assumption) | assumption) (first
              | (go_at_call 50; refine (K50.out _ (by first | exact Q.bd1 _ | exact Q.bdN _ _ | exact Below.refl _ _)).mono ?_; rintro e w7 ⟨rfl, hS7, HZ⟩))
            all_goals
              clear K50 hS
              go_wp2_with fail
              go_ret2
              rw [HM.out]
              obtain ⟨⟨F', hr', hF'⟩, hbz⟩ := HZ.out
              exact ⟨_, rfl, by rw [HBW.out]; exact hbz, fun q => absurd rfl q, fun _ => ⟨b, F', rfl, hr', by rw [HBW.out]; exact hF'⟩⟩
          · have de : (e9 == 0) = false := by simpa using he0
            have HE0 := hid he0
            clear he0
            go_wp2_with fail
            go_region_held3 (fun w' => w'.cell? ⟨B, 0, none⟩ = some (.slice A1 P.length c1) ∧ w'.cell? ⟨B, 1, none⟩ = some (.slice A2 L.length c2)) (first | exact two_cells (Q.bd1 _) (by assumption) | exact two_cells (Q.bdN _ _) (by assumption) | assumption) (first
              | (go_at_call 50; refine (K50.out _ (by first | exact Q.bd1 _ | exact Q.bdN _ _ | exact Below.refl _ _)).mono ?_; rintro e w7 ⟨rfl, hS7, HZ⟩))
            all_goals
              clear K50 hS
              go_wp2_with fail
              go_ret2
              rw [HM.out]
              exact ⟨none, rfl, by rw [HBW.out]; exact HZ.out.2, fun _ => rfl, fun q => absurd q HE0.out⟩
        · have dl : ((L.length : Int) == 0) = false := by
            have := List.length_pos_iff.2 hl0
            simp
            exact hl0
          have hn1 : nn = 0 := by rw [← HNN.out]; unfold nxOf; rw [if_neg (fun q => hl0 q.2)]
          subst hn1
          clear hl0
          by_cases he0 : e9 = 0
          · subst he0
            go_wp2_with fail
            go_region_held3 (fun w' => w'.cell? ⟨B, 0, none⟩ = some (.slice A1 P.length c1) ∧ w'.cell? ⟨B, 1, none⟩ = some (.slice A2 L.length c2)) (first | exact two_cells (Q.bd1 _) (by assumption) | exact two_cells (Q.bdN _ _) (by assumption) | assumption) (first
              | (go_at_call 50; refine (K50.out _ (by first | exact Q.bd1 _ | exact Q.bdN _ _ | exact Below.refl _ _)).mono ?_; rintro e w7 ⟨rfl, hS7, HZ⟩))
            all_goals
              clear K50 hS
              go_wp2_with fail
              go_ret2
              rw [HM.out]
              obtain ⟨⟨F', hr', hF'⟩, hbz⟩ := HZ.out
              exact ⟨_, rfl, by rw [HBW.out]; exact hbz, fun q => absurd rfl q, fun _ => ⟨b, F', rfl, hr', by rw [HBW.out]; exact hF'⟩⟩
          · have de : (e9 == 0) = false := by simpa using he0
            have HE0 := hid he0
            clear he0
            go_wp2_with fail
            go_region_held3 (fun w' => w'.cell? ⟨B, 0, none⟩ = some (.slice A1 P.length c1) ∧ w'.cell? ⟨B, 1, none⟩ = some (.slice A2 L.length c2)) (first | exact two_cells (Q.bd1 _) (by assumption) | exact two_cells (Q.bdN _ _) (by assumption) | assumption) (first
              | (go_at_call 50; refine (K50.out _ (by first | exact Q.bd1 _ | exact Q.bdN _ _ | exact Below.refl _ _)).mono ?_; rintro e w7 ⟨rfl, hS7, HZ⟩))
            all_goals
              clear K50 hS
              go_wp2_with fail
              go_ret2
              rw [HM.out]
              exact ⟨none, rfl, by rw [HBW.out]; exact HZ.out.2, fun _ => rfl, fun q => absurd q HE0.out⟩
      · have dx : (nx == 0) = false := by simpa using hn0
        have hn1 : nn = nx := by rw [← HNN.out]; unfold nxOf; rw [if_neg (fun q => hn0 q.1)]
        subst hn1
        clear hn0
        by_cases he0 : e9 = 0
        · subst he0
          go_wp2_with fail
          go_region_held3 (fun w' => w'.cell? ⟨B, 0, none⟩ = some (.slice A1 P.length c1) ∧ w'.cell? ⟨B, 1, none⟩ = some (.slice A2 L.length c2)) (first | exact two_cells (Q.bd1 _) (by assumption) | exact two_cells (Q.bdN _ _) (by assumption) | assumption) (first
            | (go_at_call 50; refine (K50.out _ (by first | exact Q.bd1 _ | exact Q.bdN _ _ | exact Below.refl _ _)).mono ?_; rintro e w7 ⟨rfl, hS7, HZ⟩))
          all_goals
            clear K50 hS
            go_wp2_with fail
            go_ret2
            rw [HM.out]
            obtain ⟨⟨F', hr', hF'⟩, hbz⟩ := HZ.out
            exact ⟨_, rfl, by rw [HBW.out]; exact hbz, fun q => absurd rfl q, fun _ => ⟨b, F', rfl, hr', by rw [HBW.out]; exact hF'⟩⟩
        · have de : (e9 == 0) = false := by simpa using he0
          have HE0 := hid he0
          clear he0
          go_wp2_with fail
          go_region_held3 (fun w' => w'.cell? ⟨B, 0, none⟩ = some (.slice A1 P.length c1) ∧ w'.cell? ⟨B, 1, none⟩ = some (.slice A2 L.length c2)) (first | exact two_cells (Q.bd1 _) (by assumption) | exact two_cells (Q.bdN _ _) (by assumption) | assumption) (first
            | (go_at_call 50; refine (K50.out _ (by first | exact Q.bd1 _ | exact Q.bdN _ _ | exact Below.refl _ _)).mono ?_; rintro e w7 ⟨rfl, hS7, HZ⟩))
          all_goals
            clear K50 hS
            go_wp2_with fail
            go_ret2
            rw [HM.out]
            exact ⟨none, rfl, by rw [HBW.out]; exact HZ.out.2, fun _ => rfl, fun q => absurd q HE0.out⟩
end Go.Proofs.YtdejbinmnoabeaaGreat
