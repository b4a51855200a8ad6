/- Texts of this seat, put together: RzM, RzB, RzC, RzD. -/
import Derived.Test.YtdejbinmnoabeaaBd7
import Derived.Test.YtdejbinmnoabeaaBd10
import Derived.Deep.AppendSrc
import Derived.Deep.Upon
import Derived.Lib.AppendZeros
namespace Go.Proofs.Ytdejbinmnoabeaa
open Go.RowKit Go.Mine Go.Proofs.YtdejbinmnoabeaaW.PrintWords
open Go.ChangeMaps (setBlock)
set_option linter.unusedVariables false
set_option linter.unusedSimpArgs false
def pz (iv qv : Value) (g : Int) (m0 m1 : Option Nat) : List Value := [iv, qv, .int .i64 g, .map m0, .map m1]
def zz (vs : List Int) (th : List Bool) (mo lo m0 m1 : Option Nat) (h1 : vs.length = 16) (h2 : th.length = 16) : Q.QZ := ⟨vs.map (Value.int .u64) ++ (th.map Value.bool ++ [Value.map mo, Value.map lo]), [.map m0, .map m1], by simp [h1, h2]⟩
theorem cells_eq {vs : List Int} {th : List Bool} {mo lo m0 m1 : Option Nat} {iv qv : Value} {g : Int} (h1 : vs.length = 16) (h2 : th.length = 16) : K.storeCells (pz iv qv g m0 m1) vs th mo lo = Q.qCells (zz vs th mo lo m0 m1 h1 h2) iv qv g := by
  simp [K.storeCells, Q.qCells, pz, zz]
theorem sc37 {vs : List Int} {th : List Bool} {mo lo m0 m1 : Option Nat} {iv qv : Value} {g : Int} (h1 : vs.length = 16) (h2 : th.length = 16) : (K.storeCells (pz iv qv g m0 m1) vs th mo lo)[37]? = some (.map m0) := K.sc_r h1 h2 mo lo 5
theorem sc38 {vs : List Int} {th : List Bool} {mo lo m0 m1 : Option Nat} {iv qv : Value} {g : Int} (h1 : vs.length = 16) (h2 : th.length = 16) : (K.storeCells (pz iv qv g m0 m1) vs th mo lo)[38]? = some (.map m1) := K.sc_r h1 h2 mo lo 6
theorem sc_set {Pz : List Value} {vs : List Int} {th : List Bool} {mo lo : Option Nat} (h1 : vs.length = 16) (h2 : th.length = 16) (j : Nat) (u : Value) : (K.storeCells Pz vs th mo lo).setIfInBounds (34 + j) u = K.storeCells (Pz.set j u) vs th mo lo := by
  simp only [K.storeCells, List.setIfInBounds_toArray]
  congr 1
  rw [List.set_append_right _ _ (by simp [h1]; omega), List.set_append_right _ _ (by simp [h1, h2]; omega)]
  congr 2
  simp only [List.length_map, h1, h2]
  rw [show 34 + j - 16 - 16 = j + 2 by omega]
  rfl
theorem set37 {vs : List Int} {th : List Bool} {mo lo m0 m1 : Option Nat} {iv qv : Value} {g : Int} (h1 : vs.length = 16) (h2 : th.length = 16) (m : Option Nat) : (K.storeCells (pz iv qv g m0 m1) vs th mo lo).setIfInBounds 37 (.map m) = K.storeCells (pz iv qv g m m1) vs th mo lo := sc_set h1 h2 3 _
theorem set38 {vs : List Int} {th : List Bool} {mo lo m0 m1 : Option Nat} {iv qv : Value} {g : Int} (h1 : vs.length = 16) (h2 : th.length = 16) (m : Option Nat) : (K.storeCells (pz iv qv g m0 m1) vs th mo lo).setIfInBounds 38 (.map m) = K.storeCells (pz iv qv g m0 m) vs th mo lo := sc_set h1 h2 4 _
theorem kv_rebase {Pz Pz' : List Value} {F S : Nat → Prop} {w w' : World} {b : Nat} {vs : List Int} {th : List Bool} {lk : LTab} {I : List K.WI} {L : List (Int × Nat × Nat)} {mo lo : Option Nat} (h : K.KvR Pz F w b vs th lk I L mo lo) (hf : Fr S w w') (hS : ∀ i, F i → i ≠ b → ¬ S i)
    (hb : w'.heap[b]? = some (.cells (K.storeCells Pz' vs th mo lo) 91 (0, 0))) : K.KvR Pz' F w' b vs th lk I L mo lo where
  fb i hi := Nat.lt_of_lt_of_le (h.fb i hi) hf.size
  b := h.b
  lv := h.lv
  lth := h.lth
  blk := hb
  map := h.map.fr hf (fun c hc => hS _ (h.mF c hc) (fun e => h.mo_ne.1 (e ▸ hc)))
  kvL := h.kvL
  mF := h.mF
  wk x hx := K.wk_fr hf (h.wk x hx) (hS _ (h.wk x hx).1 (h.wb_ne hx).1) (fun k hk => hS _ ((h.wk x hx).2.2.2 k hk) (h.row_ne hx hk).1) (fun _ q => q)
  apart := h.apart
  lt := by
    obtain ⟨L2, h0, ⟨mo2, h3, h4, h5, h6⟩⟩ := h.lt
    rw [K.sc33 h.lv h.lth] at h4
    cases h4
    exact ⟨L2, h0, ⟨lo, hb, K.sc33 h.lv h.lth _ _, h5.fr hf (fun c hc => hS _ (h.lF c hc) (fun e => h.mo_ne.2 (e ▸ hc))), fun c hc => hc⟩⟩
  lF := h.lF
  ml := h.ml
theorem qu_rebase {Z Z' : Q.QZ} {F S : Nat → Prop} {w w' : World} {b : Nat} {L : List It} {I : List Q.WI} {g : Int} {iv qv : Value} (h : Q.QR Z Q.eIt Q.T0 F w b L I g iv qv) (hf : Fr S w w') (hS : ∀ i, F i → i ≠ b → ¬ S i)
    (hb : w'.heap[b]? = some (.cells (Q.qCells Z' iv qv g) 91 (0, 0))) : Q.QR Z' Q.eIt Q.T0 F w' b L I g iv qv where
  fb i hi := Nat.lt_of_lt_of_le (h.fb i hi) hf.size
  bF := h.bF
  blk := hb
  it := h.it.move (fun k hk => hf.block k (h.it.lt hk) (hS _ (h.iF k hk) (fun e => h.iv_ne.1 (e ▸ hk))))
  wp := h.wp.move (fun k hk => hf.block k (h.wp.lt hk) (hS _ (h.qF k hk) (fun e => h.iv_ne.2.1 (e ▸ hk))))
  iF := h.iF
  qF := h.qF
  wk x hx := ⟨(h.wk x hx).1, hf.at_ (h.wk x hx).2.1 (hS _ (h.wk x hx).1 (h.wb_ne hx).1), (h.wk x hx).2.2.1.move (fun k hk => hf.block k ((h.wk x hx).2.2.1.lt hk) (hS _ ((h.wk x hx).2.2.2 k hk) (h.row_ne hx hk).1)), (h.wk x hx).2.2.2⟩
  apart := h.apart
structure RR (F FK FQ : Nat → Prop) (w : World) (b : Nat) (k : KS) (q : QS) (I : List K.WI) (L : List (Int × Nat × Nat)) (mo lo : Option Nat) (J : List Q.WI) (iv qv : Value) (m0 m1 : Option Nat) (L0 L1 : List (Int × Bool × Nat)) : Prop where
  kok : k.Ok
  qok : q.Ok
  kr : K.KvR (pz iv qv q.gv m0 m1) FK w b k.vs k.th k.lk I L mo lo
  kw : k.ws = K.wsOf I
  qr : Q.QR (zz k.vs k.th mo lo m0 m1 kr.lv kr.lth) Q.eIt Q.T0 FQ w b q.its J q.gv iv qv
  qw : q.ws = Q.wsOf J
  a0 : MapO (Value.int .i64) Value.bool w m0 L0
  a1 : MapO (Value.int .i64) Value.bool w m1 L1
  disj : ∀ i, FK i → FQ i → i = b
  z0 : ∀ c, m0 = some c → F c ∧ ¬ FK c ∧ ¬ FQ c
  z1 : ∀ c, m1 = some c → F c ∧ ¬ FK c ∧ ¬ FQ c
  z01 : ∀ c, m0 = some c → m1 ≠ some c
  fk : ∀ i, FK i → F i
  fq : ∀ i, FQ i → F i
  fb : ∀ i, F i → i < w.heap.size
def RX (F : Nat → Prop) (w : World) (b : Nat) (k : KS) (q : QS) (f0 f1 : Int → Bool) : Prop :=
  ∃ FK FQ I L mo lo J iv qv m0 m1 L0 L1, RR F FK FQ w b k q I L mo lo J iv qv m0 m1 L0 L1 ∧ (∀ n, (mget n L0).getD false = f0 n) ∧ (∀ n, (mget n L1).getD false = f1 n)
section
variable {F : Nat → Prop} {w : World} {b : Nat} {k : KS} {q : QS} {f0 f1 : Int → Bool}
theorem RX.fb (h : RX F w b k q f0 f1) : ∀ i, F i → i < w.heap.size := by
  obtain ⟨FK, FQ, I, L, mo, lo, J, iv, qv, m0, m1, L0, L1, h, _⟩ := h
  exact h.fb
theorem RX.bF (h : RX F w b k q f0 f1) : F b := by
  obtain ⟨FK, FQ, I, L, mo, lo, J, iv, qv, m0, m1, L0, L1, h, _⟩ := h
  exact h.fk _ h.kr.b
theorem RX.kok (h : RX F w b k q f0 f1) : k.Ok := by
  obtain ⟨FK, FQ, I, L, mo, lo, J, iv, qv, m0, m1, L0, L1, h, _⟩ := h
  exact h.kok
theorem RX.qok (h : RX F w b k q f0 f1) : q.Ok := by
  obtain ⟨FK, FQ, I, L, mo, lo, J, iv, qv, m0, m1, L0, L1, h, _⟩ := h
  exact h.qok
theorem RX.fr {S : Nat → Prop} {w' : World} (h : RX F w b k q f0 f1) (hf : Fr S w w') (hS : ∀ i, F i → ¬ S i) : RX F w' b k q f0 f1 := by
  obtain ⟨FK, FQ, I, L, mo, lo, J, iv, qv, m0, m1, L0, L1, h, h0, h1⟩ := h
  exact ⟨FK, FQ, I, L, mo, lo, J, iv, qv, m0, m1, L0, L1, ⟨h.kok, h.qok, h.kr.fr hf (fun i hi => hS i (h.fk i hi)), h.kw, h.qr.fr hf (fun i hi => hS i (h.fq i hi)), h.qw, h.a0.fr hf (fun c hc => hS c (h.z0 c hc).1), h.a1.fr hf (fun c hc => hS c (h.z1 c hc).1), h.disj, h.z0, h.z1, h.z01, h.fk, h.fq, fun i hi => Nat.lt_of_lt_of_le (h.fb i hi) hf.size⟩, h0, h1⟩
theorem RX.below {w' : World} (h : RX F w b k q f0 f1) (hb : Below w.heap.size w w') : RX F w' b k q f0 f1 := h.fr (Fr.of_below hb (Nat.le_refl _)) (fun _ _ q => q)
theorem RX.kv (h : RX F w b k q f0 f1) : ∃ FK Pz, (∀ i, FK i → F i) ∧ K.KvAt Pz FK w b k ∧ ∀ w' FK' k', K.KvAt Pz FK' w' b k' → K.Grew FK FK' w → Fr FK w w' → RX (fun i => F i ∨ FK' i) w' b k' q f0 f1 := by
  obtain ⟨FK, FQ, I, L, mo, lo, J, iv, qv, m0, m1, L0, L1, h, h0, h1⟩ := h
  refine ⟨FK, _, h.fk, ⟨h.kok, I, L, mo, lo, h.kr, h.kw⟩, ?_⟩
  rintro w' FK' k' ⟨hok', I', L', mo', lo', hr', hw'⟩ hg hf
  have hQ : ∀ i, FQ i → i ≠ b → ¬ FK i := fun i hi hne hk => hne (h.disj i hk hi)
  have hblk := hr'.blk
  rw [cells_eq hr'.lv hr'.lth] at hblk
  refine ⟨FK', FQ, I', L', mo', lo', J, iv, qv, m0, m1, L0, L1, ⟨hok', h.qok, hr', hw', qu_rebase h.qr hf hQ hblk, h.qw, h.a0.fr hf (fun c hc => (h.z0 c hc).2.1), h.a1.fr hf (fun c hc => (h.z1 c hc).2.1), fun i hi hq => ?_, fun c hc => ⟨.inl (h.z0 c hc).1, fun q => ?_, (h.z0 c hc).2.2⟩, fun c hc => ⟨.inl (h.z1 c hc).1, fun q => ?_, (h.z1 c hc).2.2⟩, h.z01, fun i hi => .inr hi, fun i hi => .inl (h.fq i hi), fun i hi => ?_⟩, h0, h1⟩
  · rcases hg i hi with r | r
    · exact h.disj i r hq
    · have := h.fb i (h.fq i hq); omega
  · rcases hg c q with r | r
    · exact (h.z0 c hc).2.1 r
    · have := h.fb c (h.z0 c hc).1; omega
  · rcases hg c q with r | r
    · exact (h.z1 c hc).2.1 r
    · have := h.fb c (h.z1 c hc).1; omega
  · rcases hi with r | r
    · exact Nat.lt_of_lt_of_le (h.fb i r) hf.size
    · exact hr'.fb i r
theorem RX.qu (h : RX F w b k q f0 f1) : ∃ FQ Z, (∀ i, FQ i → F i) ∧ Q.QAt Z FQ w b q ∧ ∀ w' FQ' q', Q.QAt Z FQ' w' b q' → q'.Ok → Q.Grew FQ FQ' w → Fr FQ w w' → RX (fun i => F i ∨ FQ' i) w' b k q' f0 f1 := by
  obtain ⟨FK, FQ, I, L, mo, lo, J, iv, qv, m0, m1, L0, L1, h, h0, h1⟩ := h
  refine ⟨FQ, _, h.fq, ⟨J, iv, qv, h.qr, h.qw⟩, ?_⟩
  rintro w' FQ' q' ⟨J', iv', qv', hr', hw'⟩ hok' hg hf
  have hQ : ∀ i, FK i → i ≠ b → ¬ FQ i := fun i hi hne hk => hne (h.disj i hi hk)
  have hblk := hr'.blk
  rw [← cells_eq h.kr.lv h.kr.lth] at hblk
  have hkr := kv_rebase h.kr hf hQ hblk
  refine ⟨FK, FQ', I, L, mo, lo, J', iv', qv', m0, m1, L0, L1, ⟨h.kok, hok', hkr, h.kw, hr', hw', h.a0.fr hf (fun c hc => (h.z0 c hc).2.2), h.a1.fr hf (fun c hc => (h.z1 c hc).2.2), fun i hi hq => ?_, fun c hc => ⟨.inl (h.z0 c hc).1, (h.z0 c hc).2.1, fun q => ?_⟩, fun c hc => ⟨.inl (h.z1 c hc).1, (h.z1 c hc).2.1, fun q => ?_⟩, h.z01, fun i hi => .inl (h.fk i hi), fun i hi => .inr hi, fun i hi => ?_⟩, h0, h1⟩
  · rcases hg i hq with r | r
    · exact h.disj i hi r
    · have := h.fb i (h.fk i hi); omega
  · rcases hg c q with r | r
    · exact (h.z0 c hc).2.2 r
    · have := h.fb c (h.z0 c hc).1; omega
  · rcases hg c q with r | r
    · exact (h.z1 c hc).2.2 r
    · have := h.fb c (h.z1 c hc).1; omega
  · rcases hi with r | r
    · exact Nat.lt_of_lt_of_le (h.fb i r) hf.size
    · exact hr'.fb i r
theorem RR.map0 {FK FQ : Nat → Prop} {I : List K.WI} {L : List (Int × Nat × Nat)} {mo lo : Option Nat} {J : List Q.WI} {iv qv : Value} {m0 m1 m0' : Option Nat} {L0 L1 L0' : List (Int × Bool × Nat)} {w' : World}
    (h : RR F FK FQ w b k q I L mo lo J iv qv m0 m1 L0 L1) (hf : Fr (fun i => i = b ∨ m0 = some i) w w') (hb : w'.heap[b]? = some (.cells (K.storeCells (pz iv qv q.gv m0' m1) k.vs k.th mo lo) 91 (0, 0)))
    (hm : MapO (Value.int .i64) Value.bool w' m0' L0') (hn : m0' = m0 ∨ ∀ c, m0' = some c → w.heap.size ≤ c ∧ c < w'.heap.size) :
    RR (fun i => F i ∨ m0' = some i) FK FQ w' b k q I L mo lo J iv qv m0' m1 L0' L1 := by
  have hKS : ∀ i, FK i → i ≠ b → ¬ (i = b ∨ m0 = some i) := fun i hi hne hq => hq.elim hne (fun r => (h.z0 i r).2.1 hi)
  have hQS : ∀ i, FQ i → i ≠ b → ¬ (i = b ∨ m0 = some i) := fun i hi hne hq => hq.elim hne (fun r => (h.z0 i r).2.2 hi)
  have hkr := kv_rebase h.kr hf hKS hb
  have hb2 := hb
  rw [cells_eq h.kr.lv h.kr.lth] at hb2
  have hFb := h.fk _ h.kr.b
  refine ⟨h.kok, h.qok, hkr, h.kw, qu_rebase h.qr hf hQS hb2, h.qw, hm, h.a1.fr hf (fun c hc hq => hq.elim (fun e => (h.z1 c hc).2.1 (e ▸ h.kr.b)) (fun e => h.z01 c e hc)), h.disj, fun c hc => ⟨.inr hc, ?_⟩, fun c hc => ⟨.inl (h.z1 c hc).1, (h.z1 c hc).2⟩, fun c hc => ?_, fun i hi => .inl (h.fk i hi), fun i hi => .inl (h.fq i hi), fun i hi => ?_⟩
  · rcases hn with e | e
    · exact (h.z0 c (e ▸ hc)).2
    · have := (e c hc).1
      exact ⟨fun q => by have := h.fb c (h.fk c q); omega, fun q => by have := h.fb c (h.fq c q); omega⟩
  · rcases hn with e | e
    · exact h.z01 c (e ▸ hc)
    · intro q
      have := (e c hc).1
      have := h.fb c (h.z1 c q).1
      omega
  · rcases hi with r | r
    · exact Nat.lt_of_lt_of_le (h.fb i r) hf.size
    · rcases hn with e | e
      · exact Nat.lt_of_lt_of_le (h.fb i (h.z0 i (e ▸ r)).1) hf.size
      · exact (e i r).2
theorem RR.map1 {FK FQ : Nat → Prop} {I : List K.WI} {L : List (Int × Nat × Nat)} {mo lo : Option Nat} {J : List Q.WI} {iv qv : Value} {m0 m1 m1' : Option Nat} {L0 L1 L1' : List (Int × Bool × Nat)} {w' : World}
    (h : RR F FK FQ w b k q I L mo lo J iv qv m0 m1 L0 L1) (hf : Fr (fun i => i = b ∨ m1 = some i) w w') (hb : w'.heap[b]? = some (.cells (K.storeCells (pz iv qv q.gv m0 m1') k.vs k.th mo lo) 91 (0, 0)))
    (hm : MapO (Value.int .i64) Value.bool w' m1' L1') (hn : m1' = m1 ∨ ∀ c, m1' = some c → w.heap.size ≤ c ∧ c < w'.heap.size) :
    RR (fun i => F i ∨ m1' = some i) FK FQ w' b k q I L mo lo J iv qv m0 m1' L0 L1' := by
  have hKS : ∀ i, FK i → i ≠ b → ¬ (i = b ∨ m1 = some i) := fun i hi hne hq => hq.elim hne (fun r => (h.z1 i r).2.1 hi)
  have hQS : ∀ i, FQ i → i ≠ b → ¬ (i = b ∨ m1 = some i) := fun i hi hne hq => hq.elim hne (fun r => (h.z1 i r).2.2 hi)
  have hkr := kv_rebase h.kr hf hKS hb
  have hb2 := hb
  rw [cells_eq h.kr.lv h.kr.lth] at hb2
  refine ⟨h.kok, h.qok, hkr, h.kw, qu_rebase h.qr hf hQS hb2, h.qw, h.a0.fr hf (fun c hc hq => hq.elim (fun e => (h.z0 c hc).2.1 (e ▸ h.kr.b)) (fun e => h.z01 c hc e)), hm, h.disj, fun c hc => ⟨.inl (h.z0 c hc).1, (h.z0 c hc).2⟩, fun c hc => ⟨.inr hc, ?_⟩, fun c hc => ?_, fun i hi => .inl (h.fk i hi), fun i hi => .inl (h.fq i hi), fun i hi => ?_⟩
  · rcases hn with e | e
    · exact (h.z1 c (e ▸ hc)).2
    · have := (e c hc).1
      exact ⟨fun q => by have := h.fb c (h.fk c q); omega, fun q => by have := h.fb c (h.fq c q); omega⟩
  · rcases hn with e | e
    · exact fun q => h.z01 c hc (e ▸ q)
    · intro q
      have := (e c q).1
      have := h.fb c (h.z0 c hc).1
      omega
  · rcases hi with r | r
    · exact Nat.lt_of_lt_of_le (h.fb i r) hf.size
    · rcases hn with e | e
      · exact Nat.lt_of_lt_of_le (h.fb i (h.z1 i (e ▸ r)).1) hf.size
      · exact (e i r).2
end
def RAt (F : Nat → Prop) (w : World) (b : Nat) (s : RM) : Prop := RX F w b s.k s.q (fun n => prepd n s.k.ws) (fun n => prepd n s.q.ws)
theorem RX.marks {F : Nat → Prop} {w : World} {b : Nat} {k : KS} {q : QS} {f0 f1 g0 g1 : Int → Bool} (h : RX F w b k q f0 f1) (h0 : ∀ n, f0 n = g0 n) (h1 : ∀ n, f1 n = g1 n) : RX F w b k q g0 g1 := by
  obtain ⟨FK, FQ, I, L, mo, lo, J, iv, qv, m0, m1, L0, L1, h, e0, e1⟩ := h
  exact ⟨FK, FQ, I, L, mo, lo, J, iv, qv, m0, m1, L0, L1, h, fun n => (e0 n).trans (h0 n), fun n => (e1 n).trans (h1 n)⟩
end Go.Proofs.Ytdejbinmnoabeaa
namespace Go.Proofs.Ytdejbinmnoabeaa
open Go.RowKit Go.Mine Go.Proofs.YtdejbinmnoabeaaW.PrintWords
set_option linter.unusedVariables false
set_option linter.unusedSimpArgs false
theorem zero4 (w : World) : (zeroValue 4).run Try.prog w = .ok (.bool false) w := by kernel_rfl
theorem results_tmp3 {fn : Func} {t u v : Tmp} (h : fn.results = #[.tmp t, .tmp u, .tmp v]) (tmps : Array Value) (P : Program) (w : World) :
    (results fn tmps).run P w = .ok (.tuple #[tmps.getD t undef, tmps.getD u undef, tmps.getD v undef]) w := by
  simp [results, h]
def nilRes : Array Value := K.storeCells (pz (.slice none 0 0) (.slice none 0 0) 0 none none) (List.replicate 16 0) (List.replicate 16 false) none none
theorem new_any (w : World) : Calls Try.prog 28 #[] w fun e w' => e = .returned (.pointer (some ⟨w.heap.size, 0, none⟩)) ∧ w' = w.alloc (.cells nilRes 91) := by
  go_enter Try.func28, Try.ntmps28
  go_wp2
  go_ret
  exact ⟨rfl, rfl⟩
theorem new_rat (w : World) : RAt (fun i => i = w.heap.size) (w.alloc (.cells nilRes 91)) w.heap.size RM.new := by
  have hb := (MapKept.heap_alloc w (.cells nilRes 91)).1
  have h1 : (List.replicate 16 (0 : Int)).length = 16 := rfl
  have h2 : (List.replicate 16 false).length = 16 := rfl
  have hkr : K.KvR (pz (.slice none 0 0) (.slice none 0 0) 0 none none) (fun i => i = w.heap.size) (w.alloc (.cells nilRes 91)) w.heap.size (List.replicate 16 0) (List.replicate 16 false) [] [] [] none none :=
    ⟨fun i hi => by subst hi; simp, rfl, h1, h2, hb, rfl, rfl, fun c hc => (by cases hc), fun x hx => absurd hx List.not_mem_nil, List.Pairwise.nil, ⟨[], rfl, ⟨none, hb, K.sc33 h1 h2 _ _, rfl, fun c hc => (by cases hc)⟩⟩, fun c hc => (by cases hc), fun c hc => (by cases hc)⟩
  refine ⟨_, _, [], [], none, none, [], .slice none 0 0, .slice none 0 0, none, none, [], [], ⟨KS.Ok.new, QS.Ok.new, hkr, rfl, ?_, rfl, rfl, rfl, fun i hi _ => hi, fun c hc => (by cases hc), fun c hc => (by cases hc), fun c hc => (by cases hc), fun i hi => hi, fun i hi => hi, fun i hi => by subst hi; simp⟩, fun n => rfl, fun n => rfl⟩
  exact
    { fb := fun i hi => by subst hi; simp
      bF := rfl
      blk := hb.trans (congrArg (fun c => some (Obj.cells c 91 (0, 0))) (cells_eq h1 h2))
      it := Q.FR.nil _ _ _
      wp := Q.FR.nil _ _ _
      iF := fun k hk => by simp [Value.ownBlock] at hk
      qF := fun k hk => by simp [Value.ownBlock] at hk
      wk := fun x hx => absurd hx List.not_mem_nil
      apart := List.Pairwise.nil }
section
variable {F : Nat → Prop} {w : World} {b : Nat} {k : KS} {q : QS} {f0 f1 : Int → Bool} {s : RM}
theorem getD_bool {o : Option Bool} : (o.map Value.bool).getD (.bool false) = .bool (o.getD false) := by cases o <;> rfl
set_option maxRecDepth 100000 in
set_option maxHeartbeats 2000000 in
theorem fit_rx (h : RX F w b k q f0 f1) (n : Int) :
    Calls Try.prog 42 #[.pointer (some ⟨b, 0, none⟩), .int .i64 n] w fun e w' => e = .returned (.int .i64 (if n < 1 then 1 else if (f0 n || f1 n) = true then 7 else 0)) ∧ w = w' := by
  obtain ⟨FK, FQ, I, L, mo, lo, J, iv, qv, m0, m1, L0, L1, h, h0, h1⟩ := h
  have c0 : w.cell? ⟨b, 37, none⟩ = some (.map m0) := by rw [cell_of_row w b 37 _ _ _ h.kr.blk]; exact sc37 h.kr.lv h.kr.lth
  have c1 : w.cell? ⟨b, 38, none⟩ = some (.map m1) := by rw [cell_of_row w b 38 _ _ _ h.kr.blk]; exact sc38 h.kr.lv h.kr.lth
  have l0 := run_lookupO Try.underlying88 K.key3 h.a0 (zero4 w) n false
  have l1 := run_lookupO Try.underlying88 K.key3 h.a1 (zero4 w) n false
  simp only [Bool.false_eq_true, if_false, getD_bool, h0, h1] at l0 l1
  clear h h0 h1
  by_cases hn : n < 1
  · rw [if_pos hn]
    go_enter Try.func42, Try.ntmps42
    go_wp2_with fail
    go_ret
    exact ⟨rfl, rfl⟩
  · rw [if_neg hn]
    cases q0 : f0 n
    · cases q1 : f1 n
      all_goals
        rw [q0] at l0
        rw [q1] at l1
        simp only [Bool.or_self, Bool.false_or, Bool.false_eq_true, if_false, if_true]
        go_enter Try.func42, Try.ntmps42
        go_wp2_with fail
        go_ret
        exact ⟨rfl, rfl⟩
    · rw [q0] at l0
      generalize f1 n = z at *
      simp only [Bool.true_or, if_true]
      go_enter Try.func42, Try.ntmps42
      go_wp2_with fail
      go_ret
      exact ⟨rfl, rfl⟩
theorem fit_any (h : RAt F w b s) (n : Int) :
    Calls Try.prog 42 #[.pointer (some ⟨b, 0, none⟩), .int .i64 n] w fun e w' => e = .returned (.int .i64 (s.fit n)) ∧ w = w' := fit_rx h n
def RPost (F : Nat → Prop) (w : World) (b : Nat) (r : Value) (s' : RM) (e : Ending) (w' : World) : Prop :=
  e = .returned r ∧ (∃ F', RAt F' w' b s' ∧ K.Grew F F' w) ∧ Fr F w w'
theorem RPost.same (h : RAt F w b s) (r : Value) : RPost F w b r s (.returned r) w := ⟨rfl, ⟨F, h, K.Grew.refl _ _⟩, Fr.refl _ _⟩
theorem grew_or {F G G' : Nat → Prop} {w : World} (h : ∀ i, G i → F i) (hg : ∀ i, G' i → G i ∨ w.heap.size ≤ i) : K.Grew F (fun i => F i ∨ G' i) w := fun i hi => hi.elim .inl (fun q => (hg i q).imp (h i) id)
set_option maxRecDepth 100000 in
set_option maxHeartbeats 2000000 in
theorem get_any (h : RAt F w b s) (n : Int) (key : Int) :
    Calls Try.prog 33 #[.pointer (some ⟨b, 0, none⟩), .int .i64 n, .int .i64 key] w (RPost F w b (.tuple #[.int .u64 (s.get n key).1.1, .bool (s.get n key).1.2.1, .int .i64 (s.get n key).1.2.2]) (s.get n key).2) := by
  have HF := hid (fit_any h n)
  have H := hid h
  clear h
  rcases s.fit_cases n with ⟨hn, he⟩ | ⟨hn, he, hp⟩ | ⟨hn, he, hp0, hp1⟩
  · have HM := hid (show (s.get n key) = ((0, false, 1), s) from by unfold RM.get; rw [if_pos (by rw [he]; decide), he])
    rw [he] at HF
    go_enter Try.func33, Try.ntmps33
    go_wp2_with fail
    refine HF.out.mono ?_
    rintro e w1 ⟨rfl, rfl⟩
    go_wp2_with fail
    (try simp only [Exit.inBlock, Exit.then]); refine bodyPost_ret (results_tmp3 rfl _ _ _) rfl ?_
    rw [HM.out]
    exact RPost.same H.out _
  · have HM := hid (show (s.get n key) = ((0, false, 7), s) from by unfold RM.get; rw [if_pos (by rw [he]; decide), he])
    rw [he] at HF
    go_enter Try.func33, Try.ntmps33
    go_wp2_with fail
    refine HF.out.mono ?_
    rintro e w1 ⟨rfl, rfl⟩
    go_wp2_with fail
    (try simp only [Exit.inBlock, Exit.then]); refine bodyPost_ret (results_tmp3 rfl _ _ _) rfl ?_
    rw [HM.out]
    exact RPost.same H.out _
  · have HM := hid (show (s.get n key) = _ from by unfold RM.get; rw [if_neg (by rw [he]; simp)])
    rw [he] at HF
    obtain ⟨FK, Pz, hsub, hk, hst⟩ := H.out.kv
    have HC := hid ((K.get_any hk n key).mono (R' := fun e w' => e = .returned (.tuple #[.int .u64 (s.k.get n key).1.1, .bool (s.k.get n key).1.2.1, .int .i64 (s.k.get n key).1.2.2]) ∧ (∃ F', RAt F' w' b ⟨(s.k.get n key).2, s.q⟩ ∧ K.Grew F F' w) ∧ Fr F w w') (by
      rintro e w' ⟨FK', rfl, hk', hg, hf⟩
      exact ⟨rfl, ⟨_, (hst w' FK' _ hk' hg hf).marks (fun m => (prepd_get).symm) (fun _ => rfl), grew_or hsub hg⟩, hf.mono hsub⟩))
    clear hk hst
    clear he hp0 hp1
    go_enter Try.func33, Try.ntmps33
    go_wp2_with fail
    refine HF.out.mono ?_
    rintro e w1 ⟨rfl, rfl⟩
    go_wp2_with fail
    refine HC.out.mono ?_
    rintro e w1 ⟨rfl, hfin⟩
    go_wp2_with fail
    (try simp only [Exit.inBlock, Exit.then]); refine bodyPost_ret (results_tmp3 rfl _ _ _) rfl ?_
    rw [HM.out]
    exact ⟨rfl, hfin⟩
set_option maxRecDepth 100000 in
set_option maxHeartbeats 2000000 in
theorem put_any (h : RAt F w b s) (n : Int) (key v : Int) :
    Calls Try.prog 21 #[.pointer (some ⟨b, 0, none⟩), .int .i64 n, .int .i64 key, .int .u64 v] w (RPost F w b (.int .i64 (s.change n ⟨1, key, v⟩).1) (s.change n ⟨1, key, v⟩).2) := by
  have HF := hid (fit_any h n)
  have H := hid h
  clear h
  rcases s.fit_cases n with ⟨hn, he⟩ | ⟨hn, he, hp⟩ | ⟨hn, he, hp0, hp1⟩
  · have HM := hid (show (s.change n ⟨1, key, v⟩) = (1, s) from by unfold RM.change; rw [if_pos (by rw [he]; decide), he])
    rw [he] at HF
    go_enter Try.func21, Try.ntmps21
    go_wp2_with fail
    refine HF.out.mono ?_
    rintro e w1 ⟨rfl, rfl⟩
    go_wp2_with fail
    go_ret
    rw [HM.out]
    exact RPost.same H.out _
  · have HM := hid (show (s.change n ⟨1, key, v⟩) = (7, s) from by unfold RM.change; rw [if_pos (by rw [he]; decide), he])
    rw [he] at HF
    go_enter Try.func21, Try.ntmps21
    go_wp2_with fail
    refine HF.out.mono ?_
    rintro e w1 ⟨rfl, rfl⟩
    go_wp2_with fail
    go_ret
    rw [HM.out]
    exact RPost.same H.out _
  · have HM := hid (show (s.change n ⟨1, key, v⟩) = _ from by unfold RM.change; rw [if_neg (by rw [he]; simp)])
    rw [he] at HF
    obtain ⟨FK, Pz, hsub, hk, hst⟩ := H.out.kv
    have HC := hid ((K.put_any hk n key v).mono (R' := fun e w' => e = .returned (.int .i64 (s.k.change n ⟨1, key, v⟩).1) ∧ (∃ F', RAt F' w' b ⟨(s.k.change n ⟨1, key, v⟩).2, s.q⟩ ∧ K.Grew F F' w) ∧ Fr F w w') (by
      rintro e w' ⟨FK', rfl, hk', hg, hf⟩
      exact ⟨rfl, ⟨_, (hst w' FK' _ hk' hg hf).marks (fun m => (prepd_change H.out.kok).symm) (fun _ => rfl), grew_or hsub hg⟩, hf.mono hsub⟩))
    clear hk hst
    clear he hp0 hp1
    go_enter Try.func21, Try.ntmps21
    go_wp2_with fail
    refine HF.out.mono ?_
    rintro e w1 ⟨rfl, rfl⟩
    go_wp2_with fail
    refine HC.out.mono ?_
    rintro e w1 ⟨rfl, hfin⟩
    go_wp2_with fail
    go_ret
    rw [HM.out]
    exact ⟨rfl, hfin⟩
set_option maxRecDepth 100000 in
set_option maxHeartbeats 2000000 in
theorem del_any (h : RAt F w b s) (n : Int) (key : Int) :
    Calls Try.prog 34 #[.pointer (some ⟨b, 0, none⟩), .int .i64 n, .int .i64 key] w (RPost F w b (.int .i64 (s.change n ⟨2, key, 0⟩).1) (s.change n ⟨2, key, 0⟩).2) := by
  have HF := hid (fit_any h n)
  have H := hid h
  clear h
  rcases s.fit_cases n with ⟨hn, he⟩ | ⟨hn, he, hp⟩ | ⟨hn, he, hp0, hp1⟩
  · have HM := hid (show (s.change n ⟨2, key, 0⟩) = (1, s) from by unfold RM.change; rw [if_pos (by rw [he]; decide), he])
    rw [he] at HF
    go_enter Try.func34, Try.ntmps34
    go_wp2_with fail
    refine HF.out.mono ?_
    rintro e w1 ⟨rfl, rfl⟩
    go_wp2_with fail
    go_ret
    rw [HM.out]
    exact RPost.same H.out _
  · have HM := hid (show (s.change n ⟨2, key, 0⟩) = (7, s) from by unfold RM.change; rw [if_pos (by rw [he]; decide), he])
    rw [he] at HF
    go_enter Try.func34, Try.ntmps34
    go_wp2_with fail
    refine HF.out.mono ?_
    rintro e w1 ⟨rfl, rfl⟩
    go_wp2_with fail
    go_ret
    rw [HM.out]
    exact RPost.same H.out _
  · have HM := hid (show (s.change n ⟨2, key, 0⟩) = _ from by unfold RM.change; rw [if_neg (by rw [he]; simp)])
    rw [he] at HF
    obtain ⟨FK, Pz, hsub, hk, hst⟩ := H.out.kv
    have HC := hid ((K.del_any hk n key).mono (R' := fun e w' => e = .returned (.int .i64 (s.k.change n ⟨2, key, 0⟩).1) ∧ (∃ F', RAt F' w' b ⟨(s.k.change n ⟨2, key, 0⟩).2, s.q⟩ ∧ K.Grew F F' w) ∧ Fr F w w') (by
      rintro e w' ⟨FK', rfl, hk', hg, hf⟩
      exact ⟨rfl, ⟨_, (hst w' FK' _ hk' hg hf).marks (fun m => (prepd_change H.out.kok).symm) (fun _ => rfl), grew_or hsub hg⟩, hf.mono hsub⟩))
    clear hk hst
    clear he hp0 hp1
    go_enter Try.func34, Try.ntmps34
    go_wp2_with fail
    refine HF.out.mono ?_
    rintro e w1 ⟨rfl, rfl⟩
    go_wp2_with fail
    refine HC.out.mono ?_
    rintro e w1 ⟨rfl, hfin⟩
    go_wp2_with fail
    go_ret
    rw [HM.out]
    exact ⟨rfl, hfin⟩
set_option maxRecDepth 100000 in
set_option maxHeartbeats 2000000 in
theorem push_any (h : RAt F w b s) (n : Int) (v : Int) :
    Calls Try.prog 22 #[.pointer (some ⟨b, 0, none⟩), .int .i64 n, .int .u64 v] w (RPost F w b (.int .i64 (s.push n v).1) (s.push n v).2) := by
  have HF := hid (fit_any h n)
  have H := hid h
  clear h
  rcases s.fit_cases n with ⟨hn, he⟩ | ⟨hn, he, hp⟩ | ⟨hn, he, hp0, hp1⟩
  · have HM := hid (show (s.push n v) = (1, s) from by unfold RM.push; rw [if_pos (by rw [he]; decide), he])
    rw [he] at HF
    go_enter Try.func22, Try.ntmps22
    go_wp2_with fail
    refine HF.out.mono ?_
    rintro e w1 ⟨rfl, rfl⟩
    go_wp2_with fail
    go_ret
    rw [HM.out]
    exact RPost.same H.out _
  · have HM := hid (show (s.push n v) = (7, s) from by unfold RM.push; rw [if_pos (by rw [he]; decide), he])
    rw [he] at HF
    go_enter Try.func22, Try.ntmps22
    go_wp2_with fail
    refine HF.out.mono ?_
    rintro e w1 ⟨rfl, rfl⟩
    go_wp2_with fail
    go_ret
    rw [HM.out]
    exact RPost.same H.out _
  · have HM := hid (show (s.push n v) = _ from by unfold RM.push; rw [if_neg (by rw [he]; simp)])
    rw [he] at HF
    obtain ⟨FQ, Z, hsub, hk, hst⟩ := H.out.qu
    have HC := hid ((Q.put_any hk H.out.qok.bd n v).mono (R' := fun e w' => e = .returned (.int .i64 (s.q.put n v).1) ∧ (∃ F', RAt F' w' b ⟨s.k, (s.q.put n v).2⟩ ∧ K.Grew F F' w) ∧ Fr F w w') (by
      rintro e w' ⟨rfl, ⟨FQ', hk', hg⟩, hf⟩
      exact ⟨rfl, ⟨_, (hst w' FQ' _ hk' (H.out.qok.put n v) hg hf).marks (fun _ => rfl) (fun m => (prepd_put H.out.qok).symm), grew_or hsub hg⟩, hf.mono hsub⟩))
    clear hk hst
    clear he hp0 hp1
    go_enter Try.func22, Try.ntmps22
    go_wp2_with fail
    refine HF.out.mono ?_
    rintro e w1 ⟨rfl, rfl⟩
    go_wp2_with fail
    refine HC.out.mono ?_
    rintro e w1 ⟨rfl, hfin⟩
    go_wp2_with fail
    go_ret
    rw [HM.out]
    exact ⟨rfl, hfin⟩
set_option maxRecDepth 100000 in
set_option maxHeartbeats 2000000 in
theorem pop_any (h : RAt F w b s) (n : Int)  :
    Calls Try.prog 35 #[.pointer (some ⟨b, 0, none⟩), .int .i64 n] w (RPost F w b (.tuple #[.int .u64 (s.pop n).1.1, .int .i64 (s.pop n).1.2]) (s.pop n).2) := by
  have HF := hid (fit_any h n)
  have H := hid h
  clear h
  rcases s.fit_cases n with ⟨hn, he⟩ | ⟨hn, he, hp⟩ | ⟨hn, he, hp0, hp1⟩
  · have HM := hid (show (s.pop n) = ((0, 1), s) from by unfold RM.pop; rw [if_pos (by rw [he]; decide), he])
    rw [he] at HF
    go_enter Try.func35, Try.ntmps35
    go_wp2_with fail
    refine HF.out.mono ?_
    rintro e w1 ⟨rfl, rfl⟩
    go_wp2_with fail
    go_ret2
    rw [HM.out]
    exact RPost.same H.out _
  · have HM := hid (show (s.pop n) = ((0, 7), s) from by unfold RM.pop; rw [if_pos (by rw [he]; decide), he])
    rw [he] at HF
    go_enter Try.func35, Try.ntmps35
    go_wp2_with fail
    refine HF.out.mono ?_
    rintro e w1 ⟨rfl, rfl⟩
    go_wp2_with fail
    go_ret2
    rw [HM.out]
    exact RPost.same H.out _
  · have HM := hid (show (s.pop n) = _ from by unfold RM.pop; rw [if_neg (by rw [he]; simp)])
    rw [he] at HF
    obtain ⟨FQ, Z, hsub, hk, hst⟩ := H.out.qu
    have HC := hid ((Q.take_any hk H.out.qok.bd n).mono (R' := fun e w' => e = .returned (.tuple #[.int .u64 (s.q.take n).1.1, .int .i64 (s.q.take n).1.2]) ∧ (∃ F', RAt F' w' b ⟨s.k, (s.q.take n).2⟩ ∧ K.Grew F F' w) ∧ Fr F w w') (by
      rintro e w' ⟨rfl, ⟨FQ', hk', hg⟩, hf⟩
      exact ⟨rfl, ⟨_, (hst w' FQ' _ hk' (H.out.qok.take n) hg hf).marks (fun _ => rfl) (fun m => (prepd_take H.out.qok).symm), grew_or hsub hg⟩, hf.mono hsub⟩))
    clear hk hst
    clear he hp0 hp1
    go_enter Try.func35, Try.ntmps35
    go_wp2_with fail
    refine HF.out.mono ?_
    rintro e w1 ⟨rfl, rfl⟩
    go_wp2_with fail
    refine HC.out.mono ?_
    rintro e w1 ⟨rfl, hfin⟩
    go_wp2_with fail
    go_ret2
    rw [HM.out]
    exact ⟨rfl, hfin⟩
end
end Go.Proofs.Ytdejbinmnoabeaa
namespace Go.Proofs.Ytdejbinmnoabeaa
open Go.RowKit Go.Mine Go.Proofs.YtdejbinmnoabeaaW.PrintWords
set_option linter.unusedVariables false
set_option linter.unusedSimpArgs false
abbrev ChAt (w : World) (B : Nat) (A : Option Addr) (l : List Ch) : Prop := Q.ChAt w B A l
theorem ChAt.ofK {w : World} {B : Nat} {A : Option Addr} {l : List Ch} (h : K.ChAt w B A l) : ChAt w B A l := h
theorem ChAt.toK {w : World} {B : Nat} {A : Option Addr} {l : List Ch} (h : ChAt w B A l) : K.ChAt w B A l := h
def flatC (l : List Ch) : List Value := l.flatMap Q.encCh
theorem flatC_cons (c : Ch) (l : List Ch) : flatC (c :: l) = Q.encCh c ++ flatC l := rfl
theorem flatC_len (l : List Ch) : (flatC l).length = l.length * 3 := by
  induction l with
  | nil => rfl
  | cons c cs ih => rw [flatC_cons, List.length_append, ih, List.length_cons]; show 3 + _ = _; omega
theorem flatC_append (a b : List Ch) : flatC (a ++ b) = flatC a ++ flatC b := by unfold flatC; exact List.flatMap_append
theorem flatC_get : ∀ (l : List Ch) (i : Nat) (x : Ch) (j : Nat), l[i]? = some x → j < 3 → (flatC l)[i * 3 + j]? = (Q.encCh x)[j]?
  | c :: cs, 0, x, j, hx, hj => by
    simp at hx
    subst hx
    rw [flatC_cons, List.getElem?_append_left (by show _ < 3; omega)]
    simp
  | c :: cs, i + 1, x, j, hx, hj => by
    rw [flatC_cons, List.getElem?_append_right (by show 3 ≤ _; omega)]
    have := flatC_get cs i x j (by simpa using hx) hj
    rw [← this]
    congr 1
    show _ - 3 = _
    omega
theorem flatC_one {l : List Ch} : ∀ u ∈ flatC l, u.oneCell' = true := by
  intro u hu
  obtain ⟨x, _, hx⟩ := List.mem_flatMap.1 hu
  exact Q.eCh.one x u hx
theorem flatC_holds {w : World} {B b off : Nat} {l : List Ch} (h : ChAt w B (some ⟨b, off, none⟩) l) (j : Nat) (v : Value) (hv : (flatC l)[j]? = some v) : w.cell? ((⟨b, off, none⟩ : Addr).add j) = some v := by
  have hj := (List.getElem?_eq_some_iff.1 hv).1
  rw [flatC_len] at hj
  have hi : j / 3 < l.length := by omega
  have hx : l[j / 3]? = some l[j / 3] := List.getElem?_eq_getElem hi
  obtain ⟨b', off', e, _, hc⟩ := h _ _ hx
  cases e
  have := flatC_get l (j / 3) _ (j % 3) hx (Nat.mod_lt _ (by decide))
  rw [show j / 3 * 3 + j % 3 = j by omega, hv] at this
  have := hc (j % 3) v this.symm
  rw [show off + j / 3 * 3 + j % 3 = off + j by omega] at this
  rw [Addr.add_lit]
  exact this
theorem src_of {w : World} {B n : Nat} {A : Option Addr} {l : List Ch} (h : ChAt w B A l) (hn : l.length = n) (c : Nat) : Src Try.prog 3 22 (.slice A n c) n (flatC l) w := by
  subst hn
  cases l with
  | nil =>
    refine ⟨.inl ⟨62, Try.underlying22⟩, fun _ => rfl, ?_, ?_, rfl, fun u hu => by cases hu⟩
    · cases A with
      | none => exact run_firstCells_none _ _ _ _ _
      | some a => exact run_firstCells_some _ _ _ _ _ _ [] rfl (fun j v hv => by simp at hv)
    · cases A with
      | none => exact run_firstCells_none _ _ _ _ _
      | some a => exact run_firstCells_some _ _ _ _ _ _ [] rfl (fun j v hv => by simp at hv)
  | cons x xs =>
    obtain ⟨b, off, e, _⟩ := h 0 x rfl
    subst e
    exact Src.ofSlice w Try.underlying22 _ _ _ _ (flatC_len _) (flatC_holds h) flatC_one
theorem info62c : ∃ i, Try.prog.info? 62 = some i ∧ i.zero = some (.agg #[.int .i64 0, .int .i64 0, .int .u64 0]) ∧ i.size = 3 ∧ i.bytes = 24 := by
  have h : (Try.prog.info? 62).map (fun i => (i.zero, i.size, i.bytes)) = some (some (.agg #[.int .i64 0, .int .i64 0, .int .u64 0]), 3, 24) := by kernel_rfl
  obtain ⟨i, hi, hz⟩ := Option.map_eq_some_iff.1 h
  simp only [Prod.mk.injEq] at hz
  exact ⟨i, hi, hz.1, hz.2.1, hz.2.2⟩
theorem ncap (n c : Nat) (hn : n ≤ 1000) (hc : c < n) : Builtin.nextslicecap n c * 24 ≤ 281474976710656 := by
  have := nextslicecap_le hc
  omega
theorem append_full {w : World} {B : Nat} {A1 A2 : Option Addr} {l1 l2 : List Ch} {n1 n2 c2 : Nat} (h1 : ChAt w B A1 l1) (h2 : ChAt w B A2 l2) (e1 : l1.length = n1) (e2 : l2.length = n2) (hB : B ≤ w.heap.size) (hn1 : n1 ≤ 400) (hn2 : n2 ≤ 400) (ty : TypeId) :
    ∃ A c w', (Builtin.append_ #[22, 22] ty #[.slice A1 n1 n1, .slice A2 n2 c2]).run Try.prog w = .ok (.slice A (n1 + n2) c) w' ∧ n1 + n2 ≤ c ∧ ChAt w' w'.heap.size A (l1 ++ l2) ∧ Below w.heap.size w w' ∧ (A = A1 ∨ A = some ⟨w.heap.size, 0, none⟩) := by
  obtain ⟨i, hi, hz, hs, hb⟩ := info62c
  have s2 := src_of h2 e2 c2
  by_cases q : n2 = 0
  · subst q
    have hl2 : l2 = [] := List.eq_nil_of_length_eq_zero e2
    subst hl2
    refine ⟨A1, n1, w, ?_, by omega, ?_, Below.refl _ _, .inl rfl⟩
    · exact run_append_nothing w 22 22 ty 62 i Try.underlying22 hi A1 n1 n1 (Nat.le_refl _) _ (by rw [hs]; exact s2)
    · rw [List.append_nil]; exact h1.up hB
  · have hold := (src_of h1 e1 n1).cellsD
    rw [← hs] at hold s2
    have hr := run_append_grow_src w 22 22 ty 62 i _ Try.underlying22 hi hz A1 n1 n1 (flatC l1) hold _ n2 (flatC l2) s2 (by omega) (by omega) (by rw [hb]; exact ncap _ _ (by omega) (by omega))
    have hg : n1 + n2 ≤ grownCap w (n1 + n2) n1 62 := grownCap_ge _ _ _ _
    generalize hz2 : Builtin.zeroCells (Value.agg #[.int .i64 0, .int .i64 0, .int .u64 0]).cells (grownCap w (n1 + n2) n1 62 - (n1 + n2)) = Z at hr
    refine ⟨_, _, _, hr, hg, ?_, (Q.bd1 w).alloc (Nat.le_refl _) _, .inr rfl⟩
    intro k x hx
    refine ⟨w.heap.size, 0, rfl, by simp, fun j v hv => ?_⟩
    have hj : j < 3 := (List.getElem?_eq_some_iff.1 hv).1
    have hk := (MapKept.heap_alloc w.drew (.cells ((flatC l1 ++ flatC l2).toArray ++ Z) 62)).1
    rw [show w.drew.heap.size = w.heap.size from rfl] at hk
    rw [cell_of_row _ _ _ _ _ _ hk, ← flatC_append, Nat.zero_add]
    have hg2 := flatC_get _ k x j hx hj
    rw [Array.getElem?_append_left (by
      have := (List.getElem?_eq_some_iff.1 hx).1
      simp [flatC_len]
      simp at this
      omega)]
    simp only [List.getElem?_toArray]
    rw [hg2]
    exact hv
end Go.Proofs.Ytdejbinmnoabeaa
namespace Go.Proofs.Ytdejbinmnoabeaa
open Go.RowKit Go.Mine Go.Proofs.YtdejbinmnoabeaaW.PrintWords
open Go.ChangeMaps (setBlock)
set_option linter.unusedVariables false
set_option linter.unusedSimpArgs false
theorem mget_put {L : List (Int × Bool × Nat)} {c : Nat} (h : Ok L c) (n m : Int) (v : Bool) (d : Nat) : (mget m (mput n v d L)).getD false = if m = n then v else (mget m L).getD false := by
  rw [kv_get, kv_put, kv_get]
  by_cases q : m = n
  · subst q
    rw [aget_put_self m v (kv_keys h), if_pos rfl]
    rfl
  · rw [aget_put_other v (kv_keys h) q, if_neg q]
theorem aget_adel {α β : Type} [DecidableEq α] (m n : α) (A : List (α × β)) : aget m (adel n A) = if m = n then none else aget m A := by
  by_cases q : m = n
  · subst q
    rw [if_pos rfl, aget_none]
    intro e he
    have := List.mem_filter.1 he
    simpa using this.2
  · rw [if_neg q]
    unfold aget adel
    rw [List.find?_filter]
    congr 2
    funext e
    by_cases h : e.1 = m
    · simp [h, q]
    · simp [h]
theorem mget_del {L : List (Int × Bool × Nat)} (n m : Int) : (mget m (mdel n L)).getD false = ((mget m L).getD false && !(m == n)) := by
  rw [kv_get, kv_del, kv_get, aget_adel]
  by_cases q : m = n
  · subst q; simp
  · simp [q]
def MPost (F : Nat → Prop) (w : World) (b : Nat) (k : KS) (q : QS) (f0 f1 : Int → Bool) (r : Value) (e : Ending) (w' : World) : Prop :=
  e = .returned r ∧ (∃ F', RX F' w' b k q f0 f1 ∧ K.Grew F F' w ∧ ∀ i, F' i → F i ∨ w.heap.size ≤ i) ∧ Fr F w w'
set_option maxRecDepth 100000 in
set_option maxHeartbeats 2000000 in
theorem mark0_any {F : Nat → Prop} {w : World} {b : Nat} {k : KS} {q : QS} {f0 f1 : Int → Bool} (h : RX F w b k q f0 f1) (n : Int) (A : Option Addr) (l : List Ch) (N c : Nat) (hN : l.length = N) :
    Calls Try.prog 47 #[.pointer (some ⟨b, 0, none⟩), .int .i64 0, .int .i64 n, .slice A N c] w (MPost F w b k q (fun m => f0 m || (m == n && !l.isEmpty)) (f1) (.tuple #[])) := by
  by_cases hl : N = 0
  · have hl0 : l = [] := List.eq_nil_of_length_eq_zero (hN.trans hl)
    have H := hid h
    subst hl
    subst hl0
    clear h
    go_enter Try.func47, Try.ntmps47
    go_wp2_with fail
    go_end0
    exact ⟨rfl, ⟨F, H.out.marks (fun m => by simp) (fun m => by simp), K.Grew.refl _ _, fun i hi => .inl hi⟩, Fr.refl _ _⟩
  · have hne : l.isEmpty = false := by
      cases l with
      | nil => exact absurd hN.symm hl
      | cons _ _ => rfl
    have hN' : ((N : Int) == 0) = false := by simpa using hl
    obtain ⟨FK, FQ, I, L, mo, lo, J, iv, qv, m0, m1, L0, L1, h, h0, h1⟩ := h
    have HE : Hid (∀ m, (if m = n then true else (mget m L0).getD false) = (f0 m || (m == n && !l.isEmpty))) := hid (fun m => by
      rw [h0, hne]
      by_cases q : m = n
      · subst q; simp
      · simp [q])
    have hmn := fun w' mo => run_eql_map_nil (P := Try.prog) w' 88 3 4 mo Try.underlying88
    have c0 : w.cell? ⟨b, 37, none⟩ = some (.map m0) := by rw [cell_of_row w b 37 _ _ _ h.kr.blk]; exact sc37 h.kr.lv h.kr.lth
    have z0 : w.frozen? ⟨b, 37, none⟩ = false := by simp [World.frozen?, h.kr.blk]
    have hb0 : b < w.heap.size := h.fb _ (h.fk _ h.kr.b)
    have hFb := h.fk _ h.kr.b
    have hbm : ∀ c, m0 = some c → b ≠ c := fun c hc e => (h.z0 c hc).2.1 (e ▸ h.kr.b)
    have H := hid h
    have H0 := hid h0
    have H1 := hid h1
    clear h h0 h1 hne
    cases m0 with
    | none =>
      have hL : L0 = [] := H.out.a0
      subst hL
      have hmn' := fun w' => hmn w' none
      clear hmn
      have hmm := @run_makeMap Try.prog
      go_enter Try.func47, Try.ntmps47
      have hc3 : (w.alloc (.map #[] 0)).cell? ⟨b, 37, none⟩ = some (.map none) := by rw [World.cell?_alloc_lt _ _ _ (by show b < _; omega)]; exact c0
      have hf3 : (w.alloc (.map #[] 0)).frozen? ⟨b, 37, none⟩ = false := by rw [World.frozen?_alloc_old _ _ _ (by show b ≠ _; omega)]; exact z0
      have hne : b ≠ w.heap.size := by omega
      have a1 := K.setCell_heap (off := 37) H.out.kr.blk (.map (some w.heap.size))
      rw [set37 H.out.kr.lv H.out.kr.lth] at a1
      have hsz : (w.setCell ⟨b, 37, none⟩ (.map (some w.heap.size))).heap.size = w.heap.size := by simp [World.setCell]
      have a2 : ((w.setCell ⟨b, 37, none⟩ (.map (some w.heap.size))).alloc (.map #[] 0)).heap[b]? = _ := (Below.heap_alloc _ _ _ (by omega)).trans a1
      have m1' : ((w.setCell ⟨b, 37, none⟩ (.map (some w.heap.size))).alloc (.map #[] 0)).heap[w.heap.size]? = some (.map #[] 0) := by
        have := (MapKept.heap_alloc (w.setCell ⟨b, 37, none⟩ (.map (some w.heap.size))) (.map #[] 0)).1
        rw [hsz] at this
        exact this
      have m2 : MapAt (Value.int .i64) Value.bool ((w.setCell ⟨b, 37, none⟩ (.map (some w.heap.size))).alloc (.map #[] 0)) w.heap.size [] 0 := ⟨m1', ⟨by simp, by simp, by simp⟩⟩
      have fA : Fr (fun i => i = b) w ((w.setCell ⟨b, 37, none⟩ (.map (some w.heap.size))).alloc (.map #[] 0)) := (Fr.setCell (S := fun i => i = b) (p := ⟨b, 37, none⟩) (Fr.refl _ w) (.inl rfl) _).alloc _
      have c1 : ((w.setCell ⟨b, 37, none⟩ (.map (some w.heap.size))).alloc (.map #[] 0)).cell? ⟨b, 37, none⟩ = some (.map (some w.heap.size)) := by rw [cell_of_row _ b 37 _ _ _ a2]; exact sc37 H.out.kr.lv H.out.kr.lth
      obtain ⟨w5, c5, hu, hm5, f5, s5⟩ := run_update_at Try.underlying88 K.key3 m2 n true
      have hb5 := f5.at_ a2 hne
      have hfr := (fA.trans f5 (fun i hi => .inr (by omega)))
      have hlt : w.heap.size < w5.heap.size := by rw [s5]; simp
      have HM := hid (H.out.map0 (m0' := some w.heap.size) (L0' := mput n true 0 []) (hfr.mono (fun i hi => .inl hi)) hb5 ⟨c5, hm5⟩ (.inr (fun c hc => by cases hc; exact ⟨Nat.le_refl _, hlt⟩)))
      have HFR := hid hfr
      clear hb5 hm5 m2 m1' a2 a1 s5 hsz f5 fA hfr hlt
      go_wp2
      go_end0
      have hok : Ok ([] : List (Int × Bool × Nat)) 0 := Ok.nil 0
      refine ⟨rfl, ⟨_, ⟨FK, FQ, I, L, mo, lo, J, iv, qv, _, m1, _, _, HM.out, fun m => (mget_put hok n m true _).trans (HE.out m), H1.out⟩, fun i hi => hi.imp id (fun q => by cases q; exact Nat.le_refl _), fun i hi => hi.imp id (fun q => by cases q; exact Nat.le_refl _)⟩, HFR.out.mono (fun i hi => by rw [hi]; exact hFb)⟩
    | some bm =>
      obtain ⟨cc, hm⟩ := H.out.a0
      have hmn' := fun w' => hmn w' (some bm)
      obtain ⟨w5, c5, hu, hm5, f5, s5⟩ := run_update_at Try.underlying88 K.key3 hm n true
      have hb5 := f5.at_ H.out.kr.blk (hbm bm rfl)
      have HM := hid (H.out.map0 (f5.mono (fun i hi => .inr (by rw [hi]))) hb5 ⟨c5, hm5⟩ (.inl rfl))
      have HF5 := hid f5
      have hFm := (H.out.z0 bm rfl).1
      have HOK := hid hm.ok
      clear hmn hb5 hm5 s5 f5 hm
      go_enter Try.func47, Try.ntmps47
      go_wp2
      go_end0
      have hok := HOK.out
      refine ⟨rfl, ⟨_, ⟨FK, FQ, I, L, mo, lo, J, iv, qv, _, m1, _, _, HM.out, fun m => (mget_put hok n m true _).trans (HE.out m), H1.out⟩, fun i hi => hi.elim .inl (fun q => by cases q; exact .inl hFm), fun i hi => hi.elim .inl (fun q => by cases q; exact .inl hFm)⟩, HF5.out.mono (fun i hi => by rw [hi]; exact hFm)⟩
set_option maxRecDepth 100000 in
set_option maxHeartbeats 2000000 in
theorem mark1_any {F : Nat → Prop} {w : World} {b : Nat} {k : KS} {q : QS} {f0 f1 : Int → Bool} (h : RX F w b k q f0 f1) (n : Int) (A : Option Addr) (l : List Ch) (N c : Nat) (hN : l.length = N) :
    Calls Try.prog 47 #[.pointer (some ⟨b, 0, none⟩), .int .i64 1, .int .i64 n, .slice A N c] w (MPost F w b k q (f0) (fun m => f1 m || (m == n && !l.isEmpty)) (.tuple #[])) := by
  by_cases hl : N = 0
  · have hl0 : l = [] := List.eq_nil_of_length_eq_zero (hN.trans hl)
    have H := hid h
    subst hl
    subst hl0
    clear h
    go_enter Try.func47, Try.ntmps47
    go_wp2_with fail
    go_end0
    exact ⟨rfl, ⟨F, H.out.marks (fun m => by simp) (fun m => by simp), K.Grew.refl _ _, fun i hi => .inl hi⟩, Fr.refl _ _⟩
  · have hne : l.isEmpty = false := by
      cases l with
      | nil => exact absurd hN.symm hl
      | cons _ _ => rfl
    have hN' : ((N : Int) == 0) = false := by simpa using hl
    obtain ⟨FK, FQ, I, L, mo, lo, J, iv, qv, m0, m1, L0, L1, h, h0, h1⟩ := h
    have HE : Hid (∀ m, (if m = n then true else (mget m L1).getD false) = (f1 m || (m == n && !l.isEmpty))) := hid (fun m => by
      rw [h1, hne]
      by_cases q : m = n
      · subst q; simp
      · simp [q])
    have hmn := fun w' mo => run_eql_map_nil (P := Try.prog) w' 88 3 4 mo Try.underlying88
    have c0 : w.cell? ⟨b, 38, none⟩ = some (.map m1) := by rw [cell_of_row w b 38 _ _ _ h.kr.blk]; exact sc38 h.kr.lv h.kr.lth
    have z0 : w.frozen? ⟨b, 38, none⟩ = false := by simp [World.frozen?, h.kr.blk]
    have hb0 : b < w.heap.size := h.fb _ (h.fk _ h.kr.b)
    have hFb := h.fk _ h.kr.b
    have hbm : ∀ c, m1 = some c → b ≠ c := fun c hc e => (h.z1 c hc).2.1 (e ▸ h.kr.b)
    have H := hid h
    have H0 := hid h0
    have H1 := hid h1
    clear h h0 h1 hne
    cases m1 with
    | none =>
      have hL : L1 = [] := H.out.a1
      subst hL
      have hmn' := fun w' => hmn w' none
      clear hmn
      have hmm := @run_makeMap Try.prog
      go_enter Try.func47, Try.ntmps47
      have hc3 : (w.alloc (.map #[] 0)).cell? ⟨b, 38, none⟩ = some (.map none) := by rw [World.cell?_alloc_lt _ _ _ (by show b < _; omega)]; exact c0
      have hf3 : (w.alloc (.map #[] 0)).frozen? ⟨b, 38, none⟩ = false := by rw [World.frozen?_alloc_old _ _ _ (by show b ≠ _; omega)]; exact z0
      have hne : b ≠ w.heap.size := by omega
      have a1 := K.setCell_heap (off := 38) H.out.kr.blk (.map (some w.heap.size))
      rw [set38 H.out.kr.lv H.out.kr.lth] at a1
      have hsz : (w.setCell ⟨b, 38, none⟩ (.map (some w.heap.size))).heap.size = w.heap.size := by simp [World.setCell]
      have a2 : ((w.setCell ⟨b, 38, none⟩ (.map (some w.heap.size))).alloc (.map #[] 0)).heap[b]? = _ := (Below.heap_alloc _ _ _ (by omega)).trans a1
      have m1' : ((w.setCell ⟨b, 38, none⟩ (.map (some w.heap.size))).alloc (.map #[] 0)).heap[w.heap.size]? = some (.map #[] 0) := by
        have := (MapKept.heap_alloc (w.setCell ⟨b, 38, none⟩ (.map (some w.heap.size))) (.map #[] 0)).1
        rw [hsz] at this
        exact this
      have m2 : MapAt (Value.int .i64) Value.bool ((w.setCell ⟨b, 38, none⟩ (.map (some w.heap.size))).alloc (.map #[] 0)) w.heap.size [] 0 := ⟨m1', ⟨by simp, by simp, by simp⟩⟩
      have fA : Fr (fun i => i = b) w ((w.setCell ⟨b, 38, none⟩ (.map (some w.heap.size))).alloc (.map #[] 0)) := (Fr.setCell (S := fun i => i = b) (p := ⟨b, 38, none⟩) (Fr.refl _ w) (.inl rfl) _).alloc _
      have c1 : ((w.setCell ⟨b, 38, none⟩ (.map (some w.heap.size))).alloc (.map #[] 0)).cell? ⟨b, 38, none⟩ = some (.map (some w.heap.size)) := by rw [cell_of_row _ b 38 _ _ _ a2]; exact sc38 H.out.kr.lv H.out.kr.lth
      obtain ⟨w5, c5, hu, hm5, f5, s5⟩ := run_update_at Try.underlying88 K.key3 m2 n true
      have hb5 := f5.at_ a2 hne
      have hfr := (fA.trans f5 (fun i hi => .inr (by omega)))
      have hlt : w.heap.size < w5.heap.size := by rw [s5]; simp
      have HM := hid (H.out.map1 (m1' := some w.heap.size) (L1' := mput n true 0 []) (hfr.mono (fun i hi => .inl hi)) hb5 ⟨c5, hm5⟩ (.inr (fun c hc => by cases hc; exact ⟨Nat.le_refl _, hlt⟩)))
      have HFR := hid hfr
      clear hb5 hm5 m2 m1' a2 a1 s5 hsz f5 fA hfr hlt
      go_wp2
      go_end0
      have hok : Ok ([] : List (Int × Bool × Nat)) 0 := Ok.nil 0
      refine ⟨rfl, ⟨_, ⟨FK, FQ, I, L, mo, lo, J, iv, qv, m0, _, _, _, HM.out, H0.out, fun m => (mget_put hok n m true _).trans (HE.out m)⟩, fun i hi => hi.imp id (fun q => by cases q; exact Nat.le_refl _), fun i hi => hi.imp id (fun q => by cases q; exact Nat.le_refl _)⟩, HFR.out.mono (fun i hi => by rw [hi]; exact hFb)⟩
    | some bm =>
      obtain ⟨cc, hm⟩ := H.out.a1
      have hmn' := fun w' => hmn w' (some bm)
      obtain ⟨w5, c5, hu, hm5, f5, s5⟩ := run_update_at Try.underlying88 K.key3 hm n true
      have hb5 := f5.at_ H.out.kr.blk (hbm bm rfl)
      have HM := hid (H.out.map1 (f5.mono (fun i hi => .inr (by rw [hi]))) hb5 ⟨c5, hm5⟩ (.inl rfl))
      have HF5 := hid f5
      have hFm := (H.out.z1 bm rfl).1
      have HOK := hid hm.ok
      clear hmn hb5 hm5 s5 f5 hm
      go_enter Try.func47, Try.ntmps47
      go_wp2
      go_end0
      have hok := HOK.out
      refine ⟨rfl, ⟨_, ⟨FK, FQ, I, L, mo, lo, J, iv, qv, m0, _, _, _, HM.out, H0.out, fun m => (mget_put hok n m true _).trans (HE.out m)⟩, fun i hi => hi.elim .inl (fun q => by cases q; exact .inl hFm), fun i hi => hi.elim .inl (fun q => by cases q; exact .inl hFm)⟩, HF5.out.mono (fun i hi => by rw [hi]; exact hFm)⟩
theorem row_fr {F : Nat → Prop} {w w' : World} {A : Option Addr} {l : List Ch} (h : ChAt w w.heap.size A l) (hf : Fr F w w') (hA : ∀ k off, A = some ⟨k, off, none⟩ → ¬ F k) : ChAt w' w'.heap.size A l :=
  (Q.RowAt.fr h hf (fun _ b off e => hA b off e)).up hf.size
def RPrep (F : Nat → Prop) (w : World) (b : Nat) (R : (List Ch × Int) × RM) (e : Ending) (w' : World) : Prop :=
  ∃ A c, e = .returned (.tuple #[.slice A R.1.1.length c, .int .i64 R.1.2]) ∧ (∃ F', RAt F' w' b R.2 ∧ K.Grew F F' w ∧ ∀ k off, A = some ⟨k, off, none⟩ → w.heap.size ≤ k ∧ ¬ F' k) ∧ ChAt w' w'.heap.size A R.1.1 ∧ R.1.1.length ≤ c ∧ Fr F w w'
theorem kprep_len {s : KS} (h : s.Ok) (n : Int) : (s.prepare n).1.1.length ≤ 16 := by
  have hl := (h.listOf n).len
  unfold KS.prepare
  split
  · simp
  · unfold KS.listOf at hl
    cases hg : aget n s.ws with
    | none => simp
    | some v =>
      rw [hg] at hl
      simp only
      split
      · simp
      · split
        · simp
        · exact hl
theorem qlist_len {s : QS} (h : s.Ok) (n : Int) : (listOfW n s.ws).length ≤ 32 := by
  unfold listOfW
  cases ha : aget n s.ws with
  | none => simp
  | some v =>
    have hm := aget_mem ha
    have h1 := putsW_mem hm
    have h2 := h.takes_le hm
    have h3 := h.sz
    have h4 := len_split (h.ch _ hm)
    show v.l.length ≤ 32
    have h5 : v.l.length = putsL v.l + takesL v.l := h4
    have h6 : takesL v.l ≤ s.its.length := h2
    have h7 : putsL v.l ≤ putsW s.ws := h1
    omega
theorem qprep_len {s : QS} (h : s.Ok) (n : Int) : (s.prepare n).1.1.length ≤ 32 := by
  have hl := qlist_len h n
  unfold QS.prepare
  split
  · simp
  · unfold listOfW at hl
    cases hg : aget n s.ws with
    | none => simp
    | some v => rw [hg] at hl; exact hl
theorem own_addr {A : Option Addr} {n c k off : Nat} (h : A = some ⟨k, off, none⟩) : (Value.slice A n c).ownBlock = some k := by subst h; rfl
set_option maxRecDepth 100000 in
set_option maxHeartbeats 4000000 in
theorem prepare_any {F : Nat → Prop} {w : World} {b : Nat} {s : RM} (h : RAt F w b s) (n : Int) :
    Calls Try.prog 23 #[.pointer (some ⟨b, 0, none⟩), .int .i64 n] w (RPrep F w b (s.prepare n)) := by
  have HF := hid (fit_any h n)
  have H := hid h
  clear h
  rcases s.fit_cases n with ⟨hn, he⟩ | ⟨hn, he, hp⟩ | ⟨hn, he, hp0, hp1⟩
  · have HM := hid (show s.prepare n = (([], 1), s) from by unfold RM.prepare; rw [if_pos (by rw [he]; decide), he])
    rw [he] at HF
    go_enter Try.func23, Try.ntmps23
    go_wp2_with fail
    refine HF.out.mono ?_
    rintro e w1 ⟨rfl, rfl⟩
    go_wp2_with fail
    go_ret2
    rw [HM.out]
    exact ⟨none, 0, rfl, ⟨F, H.out, K.Grew.refl _ _, fun k off e => by cases e⟩, fun i x hx => by simp at hx, Nat.le_refl _, Fr.refl _ _⟩
  · have HM := hid (show s.prepare n = (([], 7), s) from by unfold RM.prepare; rw [if_pos (by rw [he]; decide), he])
    rw [he] at HF
    go_enter Try.func23, Try.ntmps23
    go_wp2_with fail
    refine HF.out.mono ?_
    rintro e w1 ⟨rfl, rfl⟩
    go_wp2_with fail
    go_ret2
    rw [HM.out]
    exact ⟨none, 0, rfl, ⟨F, H.out, K.Grew.refl _ _, fun k off e => by cases e⟩, fun i x hx => by simp at hx, Nat.le_refl _, Fr.refl _ _⟩
  · have HM := hid (show s.prepare n = _ from by unfold RM.prepare; rw [if_neg (by rw [he]; simp)])
    rw [he] at HF
    have hkl := kprep_len H.out.kok n
    have hql := qprep_len H.out.qok n
    have HP0 := hid (fun m => prepd_kprep (m := m) H.out.kok hn hp0)
    have HP1 := hid (fun m => prepd_qprep (m := m) H.out.qok hn hp1)
    have hqok := H.out.qok
    have HQOK := hid (hqok.prepare n)
    have HQBD := hid hqok.bd
    obtain ⟨FK, Pz, hsub, hk, hst⟩ := H.out.kv
    have HC := hid (K.prepare_any hk n)
    have HST := hid hst
    have HSUB := hid hsub
    clear he hp0 hp1 hk hst hqok hsub
    rw [HM.out]
    go_enter Try.func23, Try.ntmps23
    go_wp2_with fail
    refine HF.out.mono ?_
    rintro e w1 ⟨rfl, rfl⟩
    go_wp2_with fail
    refine HC.out.mono ?_
    rintro e w1 ⟨v1, rfl, ⟨FK', hk', hg1, ho1⟩, hr1, hf1⟩
    have hx1 := HST.out w1 FK' _ hk' hg1 hf1
    have hF1 : ∀ i, F i → i < w.heap.size := H.out.fb
    obtain ⟨A1, c1, rfl, hc1, hat1⟩ := hr1.at_
    have hb1 : ∀ k off, A1 = some ⟨k, off, none⟩ → w.heap.size ≤ k ∧ k < w1.heap.size ∧ ¬ (F k ∨ FK' k) := fun k off e => by
      have h1 := ho1 k (own_addr e)
      have h2 := hr1.lt k (own_addr e)
      exact ⟨h1.1, h2, fun q => q.elim (fun q => by have := hF1 k q; omega) h1.2⟩
    obtain ⟨FQ, Z, hsq, hq, hqt⟩ := hx1.qu
    have HCQ := hid (Q.prepare_any hq HQBD.out n)
    have HQT := hid hqt
    have HSQ := hid hsq
    have HX1 := hid hx1
    have HG1 := hid hg1
    have HF1 := hid hf1
    have HAT1 := hid hat1
    have HB1 := hid hb1
    generalize hla : (s.k.prepare n).1.1 = la at *
    clear hr1 hk' hx1 hq hqt hsq hg1 hf1 hat1 ho1 hb1 HC HST hF1
    go_wp2_with fail
    refine HCQ.out.mono ?_
    rintro e w2 ⟨v2, rfl, ⟨FQ', hq', hg2, ho2⟩, hr2, hf2⟩
    have hx2 := HQT.out w2 FQ' _ hq' HQOK.out hg2 hf2
    obtain ⟨A2, c2, rfl, hc2, hat2⟩ := hr2.at_
    have hat1' : ChAt w2 w2.heap.size A1 la := row_fr (ChAt.ofK HAT1.out) hf2 (fun k off e q => (HB1.out k off e).2.2 (HSQ.out k q))
    have hb1' : ∀ k off, A1 = some ⟨k, off, none⟩ → w.heap.size ≤ k ∧ k < w2.heap.size ∧ ¬ ((F k ∨ FK' k) ∨ FQ' k) := fun k off e => by
      have h1 := HB1.out k off e
      refine ⟨h1.1, Nat.lt_of_lt_of_le h1.2.1 hf2.size, fun q => q.elim h1.2.2 (fun q => ?_)⟩
      rcases hg2 k q with r | r
      · exact h1.2.2 (HSQ.out k r)
      · omega
    have hfx1 := HX1.out.fb
    have hb2 : ∀ k off, A2 = some ⟨k, off, none⟩ → w1.heap.size ≤ k ∧ k < w2.heap.size ∧ ¬ ((F k ∨ FK' k) ∨ FQ' k) := fun k off e => by
      have h1 := ho2 k (own_addr e)
      exact ⟨h1.1, hr2.lt (own_addr e), fun q => q.elim (fun q => by have := hfx1 k q; omega) h1.2⟩
    have HC3 := hid (mark0_any hx2 n A1 la la.length c1 rfl)
    have HX2 := hid hx2
    have HG2 := hid hg2
    have HF2 := hid hf2
    have HAT1 := hid hat1'
    have HAT2 := hid hat2
    have HB1 := hid hb1'
    have HB2 := hid hb2
    generalize hlb : (s.q.prepare n).1.1 = lb at *
    clear hr2 hq' hx2 hg2 hf2 hat2 ho2 hb1' hb2 hat1' HCQ HQT hfx1
    go_wp2_with fail
    refine HC3.out.mono ?_
    rintro e w3 ⟨rfl, ⟨F3, hx3, hg3, hs3⟩, hf3⟩
    have hat1' : ChAt w3 w3.heap.size A1 la := row_fr HAT1.out hf3 (fun k off e => (HB1.out k off e).2.2)
    have hat2' : ChAt w3 w3.heap.size A2 lb := row_fr HAT2.out hf3 (fun k off e => (HB2.out k off e).2.2)
    have hb1' : ∀ k off, A1 = some ⟨k, off, none⟩ → w.heap.size ≤ k ∧ k < w3.heap.size ∧ ¬ F3 k := fun k off e => by
      have h1 := HB1.out k off e
      refine ⟨h1.1, Nat.lt_of_lt_of_le h1.2.1 hf3.size, fun q => (hs3 k q).elim h1.2.2 (fun q => by omega)⟩
    have hb2' : ∀ k off, A2 = some ⟨k, off, none⟩ → w.heap.size ≤ k ∧ k < w3.heap.size ∧ ¬ F3 k := fun k off e => by
      have h1 := HB2.out k off e
      refine ⟨Nat.le_trans HF1.out.size h1.1, Nat.lt_of_lt_of_le h1.2.1 hf3.size, fun q => (hs3 k q).elim h1.2.2 (fun q => by omega)⟩
    have HC4 := hid (mark1_any hx3 n A2 lb lb.length c2 rfl)
    have HG3 := hid hg3
    have HF3 := hid hf3
    have HAT1 := hid hat1'
    have HAT2 := hid hat2'
    have HB1 := hid hb1'
    have HB2 := hid hb2'
    clear hx3 hg3 hs3 hf3 hat1' hat2' hb1' hb2' HC3
    go_wp2_with fail
    refine HC4.out.mono ?_
    rintro e w4 ⟨rfl, ⟨F4, hx4, hg4, hs4⟩, hf4⟩
    have hat1' : ChAt w4 w4.heap.size A1 la := row_fr HAT1.out hf4 (fun k off e => (HB1.out k off e).2.2)
    have hat2' : ChAt w4 w4.heap.size A2 lb := row_fr HAT2.out hf4 (fun k off e => (HB2.out k off e).2.2)
    have hb1' : ∀ k off, A1 = some ⟨k, off, none⟩ → w.heap.size ≤ k ∧ ¬ F4 k := fun k off e => by
      have h1 := HB1.out k off e
      exact ⟨h1.1, fun q => (hs4 k q).elim h1.2.2 (fun q => by omega)⟩
    obtain ⟨A5, c5, w5, hrun, hc5, hat5, hb5, hA5⟩ := append_full (c2 := c2) hat1' hat2' rfl rfl (Nat.le_refl _) (by omega) (by omega) 22
    have hsz4 : w.heap.size ≤ w4.heap.size := Nat.le_trans HF1.out.size (Nat.le_trans HF2.out.size (Nat.le_trans HF3.out.size hf4.size))
    have hg01 : ∀ i, (F i ∨ FK' i) → F i ∨ w.heap.size ≤ i := fun i hi => hi.elim .inl (fun q => (HG1.out i q).imp (HSUB.out i) id)
    have hf01 : Fr F w w1 := HF1.out.mono HSUB.out
    have hf02 : Fr F w w2 := hf01.trans HF2.out (fun i hi => hg01 i (HSQ.out i hi))
    have hg02 : ∀ i, ((F i ∨ FK' i) ∨ FQ' i) → F i ∨ w.heap.size ≤ i := fun i hi => hi.elim (hg01 i) (fun q => (HG2.out i q).elim (fun r => hg01 i (HSQ.out i r)) (fun r => .inr (Nat.le_trans hf01.size r)))
    have hf03 : Fr F w w3 := hf02.trans HF3.out hg02
    have hg03 : ∀ i, F3 i → F i ∨ w.heap.size ≤ i := fun i hi => (HG3.out i hi).elim (hg02 i) (fun r => .inr (Nat.le_trans hf02.size r))
    have hf04 : Fr F w w4 := hf03.trans hf4 hg03
    have hg04 : ∀ i, F4 i → F i ∨ w.heap.size ≤ i := fun i hi => (hg4 i hi).elim (hg03 i) (fun r => .inr (Nat.le_trans hf03.size r))
    have hx5 := (hx4.marks (fun m => (HP0.out m).symm) (fun m => (HP1.out m).symm)).below hb5
    have hf05 : Fr F w w5 := hf04.trans (Fr.of_below hb5 (Nat.le_refl _)) (fun _ q => q.elim)
    have hA5' : ∀ k off, A5 = some ⟨k, off, none⟩ → w.heap.size ≤ k ∧ ¬ F4 k := fun k off e => by
      rcases hA5 with r | r
      · exact hb1' k off (r ▸ e)
      · rw [r] at e
        cases e
        exact ⟨hsz4, fun q => by have := hx4.fb _ q; omega⟩
    have HRUN := hid hrun
    have HX5 := hid hx5
    have HF5 := hid hf05
    have HA5 := hid hA5'
    have HG4 := hid hg04
    have HAT5 := hid hat5
    clear hrun hx5 hf05 hA5' hg04 hg03 hf04 hf03 hf02 hg02 hf01 hg01 hat5 hb5 hA5 hx4 hg4 hs4 hf4 hat1' hat2' hb1' HC4 HAT1 HAT2 HB1 HB2 HP0 HP1 hsz4
    go_wp2_with (at_builtin; go_loud (refine Go.Lib.wpList_append_run w4 rfl (.tmp 46) (.tmp 47) 22 22 rfl _ _ rfl rfl _ w5 HRUN.out ?_))
    go_ret2
    refine ⟨A5, c5, by rw [List.length_append]; rfl, ⟨F4, HX5.out, HG4.out, HA5.out⟩, HAT5.out, by rw [List.length_append]; exact hc5, HF5.out⟩
end Go.Proofs.Ytdejbinmnoabeaa
