/- psh, plainly: messages and their bytes. -/
import Derived.Test.YtfndcfffbpbbhaaQPe
import Derived.Test.YtfndcfffbpbbhaaQPf
import Derived.Test.YtfndcfffbpbbhaaQAl
import Derived.Test.YtfndcfffbpbbhaaQx11
namespace Go.Proofs.Ytfndcfffbpbbhaa.Q
open Go.RowKit Go.Proofs.YtfndcfffbpbbhaaW.PrintWords Go.Proofs.YtfndcfffbpbbhaaW.PrintLast Go.Proofs.YtfndcfffbpbbhaaW.PrintMore
set_option linter.unusedVariables false
set_option linter.unusedSimpArgs false

/-- May it be a message? -/
def rightM (a b c d : Int) (m : Bool) (x y : Int) : Bool :=
  if a = 12 then decide (x ≠ 0 ∧ b = 0 ∧ c = 0 ∧ d = 0 ∧ m = false)
  else if a = 13 then decide (b = 0 ∧ c = 0 ∧ d = 0 ∧ m = false ∧ x = 0 ∧ y = 0)
  else decide (1 ≤ a ∧ a < 12 ∧ rightP b d = true ∧ (m = true → a = 9) ∧ x = 0 ∧ y = 0)

theorem psh_right_eq (a b c d : Int) (m : Bool) (x y : Int) : psh_Right.f a b c d m x y = some (rightM a b c d m x y) := by
  unfold psh_Right.f rightM
  simp only [right_eq, Option.bind_some]
  by_cases h12 : a = 12
  · simp only [h12, if_true]
    by_cases hx : x = 0
    · simp [hx]
    · by_cases hb : b = 0 <;> by_cases hc : c = 0 <;> by_cases hd : d = 0 <;> cases m <;> simp [hx, hb, hc, hd]
  · rw [if_neg h12, if_neg h12]
    by_cases h13 : a = 13
    · simp only [h13, if_true]
      by_cases hb : b = 0 <;> by_cases hc : c = 0 <;> by_cases hd : d = 0 <;> cases m <;> by_cases hx : x = 0 <;> by_cases hy : y = 0 <;> simp [hx, hb, hc, hd, hy]
    · rw [if_neg h13, if_neg h13]
      by_cases h1 : a ≥ 1
      · rw [if_pos h1]
        by_cases h2 : a < 12
        · rw [if_pos h2]
          cases hp : rightP b d <;> cases m <;> by_cases h9 : a = 9 <;> by_cases hx : x = 0 <;> by_cases hy : y = 0 <;> simp [h9, hx, hy, h2] <;> omega
        · rw [if_neg h2, decide_eq_false (by omega)]
      · rw [if_neg h1, decide_eq_false (by omega)]

def dataM (a b c d : Int) (m : Bool) (x y : Int) : List Int :=
  if a = 12 then fourOf x ++ fourOf y else if a = 13 then [] else nine b c d ++ [if m = true then 1 else 0]
/-- The bytes of a message. -/
def frameM (a b c d : Int) (m : Bool) (x y : Int) : List Int := [0, 4 + ((dataM a b c d m x y).length : Int), 19, a] ++ dataM a b c d m x y

theorem data_len (a b c d : Int) (m : Bool) (x y : Int) : (dataM a b c d m x y).length = if a = 12 then 8 else if a = 13 then 0 else 10 := by
  unfold dataM
  split
  · rfl
  · split
    · rfl
    · rfl
theorem right_kind {a b c d : Int} {m : Bool} {x y : Int} (h : rightM a b c d m x y = true) : 1 ≤ a ∧ a ≤ 13 := by
  unfold rightM at h
  split at h
  · omega
  · split at h
    · omega
    · rw [decide_eq_true_eq] at h; omega
theorem gds_small {a : Int} {data : List Int} (ha : 0 ≤ a ∧ a < 256) (hl : data.length ≤ 200) : gds_Write.f (4864 + a) data 2048 = some ([0, 4 + (data.length : Int), 19, a] ++ data, 0) := by
  unfold gds_Write.f
  rw [if_neg (by omega), if_neg (by omega), if_neg (by omega)]
  have hc : countOf data.length (2048 : Int).toNat = 1 := by
    rw [show (2048 : Int).toNat = 2048 from rfl]
    unfold countOf
    split
    · rfl
    · rw [Nat.div_eq_iff (by omega)]; omega
  rw [hc]
  obtain ⟨n, hn, hs⟩ := seg_form data ((4864 + a) / 256) ((4864 + a) % 256) (2048 : Int).toNat 1 0
  have h1 : segsOf data [(4864 + a) / 256, (4864 + a) % 256] (2048 : Int).toNat 1 1 = segOf data [(4864 + a) / 256, (4864 + a) % 256] (2048 : Int).toNat 1 0 := by simp [segsOf]
  rw [h1, hs]
  have hp : pieceOf data (2048 : Int).toNat 1 0 = data := by simp [pieceOf]
  rw [hp] at hn ⊢
  simp at hn
  have e1 : n / 256 % 256 = 0 := by omega
  have e2 : n % 256 = 4 + (data.length : Int) := by omega
  have e3 : (4864 + a) / 256 = 19 := by omega
  have e4 : (4864 + a) % 256 = a := by omega
  rw [e1, e2, e3, e4]
  rfl

theorem psh_write_eq {a b c d : Int} {m : Bool} {x y : Int} (hx : U32b x) (hy : U32b y) : psh_Write.f a b c d m x y = some (if rightM a b c d m x y = true then (frameM a b c d m x y, 0) else ([], 30)) := by
  unfold psh_Write.f
  rw [psh_right_eq, Option.bind_some]
  by_cases hr : rightM a b c d m x y = true
  · rw [if_pos hr, if_pos hr]
    have hk := right_kind hr
    have hw : wrap64 (4864 + a) = 4864 + a := w64 (by omega) (by omega)
    have hlen := data_len a b c d m x y
    have hg := gds_small (a := a) (data := dataM a b c d m x y) (by omega) (by rw [hlen]; split <;> (try split) <;> omega)
    by_cases h12 : a = 12
    · have hd : dataM a b c d m x y = fourOf x ++ fourOf y := by unfold dataM; rw [if_pos h12]
      have u : ∀ z, U32b z → oct_Put.f (IntKind.u64.wrap z) 4 = some (fourOf z, 0) := by
        intro z hz
        unfold U32b at hz
        rw [IntKind.wrap_u64, show z % 18446744073709551616 = z by omega]
        unfold oct_Put.f
        rw [if_pos ⟨rfl, hz.1, hz.2⟩]
      rw [if_pos h12, u x hx, u y hy]
      simp only [Option.bind_some]
      rw [if_pos (by simp [fourOf]), ← hd, hw, hg]
      rfl
    · rw [if_neg h12]
      by_cases h13 : a = 13
      · have hd : dataM a b c d m x y = [] := by unfold dataM; rw [if_neg h12, if_pos h13]
        rw [if_pos h13, hw, ← hd, hg]
        rfl
      · have hr' := hr
        unfold rightM at hr'
        rw [if_neg h12, if_neg h13, decide_eq_true_eq] at hr'
        have hd : dataM a b c d m x y = nine b c d ++ [if m = true then 1 else 0] := by unfold dataM; rw [if_neg h12, if_neg h13]
        rw [if_neg h13, write_eq, if_pos hr'.2.2.1]
        simp only [Option.bind_some]
        cases m with
        | true => rw [if_pos rfl, if_pos (by simp [nine]), hw, show nine b c d ++ [1] = dataM a b c d true x y by rw [hd]; rfl, hg]; rfl
        | false => rw [if_neg (by decide), if_pos (by simp [nine]), hw, show nine b c d ++ [0] = dataM a b c d false x y by rw [hd]; rfl, hg]; rfl
  · rw [if_neg hr, if_neg hr]
end Go.Proofs.Ytfndcfffbpbbhaa.Q

namespace Go.Proofs.Ytfndcfffbpbbhaa.Q
open Go.RowKit Go.Proofs.YtfndcfffbpbbhaaW.PrintWords Go.Proofs.YtfndcfffbpbbhaaW.PrintLast Go.Proofs.YtfndcfffbpbbhaaW.PrintMore
set_option linter.unusedVariables false
set_option linter.unusedSimpArgs false

theorem alive6 : trothlaw06_alive.f = some true := by
  unfold trothlaw06_alive.f
  rw [fixed_write, fixed_none, fixed_read, fixed_name]
  simp only [Option.bind_some, if_true]
  rw [if_pos (by rw [ByteArray.toList_eq]; rfl), ByteArray.toList_eq]
  rfl

theorem four_bytes {x : Int} (h : U32b x) : Bytes (fourOf x) := by
  unfold U32b at h
  intro z hz
  simp only [fourOf, List.mem_cons, List.mem_nil_iff, or_false] at hz
  rcases hz with rfl | rfl | rfl | rfl <;> omega
theorem nine_bytes (u l q : Int) : Bytes (nine u l q) := by
  intro z hz
  simp only [nine, List.mem_cons, List.mem_nil_iff, or_false] at hz
  rcases hz with rfl | rfl | rfl | rfl | rfl | rfl | rfl | rfl | rfl <;> omega
theorem data_bytes {a b c d : Int} {m : Bool} {x y : Int} (hx : U32b x) (hy : U32b y) : Bytes (dataM a b c d m x y) := by
  unfold dataM
  split
  · exact (four_bytes hx).app (four_bytes hy)
  · split
    · exact bytes_nil
    · refine (nine_bytes b c d).app (fun z hz => ?_)
      rw [List.mem_singleton] at hz
      subst hz
      split <;> omega
theorem frame_bytes {a b c d : Int} {m : Bool} {x y : Int} (hx : U32b x) (hy : U32b y) (hr : rightM a b c d m x y = true) : Bytes (frameM a b c d m x y) := by
  have hk := right_kind hr
  have hl := data_len a b c d m x y
  refine Bytes.app (fun z hz => ?_) (data_bytes hx hy)
  simp only [List.mem_cons, List.mem_nil_iff, or_false] at hz
  have : (dataM a b c d m x y).length ≤ 10 := by rw [hl]; split <;> (try split) <;> omega
  rcases hz with rfl | rfl | rfl | rfl <;> omega

theorem nums_inj : ∀ {l l' : List Int}, Bytes l → Bytes l' → (strOfNums l).data.toList = (strOfNums l').data.toList → l = l'
  | [], [], _, _, _ => rfl
  | [], b :: l', _, _, e => by simp [strOfNums] at e
  | a :: l, [], _, _, e => by simp [strOfNums] at e
  | a :: l, b :: l', h, h', e => by
    simp only [strOfNums, List.map_cons, List.cons.injEq] at e
    have ih := nums_inj (l := l) (l' := l') (fun z hz => h z (List.mem_cons_of_mem _ hz)) (fun z hz => h' z (List.mem_cons_of_mem _ hz)) (by simp only [strOfNums]; exact e.2)
    have e1 := congrArg UInt8.toNat e.1
    have ha := h a (List.mem_cons_self ..)
    have hb := h' b (List.mem_cons_self ..)
    rw [UInt8.toNat_ofNat', UInt8.toNat_ofNat'] at e1
    have : a = b := by omega
    rw [this, ih]
theorem str_inj {l l' : List Int} (h : Bytes l) (h' : Bytes l') : (strOfNums l).toList = (strOfNums l').toList ↔ l = l' := by
  constructor
  · intro e
    rw [ByteArray.toList_eq, ByteArray.toList_eq] at e
    exact nums_inj h h' e
  · rintro rfl; rfl

theorem four_inj {x y : Int} (hx : U32b x) (hy : U32b y) (h : fourOf x = fourOf y) : x = y := by
  unfold U32b at hx hy
  simp only [fourOf, List.cons.injEq, and_true] at h
  omega
theorem nine_inj {u l q u' l' q' : Int} (hr : rightP u q = true) (hr' : rightP u' q' = true) (h1 : U32b l) (h2 : U32b q) (h1' : U32b l') (h2' : U32b q') (h : nine u l q = nine u' l' q') : u = u' ∧ l = l' ∧ q = q' := by
  have a := read_nine u l q hr h1 h2
  rw [h, read_nine u' l' q' hr' h1' h2'] at a
  simp only [Option.some.injEq, Prod.mk.injEq] at a
  exact ⟨a.1.symm, a.2.1.symm, a.2.2.1.symm⟩

theorem frame_inj {a b c d : Int} {m : Bool} {x y a' b' c' d' : Int} {m' : Bool} {x' y' : Int} (hr : rightM a b c d m x y = true) (hr' : rightM a' b' c' d' m' x' y' = true)
    (hc : U32b c) (hd : U32b d) (hx : U32b x) (hy : U32b y) (hc' : U32b c') (hd' : U32b d') (hx' : U32b x') (hy' : U32b y') (h : frameM a b c d m x y = frameM a' b' c' d' m' x' y') :
    a = a' ∧ b = b' ∧ c = c' ∧ d = d' ∧ m = m' ∧ x = x' ∧ y = y' := by
  simp only [frameM, List.cons_append, List.nil_append, List.cons.injEq] at h
  obtain ⟨_, _, _, ha, hdat⟩ := h
  subst ha
  unfold rightM at hr hr'
  unfold dataM at hdat
  by_cases h12 : a = 12
  · rw [if_pos h12, decide_eq_true_eq] at hr hr'
    rw [if_pos h12, if_pos h12] at hdat
    have hq := List.append_inj hdat rfl
    obtain ⟨_, r1, r2, r3, r4⟩ := hr
    obtain ⟨_, s1, s2, s3, s4⟩ := hr'
    exact ⟨rfl, by omega, by omega, by omega, by rw [r4, s4], four_inj hx hx' hq.1, four_inj hy hy' hq.2⟩
  · rw [if_neg h12] at hr hr'
    rw [if_neg h12, if_neg h12] at hdat
    by_cases h13 : a = 13
    · rw [if_pos h13, decide_eq_true_eq] at hr hr'
      obtain ⟨r1, r2, r3, r4, r5, r6⟩ := hr
      obtain ⟨s1, s2, s3, s4, s5, s6⟩ := hr'
      exact ⟨rfl, by omega, by omega, by omega, by rw [r4, s4], by omega, by omega⟩
    · rw [if_neg h13, decide_eq_true_eq] at hr hr'
      rw [if_neg h13, if_neg h13] at hdat
      have hq := List.append_inj hdat rfl
      obtain ⟨_, _, r1, _, r5, r6⟩ := hr
      obtain ⟨_, _, s1, _, s5, s6⟩ := hr'
      obtain ⟨e1, e2, e3⟩ := nine_inj r1 s1 hc hd hc' hd' hq.1
      refine ⟨rfl, e1, e2, e3, ?_, by omega, by omega⟩
      have := hq.2
      cases m <;> cases m' <;> simp at this <;> rfl
end Go.Proofs.Ytfndcfffbpbbhaa.Q
