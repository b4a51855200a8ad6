/- Plain laws of luw.Parse: what it reads is just what luw.Print writes. -/
import Derived.Test.YtlbajagnfmbljaaQText
namespace Go.Proofs.Ytlbajagnfmbljaa.Q
open Go.RowKit Go.Proofs.YtlbajagnfmbljaaW.PrintWords Go.Proofs.YtlbajagnfmbljaaW.PrintLast Go.Proofs.YtlbajagnfmbljaaW.PrintMore
set_option linter.unusedVariables false
set_option linter.unusedSimpArgs false

def textB (u l q : Int) : List UInt8 := UInt8.ofNat (97 + u).toNat :: (bd l.toNat ++ 46 :: bd q.toNat)

theorem text_list (u l q : Int) : (strOfNums (textP u l q)).data.toList = textB u l q := by
  simp only [strOfNums_data, textP, textB, bd, Lib.bytesOf, List.map_append, List.map_cons, List.map_nil, List.append_assoc, List.cons_append, List.nil_append]
  rfl

def U32 (n : Int) : Prop := 0 ≤ n ∧ n < 4294967296

/-- A text and a name that fit. -/
def Fits (s : ByteArray) (u l q : Int) : Prop := rightP u q = true ∧ U32 l ∧ U32 q ∧ s.data.toList = textB u l q

theorem bt_first {s : ByteArray} {x : UInt8} {xs : List UInt8} (h : s.data.toList = x :: xs) : bt s 0 = (x.toNat : Int) := by
  have hl := toList_len s
  rw [h, List.length_cons] at hl
  unfold bt
  rw [dif_pos (by show (0 : Int).toNat < s.size; simp; omega)]
  have : s[(0 : Int).toNat]'(by show (0 : Int).toNat < s.size; simp; omega) = x := by
    show s.data[0]'_ = x
    rw [← Array.getElem_toList]
    simp only [h, List.getElem_cons_zero]
  rw [this]

theorem parse_reads (s : ByteArray) (hs : s.size ≤ 9223372036854775807) :
    luw_Parse.f s = some (0, 0, 0, 50) ∨ ∃ u l q, Fits s u l q ∧ luw_Parse.f s = some (u, l, q, 0) := by
  have hl := toList_len s
  unfold luw_Parse.f
  rw [ByteArray.toList_eq]
  cases h : s.data.toList with
  | nil => rw [if_pos rfl]; exact Or.inl rfl
  | cons x xs =>
    have hb := bt_first h
    rw [h, List.length_cons] at hl
    rw [if_neg (by simp), if_pos (by omega), hb]
    have hx : x.toNat < 256 := UInt8.toNat_lt _
    have ew : wrap64 (wrap64 (x.toNat : Int) - 97) = (x.toNat : Int) - 97 := by unfold wrap64; omega
    rw [ew]
    have e1 := extract_list s 1
    have s1 : (s.extract 1 s.size).size ≤ 9223372036854775807 := by
      rw [← toList_len, e1, List.length_drop, toList_len]; omega
    rcases number_reads (s.extract 1 s.size) 46 s1 with hf | ⟨n, hn, hg⟩
    · rw [hf, Option.bind_some]
      rcases number_reads (⟨#[]⟩ : ByteArray) 0 (by decide) with hf2 | ⟨m, hm, hg2⟩
      · rw [hf2, Option.bind_some, if_pos (by omega), if_neg (by simp)]
        exact Or.inl rfl
      · rcases hg2 with ⟨_, _, h2⟩ | ⟨_, _, _, _, _, h2⟩
        · rw [h2, Option.bind_some, if_pos (by omega), if_neg (by simp)]
          exact Or.inl rfl
        · rw [h2, Option.bind_some, if_pos (by omega), if_neg (by simp)]
          exact Or.inl rfl
    · rcases hg with ⟨h0, _⟩ | ⟨_, y, rest, hy, hlist, h1⟩
      · exact absurd h0 (by decide)
      · rw [h1, Option.bind_some]
        have s2 : rest.size ≤ 9223372036854775807 := by
          have := congrArg List.length hlist
          rw [e1, List.length_drop, toList_len, List.length_append, List.length_cons, toList_len] at this
          omega
        simp only
        rcases number_reads rest 0 s2 with hf2 | ⟨m, hm, hg2⟩
        · rw [hf2, Option.bind_some, if_pos (by omega), if_pos trivial, if_neg (by simp)]
          exact Or.inl rfl
        · rcases hg2 with ⟨_, hrest, h2⟩ | ⟨hne, _⟩
          · rw [h2, Option.bind_some, if_pos (by omega), if_pos trivial, if_pos rfl, right_eq, Option.bind_some]
            by_cases hr : rightP ((x.toNat : Int) - 97) (m : Int) = true
            · rw [if_pos hr]
              right
              refine ⟨_, _, _, ⟨hr, ⟨by omega, by omega⟩, ⟨by omega, by omega⟩, ?_⟩, rfl⟩
              rw [h] at e1 ⊢
              unfold textB
              have ex : UInt8.ofNat (97 + ((x.toNat : Int) - 97)).toNat = x := by
                rw [show (97 + ((x.toNat : Int) - 97)).toNat = x.toNat by omega]
                simp
              have ey : y = 46 := by
                apply UInt8.toNat_inj.1
                have : (46 : UInt8).toNat = 46 := rfl
                omega
              rw [ex, Int.toNat_natCast, Int.toNat_natCast, ← hrest, ← ey, ← hlist, e1]
              rfl
            · rw [if_neg hr]; exact Or.inl rfl
          · exact absurd rfl hne

theorem parse_back (s : ByteArray) (u l q : Int) (h : Fits s u l q) : luw_Parse.f s = some (u, l, q, 0) := by
  obtain ⟨hr, hu1, hu2, ht⟩ := h
  unfold U32 at hu1 hu2
  have hr' := hr
  simp only [rightP, decide_eq_true_eq] at hr'
  have hl := toList_len s
  have k1 : l.toNat < 4294967296 := by omega
  have k2 : q.toNat < 4294967296 := by omega
  have l1 := (bd_u32 l.toNat k1).2.2.2.1
  have l2 := (bd_u32 q.toNat k2).2.2.2.1
  have htl := ht
  unfold textB at htl
  rw [htl, List.length_cons, List.length_append, List.length_cons] at hl
  have hb := bt_first htl
  have ex : (UInt8.ofNat (97 + u).toNat).toNat = (97 + u).toNat := by rw [UInt8.toNat_ofNat', Nat.mod_eq_of_lt (by omega)]
  rw [ex] at hb
  have e1 := extract_list s 1
  rw [htl] at e1
  have s1 : (s.extract 1 s.size).size ≤ 9223372036854775807 := by
    rw [← toList_len, e1, List.length_drop, List.length_cons, List.length_append, List.length_cons]; omega
  obtain ⟨r, h1, hrest⟩ := number_upto (s.extract 1 s.size) l.toNat 46 (bd q.toNat) k1 s1 (by decide) (by decide) e1
  have h2 := number_end r q.toNat k2 hrest
  rw [show (((46 : UInt8).toNat : Nat) : Int) = 46 from rfl] at h1
  unfold luw_Parse.f
  rw [ByteArray.toList_eq, htl, if_neg (by simp), if_pos (by omega), h1, Option.bind_some]
  simp only
  rw [h2, Option.bind_some, if_pos (by omega), if_pos trivial, if_pos rfl, hb]
  have ew : wrap64 (wrap64 (((97 + u).toNat : Nat) : Int) - 97) = u := by
    rw [Int.toNat_of_nonneg (by omega)]
    clear hl hb ex e1 s1 h1 h2 htl ht
    unfold wrap64
    omega
  simp only
  rw [ew, Int.toNat_of_nonneg hu1.1, Int.toNat_of_nonneg hu2.1, right_eq, Option.bind_some, if_pos hr]

theorem fits_print (u l q : Int) (hr : rightP u q = true) (h1 : U32 l) (h2 : U32 q) : Fits (strOfNums (textP u l q)) u l q := ⟨hr, h1, h2, text_list u l q⟩

end Go.Proofs.Ytlbajagnfmbljaa.Q
