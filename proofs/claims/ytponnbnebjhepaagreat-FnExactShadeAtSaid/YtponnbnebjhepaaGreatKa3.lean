/- Part 3 of the proof: the abstract evaluator and what the functions of the program compute (condition: none). -/
import Derived.Test.YtponnbnebjhepaaGreatKa2
/- Widened numbers, and numbers made whole. -/
namespace Go.Ev
open Go Ieee

theorem number_place {f : Format} {w : Nat} {s : Bool} {m : Nat} {e : Int} (h : f.read w = .number s m e) : f.leastPlace ≤ e ∧ m < 2 * f.binade := by
  have hb : 0 < f.binade := Nat.two_pow_pos _
  unfold Format.read at h
  simp only at h
  split at h
  · rename_i h1; cases h; exact ⟨Int.le_refl _, by omega⟩
  · split at h
    · cases h; exact ⟨by omega, by have := Nat.mod_lt (w % f.signWeight) hb; omega⟩
    · split at h <;> cases h

theorem log2_le_of_lt {n k : Nat} (h : n < 2 ^ (k + 1)) : n.log2 ≤ k := by
  by_cases h0 : n = 0
  · subst h0; simp [Nat.log2_zero]
  · have := (Nat.log2_lt h0).2 h; omega

theorem zero_read (f : Format) (s : Bool) (p : Int) : f.read (f.nearest s 0 p) = .number s 0 f.leastPlace := by
  have hsw : 0 < f.signWeight := Nat.two_pow_pos _
  have e : f.nearest s 0 p = f.word s 0 := by unfold Format.nearest; rw [if_pos rfl]
  rw [e]
  unfold Format.read
  have hsign : (f.word s 0 / f.signWeight % 2 == 1) = s := by rw [(read_word f s 0 hsw).1]; cases s <;> rfl
  simp only [(read_word f s 0 hsw).2, hsign]
  rw [if_pos (show 0 < f.binade from Nat.two_pow_pos _)]

/-- A number widened: it stands for the same. -/
theorem widen_number {x : Nat} {s : Bool} {m : Nat} {e : Int} (h : FloatKind.f32.decode x = .number s m e) :
    ∃ m' e' b, FloatKind.f64.decode (f2f .f32 x .f64) = .number s m' e' ∧ b ≤ e' ∧ b ≤ e ∧ -1074 ≤ b ∧ m' * 2 ^ (e' - b).toNat = m * 2 ^ (e - b).toNat := by
  have e1 : Ieee.single.leastPlace = -149 := by decide
  have e2 : Ieee.single.binade = 2 ^ 23 := rfl
  have e3 : (2 : Int) ^ (Ieee.double.exponentBits - 1) = 1024 := by decide
  have e4 : (2 : Int) ^ Ieee.double.exponentBits = 2048 := by decide
  have e5 : Ieee.double.leastPlace = -1074 := by decide
  have hp := number_place (f := Ieee.single) h
  obtain ⟨h1, h2⟩ := number_of_read Ieee.single x s m e h (by decide)
  rw [e1] at hp h2
  have hlog : m.log2 ≤ 23 := h1
  have hf : f2f .f32 x .f64 = canon .f64 (FloatKind.f64.encode (.number s m e)) := by
    rw [f2f_eq]; unfold f2fR; rw [if_neg (by decide), h]
  by_cases hm : m = 0
  · subst hm
    have hz : FloatKind.f64.decode (FloatKind.f64.encode (.number s 0 e)) = .number s 0 (-1074) := by rw [← e5]; exact zero_read Ieee.double s e
    refine ⟨0, -1074, -1074, ?_, Int.le_refl _, by omega, Int.le_refl _, by simp⟩
    rw [hf, canon_of_not (by rw [hz]; rfl), hz]
  · obtain ⟨m', e', b, h3, h4, h5, h6, h7⟩ := nearest_exact Ieee.double s m e hm (by show m.log2 ≤ 52; omega) (by rw [e5]; omega) (by rw [e3, e4]; omega) (by decide)
    have h3' : FloatKind.f64.decode (FloatKind.f64.encode (.number s m e)) = .number s m' e' := h3
    refine ⟨m', e', b, ?_, h4, h5, by omega, h7⟩
    rw [hf, canon_of_not (by rw [h3']; rfl), h3']

theorem widen_inf {x : Nat} {s : Bool} (h : FloatKind.f32.decode x = .infinity s) : FloatKind.f64.decode (f2f .f32 x .f64) = .infinity s := by
  rw [f2f_eq]; unfold f2fR; rw [if_neg (by decide), h]; cases s <;> decide +kernel
theorem widen_nan {x : Nat} (h : (FloatKind.f32.decode x).isNaN = true) : (FloatKind.f64.decode (f2f .f32 x .f64)).isNaN = true := by
  obtain ⟨s, t, hd⟩ := isNaN_iff.1 h
  rw [f2f_eq]; unfold f2fR; rw [if_neg (by decide), hd]; exact decode_nanB .f64

theorem cut_zero (neg : Bool) (n drop : Nat) : Toward.zero.cut neg n drop = n / 2 ^ drop := by
  unfold Toward.cut
  simp only [Nat.one_shiftLeft, Bool.toNat_false, Nat.add_zero]
  by_cases h : drop ≤ n.log2 + 2
  · rw [Nat.min_eq_left h]
  · rw [Nat.min_eq_right (by omega)]
    have h1 := lt_pow_log2 n
    have h2 : 2 ^ (n.log2 + 1) ≤ 2 ^ (n.log2 + 2) := Nat.pow_le_pow_right (by omega) (by omega)
    have h3 : 2 ^ (n.log2 + 1) ≤ 2 ^ drop := Nat.pow_le_pow_right (by omega) (by omega)
    rw [Nat.div_eq_of_lt (by omega), Nat.div_eq_of_lt (by omega)]

/-- The whole part of a number below 2 to the 52nd. -/
def whole (m : Nat) (e : Int) : Nat := m * 2 ^ e.toNat / 2 ^ (-e).toNat

/-- 'm * 2 ^ e' is below 2 to the 52nd. -/
def Sm (m : Nat) (e : Int) : Prop := m * 2 ^ e.toNat < 2 ^ 52 * 2 ^ (-e).toNat

theorem whole_lt {m : Nat} {e : Int} (h : Sm m e) : whole m e < 2 ^ 52 := by
  unfold whole
  rw [Nat.div_lt_iff_lt_mul (Nat.two_pow_pos _)]
  exact h

theorem integral_zero (s : Bool) (m : Nat) (e : Int) : (Datum.number s m e).integral .zero = .number s (whole m e) 0 := by
  show Datum.number s (Toward.zero.cut s (m <<< e.toNat) (-e).toNat) 0 = _
  rw [cut_zero, Nat.shiftLeft_eq]
  rfl

theorem signed_zero_up (s : Bool) (c : Nat) : signed s c 0 = if s then -(c : Int) else (c : Int) := by
  unfold signed; simp

theorem f2i_small {y : Nat} {s : Bool} {m : Nat} {e : Int} (h : FloatKind.f64.decode y = .number s m e) (hs : Sm m e) :
    f2iOk .f64 y .i64 = true ∧ f2i .f64 y .i64 = signed s (whole m e) 0 := by
  have hw := whole_lt hs
  have key : floatToIntVal .f64 y .i64 = some (signed s (whole m e) 0) := by
    unfold floatToIntVal
    have : (FloatKind.f64.decode y).toInt .zero = some (signed s (whole m e) 0) := by
      rw [h]; unfold Datum.toInt; rw [integral_zero]
    rw [this]
    simp only
    have e1 : IntKind.i64.min = -9223372036854775808 := by decide
    have e2 : IntKind.i64.max = 9223372036854775807 := by decide
    rw [signed_zero_up, e1, e2]
    split
    · rw [if_pos (by constructor <;> omega)]
    · rw [if_pos (by constructor <;> omega)]
  rw [f2iOk_eq, f2i_eq]
  unfold f2iOkR f2iR
  rw [key]
  exact ⟨rfl, rfl⟩

/-- The whole part as a float, by either road. -/
theorem fint_zero_eq {y : Nat} {s : Bool} {m : Nat} {e : Int} (h : FloatKind.f64.decode y = .number s m e) : fint .zero y = canon .f64 (FloatKind.f64.encode (.number s (whole m e) 0)) := by
  rw [fint_eq]; unfold fintR; rw [h]; simp only; rw [integral_zero]

theorem i2f_signed (s : Bool) {c : Nat} (hc : c ≠ 0) : i2f .f64 (signed s c 0) = canon .f64 (FloatKind.f64.encode (.number s c 0)) := by
  rw [i2f_eq]; unfold i2fR FloatKind.nearest
  rw [signed_zero_up]
  have e1 : decide ((if s then -(c : Int) else (c : Int)) < 0) = s := by
    cases s
    · simp
    · simp; omega
  have e2 : (if s then -(c : Int) else (c : Int)).natAbs = c := by cases s <;> simp
  rw [e1, e2]

theorem i2f_zero : i2f .f64 0 = 0 := by rw [i2f_eq]; decide +kernel

/-- A whole number below 2 to the 53rd as a float stands for itself. -/
theorem whole_float (s : Bool) {c : Nat} (hc : c ≠ 0) (hlt : c < 2 ^ 52) :
    ∃ m' e' b, FloatKind.f64.decode (canon .f64 (FloatKind.f64.encode (.number s c 0))) = .number s m' e' ∧ b ≤ e' ∧ b ≤ 0 ∧ m' * 2 ^ (e' - b).toNat = c * 2 ^ (0 - b).toNat := by
  have e3 : (2 : Int) ^ (Ieee.double.exponentBits - 1) = 1024 := by decide
  have e4 : (2 : Int) ^ Ieee.double.exponentBits = 2048 := by decide
  have e5 : Ieee.double.leastPlace = -1074 := by decide
  have hlog : c.log2 ≤ 52 := log2_le_of_lt (by rw [Nat.pow_succ]; omega)
  obtain ⟨m', e', b, h3, h4, h5, h6, h7⟩ := nearest_exact Ieee.double s c 0 hc hlog (by rw [e5]; decide) (by rw [e3, e4]; omega) (by decide)
  have h3' : FloatKind.f64.decode (FloatKind.f64.encode (.number s c 0)) = .number s m' e' := h3
  exact ⟨m', e', b, by rw [canon_of_not (by rw [h3']; rfl), h3'], h4, h5, h7⟩

theorem order_eq_zero {x : Nat} {s : Bool} {m : Nat} {e : Int} (h : FloatKind.f64.decode x = .number s m e) : fcmp .neq .f64 x 0 = !decide (m = 0) := by
  rw [fcmp_eq]
  have h0 : FloatKind.f64.decode 0 = .number false 0 (-1074) := by decide +kernel
  have : fordR .f64 x 0 = some (compare (signed s m (e - min e (-1074)).toNat) (signed false 0 (-1074 - min e (-1074)).toNat)) := by
    unfold fordR Format.order
    show (FloatKind.f64.decode x).order (FloatKind.f64.decode 0) = _
    rw [h, h0]; rfl
  simp only [fcmpR, this]
  have hz : signed false 0 (-1074 - min e (-1074)).toNat = 0 := by unfold signed; simp
  rw [hz]
  have ha := natAbs_signed s m (e - min e (-1074)).toNat
  have hp := Nat.two_pow_pos (e - min e (-1074)).toNat
  generalize signed s m (e - min e (-1074)).toNat = v at ha
  by_cases hm : m = 0
  · subst hm
    have : v = 0 := by simpa using ha
    subst this
    rfl
  · have hv : v ≠ 0 := by
      intro hv
      subst hv
      have : 0 < m * 2 ^ (e - min e (-1074)).toNat := Nat.mul_pos (by omega) hp
      simp at ha
      omega
    have hc : compare v 0 ≠ .eq := by
      intro hc
      exact hv (Int.compare_eq_eq.1 hc)
    rw [decide_eq_false hm]
    simp only [bne_iff_ne, ne_eq, Option.some.injEq, Bool.not_false]
    simpa using hc

/-- What is taken away is +0: nothing turns. -/
theorem sub_zero {y : Nat} {s : Bool} {m : Nat} {e : Int} (h : FloatKind.f64.decode y = .number s m e) (hy : y < 2 ^ 64) : fop .sub .f64 y 0 = y := by
  have h0 : (FloatKind.f64.decode 0).opposite = .number true 0 (-1074) := by decide +kernel
  have hp := number_place (f := Ieee.double) h
  have e5 : Ieee.double.leastPlace = -1074 := by decide
  rw [e5] at hp
  rw [fop_sub_eq, h, h0]
  have hmin : min e (-1074) = -1074 := by omega
  have hsum : (Datum.number s m e).sum (.number true 0 (-1074)) = some (.number (if signed s m (e + 1074).toNat = 0 then s else decide (signed s m (e + 1074).toNat < 0)) (m * 2 ^ (e + 1074).toNat) (-1074)) := by
    unfold Datum.sum
    simp only [hmin]
    have hz : signed true 0 ((-1074 : Int) - -1074).toNat = 0 := by unfold signed; simp
    rw [hz, Int.add_zero, natAbs_signed, show (e - -1074) = e + 1074 by omega, Bool.and_true]
  rw [hsum]
  simp only
  have hw : FloatKind.f64.encode (FloatKind.f64.decode y) = y := write_read Ieee.double (by decide) y (by show y < 2 * 2 ^ 63; omega) (by show (FloatKind.f64.decode y).isNaN = false; rw [h]; rfl)
  have hy0 : canon .f64 y = y := canon_of_not (by rw [h]; rfl)
  have hsg : (if signed s m (e + 1074).toNat = 0 then s else decide (signed s m (e + 1074).toNat < 0)) = s := by
    split
    · rfl
    · rename_i hne
      unfold signed at hne ⊢
      rw [Nat.shiftLeft_eq] at hne ⊢
      cases s
      · simp at hne ⊢
        have : (0 : Int) ≤ (m : Int) * 2 ^ (e + 1074).toNat := Int.mul_nonneg (by omega) (Int.le_of_lt (Int.pow_pos (by omega)))
        omega
      · simp only [if_true] at hne ⊢
        simp only [decide_eq_true_eq]
        omega
  rw [hsg]
  have hn := nearest_scale Ieee.double s m (e + 1074).toNat e
  rw [show e - ((e + 1074).toNat : Int) = -1074 by omega] at hn
  show canon .f64 (Ieee.double.nearest s (m * 2 ^ (e + 1074).toNat) (-1074)) = y
  rw [hn]
  have : Ieee.double.nearest s m e = y := by rw [h] at hw; exact hw
  rw [this, hy0]

/-- What is left of a number without its whole part is at most 1. -/
theorem frac_Bd {y : Nat} {s : Bool} {m : Nat} {e : Int} (h : FloatKind.f64.decode y = .number s m e) (hy : y < 2 ^ 64) (hs : Sm m e) : Bd (fop .sub .f64 y (i2f .f64 (signed s (whole m e) 0))) 0 := by
  by_cases hc : whole m e = 0
  · rw [hc, signed_zero_up]
    have : (if s = true then -((0 : Nat) : Int) else ((0 : Nat) : Int)) = 0 := by cases s <;> rfl
    rw [this, i2f_zero, sub_zero h hy]
    refine ⟨s, m, e, h, ?_⟩
    unfold whole at hc
    have hlt : m * 2 ^ e.toNat < 2 ^ (-e).toNat := by
      rcases Nat.div_eq_zero_iff.1 hc with h | h
      · have := Nat.two_pow_pos (-e).toNat; omega
      · exact h
    by_cases he : e ≤ 0
    · rw [show e.toNat = 0 by omega, Nat.pow_zero, Nat.mul_one] at hlt
      exact .inr ⟨he, by rw [show (0 - e).toNat = (-e).toNat by omega]; omega⟩
    · rw [show (-e).toNat = 0 by omega, Nat.pow_zero] at hlt
      left
      rcases Nat.eq_zero_or_pos m with h | h
      · exact h
      · have := Nat.mul_pos h (Nat.two_pow_pos e.toNat); omega
  · obtain ⟨m', e', b, h1, h2, h3, h4⟩ := whole_float s hc (whole_lt hs)
    rw [i2f_signed s hc, fop_sub_eq, h, h1]
    show Bd (canon .f64 (FloatKind.f64.encode (.number (if signed s m (e - min e e').toNat + signed (!s) m' (e' - min e e').toNat = 0 then s && !s else decide (signed s m (e - min e e').toNat + signed (!s) m' (e' - min e e').toNat < 0)) (signed s m (e - min e e').toNat + signed (!s) m' (e' - min e e').toNat).natAbs (min e e')))) 0
    refine encode_Bd ?_ (by omega) (by omega)
    generalize hbase : min e e' = base
    generalize hB : min base (min b 0) = B
    have hnat : (signed s m (e - base).toNat + signed (!s) m' (e' - base).toNat).natAbs = ((m * 2 ^ (e - base).toNat : Nat) - (m' * 2 ^ (e' - base).toNat : Nat) : Int).natAbs := by
      unfold signed
      rw [Nat.shiftLeft_eq, Nat.shiftLeft_eq]
      cases s
      · simp only [Bool.not_false, if_true, Bool.false_eq_true, if_false]; omega
      · simp only [Bool.not_true, if_true, Bool.false_eq_true, if_false]; omega
    rw [hnat]
    refine LeP.of_scaled (b := B) (by omega) ?_ (by omega)
    -- all of it in units of 2 ^ B
    have p1 : m * 2 ^ (e - base).toNat * 2 ^ (base - B).toNat = m * 2 ^ (e - B).toNat := by rw [Nat.mul_assoc, ← Nat.pow_add]; congr 2; omega
    have p2 : m' * 2 ^ (e' - base).toNat * 2 ^ (base - B).toNat = m' * 2 ^ (e' - B).toNat := by rw [Nat.mul_assoc, ← Nat.pow_add]; congr 2; omega
    have p3 : m' * 2 ^ (e' - B).toNat = whole m e * 2 ^ (0 - B).toNat := by
      have : m' * 2 ^ (e' - b).toNat * 2 ^ (b - B).toNat = whole m e * 2 ^ (0 - b).toNat * 2 ^ (b - B).toNat := by rw [h4]
      rw [Nat.mul_assoc, Nat.mul_assoc, ← Nat.pow_add, ← Nat.pow_add] at this
      rw [show (e' - B).toNat = (e' - b).toNat + (b - B).toNat by omega, show (0 - B).toNat = (0 - b).toNat + (b - B).toNat by omega]
      exact this
    have hq : whole m e * 2 ^ (0 - B).toNat ≤ m * 2 ^ (e - B).toNat ∧ m * 2 ^ (e - B).toNat ≤ whole m e * 2 ^ (0 - B).toNat + 2 ^ (0 - B).toNat := by
      have hd := Nat.div_add_mod (m * 2 ^ e.toNat) (2 ^ (-e).toNat)
      have hr := Nat.mod_lt (m * 2 ^ e.toNat) (Nat.two_pow_pos (-e).toNat)
      have hw : whole m e = m * 2 ^ e.toNat / 2 ^ (-e).toNat := rfl
      rw [← hw] at hd
      by_cases he : e ≤ 0
      · rw [show e.toNat = 0 by omega, Nat.pow_zero, Nat.mul_one] at hd hr
        have q1 : whole m e * 2 ^ (0 - B).toNat = 2 ^ (-e).toNat * whole m e * 2 ^ (e - B).toNat := by
          rw [Nat.mul_comm (2 ^ (-e).toNat), Nat.mul_assoc, ← Nat.pow_add]; congr 2; omega
        have q2 : 2 ^ (0 - B).toNat = 2 ^ (-e).toNat * 2 ^ (e - B).toNat := by rw [← Nat.pow_add]; congr 1; omega
        rw [q1, q2, ← Nat.add_mul]
        exact ⟨Nat.mul_le_mul_right _ (by omega), Nat.mul_le_mul_right _ (by omega)⟩
      · rw [show (-e).toNat = 0 by omega, Nat.pow_zero, Nat.one_mul, Nat.mod_one] at hd
        have q1 : m * 2 ^ (e - B).toNat = whole m e * 2 ^ (0 - B).toNat := by
          rw [show (e - B).toNat = e.toNat + (0 - B).toNat by omega, Nat.pow_add, ← Nat.mul_assoc]
          congr 1
          omega
        rw [q1]
        exact ⟨Nat.le_refl _, Nat.le_add_right _ _⟩
    have hfin : ((m * 2 ^ (e - base).toNat : Nat) - (m' * 2 ^ (e' - base).toNat : Nat) : Int).natAbs * 2 ^ (base - B).toNat = ((m * 2 ^ (e - B).toNat : Nat) - (m' * 2 ^ (e' - B).toNat : Nat) : Int).natAbs := by
      rw [← p1, ← p2]
      have : ((m * 2 ^ (e - base).toNat * 2 ^ (base - B).toNat : Nat) - (m' * 2 ^ (e' - base).toNat * 2 ^ (base - B).toNat : Nat) : Int) = ((m * 2 ^ (e - base).toNat : Nat) - (m' * 2 ^ (e' - base).toNat : Nat) : Int) * ((2 ^ (base - B).toNat : Nat) : Int) := by
        rw [Int.sub_mul]; push_cast; rfl
      rw [this, Int.natAbs_mul, Int.natAbs_natCast]
    rw [hfin, p3]
    omega

end Go.Ev

namespace Go.Proofs.YtponnbnebjhepaaGreat
open Go Go.Ev Go.RowKit
set_option maxRecDepth 100000

/-! Narrowings that are in range. -/

/-- A word of the wide kind that is a number below 2 to the 126th, or none, fits the narrow one. -/
theorem narrow_of_size {x : Nat} (h : ∀ s m e, FloatKind.f64.decode x = .number s m e → e + (m.log2 : Int) < 127) : narrowOk .f64 x .f32 = true := by
  rw [narrowOk_eq]
  unfold narrowOkR
  rw [if_neg (by decide)]
  cases hd : FloatKind.f64.decode x with
  | number s m e =>
    have := h s m e hd
    have hn := nearest_finite Ieee.single s m e (by
      have e3 : (2 : Int) ^ (Ieee.single.exponentBits - 1) = 128 := by decide
      have e4 : (2 : Int) ^ Ieee.single.exponentBits = 256 := by decide
      rw [e3, e4]; omega) (by decide)
    show (!(Ieee.single.read (Ieee.single.nearest s m e)).isInfinity) = true
    rw [hn]; rfl
  | infinity s => rfl
  | nan s t => rfl

theorem narrow_inf : narrowOk .f64 9218868437227405312 .f32 = true := by
  rw [narrowOk_eq]; decide +kernel
theorem narrow_ninf : narrowOk .f64 18442240474082181120 .f32 = true := by
  rw [narrowOk_eq]; decide +kernel
theorem narrow_nan : narrowOk .f64 9221120237041090560 .f32 = true := by
  rw [narrowOk_eq]; decide +kernel

theorem rootFrom_lt (n : Nat) : ∀ (todo root : Nat), Ieee.Datum.rootFrom n todo root < root + 2 ^ todo
  | 0, root => by simp [Ieee.Datum.rootFrom]
  | todo + 1, root => by
    simp only [Ieee.Datum.rootFrom]
    have e : 2 ^ (todo + 1) = 2 ^ todo + 2 ^ todo := by rw [Nat.pow_succ]; omega
    have hp := Nat.two_pow_pos todo
    split
    · have := rootFrom_lt n todo (root + 1 <<< todo)
      rw [Nat.one_shiftLeft] at this ⊢
      omega
    · have := rootFrom_lt n todo root
      omega

/-- A root is of about half the size. -/
theorem root_size {d : Nat} {s : Bool} {m : Nat} {i : Int} {s' : Bool} {m' : Nat} {i' : Int} (h : Ieee.Datum.root d (.number s m i) = some (.number s' m' i')) (hm : m ≠ 0) :
    i' + (m'.log2 : Int) ≤ (i + m.log2) / 2 + 2 := by
  unfold Ieee.Datum.root at h
  dsimp only at h
  rw [if_neg hm] at h
  split at h
  · cases h
  · generalize hmore : 2 * d - m.log2 + ((i - ((2 * d - m.log2 : Nat) : Int)) % 2).toNat = more at h
    have hn : (m <<< more).log2 = m.log2 + more := by
      have h1 : 2 ^ m.log2 ≤ m := Nat.log2_self_le hm
      have h2 : m < 2 ^ (m.log2 + 1) := Nat.lt_log2_self
      have hp : 0 < 2 ^ more := Nat.two_pow_pos _
      have hne : m <<< more ≠ 0 := by rw [Nat.shiftLeft_eq]; exact Nat.ne_of_gt (Nat.mul_pos (by omega) hp)
      refine (Nat.log2_eq_iff hne).2 ?_
      rw [Nat.shiftLeft_eq]
      constructor
      · rw [Nat.pow_add]; exact Nat.mul_le_mul_right _ h1
      · rw [show m.log2 + more + 1 = (m.log2 + 1) + more by omega, Nat.pow_add]; exact Nat.mul_lt_mul_of_pos_right h2 hp
    generalize hw : Ieee.Datum.rootFrom (m <<< more) ((m <<< more).log2 / 2 + 1) 0 = whole at h
    have hlt := rootFrom_lt (m <<< more) ((m <<< more).log2 / 2 + 1) 0
    rw [hw, hn, Nat.zero_add] at hlt
    simp only [Option.some.injEq, Ieee.Datum.number.injEq] at h
    obtain ⟨_, h2, h3⟩ := h
    have hb : m' < 2 ^ ((m.log2 + more) / 2 + 1 + 1) := by
      have : (whole * whole != m <<< more).toNat ≤ 1 := by cases (whole * whole != m <<< more) <;> decide
      rw [Nat.pow_succ]
      omega
    have hl : m'.log2 ≤ (m.log2 + more) / 2 + 1 := by
      by_cases h0 : m' = 0
      · subst h0; simp [Nat.log2_zero]
      · have := (Nat.log2_lt h0).2 hb; omega
    omega

theorem size_f32 {x : Nat} {s : Bool} {m : Nat} {e : Int} (h : FloatKind.f32.decode x = .number s m e) : e + (m.log2 : Int) ≤ 130 := by
  obtain ⟨h1, h2⟩ := number_of_read Ieee.single x s m e h (by decide)
  have e1 : Ieee.single.leastPlace = -149 := by decide
  have e2 : Ieee.single.fractionBits = 23 := rfl
  rw [e1] at h2; rw [e2] at h1
  omega

theorem size_f64 {s : Bool} {m : Nat} {e : Int} (h : e + (m.log2 : Int) ≤ 1000) :
    ∃ s' m' e', FloatKind.f64.decode (FloatKind.f64.encode (.number s m e)) = .number s' m' e' ∧ e' + (m'.log2 : Int) ≤ max (e + m.log2) (-1022) + 1 := by
  have e3 : (2 : Int) ^ (Ieee.double.exponentBits - 1) = 1024 := by decide
  have e4 : (2 : Int) ^ Ieee.double.exponentBits = 2048 := by decide
  obtain ⟨s', m', e', h1, h2⟩ := nearest_size Ieee.double s m e (by rw [e3, e4]; omega) (by decide)
  have e5 : Ieee.double.leastPlace + Ieee.double.fractionBits = -1022 := by decide
  rw [e5] at h2
  exact ⟨s', m', e', h1, h2⟩

/-- A widened number: how great it is. -/
theorem widen_size (x : Nat) : (FloatKind.f64.decode (f2f .f32 x .f64)).isNaN = true ∨ (∃ s, FloatKind.f64.decode (f2f .f32 x .f64) = .infinity s) ∨
    ∃ s m e, FloatKind.f64.decode (f2f .f32 x .f64) = .number s m e ∧ e + (m.log2 : Int) ≤ 131 := by
  rw [f2f_eq]
  unfold f2fR
  rw [if_neg (by decide)]
  cases hd : FloatKind.f32.decode x with
  | nan s t => exact .inl (decode_nanB .f64)
  | infinity s => exact .inr (.inl ⟨s, by cases s <;> decide +kernel⟩)
  | number s m e =>
    have h0 := size_f32 hd
    obtain ⟨s', m', e', h1, h2⟩ := size_f64 (s := s) (m := m) (e := e) (by omega)
    refine .inr (.inr ⟨s', m', e', ?_, by omega⟩)
    show FloatKind.f64.decode (canon .f64 (FloatKind.f64.encode (.number s m e))) = _
    rw [canon_of_not (by rw [h1]; rfl)]
    exact h1

theorem narrow_sqrt (x : Nat) : narrowOk .f64 (fsqrt (f2f .f32 x .f64)) .f32 = true := by
  refine narrow_of_size (fun s m e h => ?_)
  rw [fsqrt_eq] at h
  unfold fsqrtR at h
  have hs : ∀ y, FloatKind.f64.format.sqrt y = (Ieee.Datum.root 54 (FloatKind.f64.decode y)).map FloatKind.f64.encode := fun y => rfl
  rw [hs] at h
  have hnan : ∀ s m e, FloatKind.f64.decode (nanB .f64) = .number s m e → False := fun s m e h => by
    have := decode_nanB .f64
    rw [h] at this; cases this
  rcases widen_size x with hn | ⟨s0, hi⟩ | ⟨s0, m0, e0, hd, hb⟩
  · obtain ⟨a, b, hd⟩ := isNaN_iff.1 hn
    rw [hd] at h
    exact (hnan _ _ _ h).elim
  · rw [hi] at h
    cases s0
    · exfalso
      have : FloatKind.f64.decode (canon .f64 (FloatKind.f64.encode (.infinity false))) = .infinity false := by decide +kernel
      have h' : FloatKind.f64.decode (canon .f64 (FloatKind.f64.encode (.infinity false))) = .number s m e := h
      rw [this] at h'; cases h'
    · exact (hnan _ _ _ h).elim
  · rw [hd] at h
    by_cases hm : m0 = 0
    · subst hm
      have h' : FloatKind.f64.decode (canon .f64 (FloatKind.f64.encode (.number s0 0 e0))) = .number s m e := h
      have e1 : FloatKind.f64.encode (.number s0 0 e0) = FloatKind.f64.format.word s0 0 := rfl
      have e2 : FloatKind.f64.decode (canon .f64 (FloatKind.f64.format.word s0 0)) = .number s0 0 (-1074) := by cases s0 <;> decide +kernel
      rw [e1, e2] at h'
      cases h'
      simp [Nat.log2_zero]
    · cases hr : Ieee.Datum.root 54 (.number s0 m0 e0) with
      | none => rw [hr] at h; exact (hnan _ _ _ h).elim
      | some d =>
        rw [hr] at h
        cases d with
        | number s1 m1 e1 =>
          have h1 := root_size hr hm
          obtain ⟨s2, m2, e2, h2, h3⟩ := size_f64 (s := s1) (m := m1) (e := e1) (by omega)
          have h' : FloatKind.f64.decode (canon .f64 (FloatKind.f64.encode (.number s1 m1 e1))) = .number s m e := h
          rw [canon_of_not (by rw [h2]; rfl), h2] at h'
          cases h'
          omega
        | infinity s1 =>
          exfalso
          unfold Ieee.Datum.root at hr
          dsimp only at hr
          rw [if_neg hm] at hr
          split at hr <;> cases hr
        | nan s1 t1 =>
          exfalso
          unfold Ieee.Datum.root at hr
          dsimp only at hr
          rw [if_neg hm] at hr
          split at hr <;> cases hr

section
open Ieee
theorem narrow_of_Bd {x : Nat} {K : Int} (h : Bd x K) (hK : K < 127) : narrowOk .f64 x .f32 = true := by
  obtain ⟨s, m, e, hd, hl⟩ := h
  refine narrow_of_size (fun s' m' e' h' => ?_)
  rw [hd] at h'
  cases h'
  by_cases hm : m = 0
  · subst hm
    have e5 : Ieee.double.leastPlace = -1074 := by decide
    -- a zero is told at the least place
    have hread : Ieee.double.read x = .number s 0 e := hd
    unfold Format.read at hread
    simp only at hread
    have hb : 0 < Ieee.double.binade := Nat.two_pow_pos _
    split at hread
    · simp only [Datum.number.injEq] at hread; obtain ⟨_, _, he⟩ := hread; rw [← he, e5]; simp [Nat.log2_zero]
    · split at hread
      · simp only [Datum.number.injEq] at hread; omega
      · split at hread <;> cases hread
  · have := hl.log2 hm; omega

theorem LeP_of_eq {m m' : Nat} {e e' b K : Int} (hb : b ≤ e) (hb' : b ≤ e') (h : m' * 2 ^ (e' - b).toNat = m * 2 ^ (e - b).toNat) (hl : LeP m e K) (hK : b ≤ K) : LeP m' e' K :=
  LeP.of_scaled hb' (by rw [h]; exact hl.scaled hb hK) hK

theorem read_mod (f : Format) (x : Nat) : f.read (x % (2 * f.signWeight)) = f.read x := by
  have hsw : 0 < f.signWeight := Nat.two_pow_pos _
  unfold Format.read
  have e1 : x % (2 * f.signWeight) % f.signWeight = x % f.signWeight := Nat.mod_mod_of_dvd x (Nat.dvd_mul_left _ _)
  have e2 : x % (2 * f.signWeight) / f.signWeight % 2 = x / f.signWeight % 2 := by
    rw [Nat.mul_comm, Nat.mod_mul_right_div_self, Nat.mod_mod]
  rw [e1, e2]

theorem fint_even_eq {y : Nat} {s : Bool} {m : Nat} {e : Int} (h : FloatKind.f64.decode y = .number s m e) :
    fint .even y = canon .f64 (FloatKind.f64.encode (.number s (Toward.even.cut s (m * 2 ^ e.toNat) (-e).toNat) 0)) := by
  rw [fint_eq]; unfold fintR; rw [h]; simp only
  show canon .f64 (FloatKind.f64.encode (Datum.number s (Toward.even.cut s (m <<< e.toNat) (-e).toNat) 0)) = _
  rw [Nat.shiftLeft_eq]

theorem narrow_even (x : Nat) : narrowOk .f64 (fint .even (f2f .f32 x .f64)) .f32 = true := by
  cases hx : FloatKind.f32.decode x with
  | nan s t =>
    refine narrow_of_size (fun s m e h => ?_)
    obtain ⟨s', t', hd⟩ := isNaN_iff.1 (widen_nan (x := x) (by rw [hx]; rfl))
    rw [fint_eq] at h; unfold fintR at h; rw [hd] at h
    exact absurd h decode_nanB_ne
  | infinity s =>
    refine narrow_of_size (fun s' m e h => ?_)
    have hd := widen_inf hx
    rw [fint_eq] at h; unfold fintR at h; rw [hd] at h
    exfalso
    have : FloatKind.f64.decode (canon .f64 (FloatKind.f64.encode (.infinity s))) = .infinity s := by cases s <;> decide +kernel
    have h' : FloatKind.f64.decode (canon .f64 (FloatKind.f64.encode (.infinity s))) = .number s' m e := h
    rw [this] at h'; cases h'
  | number s m e =>
    have hpl := number_place (f := Ieee.single) hx
    have e2 : Ieee.single.binade = 2 ^ 23 := rfl
    rw [e2] at hpl
    obtain ⟨m', e', b, hd, hb', hb, hb0, heq⟩ := widen_number hx
    rw [fint_even_eq hd]
    by_cases hsmall : e < 0 ∨ m = 0
    · have hl : LeP m e 24 := by
        rcases hsmall with h | h
        · refine .inr ⟨by omega, ?_⟩
          have : 2 ^ 24 ≤ 2 ^ (24 - e).toNat := Nat.pow_le_pow_right (by omega) (by omega)
          omega
        · exact .inl h
      by_cases hm' : m' = 0
      · subst hm'
        refine narrow_of_Bd (K := 24) (encode_Bd (.inl ?_) (by omega) (by omega)) (by omega)
        exact Nat.le_zero.1 (cut_even_le (by simp))
      · have hbK : b ≤ 24 := by
          rcases hsmall with h | h
          · omega
          · exfalso
            subst h
            rw [Nat.zero_mul] at heq
            have := Nat.mul_pos (Nat.pos_of_ne_zero hm') (Nat.two_pow_pos (e' - b).toNat)
            omega
        have hl' := LeP_of_eq hb hb' heq hl hbK
        refine narrow_of_Bd (K := 24) (encode_Bd (.inr ⟨by omega, ?_⟩) (by omega) (by omega)) (by omega)
        refine cut_even_le ?_
        rcases hl' with h | ⟨h1, h2⟩
        · exact absurd h hm'
        · rw [show ((24 : Int) - 0).toNat = 24 by decide, ← Nat.pow_add]
          calc m' * 2 ^ e'.toNat ≤ 2 ^ (24 - e').toNat * 2 ^ e'.toNat := Nat.mul_le_mul_right _ h2
            _ = 2 ^ ((24 - e').toNat + e'.toNat) := by rw [← Nat.pow_add]
            _ ≤ 2 ^ (24 + (-e').toNat) := Nat.pow_le_pow_right (by omega) (by omega)
    · have he : 0 ≤ e := by omega
      have hm : m ≠ 0 := by omega
      -- the number is whole: it is its own
      have hcut : m' * 2 ^ e'.toNat = m * 2 ^ e.toNat * 2 ^ (-e').toNat := by
        generalize hB : min b 0 = B
        have q : m' * 2 ^ (e' - B).toNat = m * 2 ^ (e - B).toNat := by
          have : m' * 2 ^ (e' - b).toNat * 2 ^ (b - B).toNat = m * 2 ^ (e - b).toNat * 2 ^ (b - B).toNat := by rw [heq]
          rw [Nat.mul_assoc, Nat.mul_assoc, ← Nat.pow_add, ← Nat.pow_add] at this
          rw [show (e' - B).toNat = (e' - b).toNat + (b - B).toNat by omega, show (e - B).toNat = (e - b).toNat + (b - B).toNat by omega]
          exact this
        by_cases he' : 0 ≤ e'
        · rw [show (-e').toNat = 0 by omega, Nat.pow_zero, Nat.mul_one]
          rw [show (e' - B).toNat = e'.toNat + (0 - B).toNat by omega, show (e - B).toNat = e.toNat + (0 - B).toNat by omega, Nat.pow_add, Nat.pow_add, ← Nat.mul_assoc, ← Nat.mul_assoc] at q
          exact Nat.eq_of_mul_eq_mul_right (Nat.two_pow_pos _) q
        · rw [show e'.toNat = 0 by omega, Nat.pow_zero, Nat.mul_one]
          rw [show (e - B).toNat = e.toNat + ((-e').toNat + (e' - B).toNat) by omega, Nat.pow_add, Nat.pow_add, ← Nat.mul_assoc, ← Nat.mul_assoc] at q
          exact Nat.eq_of_mul_eq_mul_right (Nat.two_pow_pos _) q
      rw [hcut, cut_even_exact]
      have e3 : (2 : Int) ^ (Ieee.double.exponentBits - 1) = 1024 := by decide
      have e4 : (2 : Int) ^ Ieee.double.exponentBits = 2048 := by decide
      have e5 : Ieee.double.leastPlace = -1074 := by decide
      obtain ⟨h1, h2⟩ := number_of_read Ieee.single x s m e hx (by decide)
      have e6 : Ieee.single.leastPlace = -149 := by decide
      rw [e6] at h2
      have h1' : m.log2 ≤ 23 := h1
      obtain ⟨m2, e2', b2, h3, h4, h5, h6, h7⟩ := nearest_exact Ieee.double s m e hm (by show m.log2 ≤ 52; omega) (by rw [e5]; omega) (by rw [e3, e4]; omega) (by decide)
      have hsame : Ieee.double.nearest s (m * 2 ^ e.toNat) 0 = Ieee.double.nearest s m e := by
        have := nearest_scale Ieee.double s m e.toNat e
        rwa [show e - (e.toNat : Int) = 0 by omega] at this
      have hdec : FloatKind.f64.decode (canon .f64 (FloatKind.f64.encode (.number s (m * 2 ^ e.toNat) 0))) = .number s m2 e2' := by
        have : FloatKind.f64.decode (FloatKind.f64.encode (.number s (m * 2 ^ e.toNat) 0)) = .number s m2 e2' := by
          show Ieee.double.read (Ieee.double.nearest s (m * 2 ^ e.toNat) 0) = _
          rw [hsame]; exact h3
        rw [canon_of_not (by rw [this]; rfl), this]
      rw [narrowOk_eq]
      unfold narrowOkR
      rw [if_neg (by decide), hdec]
      simp only
      have hback : FloatKind.f32.encode (.number s m2 e2') = x % 2 ^ 32 := by
        show Ieee.single.nearest s m2 e2' = _
        rw [nearest_congr Ieee.single s (b := b2) h4 h5 h7]
        have hrm : Ieee.single.read (x % 2 ^ 32) = .number s m e := (read_mod Ieee.single x).trans hx
        have hw := write_read Ieee.single (by decide) (x % 2 ^ 32) (by show x % 2 ^ 32 < 2 * 2 ^ 31; omega) (by rw [hrm]; rfl)
        rw [hrm] at hw
        exact hw
      rw [hback]
      have hrm : FloatKind.f32.decode (x % 2 ^ 32) = .number s m e := (read_mod Ieee.single x).trans hx
      rw [hrm]; rfl

end

end Go.Proofs.YtponnbnebjhepaaGreat

namespace Go.Proofs.YtponnbnebjhepaaGreat
open Go Go.Ev
set_option maxRecDepth 100000

/-! What the rules of kinds tell. -/
theorem F175_ch (k : Int) : (decide (0 ≤ (F175 k).fst.children) && decide ((F175 k).fst.children ≤ ((2 : Nat) : Int))) = true := by
  unfold F175 tr175
  simp only [Tr.val]
  repeat' (first | rfl | (generalize (k == _) = b; cases b <;> simp only [cond_true, cond_false]))

theorem F175_ch2 (k : Int) : (decide (0 ≤ (F175 k).fst.children) && decide ((F175 k).fst.children ≤ 2)) = true := F175_ch k

end Go.Proofs.YtponnbnebjhepaaGreat

namespace Go.Proofs.YtponnbnebjhepaaGreat
open Go Go.Ev
set_option maxRecDepth 100000

/- spec.l02Leaf -/
noncomputable def tr119 (x0 : Int) : Tr (Bool) :=
  (.leaf (F78 x0 0 4))
theorem ev119 (x0 : Int) : evalF (env tab2 exts (fun _ => [])) 0 Tryz.f119 [.int .i64 x0] = (tr119 x0).toOpt (fun x => .plain (.bool x)) := by kernel_rfl
noncomputable def F119 (x0 : Int) : Bool := (tr119 x0).val
theorem pre119 (x0 : Int) : (tr119 x0).pre = true := by simp [tr119, Tr.pre]
/- spec.l02Two -/
noncomputable def tr120 (x0 : Int) : Tr (Bool) :=
  (.leaf (F78 x0 5 8))
theorem ev120 (x0 : Int) : evalF (env tab2 exts (fun _ => [])) 0 Tryz.f120 [.int .i64 x0] = (tr120 x0).toOpt (fun x => .plain (.bool x)) := by kernel_rfl
noncomputable def F120 (x0 : Int) : Bool := (tr120 x0).val
theorem pre120 (x0 : Int) : (tr120 x0).pre = true := by simp [tr120, Tr.pre]
/- spec.l02Axis -/
noncomputable def tr186 (x0 : Int) : Tr (Bool) :=
  (.leaf (F78 x0 12 14))
theorem ev186 (x0 : Int) : evalF (env tab2 exts (fun _ => [])) 0 Tryz.f186 [.int .i64 x0] = (tr186 x0).toOpt (fun x => .plain (.bool x)) := by kernel_rfl
noncomputable def F186 (x0 : Int) : Bool := (tr186 x0).val
theorem pre186 (x0 : Int) : (tr186 x0).pre = true := by simp [tr186, Tr.pre]
/- spec.l01VFinite -/
noncomputable def tr132 (x0 : V3) : Tr (Bool) :=
  (.cond (F121 x0.x)
   (.cond (F121 x0.y)
    (.leaf (F121 x0.z))
    (.leaf (false)))
   (.leaf (false)))
theorem ev132 (x0 : V3) : evalF (env tab2 exts (fun _ => [])) 0 Tryz.f132 [.agg (enc .v3 x0)] = (tr132 x0).toOpt (fun x => .plain (.bool x)) := by kernel_rfl
noncomputable def F132 (x0 : V3) : Bool := (tr132 x0).val
theorem pre132 (x0 : V3) : (tr132 x0).pre = true := by simp [tr132, Tr.pre]
/- spec.l04Times -/
noncomputable def tr205 (x0 : Rg) (x1 : Nat) : Tr (Rg) :=
  (.cond (fcmp BinOp.neq FloatKind.f32 (fop BinOp.mul FloatKind.f32 x0.lo x1) (fop BinOp.mul FloatKind.f32 x0.lo x1))
   (.leaf (⟨(fop BinOp.add FloatKind.f32 (fop BinOp.mul FloatKind.f32 x0.lo x1) (fop BinOp.mul FloatKind.f32 x0.hi x1)), (fop BinOp.add FloatKind.f32 (fop BinOp.mul FloatKind.f32 x0.lo x1) (fop BinOp.mul FloatKind.f32 x0.hi x1))⟩ : Rg))
   (.cond (fcmp BinOp.neq FloatKind.f32 (fop BinOp.mul FloatKind.f32 x0.hi x1) (fop BinOp.mul FloatKind.f32 x0.hi x1))
    (.leaf (⟨(fop BinOp.add FloatKind.f32 (fop BinOp.mul FloatKind.f32 x0.lo x1) (fop BinOp.mul FloatKind.f32 x0.hi x1)), (fop BinOp.add FloatKind.f32 (fop BinOp.mul FloatKind.f32 x0.lo x1) (fop BinOp.mul FloatKind.f32 x0.hi x1))⟩ : Rg))
    (.leaf (⟨(F208 (fop BinOp.mul FloatKind.f32 x0.lo x1) (fop BinOp.mul FloatKind.f32 x0.hi x1)), (F209 (fop BinOp.mul FloatKind.f32 x0.lo x1) (fop BinOp.mul FloatKind.f32 x0.hi x1))⟩ : Rg))))
theorem ev205 (x0 : Rg) (x1 : Nat) : evalF (env tab2 exts (fun _ => [])) 0 Tryz.f205 [.agg (enc .rg x0), .f32 x1] = (tr205 x0 x1).toOpt (fun x => .plain (.agg (enc .rg x))) := by kernel_rfl
noncomputable def F205 (x0 : Rg) (x1 : Nat) : Rg := (tr205 x0 x1).val
theorem pre205 (x0 : Rg) (x1 : Nat) : (tr205 x0 x1).pre = true := by simp [tr205, Tr.pre]
/- spec.l04Size -/
noncomputable def tr206 (x0 : Rg) : Tr (Rg) :=
  (.cond (fcmp BinOp.gtr FloatKind.f32 x0.lo 0)
   (.leaf (⟨(x0.lo), (x0.hi)⟩ : Rg))
   (.cond (fcmp BinOp.lss FloatKind.f32 x0.hi 0)
    (.leaf (⟨(fneg FloatKind.f32 x0.hi), (fneg FloatKind.f32 x0.lo)⟩ : Rg))
    (.leaf (⟨(0), (F209 (fneg FloatKind.f32 x0.lo) x0.hi)⟩ : Rg))))
theorem ev206 (x0 : Rg) : evalF (env tab2 exts (fun _ => [])) 0 Tryz.f206 [.agg (enc .rg x0)] = (tr206 x0).toOpt (fun x => .plain (.agg (enc .rg x))) := by kernel_rfl
noncomputable def F206 (x0 : Rg) : Rg := (tr206 x0).val
theorem pre206 (x0 : Rg) : (tr206 x0).pre = true := by simp [tr206, Tr.pre]
/- spec.l01Sqrt -/
noncomputable def tr266 (x0 : Nat) : Tr (Nat) :=
  (.cond ((tr257 (F278 (f2f FloatKind.f32 x0 FloatKind.f64))).pre)
   (.leaf (F257 (F278 (f2f FloatKind.f32 x0 FloatKind.f64))))
   .non)
theorem ev266 (x0 : Nat) : evalF (env tab2 exts (fun _ => [])) 0 Tryz.f266 [.f32 x0] = (tr266 x0).toOpt (fun x => .plain (.f32 x)) := by kernel_rfl
noncomputable def F266 (x0 : Nat) : Nat := (tr266 x0).val
theorem pre266 (x0 : Nat) : (tr266 x0).pre = true := by first | (simp only [tr266, Tr.pre, cond_true, cond_false, narrow_sqrt,F137,tr137,Tr.val,narrow_inf,F278,tr278,tr257,narrow_even,F175_ch2]; done) | (simp [tr266, Tr.pre, narrow_sqrt,F137,tr137,Tr.val,narrow_inf,F278,tr278,tr257,narrow_even,F175_ch2]; done) | (unfold tr266; simp only [Tr.pre]; repeat' (first | rfl | (simp only [narrow_sqrt,F137,tr137,Tr.val,narrow_inf,F278,tr278,tr257,narrow_even,F175_ch2, cond_true, cond_false]; done) | (generalize (F143 _) = b; cases b <;> simp only [cond_true, cond_false, Bool.not_true, Bool.not_false]) | split))
/- spec.l04Fine -/
noncomputable def tr136 (x0 : Sp) : Tr (Bool) :=
  (.cond (F121 x0.x.lo)
   (.cond (F121 x0.x.hi)
    (.cond (F121 x0.y.lo)
     (.cond (F121 x0.y.hi)
      (.cond (F121 x0.z.lo)
       (.leaf (F121 x0.z.hi))
       (.leaf (false)))
      (.leaf (false)))
     (.leaf (false)))
    (.leaf (false)))
   (.leaf (false)))
theorem ev136 (x0 : Sp) : evalF (env tab2 exts (fun _ => [])) 0 Tryz.f136 [.ptr .sp x0 0] = (tr136 x0).toOpt (fun x => .plain (.bool x)) := by kernel_rfl
noncomputable def F136 (x0 : Sp) : Bool := (tr136 x0).val
theorem pre136 (x0 : Sp) : (tr136 x0).pre = true := by simp [tr136, Tr.pre]
/- laws.toBox -/
noncomputable def tr27 (x0 : Bx) : Tr (Bx) :=
  (.leaf (⟨⟨((F65 x0.lo).x), ((F65 x0.lo).y), ((F65 x0.lo).z)⟩, ⟨((F65 x0.hi).x), ((F65 x0.hi).y), ((F65 x0.hi).z)⟩⟩ : Bx))
theorem ev27 (x0 : Bx) : evalF (env tab2 exts (fun _ => [])) 0 Tryz.f27 [.agg (enc .bx x0)] = (tr27 x0).toOpt (fun x => .plain (.agg (enc .bx x))) := by kernel_rfl
noncomputable def F27 (x0 : Bx) : Bx := (tr27 x0).val
theorem pre27 (x0 : Bx) : (tr27 x0).pre = true := by simp [tr27, Tr.pre]
/- laws.eqRange -/
noncomputable def tr77 (x0 : Rg) (x1 : Rg) : Tr (Bool) :=
  (.cond (!F41 (f2f FloatKind.f32 x0.lo FloatKind.f64) (f2f FloatKind.f32 x1.lo FloatKind.f64))
   (.leaf (false))
   (.cond (!F41 (f2f FloatKind.f32 x0.hi FloatKind.f64) (f2f FloatKind.f32 x1.hi FloatKind.f64))
    (.leaf (false))
    (.leaf (true))))
theorem ev77 (x0 : Rg) (x1 : Rg) : evalF (env tab2 exts (fun _ => [])) 0 Tryz.f77 [.agg (enc .rg x0), .agg (enc .rg x1)] = (tr77 x0 x1).toOpt (fun x => .plain (.bool x)) := by kernel_rfl
noncomputable def F77 (x0 : Rg) (x1 : Rg) : Bool := (tr77 x0 x1).val
theorem pre77 (x0 : Rg) (x1 : Rg) : (tr77 x0 x1).pre = true := by simp [tr77, Tr.pre]
/- impl.SizeRange -/
noncomputable def tr221 (x0 : Rg) : Tr (Rg) :=
  (.cond (fcmp BinOp.gtr FloatKind.f32 x0.lo 0)
   (.leaf (⟨(x0.lo), (x0.hi)⟩ : Rg))
   (.cond (fcmp BinOp.lss FloatKind.f32 x0.hi 0)
    (.leaf (⟨(fneg FloatKind.f32 x0.hi), (fneg FloatKind.f32 x0.lo)⟩ : Rg))
    (.leaf (⟨(0), (F227 (fneg FloatKind.f32 x0.lo) x0.hi)⟩ : Rg))))
theorem ev221 (x0 : Rg) : evalF (env tab2 exts (fun _ => [])) 0 Tryz.f221 [.agg (enc .rg x0)] = (tr221 x0).toOpt (fun x => .plain (.agg (enc .rg x))) := by kernel_rfl
noncomputable def F221 (x0 : Rg) : Rg := (tr221 x0).val
theorem pre221 (x0 : Rg) : (tr221 x0).pre = true := by simp [tr221, Tr.pre]
/- (impl.Range).times -/
noncomputable def tr218 (x0 : Rg) (x1 : Nat) : Tr (Rg) :=
  (.cond (F143 (fop BinOp.mul FloatKind.f32 x0.lo x1))
   (.leaf (⟨(fop BinOp.sub FloatKind.f32 (fop BinOp.add FloatKind.f32 (fop BinOp.sub FloatKind.f32 (fop BinOp.mul FloatKind.f32 x0.lo x1) (fop BinOp.mul FloatKind.f32 x0.lo x1)) (fop BinOp.mul FloatKind.f32 x0.hi x1)) (fop BinOp.mul FloatKind.f32 x0.hi x1)), (fop BinOp.sub FloatKind.f32 (fop BinOp.add FloatKind.f32 (fop BinOp.sub FloatKind.f32 (fop BinOp.mul FloatKind.f32 x0.lo x1) (fop BinOp.mul FloatKind.f32 x0.lo x1)) (fop BinOp.mul FloatKind.f32 x0.hi x1)) (fop BinOp.mul FloatKind.f32 x0.hi x1))⟩ : Rg))
   (.cond (F143 (fop BinOp.mul FloatKind.f32 x0.hi x1))
    (.leaf (⟨(fop BinOp.sub FloatKind.f32 (fop BinOp.add FloatKind.f32 (fop BinOp.sub FloatKind.f32 (fop BinOp.mul FloatKind.f32 x0.lo x1) (fop BinOp.mul FloatKind.f32 x0.lo x1)) (fop BinOp.mul FloatKind.f32 x0.hi x1)) (fop BinOp.mul FloatKind.f32 x0.hi x1)), (fop BinOp.sub FloatKind.f32 (fop BinOp.add FloatKind.f32 (fop BinOp.sub FloatKind.f32 (fop BinOp.mul FloatKind.f32 x0.lo x1) (fop BinOp.mul FloatKind.f32 x0.lo x1)) (fop BinOp.mul FloatKind.f32 x0.hi x1)) (fop BinOp.mul FloatKind.f32 x0.hi x1))⟩ : Rg))
    (.leaf (⟨(F226 (fop BinOp.mul FloatKind.f32 x0.lo x1) (fop BinOp.mul FloatKind.f32 x0.hi x1)), (F227 (fop BinOp.mul FloatKind.f32 x0.lo x1) (fop BinOp.mul FloatKind.f32 x0.hi x1))⟩ : Rg))))
theorem ev218 (x0 : Rg) (x1 : Nat) : evalF (env tab2 exts (fun _ => [])) 0 Tryz.f218 [.agg (enc .rg x0), .f32 x1] = (tr218 x0 x1).toOpt (fun x => .plain (.agg (enc .rg x))) := by kernel_rfl
noncomputable def F218 (x0 : Rg) (x1 : Nat) : Rg := (tr218 x0 x1).val
theorem pre218 (x0 : Rg) (x1 : Nat) : (tr218 x0 x1).pre = true := by simp [tr218, Tr.pre]
/- impl.inf -/
noncomputable def tr230  : Tr (Nat) :=
  (.cond (narrowOk FloatKind.f64 (F137 1) FloatKind.f32)
   (.leaf (f2f FloatKind.f64 (F137 1) FloatKind.f32))
   .non)
theorem ev230  : evalF (env tab2 exts (fun _ => [])) 0 Tryz.f230 [] = (tr230 ).toOpt (fun x => .plain (.f32 x)) := by kernel_rfl
noncomputable def F230  : Nat := (tr230 ).val
theorem pre230  : (tr230 ).pre = true := by first | (simp only [tr230, Tr.pre, cond_true, cond_false, narrow_sqrt,F137,tr137,Tr.val,narrow_inf,F278,tr278,tr257,narrow_even,F175_ch2]; done) | (simp [tr230, Tr.pre, narrow_sqrt,F137,tr137,Tr.val,narrow_inf,F278,tr278,tr257,narrow_even,F175_ch2]; done) | (unfold tr230; simp only [Tr.pre]; repeat' (first | rfl | (simp only [narrow_sqrt,F137,tr137,Tr.val,narrow_inf,F278,tr278,tr257,narrow_even,F175_ch2, cond_true, cond_false]; done) | (generalize (F143 _) = b; cases b <;> simp only [cond_true, cond_false, Bool.not_true, Bool.not_false]) | split))
/- impl.nearest -/
noncomputable def tr263 (x0 : Nat) : Tr (Nat) :=
  (.cond (narrowOk FloatKind.f64 (fint Ieee.Toward.even (f2f FloatKind.f32 x0 FloatKind.f64)) FloatKind.f32)
   (.leaf (f2f FloatKind.f64 (fint Ieee.Toward.even (f2f FloatKind.f32 x0 FloatKind.f64)) FloatKind.f32))
   .non)
theorem ev263 (x0 : Nat) : evalF (env tab2 exts (fun _ => [])) 0 Tryz.f263 [.f32 x0] = (tr263 x0).toOpt (fun x => .plain (.f32 x)) := by kernel_rfl
noncomputable def F263 (x0 : Nat) : Nat := (tr263 x0).val
theorem pre263 (x0 : Nat) : (tr263 x0).pre = true := by first | (simp only [tr263, Tr.pre, cond_true, cond_false, narrow_sqrt,F137,tr137,Tr.val,narrow_inf,F278,tr278,tr257,narrow_even,F175_ch2]; done) | (simp [tr263, Tr.pre, narrow_sqrt,F137,tr137,Tr.val,narrow_inf,F278,tr278,tr257,narrow_even,F175_ch2]; done) | (unfold tr263; simp only [Tr.pre]; repeat' (first | rfl | (simp only [narrow_sqrt,F137,tr137,Tr.val,narrow_inf,F278,tr278,tr257,narrow_even,F175_ch2, cond_true, cond_false]; done) | (generalize (F143 _) = b; cases b <;> simp only [cond_true, cond_false, Bool.not_true, Bool.not_false]) | split))
/- impl.shortened -/
noncomputable def tr224 (x0 : Nat) (x1 : Nat) : Tr (Nat) :=
  (.leaf (fop BinOp.sub FloatKind.f32 x0 (F226 (F227 0 x0) x1)))
theorem ev224 (x0 : Nat) (x1 : Nat) : evalF (env tab2 exts (fun _ => [])) 0 Tryz.f224 [.f32 x0, .f32 x1] = (tr224 x0 x1).toOpt (fun x => .plain (.f32 x)) := by kernel_rfl
noncomputable def F224 (x0 : Nat) (x1 : Nat) : Nat := (tr224 x0 x1).val
theorem pre224 (x0 : Nat) (x1 : Nat) : (tr224 x0 x1).pre = true := by simp [tr224, Tr.pre]
/- impl.RootNumber -/
noncomputable def tr269 (x0 : Nat) : Tr (Nat) :=
  (.cond (narrowOk FloatKind.f64 (F278 (f2f FloatKind.f32 x0 FloatKind.f64)) FloatKind.f32)
   (.leaf (f2f FloatKind.f64 (F278 (f2f FloatKind.f32 x0 FloatKind.f64)) FloatKind.f32))
   .non)
theorem ev269 (x0 : Nat) : evalF (env tab2 exts (fun _ => [])) 0 Tryz.f269 [.f32 x0] = (tr269 x0).toOpt (fun x => .plain (.f32 x)) := by kernel_rfl
noncomputable def F269 (x0 : Nat) : Nat := (tr269 x0).val
theorem pre269 (x0 : Nat) : (tr269 x0).pre = true := by first | (simp only [tr269, Tr.pre, cond_true, cond_false, narrow_sqrt,F137,tr137,Tr.val,narrow_inf,F278,tr278,tr257,narrow_even,F175_ch2]; done) | (simp [tr269, Tr.pre, narrow_sqrt,F137,tr137,Tr.val,narrow_inf,F278,tr278,tr257,narrow_even,F175_ch2]; done) | (unfold tr269; simp only [Tr.pre]; repeat' (first | rfl | (simp only [narrow_sqrt,F137,tr137,Tr.val,narrow_inf,F278,tr278,tr257,narrow_even,F175_ch2, cond_true, cond_false]; done) | (generalize (F143 _) = b; cases b <;> simp only [cond_true, cond_false, Bool.not_true, Bool.not_false]) | split))
/- laws.szNode -/
noncomputable def tr117 (x0 : Nd) (x1 : Int) : Tr (Int) :=
  (.cond (decide (F184 x0.v x1 < 0))
   (.leaf (-1))
   (.leaf (F184 x0.v x1)))
theorem ev117 (x0 : Nd) (x1 : Int) : evalF (env tab2 exts (fun _ => [])) 0 Tryz.f117 [.agg (enc .nd x0), .int .i64 x1] = (tr117 x0 x1).toOpt (fun x => .plain (.int .i64 x)) := by kernel_rfl
noncomputable def F117 (x0 : Nd) (x1 : Int) : Int := (tr117 x0 x1).val
theorem pre117 (x0 : Nd) (x1 : Int) : (tr117 x0 x1).pre = true := by simp [tr117, Tr.pre]
/- impl.finite$1 -/
noncomputable def tr254 (x0 : Nat) : Tr (Bool) :=
  (.leaf (!F128 x0))
theorem ev254 (x0 : Nat) : evalF (env tab2 exts (fun _ => [])) 0 Tryz.f254 [.f32 x0] = (tr254 x0).toOpt (fun x => .plain (.bool x)) := by kernel_rfl
noncomputable def F254 (x0 : Nat) : Bool := (tr254 x0).val
theorem pre254 (x0 : Nat) : (tr254 x0).pre = true := by simp [tr254, Tr.pre]
/- impl.childrenOf -/
noncomputable def tr97 (x0 : Nd) : Tr (List Int) :=
  (.cond (decide (0 ≤ (F175 x0.k).fst.children) && decide ((F175 x0.k).fst.children ≤ (↑2 : Int)))
   (.leaf (List.take (F175 x0.k).fst.children.toNat [x0.a, x0.b]))
   .non)
theorem ev97 (x0 : Nd) : evalF (env tab2 exts (fun _ => [])) 0 Tryz.f97 [.ptr .nd x0 0] = (tr97 x0).toOpt (fun x => .own 2 ET.i64 x (Ctx.hole)) := by kernel_rfl
noncomputable def F97 (x0 : Nd) : List Int := (tr97 x0).val
theorem pre97 (x0 : Nd) : (tr97 x0).pre = true := by first | (simp only [tr97, Tr.pre, cond_true, cond_false, narrow_sqrt,F137,tr137,Tr.val,narrow_inf,F278,tr278,tr257,narrow_even,F175_ch2]; done) | (simp [tr97, Tr.pre, narrow_sqrt,F137,tr137,Tr.val,narrow_inf,F278,tr278,tr257,narrow_even,F175_ch2]; done) | (unfold tr97; simp only [Tr.pre]; repeat' (first | rfl | (simp only [narrow_sqrt,F137,tr137,Tr.val,narrow_inf,F278,tr278,tr257,narrow_even,F175_ch2, cond_true, cond_false]; done) | (generalize (F143 _) = b; cases b <;> simp only [cond_true, cond_false, Bool.not_true, Bool.not_false]) | split))
/- impl.axisOk -/
noncomputable def tr125 (x0 : Nd) : Tr (Bool) :=
  (.cond (decide ((F175 x0.k).fst.children > 0))
   (.cond ((F175 x0.k).fst.children == 2)
    (.leaf (true))
    (.cond (x0.b == 0)
     (.leaf (true))
     (.cond ((F175 x0.k).fst.axis)
      (.leaf (F81 x0.b 0 2))
      (.leaf (false)))))
   (.cond (x0.a == 0)
    (.cond ((F175 x0.k).fst.children == 2)
     (.leaf (true))
     (.cond (x0.b == 0)
      (.leaf (true))
      (.cond ((F175 x0.k).fst.axis)
       (.leaf (F81 x0.b 0 2))
       (.leaf (false)))))
    (.leaf (false))))
theorem ev125 (x0 : Nd) : evalF (env tab2 exts (fun _ => [])) 0 Tryz.f125 [.ptr .nd x0 0] = (tr125 x0).toOpt (fun x => .plain (.bool x)) := by kernel_rfl
noncomputable def F125 (x0 : Nd) : Bool := (tr125 x0).val
theorem pre125 (x0 : Nd) : (tr125 x0).pre = true := by simp [tr125, Tr.pre]
/- impl.ValidShape$1 -/
noncomputable def tr127 (x0 : Int) : Tr (Bool) :=
  (.leaf (x0 != 1))
theorem ev127 (x0 : Int) : evalF (env tab2 exts (fun _ => [])) 0 Tryz.f127 [.int .i64 x0] = (tr127 x0).toOpt (fun x => .plain (.bool x)) := by kernel_rfl
noncomputable def F127 (x0 : Int) : Bool := (tr127 x0).val
theorem pre127 (x0 : Int) : (tr127 x0).pre = true := by simp [tr127, Tr.pre]
noncomputable def ent119 : List PV → Option (Bool × CRes)
  | [.int .i64 x0] => some (true, (fun (x : Bool) => .plain (.bool x)) (F119 x0))
  | _ => none
theorem ok119 : EntSound Tryz.prog 119 ent119 := by
  refine entry tab2_ok exts_ok (fun _ => []) (fn := Tryz.f119) (by kernel_rfl) (by kernel_rfl) (fun args c h => ?_)
  unfold ent119 at h
  split at h <;> first | (cases h; done) | skip
  rename_i x0
  simp only [Option.some.injEq, Prod.mk.injEq] at h
  obtain ⟨hp, rfl⟩ := h
  exact ⟨0, (ev119 x0).trans (Tr.ok _ _ (pre119 x0))⟩

noncomputable def ent120 : List PV → Option (Bool × CRes)
  | [.int .i64 x0] => some (true, (fun (x : Bool) => .plain (.bool x)) (F120 x0))
  | _ => none
theorem ok120 : EntSound Tryz.prog 120 ent120 := by
  refine entry tab2_ok exts_ok (fun _ => []) (fn := Tryz.f120) (by kernel_rfl) (by kernel_rfl) (fun args c h => ?_)
  unfold ent120 at h
  split at h <;> first | (cases h; done) | skip
  rename_i x0
  simp only [Option.some.injEq, Prod.mk.injEq] at h
  obtain ⟨hp, rfl⟩ := h
  exact ⟨0, (ev120 x0).trans (Tr.ok _ _ (pre120 x0))⟩

noncomputable def ent186 : List PV → Option (Bool × CRes)
  | [.int .i64 x0] => some (true, (fun (x : Bool) => .plain (.bool x)) (F186 x0))
  | _ => none
theorem ok186 : EntSound Tryz.prog 186 ent186 := by
  refine entry tab2_ok exts_ok (fun _ => []) (fn := Tryz.f186) (by kernel_rfl) (by kernel_rfl) (fun args c h => ?_)
  unfold ent186 at h
  split at h <;> first | (cases h; done) | skip
  rename_i x0
  simp only [Option.some.injEq, Prod.mk.injEq] at h
  obtain ⟨hp, rfl⟩ := h
  exact ⟨0, (ev186 x0).trans (Tr.ok _ _ (pre186 x0))⟩

noncomputable def ent132 : List PV → Option (Bool × CRes)
  | [.agg [.f32 x0_0, .f32 x0_1, .f32 x0_2]] => some (true, (fun (x : Bool) => .plain (.bool x)) (F132 (⟨x0_0, x0_1, x0_2⟩ : V3)))
  | _ => none
theorem ok132 : EntSound Tryz.prog 132 ent132 := by
  refine entry tab2_ok exts_ok (fun _ => []) (fn := Tryz.f132) (by kernel_rfl) (by kernel_rfl) (fun args c h => ?_)
  unfold ent132 at h
  split at h <;> first | (cases h; done) | skip
  rename_i x0_0 x0_1 x0_2
  simp only [Option.some.injEq, Prod.mk.injEq] at h
  obtain ⟨hp, rfl⟩ := h
  exact ⟨0, (ev132 (⟨x0_0, x0_1, x0_2⟩ : V3)).trans (Tr.ok _ _ (pre132 (⟨x0_0, x0_1, x0_2⟩ : V3)))⟩

noncomputable def ent205 : List PV → Option (Bool × CRes)
  | [.agg [.f32 x0_0, .f32 x0_1], .f32 x1] => some (true, (fun (x : Rg) => .plain (.agg (enc .rg x))) (F205 (⟨x0_0, x0_1⟩ : Rg) x1))
  | _ => none
theorem ok205 : EntSound Tryz.prog 205 ent205 := by
  refine entry tab2_ok exts_ok (fun _ => []) (fn := Tryz.f205) (by kernel_rfl) (by kernel_rfl) (fun args c h => ?_)
  unfold ent205 at h
  split at h <;> first | (cases h; done) | skip
  rename_i x0_0 x0_1 x1
  simp only [Option.some.injEq, Prod.mk.injEq] at h
  obtain ⟨hp, rfl⟩ := h
  exact ⟨0, (ev205 (⟨x0_0, x0_1⟩ : Rg) x1).trans (Tr.ok _ _ (pre205 (⟨x0_0, x0_1⟩ : Rg) x1))⟩

noncomputable def ent206 : List PV → Option (Bool × CRes)
  | [.agg [.f32 x0_0, .f32 x0_1]] => some (true, (fun (x : Rg) => .plain (.agg (enc .rg x))) (F206 (⟨x0_0, x0_1⟩ : Rg)))
  | _ => none
theorem ok206 : EntSound Tryz.prog 206 ent206 := by
  refine entry tab2_ok exts_ok (fun _ => []) (fn := Tryz.f206) (by kernel_rfl) (by kernel_rfl) (fun args c h => ?_)
  unfold ent206 at h
  split at h <;> first | (cases h; done) | skip
  rename_i x0_0 x0_1
  simp only [Option.some.injEq, Prod.mk.injEq] at h
  obtain ⟨hp, rfl⟩ := h
  exact ⟨0, (ev206 (⟨x0_0, x0_1⟩ : Rg)).trans (Tr.ok _ _ (pre206 (⟨x0_0, x0_1⟩ : Rg)))⟩

noncomputable def ent266 : List PV → Option (Bool × CRes)
  | [.f32 x0] => some (true, (fun (x : Nat) => .plain (.f32 x)) (F266 x0))
  | _ => none
theorem ok266 : EntSound Tryz.prog 266 ent266 := by
  refine entry tab2_ok exts_ok (fun _ => []) (fn := Tryz.f266) (by kernel_rfl) (by kernel_rfl) (fun args c h => ?_)
  unfold ent266 at h
  split at h <;> first | (cases h; done) | skip
  rename_i x0
  simp only [Option.some.injEq, Prod.mk.injEq] at h
  obtain ⟨hp, rfl⟩ := h
  exact ⟨0, (ev266 x0).trans (Tr.ok _ _ (pre266 x0))⟩

noncomputable def ent136 : List PV → Option (Bool × CRes)
  | [.ptr .sp x0 0] => some (true, (fun (x : Bool) => .plain (.bool x)) (F136 x0))
  | _ => none
theorem ok136 : EntSound Tryz.prog 136 ent136 := by
  refine entry tab2_ok exts_ok (fun _ => []) (fn := Tryz.f136) (by kernel_rfl) (by kernel_rfl) (fun args c h => ?_)
  unfold ent136 at h
  split at h <;> first | (cases h; done) | skip
  rename_i x0
  simp only [Option.some.injEq, Prod.mk.injEq] at h
  obtain ⟨hp, rfl⟩ := h
  exact ⟨0, (ev136 x0).trans (Tr.ok _ _ (pre136 x0))⟩

noncomputable def ent27 : List PV → Option (Bool × CRes)
  | [.agg [.f32 x0_0, .f32 x0_1, .f32 x0_2, .f32 x0_3, .f32 x0_4, .f32 x0_5]] => some (true, (fun (x : Bx) => .plain (.agg (enc .bx x))) (F27 (⟨⟨x0_0, x0_1, x0_2⟩, ⟨x0_3, x0_4, x0_5⟩⟩ : Bx)))
  | _ => none
theorem ok27 : EntSound Tryz.prog 27 ent27 := by
  refine entry tab2_ok exts_ok (fun _ => []) (fn := Tryz.f27) (by kernel_rfl) (by kernel_rfl) (fun args c h => ?_)
  unfold ent27 at h
  split at h <;> first | (cases h; done) | skip
  rename_i x0_0 x0_1 x0_2 x0_3 x0_4 x0_5
  simp only [Option.some.injEq, Prod.mk.injEq] at h
  obtain ⟨hp, rfl⟩ := h
  exact ⟨0, (ev27 (⟨⟨x0_0, x0_1, x0_2⟩, ⟨x0_3, x0_4, x0_5⟩⟩ : Bx)).trans (Tr.ok _ _ (pre27 (⟨⟨x0_0, x0_1, x0_2⟩, ⟨x0_3, x0_4, x0_5⟩⟩ : Bx)))⟩

noncomputable def ent77 : List PV → Option (Bool × CRes)
  | [.agg [.f32 x0_0, .f32 x0_1], .agg [.f32 x1_0, .f32 x1_1]] => some (true, (fun (x : Bool) => .plain (.bool x)) (F77 (⟨x0_0, x0_1⟩ : Rg) (⟨x1_0, x1_1⟩ : Rg)))
  | _ => none
theorem ok77 : EntSound Tryz.prog 77 ent77 := by
  refine entry tab2_ok exts_ok (fun _ => []) (fn := Tryz.f77) (by kernel_rfl) (by kernel_rfl) (fun args c h => ?_)
  unfold ent77 at h
  split at h <;> first | (cases h; done) | skip
  rename_i x0_0 x0_1 x1_0 x1_1
  simp only [Option.some.injEq, Prod.mk.injEq] at h
  obtain ⟨hp, rfl⟩ := h
  exact ⟨0, (ev77 (⟨x0_0, x0_1⟩ : Rg) (⟨x1_0, x1_1⟩ : Rg)).trans (Tr.ok _ _ (pre77 (⟨x0_0, x0_1⟩ : Rg) (⟨x1_0, x1_1⟩ : Rg)))⟩

noncomputable def ent221 : List PV → Option (Bool × CRes)
  | [.agg [.f32 x0_0, .f32 x0_1]] => some (true, (fun (x : Rg) => .plain (.agg (enc .rg x))) (F221 (⟨x0_0, x0_1⟩ : Rg)))
  | _ => none
theorem ok221 : EntSound Tryz.prog 221 ent221 := by
  refine entry tab2_ok exts_ok (fun _ => []) (fn := Tryz.f221) (by kernel_rfl) (by kernel_rfl) (fun args c h => ?_)
  unfold ent221 at h
  split at h <;> first | (cases h; done) | skip
  rename_i x0_0 x0_1
  simp only [Option.some.injEq, Prod.mk.injEq] at h
  obtain ⟨hp, rfl⟩ := h
  exact ⟨0, (ev221 (⟨x0_0, x0_1⟩ : Rg)).trans (Tr.ok _ _ (pre221 (⟨x0_0, x0_1⟩ : Rg)))⟩

noncomputable def ent218 : List PV → Option (Bool × CRes)
  | [.agg [.f32 x0_0, .f32 x0_1], .f32 x1] => some (true, (fun (x : Rg) => .plain (.agg (enc .rg x))) (F218 (⟨x0_0, x0_1⟩ : Rg) x1))
  | _ => none
theorem ok218 : EntSound Tryz.prog 218 ent218 := by
  refine entry tab2_ok exts_ok (fun _ => []) (fn := Tryz.f218) (by kernel_rfl) (by kernel_rfl) (fun args c h => ?_)
  unfold ent218 at h
  split at h <;> first | (cases h; done) | skip
  rename_i x0_0 x0_1 x1
  simp only [Option.some.injEq, Prod.mk.injEq] at h
  obtain ⟨hp, rfl⟩ := h
  exact ⟨0, (ev218 (⟨x0_0, x0_1⟩ : Rg) x1).trans (Tr.ok _ _ (pre218 (⟨x0_0, x0_1⟩ : Rg) x1))⟩

noncomputable def ent230 : List PV → Option (Bool × CRes)
  | [] => some (true, (fun (x : Nat) => .plain (.f32 x)) (F230 ))
  | _ => none
theorem ok230 : EntSound Tryz.prog 230 ent230 := by
  refine entry tab2_ok exts_ok (fun _ => []) (fn := Tryz.f230) (by kernel_rfl) (by kernel_rfl) (fun args c h => ?_)
  unfold ent230 at h
  split at h <;> first | (cases h; done) | skip
  simp only [Option.some.injEq, Prod.mk.injEq] at h
  obtain ⟨hp, rfl⟩ := h
  exact ⟨0, (ev230 ).trans (Tr.ok _ _ (pre230 ))⟩

noncomputable def ent263 : List PV → Option (Bool × CRes)
  | [.f32 x0] => some (true, (fun (x : Nat) => .plain (.f32 x)) (F263 x0))
  | _ => none
theorem ok263 : EntSound Tryz.prog 263 ent263 := by
  refine entry tab2_ok exts_ok (fun _ => []) (fn := Tryz.f263) (by kernel_rfl) (by kernel_rfl) (fun args c h => ?_)
  unfold ent263 at h
  split at h <;> first | (cases h; done) | skip
  rename_i x0
  simp only [Option.some.injEq, Prod.mk.injEq] at h
  obtain ⟨hp, rfl⟩ := h
  exact ⟨0, (ev263 x0).trans (Tr.ok _ _ (pre263 x0))⟩

noncomputable def ent224 : List PV → Option (Bool × CRes)
  | [.f32 x0, .f32 x1] => some (true, (fun (x : Nat) => .plain (.f32 x)) (F224 x0 x1))
  | _ => none
theorem ok224 : EntSound Tryz.prog 224 ent224 := by
  refine entry tab2_ok exts_ok (fun _ => []) (fn := Tryz.f224) (by kernel_rfl) (by kernel_rfl) (fun args c h => ?_)
  unfold ent224 at h
  split at h <;> first | (cases h; done) | skip
  rename_i x0 x1
  simp only [Option.some.injEq, Prod.mk.injEq] at h
  obtain ⟨hp, rfl⟩ := h
  exact ⟨0, (ev224 x0 x1).trans (Tr.ok _ _ (pre224 x0 x1))⟩

noncomputable def ent269 : List PV → Option (Bool × CRes)
  | [.f32 x0] => some (true, (fun (x : Nat) => .plain (.f32 x)) (F269 x0))
  | _ => none
theorem ok269 : EntSound Tryz.prog 269 ent269 := by
  refine entry tab2_ok exts_ok (fun _ => []) (fn := Tryz.f269) (by kernel_rfl) (by kernel_rfl) (fun args c h => ?_)
  unfold ent269 at h
  split at h <;> first | (cases h; done) | skip
  rename_i x0
  simp only [Option.some.injEq, Prod.mk.injEq] at h
  obtain ⟨hp, rfl⟩ := h
  exact ⟨0, (ev269 x0).trans (Tr.ok _ _ (pre269 x0))⟩

noncomputable def ent117 : List PV → Option (Bool × CRes)
  | [.agg [.int .i64 x0_0, .int .i64 x0_1, .int .i64 x0_2, .slice .f32 x0_3], .int .i64 x1] => some (true, (fun (x : Int) => .plain (.int .i64 x)) (F117 (⟨x0_0, x0_1, x0_2, x0_3⟩ : Nd) x1))
  | _ => none
theorem ok117 : EntSound Tryz.prog 117 ent117 := by
  refine entry tab2_ok exts_ok (fun _ => []) (fn := Tryz.f117) (by kernel_rfl) (by kernel_rfl) (fun args c h => ?_)
  unfold ent117 at h
  split at h <;> first | (cases h; done) | skip
  rename_i x0_0 x0_1 x0_2 x0_3 x1
  simp only [Option.some.injEq, Prod.mk.injEq] at h
  obtain ⟨hp, rfl⟩ := h
  exact ⟨0, (ev117 (⟨x0_0, x0_1, x0_2, x0_3⟩ : Nd) x1).trans (Tr.ok _ _ (pre117 (⟨x0_0, x0_1, x0_2, x0_3⟩ : Nd) x1))⟩

noncomputable def ent254 : List PV → Option (Bool × CRes)
  | [.f32 x0] => some (true, (fun (x : Bool) => .plain (.bool x)) (F254 x0))
  | _ => none
theorem ok254 : EntSound Tryz.prog 254 ent254 := by
  refine entry tab2_ok exts_ok (fun _ => []) (fn := Tryz.f254) (by kernel_rfl) (by kernel_rfl) (fun args c h => ?_)
  unfold ent254 at h
  split at h <;> first | (cases h; done) | skip
  rename_i x0
  simp only [Option.some.injEq, Prod.mk.injEq] at h
  obtain ⟨hp, rfl⟩ := h
  exact ⟨0, (ev254 x0).trans (Tr.ok _ _ (pre254 x0))⟩

noncomputable def ent97 : List PV → Option (Bool × CRes)
  | [.ptr .nd x0 0] => some (true, (fun (x : List Int) => .own 2 ET.i64 x (Ctx.hole)) (F97 x0))
  | _ => none
theorem ok97 : EntSound Tryz.prog 97 ent97 := by
  refine entry tab2_ok exts_ok (fun _ => []) (fn := Tryz.f97) (by kernel_rfl) (by kernel_rfl) (fun args c h => ?_)
  unfold ent97 at h
  split at h <;> first | (cases h; done) | skip
  rename_i x0
  simp only [Option.some.injEq, Prod.mk.injEq] at h
  obtain ⟨hp, rfl⟩ := h
  exact ⟨0, (ev97 x0).trans (Tr.ok _ _ (pre97 x0))⟩

noncomputable def ent125 : List PV → Option (Bool × CRes)
  | [.ptr .nd x0 0] => some (true, (fun (x : Bool) => .plain (.bool x)) (F125 x0))
  | _ => none
theorem ok125 : EntSound Tryz.prog 125 ent125 := by
  refine entry tab2_ok exts_ok (fun _ => []) (fn := Tryz.f125) (by kernel_rfl) (by kernel_rfl) (fun args c h => ?_)
  unfold ent125 at h
  split at h <;> first | (cases h; done) | skip
  rename_i x0
  simp only [Option.some.injEq, Prod.mk.injEq] at h
  obtain ⟨hp, rfl⟩ := h
  exact ⟨0, (ev125 x0).trans (Tr.ok _ _ (pre125 x0))⟩

noncomputable def ent127 : List PV → Option (Bool × CRes)
  | [.int .i64 x0] => some (true, (fun (x : Bool) => .plain (.bool x)) (F127 x0))
  | _ => none
theorem ok127 : EntSound Tryz.prog 127 ent127 := by
  refine entry tab2_ok exts_ok (fun _ => []) (fn := Tryz.f127) (by kernel_rfl) (by kernel_rfl) (fun args c h => ?_)
  unfold ent127 at h
  split at h <;> first | (cases h; done) | skip
  rename_i x0
  simp only [Option.some.injEq, Prod.mk.injEq] at h
  obtain ⟨hp, rfl⟩ := h
  exact ⟨0, (ev127 x0).trans (Tr.ok _ _ (pre127 x0))⟩

noncomputable def tab3 : Tab := ((127, ent127) :: ((125, ent125) :: ((97, ent97) :: ((254, ent254) :: ((117, ent117) :: ((269, ent269) :: ((224, ent224) :: ((263, ent263) :: ((230, ent230) :: ((218, ent218) :: ((221, ent221) :: ((77, ent77) :: ((27, ent27) :: ((136, ent136) :: ((266, ent266) :: ((206, ent206) :: ((205, ent205) :: ((132, ent132) :: ((186, ent186) :: ((120, ent120) :: ((119, ent119) :: tab2)))))))))))))))))))))
theorem tab3_ok : TSound Tryz.prog (tabT tab3) := (tab_cons (tab_cons (tab_cons (tab_cons (tab_cons (tab_cons (tab_cons (tab_cons (tab_cons (tab_cons (tab_cons (tab_cons (tab_cons (tab_cons (tab_cons (tab_cons (tab_cons (tab_cons (tab_cons (tab_cons (tab_cons tab2_ok ok119) ok120) ok186) ok132) ok205) ok206) ok266) ok136) ok27) ok77) ok221) ok218) ok230) ok263) ok224) ok269) ok117) ok254) ok97) ok125) ok127)

end Go.Proofs.YtponnbnebjhepaaGreat

namespace Go.Proofs.YtponnbnebjhepaaGreat
open Go Go.Ev
set_option maxRecDepth 100000

/- spec.l04Is -/
noncomputable def tr73 (x0 : Bx) : Tr (Bool) :=
  (.cond (F132 x0.lo)
   (.cond (F132 x0.hi)
    (.cond (fcmp BinOp.leq FloatKind.f32 x0.lo.x x0.hi.x)
     (.cond (fcmp BinOp.leq FloatKind.f32 x0.lo.y x0.hi.y)
      (.leaf (fcmp BinOp.leq FloatKind.f32 x0.lo.z x0.hi.z))
      (.leaf (false)))
     (.leaf (false)))
    (.leaf (false)))
   (.leaf (false)))
theorem ev73 (x0 : Bx) : evalF (env tab3 exts (fun _ => [])) 0 Tryz.f73 [.ptr .bx x0 0] = (tr73 x0).toOpt (fun x => .plain (.bool x)) := by kernel_rfl
noncomputable def F73 (x0 : Bx) : Bool := (tr73 x0).val
theorem pre73 (x0 : Bx) : (tr73 x0).pre = true := by simp [tr73, Tr.pre]
/- spec.l04Near -/
noncomputable def tr211 (x0 : Rg) (x1 : Rg) : Tr (Rg) :=
  (.leaf (⟨((F206 (F199 x0 x1)).lo), ((F206 (F199 x0 x1)).hi)⟩ : Rg))
theorem ev211 (x0 : Rg) (x1 : Rg) : evalF (env tab3 exts (fun _ => [])) 0 Tryz.f211 [.agg (enc .rg x0), .agg (enc .rg x1)] = (tr211 x0 x1).toOpt (fun x => .plain (.agg (enc .rg x))) := by kernel_rfl
noncomputable def F211 (x0 : Rg) (x1 : Rg) : Rg := (tr211 x0 x1).val
theorem pre211 (x0 : Rg) (x1 : Rg) : (tr211 x0 x1).pre = true := by simp [tr211, Tr.pre]
/- spec.l04Fold -/
noncomputable def tr207 (x0 : Rg) (x1 : Nat) : Tr (Rg) :=
  (.cond (narrowOk FloatKind.f64 (fint Ieee.Toward.even (f2f FloatKind.f32 (fop BinOp.quo FloatKind.f32 x0.lo (fop BinOp.mul FloatKind.f32 1073741824 x1)) FloatKind.f64)) FloatKind.f32)
   (.cond (narrowOk FloatKind.f64 (fint Ieee.Toward.even (f2f FloatKind.f32 (fop BinOp.quo FloatKind.f32 x0.hi (fop BinOp.mul FloatKind.f32 1073741824 x1)) FloatKind.f64)) FloatKind.f32)
    (.cond (fcmp BinOp.eql FloatKind.f32 (f2f FloatKind.f64 (fint Ieee.Toward.even (f2f FloatKind.f32 (fop BinOp.quo FloatKind.f32 x0.lo (fop BinOp.mul FloatKind.f32 1073741824 x1)) FloatKind.f64)) FloatKind.f32) (f2f FloatKind.f64 (fint Ieee.Toward.even (f2f FloatKind.f32 (fop BinOp.quo FloatKind.f32 x0.hi (fop BinOp.mul FloatKind.f32 1073741824 x1)) FloatKind.f64)) FloatKind.f32))
     (.leaf (⟨((F206 (F199 x0 (F200 (fop BinOp.mul FloatKind.f32 (fop BinOp.mul FloatKind.f32 1073741824 x1) (f2f FloatKind.f64 (fint Ieee.Toward.even (f2f FloatKind.f32 (fop BinOp.quo FloatKind.f32 x0.lo (fop BinOp.mul FloatKind.f32 1073741824 x1)) FloatKind.f64)) FloatKind.f32))))).lo), ((F206 (F199 x0 (F200 (fop BinOp.mul FloatKind.f32 (fop BinOp.mul FloatKind.f32 1073741824 x1) (f2f FloatKind.f64 (fint Ieee.Toward.even (f2f FloatKind.f32 (fop BinOp.quo FloatKind.f32 x0.lo (fop BinOp.mul FloatKind.f32 1073741824 x1)) FloatKind.f64)) FloatKind.f32))))).hi)⟩ : Rg))
     (.cond (fcmp BinOp.geq FloatKind.f32 (f2f FloatKind.f64 (fint Ieee.Toward.even (f2f FloatKind.f32 (fop BinOp.quo FloatKind.f32 x0.lo (fop BinOp.mul FloatKind.f32 1073741824 x1)) FloatKind.f64)) FloatKind.f32) 3397386240)
      (.cond (fcmp BinOp.leq FloatKind.f32 (f2f FloatKind.f64 (fint Ieee.Toward.even (f2f FloatKind.f32 (fop BinOp.quo FloatKind.f32 x0.lo (fop BinOp.mul FloatKind.f32 1073741824 x1)) FloatKind.f64)) FloatKind.f32) 1249902592)
       (.cond (fcmp BinOp.geq FloatKind.f32 (f2f FloatKind.f64 (fint Ieee.Toward.even (f2f FloatKind.f32 (fop BinOp.quo FloatKind.f32 x0.hi (fop BinOp.mul FloatKind.f32 1073741824 x1)) FloatKind.f64)) FloatKind.f32) 3397386240)
        (.cond (fcmp BinOp.leq FloatKind.f32 (f2f FloatKind.f64 (fint Ieee.Toward.even (f2f FloatKind.f32 (fop BinOp.quo FloatKind.f32 x0.hi (fop BinOp.mul FloatKind.f32 1073741824 x1)) FloatKind.f64)) FloatKind.f32) 1249902592)
         (.cond (F121 (fop BinOp.mul FloatKind.f32 (fop BinOp.mul FloatKind.f32 1073741824 x1) (f2f FloatKind.f64 (fint Ieee.Toward.even (f2f FloatKind.f32 (fop BinOp.quo FloatKind.f32 x0.lo (fop BinOp.mul FloatKind.f32 1073741824 x1)) FloatKind.f64)) FloatKind.f32)))
          (.cond (F121 (fop BinOp.mul FloatKind.f32 (fop BinOp.mul FloatKind.f32 1073741824 x1) (f2f FloatKind.f64 (fint Ieee.Toward.even (f2f FloatKind.f32 (fop BinOp.quo FloatKind.f32 x0.hi (fop BinOp.mul FloatKind.f32 1073741824 x1)) FloatKind.f64)) FloatKind.f32)))
           (.leaf (⟨(0), (fop BinOp.mul FloatKind.f32 1082130432 x1)⟩ : Rg))
           (.cond (narrowOk FloatKind.f64 (F137 1) FloatKind.f32)
            (.leaf (⟨(0), (f2f FloatKind.f64 (F137 1) FloatKind.f32)⟩ : Rg))
            .non))
          (.cond (narrowOk FloatKind.f64 (F137 1) FloatKind.f32)
           (.leaf (⟨(0), (f2f FloatKind.f64 (F137 1) FloatKind.f32)⟩ : Rg))
           .non))
         (.cond (narrowOk FloatKind.f64 (F137 1) FloatKind.f32)
          (.leaf (⟨(0), (f2f FloatKind.f64 (F137 1) FloatKind.f32)⟩ : Rg))
          .non))
        (.cond (narrowOk FloatKind.f64 (F137 1) FloatKind.f32)
         (.leaf (⟨(0), (f2f FloatKind.f64 (F137 1) FloatKind.f32)⟩ : Rg))
         .non))
       (.cond (narrowOk FloatKind.f64 (F137 1) FloatKind.f32)
        (.leaf (⟨(0), (f2f FloatKind.f64 (F137 1) FloatKind.f32)⟩ : Rg))
        .non))
      (.cond (narrowOk FloatKind.f64 (F137 1) FloatKind.f32)
       (.leaf (⟨(0), (f2f FloatKind.f64 (F137 1) FloatKind.f32)⟩ : Rg))
       .non)))
    .non)
   .non)
theorem ev207 (x0 : Rg) (x1 : Nat) : evalF (env tab3 exts (fun _ => [])) 0 Tryz.f207 [.agg (enc .rg x0), .f32 x1] = (tr207 x0 x1).toOpt (fun x => .plain (.agg (enc .rg x))) := by kernel_rfl
noncomputable def F207 (x0 : Rg) (x1 : Nat) : Rg := (tr207 x0 x1).val
theorem pre207 (x0 : Rg) (x1 : Nat) : (tr207 x0 x1).pre = true := by first | (simp only [tr207, Tr.pre, cond_true, cond_false, F230,tr230,F137,tr137,Tr.val,narrow_inf,narrow_even,pre263]; done) | (simp [tr207, Tr.pre, F230,tr230,F137,tr137,Tr.val,narrow_inf,narrow_even,pre263]; done) | (unfold tr207; simp only [Tr.pre]; repeat' (first | rfl | (simp only [F230,tr230,F137,tr137,Tr.val,narrow_inf,narrow_even,pre263, cond_true, cond_false]; done) | (generalize (F143 _) = b; cases b <;> simp only [cond_true, cond_false, Bool.not_true, Bool.not_false]) | split))
/- spec.l01Long -/
noncomputable def tr238 (x0 : V3) : Tr (Nat) :=
  (.leaf (F266 (F155 x0 x0)))
theorem ev238 (x0 : V3) : evalF (env tab3 exts (fun _ => [])) 0 Tryz.f238 [.agg (enc .v3 x0)] = (tr238 x0).toOpt (fun x => .plain (.f32 x)) := by kernel_rfl
noncomputable def F238 (x0 : V3) : Nat := (tr238 x0).val
theorem pre238 (x0 : V3) : (tr238 x0).pre = true := by simp [tr238, Tr.pre]
/- impl.anywhere -/
noncomputable def tr144  : Tr (Rg) :=
  (.leaf (⟨(fneg FloatKind.f32 F230), (F230)⟩ : Rg))
theorem ev144  : evalF (env tab3 exts (fun _ => [])) 0 Tryz.f144 [] = (tr144 ).toOpt (fun x => .plain (.agg (enc .rg x))) := by kernel_rfl
noncomputable def F144  : Rg := (tr144 ).val
theorem pre144  : (tr144 ).pre = true := by simp [tr144, Tr.pre]
/- impl.foldOf -/
noncomputable def tr256 (x0 : Nat) (x1 : Nat) : Tr (Nat) :=
  (.leaf (fop BinOp.mul FloatKind.f32 (fop BinOp.mul FloatKind.f32 1073741824 x1) (F263 (fop BinOp.quo FloatKind.f32 x0 (fop BinOp.mul FloatKind.f32 1073741824 x1)))))
theorem ev256 (x0 : Nat) (x1 : Nat) : evalF (env tab3 exts (fun _ => [])) 0 Tryz.f256 [.f32 x0, .f32 x1] = (tr256 x0 x1).toOpt (fun x => .plain (.f32 x)) := by kernel_rfl
noncomputable def F256 (x0 : Nat) (x1 : Nat) : Nat := (tr256 x0 x1).val
theorem pre256 (x0 : Nat) (x1 : Nat) : (tr256 x0 x1).pre = true := by simp [tr256, Tr.pre]
/- impl.LongOf -/
noncomputable def tr248 (x0 : V3) : Tr (Nat) :=
  (.leaf (F269 (F166 x0 x0)))
theorem ev248 (x0 : V3) : evalF (env tab3 exts (fun _ => [])) 0 Tryz.f248 [.agg (enc .v3 x0)] = (tr248 x0).toOpt (fun x => .plain (.f32 x)) := by kernel_rfl
noncomputable def F248 (x0 : V3) : Nat := (tr248 x0).val
theorem pre248 (x0 : V3) : (tr248 x0).pre = true := by simp [tr248, Tr.pre]
/- impl.apart -/
noncomputable def tr176 (x0 : Rg) (x1 : Rg) : Tr (Rg) :=
  (.leaf (⟨((F221 (F220 x0 x1)).lo), ((F221 (F220 x0 x1)).hi)⟩ : Rg))
theorem ev176 (x0 : Rg) (x1 : Rg) : evalF (env tab3 exts (fun _ => [])) 0 Tryz.f176 [.agg (enc .rg x0), .agg (enc .rg x1)] = (tr176 x0 x1).toOpt (fun x => .plain (.agg (enc .rg x))) := by kernel_rfl
noncomputable def F176 (x0 : Rg) (x1 : Rg) : Rg := (tr176 x0 x1).val
theorem pre176 (x0 : Rg) (x1 : Rg) : (tr176 x0 x1).pre = true := by simp [tr176, Tr.pre]
noncomputable def ent73 : List PV → Option (Bool × CRes)
  | [.ptr .bx x0 0] => some (true, (fun (x : Bool) => .plain (.bool x)) (F73 x0))
  | _ => none
theorem ok73 : EntSound Tryz.prog 73 ent73 := by
  refine entry tab3_ok exts_ok (fun _ => []) (fn := Tryz.f73) (by kernel_rfl) (by kernel_rfl) (fun args c h => ?_)
  unfold ent73 at h
  split at h <;> first | (cases h; done) | skip
  rename_i x0
  simp only [Option.some.injEq, Prod.mk.injEq] at h
  obtain ⟨hp, rfl⟩ := h
  exact ⟨0, (ev73 x0).trans (Tr.ok _ _ (pre73 x0))⟩

noncomputable def ent211 : List PV → Option (Bool × CRes)
  | [.agg [.f32 x0_0, .f32 x0_1], .agg [.f32 x1_0, .f32 x1_1]] => some (true, (fun (x : Rg) => .plain (.agg (enc .rg x))) (F211 (⟨x0_0, x0_1⟩ : Rg) (⟨x1_0, x1_1⟩ : Rg)))
  | _ => none
theorem ok211 : EntSound Tryz.prog 211 ent211 := by
  refine entry tab3_ok exts_ok (fun _ => []) (fn := Tryz.f211) (by kernel_rfl) (by kernel_rfl) (fun args c h => ?_)
  unfold ent211 at h
  split at h <;> first | (cases h; done) | skip
  rename_i x0_0 x0_1 x1_0 x1_1
  simp only [Option.some.injEq, Prod.mk.injEq] at h
  obtain ⟨hp, rfl⟩ := h
  exact ⟨0, (ev211 (⟨x0_0, x0_1⟩ : Rg) (⟨x1_0, x1_1⟩ : Rg)).trans (Tr.ok _ _ (pre211 (⟨x0_0, x0_1⟩ : Rg) (⟨x1_0, x1_1⟩ : Rg)))⟩

noncomputable def ent207 : List PV → Option (Bool × CRes)
  | [.agg [.f32 x0_0, .f32 x0_1], .f32 x1] => some (true, (fun (x : Rg) => .plain (.agg (enc .rg x))) (F207 (⟨x0_0, x0_1⟩ : Rg) x1))
  | _ => none
theorem ok207 : EntSound Tryz.prog 207 ent207 := by
  refine entry tab3_ok exts_ok (fun _ => []) (fn := Tryz.f207) (by kernel_rfl) (by kernel_rfl) (fun args c h => ?_)
  unfold ent207 at h
  split at h <;> first | (cases h; done) | skip
  rename_i x0_0 x0_1 x1
  simp only [Option.some.injEq, Prod.mk.injEq] at h
  obtain ⟨hp, rfl⟩ := h
  exact ⟨0, (ev207 (⟨x0_0, x0_1⟩ : Rg) x1).trans (Tr.ok _ _ (pre207 (⟨x0_0, x0_1⟩ : Rg) x1))⟩

noncomputable def ent238 : List PV → Option (Bool × CRes)
  | [.agg [.f32 x0_0, .f32 x0_1, .f32 x0_2]] => some (true, (fun (x : Nat) => .plain (.f32 x)) (F238 (⟨x0_0, x0_1, x0_2⟩ : V3)))
  | _ => none
theorem ok238 : EntSound Tryz.prog 238 ent238 := by
  refine entry tab3_ok exts_ok (fun _ => []) (fn := Tryz.f238) (by kernel_rfl) (by kernel_rfl) (fun args c h => ?_)
  unfold ent238 at h
  split at h <;> first | (cases h; done) | skip
  rename_i x0_0 x0_1 x0_2
  simp only [Option.some.injEq, Prod.mk.injEq] at h
  obtain ⟨hp, rfl⟩ := h
  exact ⟨0, (ev238 (⟨x0_0, x0_1, x0_2⟩ : V3)).trans (Tr.ok _ _ (pre238 (⟨x0_0, x0_1, x0_2⟩ : V3)))⟩

noncomputable def ent144 : List PV → Option (Bool × CRes)
  | [] => some (true, (fun (x : Rg) => .plain (.agg (enc .rg x))) (F144 ))
  | _ => none
theorem ok144 : EntSound Tryz.prog 144 ent144 := by
  refine entry tab3_ok exts_ok (fun _ => []) (fn := Tryz.f144) (by kernel_rfl) (by kernel_rfl) (fun args c h => ?_)
  unfold ent144 at h
  split at h <;> first | (cases h; done) | skip
  simp only [Option.some.injEq, Prod.mk.injEq] at h
  obtain ⟨hp, rfl⟩ := h
  exact ⟨0, (ev144 ).trans (Tr.ok _ _ (pre144 ))⟩

noncomputable def ent256 : List PV → Option (Bool × CRes)
  | [.f32 x0, .f32 x1] => some (true, (fun (x : Nat) => .plain (.f32 x)) (F256 x0 x1))
  | _ => none
theorem ok256 : EntSound Tryz.prog 256 ent256 := by
  refine entry tab3_ok exts_ok (fun _ => []) (fn := Tryz.f256) (by kernel_rfl) (by kernel_rfl) (fun args c h => ?_)
  unfold ent256 at h
  split at h <;> first | (cases h; done) | skip
  rename_i x0 x1
  simp only [Option.some.injEq, Prod.mk.injEq] at h
  obtain ⟨hp, rfl⟩ := h
  exact ⟨0, (ev256 x0 x1).trans (Tr.ok _ _ (pre256 x0 x1))⟩

noncomputable def ent248 : List PV → Option (Bool × CRes)
  | [.agg [.f32 x0_0, .f32 x0_1, .f32 x0_2]] => some (true, (fun (x : Nat) => .plain (.f32 x)) (F248 (⟨x0_0, x0_1, x0_2⟩ : V3)))
  | _ => none
theorem ok248 : EntSound Tryz.prog 248 ent248 := by
  refine entry tab3_ok exts_ok (fun _ => []) (fn := Tryz.f248) (by kernel_rfl) (by kernel_rfl) (fun args c h => ?_)
  unfold ent248 at h
  split at h <;> first | (cases h; done) | skip
  rename_i x0_0 x0_1 x0_2
  simp only [Option.some.injEq, Prod.mk.injEq] at h
  obtain ⟨hp, rfl⟩ := h
  exact ⟨0, (ev248 (⟨x0_0, x0_1, x0_2⟩ : V3)).trans (Tr.ok _ _ (pre248 (⟨x0_0, x0_1, x0_2⟩ : V3)))⟩

noncomputable def ent176 : List PV → Option (Bool × CRes)
  | [.agg [.f32 x0_0, .f32 x0_1], .agg [.f32 x1_0, .f32 x1_1]] => some (true, (fun (x : Rg) => .plain (.agg (enc .rg x))) (F176 (⟨x0_0, x0_1⟩ : Rg) (⟨x1_0, x1_1⟩ : Rg)))
  | _ => none
theorem ok176 : EntSound Tryz.prog 176 ent176 := by
  refine entry tab3_ok exts_ok (fun _ => []) (fn := Tryz.f176) (by kernel_rfl) (by kernel_rfl) (fun args c h => ?_)
  unfold ent176 at h
  split at h <;> first | (cases h; done) | skip
  rename_i x0_0 x0_1 x1_0 x1_1
  simp only [Option.some.injEq, Prod.mk.injEq] at h
  obtain ⟨hp, rfl⟩ := h
  exact ⟨0, (ev176 (⟨x0_0, x0_1⟩ : Rg) (⟨x1_0, x1_1⟩ : Rg)).trans (Tr.ok _ _ (pre176 (⟨x0_0, x0_1⟩ : Rg) (⟨x1_0, x1_1⟩ : Rg)))⟩

noncomputable def tab4 : Tab := ((176, ent176) :: ((248, ent248) :: ((256, ent256) :: ((144, ent144) :: ((238, ent238) :: ((207, ent207) :: ((211, ent211) :: ((73, ent73) :: tab3))))))))
theorem tab4_ok : TSound Tryz.prog (tabT tab4) := (tab_cons (tab_cons (tab_cons (tab_cons (tab_cons (tab_cons (tab_cons (tab_cons tab3_ok ok73) ok211) ok207) ok238) ok144) ok256) ok248) ok176)

end Go.Proofs.YtponnbnebjhepaaGreat

namespace Go.Proofs.YtponnbnebjhepaaGreat
open Go Go.Ev
set_option maxRecDepth 100000

/- impl.bulge -/
noncomputable def tr229 (x0 : Nat) (x1 : Nat) : Tr (Nat) :=
  (.cond (fcmp BinOp.gtr FloatKind.f32 x0 0)
   (.leaf (fop BinOp.quo FloatKind.f32 (fop BinOp.mul FloatKind.f32 x0 x0) (fop BinOp.mul FloatKind.f32 1082130432 x1)))
   (.leaf (0)))
theorem ev229 (x0 : Nat) (x1 : Nat) : evalF (env tab4 exts (fun _ => [])) 0 Tryz.f229 [.f32 x0, .f32 x1] = (tr229 x0 x1).toOpt (fun x => .plain (.f32 x)) := by kernel_rfl
noncomputable def F229 (x0 : Nat) (x1 : Nat) : Nat := (tr229 x0 x1).val
theorem pre229 (x0 : Nat) (x1 : Nat) : (tr229 x0 x1).pre = true := by simp [tr229, Tr.pre]
/- (*impl.Node).leafRange$1 -/
noncomputable def tr223 (x0 : Nat) (c0 : List Nat) : Tr (Nat) :=
  (.cond (decide (0 ≤ 0) && decide (0 < (↑c0.length : Int)))
   (.leaf (F224 x0 (c0.getD (Int.toNat 0) 0)))
   .non)
theorem ev223 (x0 : Nat) (c0 : List Nat) : evalF (env tab4 exts (fun _ => [])) 0 Tryz.f223 [.f32 x0, .ptr .slf32 c0 0] = (tr223 x0 c0).toOpt (fun x => .plain (.f32 x)) := by kernel_rfl
noncomputable def F223 (x0 : Nat) (c0 : List Nat) : Nat := (tr223 x0 c0).val
/- (*impl.Node).place$1 -/
noncomputable def tr216 (x0 : Nat) (c0 : Nat) : Tr (Nat) :=
  (.leaf (fop BinOp.quo FloatKind.f32 x0 c0))
theorem ev216 (x0 : Nat) (c0 : Nat) : evalF (env tab4 exts (fun _ => [])) 0 Tryz.f216 [.f32 x0, .ptr .f32 c0 0] = (tr216 x0 c0).toOpt (fun x => .plain (.f32 x)) := by kernel_rfl
noncomputable def F216 (x0 : Nat) (c0 : Nat) : Nat := (tr216 x0 c0).val
theorem pre216 (x0 : Nat) (c0 : Nat) : (tr216 x0 c0).pre = true := by simp [tr216, Tr.pre]
/- impl.LongRange -/
noncomputable def tr225 (x0 : Rg) (x1 : Rg) (x2 : Rg) : Tr (Rg) :=
  (.leaf (⟨(F248 { x := (F221 x0).lo, y := (F221 x1).lo, z := (F221 x2).lo : V3 }), (F248 { x := (F221 x0).hi, y := (F221 x1).hi, z := (F221 x2).hi : V3 })⟩ : Rg))
theorem ev225 (x0 : Rg) (x1 : Rg) (x2 : Rg) : evalF (env tab4 exts (fun _ => [])) 0 Tryz.f225 [.agg (enc .rg x0), .agg (enc .rg x1), .agg (enc .rg x2)] = (tr225 x0 x1 x2).toOpt (fun x => .plain (.agg (enc .rg x))) := by kernel_rfl
noncomputable def F225 (x0 : Rg) (x1 : Rg) (x2 : Rg) : Rg := (tr225 x0 x1 x2).val
theorem pre225 (x0 : Rg) (x1 : Rg) (x2 : Rg) : (tr225 x0 x1 x2).pre = true := by simp [tr225, Tr.pre]
/- spec.l02Ends -/
noncomputable def tr188 (x0 : Nd) (x1 : V3) : Tr (Nat) :=
  (.cond (x0.k == 0)
   (.cond (decide (0 ≤ 0) && decide (0 < (↑x0.v.length : Int)))
    (.leaf (fop BinOp.sub FloatKind.f32 (F238 x1) (x0.v.getD (Int.toNat 0) 0)))
    .non)
   (.cond (x0.k == 1)
    (.cond (decide (0 ≤ 0) && decide (0 < (↑x0.v.length : Int)))
     (.cond (decide (0 ≤ 1) && decide (1 < (↑x0.v.length : Int)))
      (.cond (decide (0 ≤ 2) && decide (2 < (↑x0.v.length : Int)))
       (.leaf (fop BinOp.add FloatKind.f32 (F238 { x := F209 0 (fop BinOp.sub FloatKind.f32 (F62 x1.x) (x0.v.getD (Int.toNat 0) 0)), y := F209 0 (fop BinOp.sub FloatKind.f32 (F62 x1.y) (x0.v.getD (Int.toNat 1) 0)), z := F209 0 (fop BinOp.sub FloatKind.f32 (F62 x1.z) (x0.v.getD (Int.toNat 2) 0)) : V3 }) (F208 0 (F209 (F209 (fop BinOp.sub FloatKind.f32 (F62 x1.x) (x0.v.getD (Int.toNat 0) 0)) (fop BinOp.sub FloatKind.f32 (F62 x1.y) (x0.v.getD (Int.toNat 1) 0))) (fop BinOp.sub FloatKind.f32 (F62 x1.z) (x0.v.getD (Int.toNat 2) 0))))))
       .non)
      .non)
     .non)
    (.cond (x0.k == 2)
     (.cond (decide (0 ≤ 0) && decide (0 < (↑x0.v.length : Int)))
      (.cond (decide (0 ≤ 1) && decide (1 < (↑x0.v.length : Int)))
       (.leaf (fop BinOp.sub FloatKind.f32 (F238 { x := x1.x, y := fop BinOp.sub FloatKind.f32 x1.y (F208 (F209 0 x1.y) (x0.v.getD (Int.toNat 0) 0)), z := x1.z : V3 }) (x0.v.getD (Int.toNat 1) 0)))
       .non)
      .non)
     (.cond (x0.k == 3)
      (.cond (decide (0 ≤ 0) && decide (0 < (↑x0.v.length : Int)))
       (.cond (decide (0 ≤ 1) && decide (1 < (↑x0.v.length : Int)))
        (.leaf (fop BinOp.sub FloatKind.f32 (F238 { x := fop BinOp.sub FloatKind.f32 (F238 { x := x1.x, y := 0, z := x1.z : V3 }) (x0.v.getD (Int.toNat 0) 0), y := x1.y, z := 0 : V3 }) (x0.v.getD (Int.toNat 1) 0)))
        .non)
       .non)
      (.cond (decide (0 ≤ 0) && decide (0 < (↑x0.v.length : Int)))
       (.cond (decide (0 ≤ 1) && decide (1 < (↑x0.v.length : Int)))
        (.cond (decide (0 ≤ 2) && decide (2 < (↑x0.v.length : Int)))
         (.cond (decide (0 ≤ 3) && decide (3 < (↑x0.v.length : Int)))
          (.leaf (fop BinOp.sub FloatKind.f32 (F155 x1 { x := x0.v.getD (Int.toNat 0) 0, y := x0.v.getD (Int.toNat 1) 0, z := x0.v.getD (Int.toNat 2) 0 : V3 }) (x0.v.getD (Int.toNat 3) 0)))
          .non)
         .non)
        .non)
       .non)))))
theorem ev188 (x0 : Nd) (x1 : V3) : evalF (env tab4 exts (fun _ => [])) 0 Tryz.f188 [.ptr .nd x0 0, .agg (enc .v3 x1)] = (tr188 x0 x1).toOpt (fun x => .plain (.f32 x)) := by kernel_rfl
noncomputable def F188 (x0 : Nd) (x1 : V3) : Nat := (tr188 x0 x1).val
/- spec.l04Long -/
noncomputable def tr210 (x0 : Rg) (x1 : Rg) (x2 : Rg) : Tr (Rg) :=
  (.leaf (⟨(F238 { x := (F206 x0).lo, y := (F206 x1).lo, z := (F206 x2).lo : V3 }), (F238 { x := (F206 x0).hi, y := (F206 x1).hi, z := (F206 x2).hi : V3 })⟩ : Rg))
theorem ev210 (x0 : Rg) (x1 : Rg) (x2 : Rg) : evalF (env tab4 exts (fun _ => [])) 0 Tryz.f210 [.agg (enc .rg x0), .agg (enc .rg x1), .agg (enc .rg x2)] = (tr210 x0 x1 x2).toOpt (fun x => .plain (.agg (enc .rg x))) := by kernel_rfl
noncomputable def F210 (x0 : Rg) (x1 : Rg) (x2 : Rg) : Rg := (tr210 x0 x1 x2).val
theorem pre210 (x0 : Rg) (x1 : Rg) (x2 : Rg) : (tr210 x0 x1 x2).pre = true := by simp [tr210, Tr.pre]
/- (*impl.Node).leaf -/
noncomputable def tr195 (x0 : Nd) (x1 : V3) : Tr (Nat) :=
  (.cond (x0.k == 0)
   (.cond (decide (0 ≤ 0) && decide (0 < (↑x0.v.length : Int)))
    (.leaf (fop BinOp.sub FloatKind.f32 (F248 x1) (x0.v.getD (Int.toNat 0) 0)))
    .non)
   (.cond (x0.k == 1)
    (.cond (decide (0 ≤ 0) && decide (0 < (↑x0.v.length : Int)))
     (.cond (decide (0 ≤ 1) && decide (1 < (↑x0.v.length : Int)))
      (.cond (decide (0 ≤ 2) && decide (2 < (↑x0.v.length : Int)))
       (.leaf (fop BinOp.add FloatKind.f32 (F248 { x := F227 0 (fop BinOp.sub FloatKind.f32 (F68 x1.x) (x0.v.getD (Int.toNat 0) 0)), y := F227 0 (fop BinOp.sub FloatKind.f32 (F68 x1.y) (x0.v.getD (Int.toNat 1) 0)), z := F227 0 (fop BinOp.sub FloatKind.f32 (F68 x1.z) (x0.v.getD (Int.toNat 2) 0)) : V3 }) (F226 0 (F227 (F227 (fop BinOp.sub FloatKind.f32 (F68 x1.x) (x0.v.getD (Int.toNat 0) 0)) (fop BinOp.sub FloatKind.f32 (F68 x1.y) (x0.v.getD (Int.toNat 1) 0))) (fop BinOp.sub FloatKind.f32 (F68 x1.z) (x0.v.getD (Int.toNat 2) 0))))))
       .non)
      .non)
     .non)
    (.cond (x0.k == 2)
     (.cond (decide (0 ≤ 0) && decide (0 < (↑x0.v.length : Int)))
      (.cond (decide (0 ≤ 1) && decide (1 < (↑x0.v.length : Int)))
       (.leaf (fop BinOp.sub FloatKind.f32 (F248 { x := x1.x, y := F224 x1.y (x0.v.getD (Int.toNat 0) 0), z := x1.z : V3 }) (x0.v.getD (Int.toNat 1) 0)))
       .non)
      .non)
     (.cond (x0.k == 3)
      (.cond (decide (0 ≤ 0) && decide (0 < (↑x0.v.length : Int)))
       (.cond (decide (0 ≤ 1) && decide (1 < (↑x0.v.length : Int)))
        (.leaf (fop BinOp.sub FloatKind.f32 (F248 { x := fop BinOp.sub FloatKind.f32 (F248 { x := x1.x, y := 0, z := x1.z : V3 }) (x0.v.getD (Int.toNat 0) 0), y := x1.y, z := 0 : V3 }) (x0.v.getD (Int.toNat 1) 0)))
        .non)
       .non)
      (.cond (decide (0 ≤ 0) && decide (0 < (↑x0.v.length : Int)))
       (.cond (decide (0 ≤ 1) && decide (1 < (↑x0.v.length : Int)))
        (.cond (decide (0 ≤ 2) && decide (2 < (↑x0.v.length : Int)))
         (.cond (decide (0 ≤ 3) && decide (3 < (↑x0.v.length : Int)))
          (.leaf (fop BinOp.sub FloatKind.f32 (F166 x1 { x := x0.v.getD (Int.toNat 0) 0, y := x0.v.getD (Int.toNat 1) 0, z := x0.v.getD (Int.toNat 2) 0 : V3 }) (x0.v.getD (Int.toNat 3) 0)))
          .non)
         .non)
        .non)
       .non)))))
theorem ev195 (x0 : Nd) (x1 : V3) : evalF (env tab4 exts (fun _ => [])) 0 Tryz.f195 [.ptr .nd x0 0, .agg (enc .v3 x1)] = (tr195 x0 x1).toOpt (fun x => .plain (.f32 x)) := by kernel_rfl
noncomputable def F195 (x0 : Nd) (x1 : V3) : Nat := (tr195 x0 x1).val
noncomputable def ent229 : List PV → Option (Bool × CRes)
  | [.f32 x0, .f32 x1] => some (true, (fun (x : Nat) => .plain (.f32 x)) (F229 x0 x1))
  | _ => none
theorem ok229 : EntSound Tryz.prog 229 ent229 := by
  refine entry tab4_ok exts_ok (fun _ => []) (fn := Tryz.f229) (by kernel_rfl) (by kernel_rfl) (fun args c h => ?_)
  unfold ent229 at h
  split at h <;> first | (cases h; done) | skip
  rename_i x0 x1
  simp only [Option.some.injEq, Prod.mk.injEq] at h
  obtain ⟨hp, rfl⟩ := h
  exact ⟨0, (ev229 x0 x1).trans (Tr.ok _ _ (pre229 x0 x1))⟩

noncomputable def ent223 : List PV → Option (Bool × CRes)
  | [.f32 x0, .ptr .slf32 c0 0] => some ((tr223 x0 c0).pre, (fun (x : Nat) => .plain (.f32 x)) (F223 x0 c0))
  | _ => none
theorem ok223 : EntSound Tryz.prog 223 ent223 := by
  refine entry tab4_ok exts_ok (fun _ => []) (fn := Tryz.f223) (by kernel_rfl) (by kernel_rfl) (fun args c h => ?_)
  unfold ent223 at h
  split at h <;> first | (cases h; done) | skip
  rename_i x0 c0
  simp only [Option.some.injEq, Prod.mk.injEq] at h
  obtain ⟨hp, rfl⟩ := h
  exact ⟨0, (ev223 x0 c0).trans (Tr.ok _ _ hp)⟩

noncomputable def ent216 : List PV → Option (Bool × CRes)
  | [.f32 x0, .ptr .f32 c0 0] => some (true, (fun (x : Nat) => .plain (.f32 x)) (F216 x0 c0))
  | _ => none
theorem ok216 : EntSound Tryz.prog 216 ent216 := by
  refine entry tab4_ok exts_ok (fun _ => []) (fn := Tryz.f216) (by kernel_rfl) (by kernel_rfl) (fun args c h => ?_)
  unfold ent216 at h
  split at h <;> first | (cases h; done) | skip
  rename_i x0 c0
  simp only [Option.some.injEq, Prod.mk.injEq] at h
  obtain ⟨hp, rfl⟩ := h
  exact ⟨0, (ev216 x0 c0).trans (Tr.ok _ _ (pre216 x0 c0))⟩

noncomputable def ent225 : List PV → Option (Bool × CRes)
  | [.agg [.f32 x0_0, .f32 x0_1], .agg [.f32 x1_0, .f32 x1_1], .agg [.f32 x2_0, .f32 x2_1]] => some (true, (fun (x : Rg) => .plain (.agg (enc .rg x))) (F225 (⟨x0_0, x0_1⟩ : Rg) (⟨x1_0, x1_1⟩ : Rg) (⟨x2_0, x2_1⟩ : Rg)))
  | _ => none
theorem ok225 : EntSound Tryz.prog 225 ent225 := by
  refine entry tab4_ok exts_ok (fun _ => []) (fn := Tryz.f225) (by kernel_rfl) (by kernel_rfl) (fun args c h => ?_)
  unfold ent225 at h
  split at h <;> first | (cases h; done) | skip
  rename_i x0_0 x0_1 x1_0 x1_1 x2_0 x2_1
  simp only [Option.some.injEq, Prod.mk.injEq] at h
  obtain ⟨hp, rfl⟩ := h
  exact ⟨0, (ev225 (⟨x0_0, x0_1⟩ : Rg) (⟨x1_0, x1_1⟩ : Rg) (⟨x2_0, x2_1⟩ : Rg)).trans (Tr.ok _ _ (pre225 (⟨x0_0, x0_1⟩ : Rg) (⟨x1_0, x1_1⟩ : Rg) (⟨x2_0, x2_1⟩ : Rg)))⟩

noncomputable def ent188 : List PV → Option (Bool × CRes)
  | [.ptr .nd x0 0, .agg [.f32 x1_0, .f32 x1_1, .f32 x1_2]] => some ((tr188 x0 (⟨x1_0, x1_1, x1_2⟩ : V3)).pre, (fun (x : Nat) => .plain (.f32 x)) (F188 x0 (⟨x1_0, x1_1, x1_2⟩ : V3)))
  | _ => none
theorem ok188 : EntSound Tryz.prog 188 ent188 := by
  refine entry tab4_ok exts_ok (fun _ => []) (fn := Tryz.f188) (by kernel_rfl) (by kernel_rfl) (fun args c h => ?_)
  unfold ent188 at h
  split at h <;> first | (cases h; done) | skip
  rename_i x0 x1_0 x1_1 x1_2
  simp only [Option.some.injEq, Prod.mk.injEq] at h
  obtain ⟨hp, rfl⟩ := h
  exact ⟨0, (ev188 x0 (⟨x1_0, x1_1, x1_2⟩ : V3)).trans (Tr.ok _ _ hp)⟩

noncomputable def ent210 : List PV → Option (Bool × CRes)
  | [.agg [.f32 x0_0, .f32 x0_1], .agg [.f32 x1_0, .f32 x1_1], .agg [.f32 x2_0, .f32 x2_1]] => some (true, (fun (x : Rg) => .plain (.agg (enc .rg x))) (F210 (⟨x0_0, x0_1⟩ : Rg) (⟨x1_0, x1_1⟩ : Rg) (⟨x2_0, x2_1⟩ : Rg)))
  | _ => none
theorem ok210 : EntSound Tryz.prog 210 ent210 := by
  refine entry tab4_ok exts_ok (fun _ => []) (fn := Tryz.f210) (by kernel_rfl) (by kernel_rfl) (fun args c h => ?_)
  unfold ent210 at h
  split at h <;> first | (cases h; done) | skip
  rename_i x0_0 x0_1 x1_0 x1_1 x2_0 x2_1
  simp only [Option.some.injEq, Prod.mk.injEq] at h
  obtain ⟨hp, rfl⟩ := h
  exact ⟨0, (ev210 (⟨x0_0, x0_1⟩ : Rg) (⟨x1_0, x1_1⟩ : Rg) (⟨x2_0, x2_1⟩ : Rg)).trans (Tr.ok _ _ (pre210 (⟨x0_0, x0_1⟩ : Rg) (⟨x1_0, x1_1⟩ : Rg) (⟨x2_0, x2_1⟩ : Rg)))⟩

noncomputable def ent195 : List PV → Option (Bool × CRes)
  | [.ptr .nd x0 0, .agg [.f32 x1_0, .f32 x1_1, .f32 x1_2]] => some ((tr195 x0 (⟨x1_0, x1_1, x1_2⟩ : V3)).pre, (fun (x : Nat) => .plain (.f32 x)) (F195 x0 (⟨x1_0, x1_1, x1_2⟩ : V3)))
  | _ => none
theorem ok195 : EntSound Tryz.prog 195 ent195 := by
  refine entry tab4_ok exts_ok (fun _ => []) (fn := Tryz.f195) (by kernel_rfl) (by kernel_rfl) (fun args c h => ?_)
  unfold ent195 at h
  split at h <;> first | (cases h; done) | skip
  rename_i x0 x1_0 x1_1 x1_2
  simp only [Option.some.injEq, Prod.mk.injEq] at h
  obtain ⟨hp, rfl⟩ := h
  exact ⟨0, (ev195 x0 (⟨x1_0, x1_1, x1_2⟩ : V3)).trans (Tr.ok _ _ hp)⟩

noncomputable def tab5 : Tab := ((195, ent195) :: ((210, ent210) :: ((188, ent188) :: ((225, ent225) :: ((216, ent216) :: ((223, ent223) :: ((229, ent229) :: tab4)))))))
theorem tab5_ok : TSound Tryz.prog (tabT tab5) := (tab_cons (tab_cons (tab_cons (tab_cons (tab_cons (tab_cons (tab_cons tab4_ok ok229) ok223) ok216) ok225) ok188) ok210) ok195)

end Go.Proofs.YtponnbnebjhepaaGreat

namespace Go.Proofs.YtponnbnebjhepaaGreat
open Go Go.Ev
set_option maxRecDepth 100000

/- (*impl.Node).mixRange$1 -/
noncomputable def tr228 (x0 : Nat) (c0 : Nat) : Tr (Nat) :=
  (.leaf (F229 x0 c0))
theorem ev228 (x0 : Nat) (c0 : Nat) : evalF (env tab5 exts (fun _ => [])) 0 Tryz.f228 [.f32 x0, .ptr .f32 c0 0] = (tr228 x0 c0).toOpt (fun x => .plain (.f32 x)) := by kernel_rfl
noncomputable def F228 (x0 : Nat) (c0 : Nat) : Nat := (tr228 x0 c0).val
theorem pre228 (x0 : Nat) (c0 : Nat) : (tr228 x0 c0).pre = true := by simp [tr228, Tr.pre]
/- spec.l04Ends -/
noncomputable def tr134 (x0 : Nd) (x1 : Sp) : Tr (Rg) :=
  (.cond (x0.k == 0)
   (.cond ((tr188 ((fun l => { k := x0.k, a := x0.a, b := x0.b, v := l : Nd }) x0.v) { x := (F206 x1.x).lo, y := (F206 x1.y).lo, z := (F206 x1.z).lo : V3 }).pre)
    (.cond ((tr188 ((fun l => { k := x0.k, a := x0.a, b := x0.b, v := l : Nd }) x0.v) { x := (F206 x1.x).hi, y := (F206 x1.y).hi, z := (F206 x1.z).hi : V3 }).pre)
     (.leaf (⟨(F188 ((fun l => { k := x0.k, a := x0.a, b := x0.b, v := l : Nd }) x0.v) { x := (F206 x1.x).lo, y := (F206 x1.y).lo, z := (F206 x1.z).lo : V3 }), (F188 ((fun l => { k := x0.k, a := x0.a, b := x0.b, v := l : Nd }) x0.v) { x := (F206 x1.x).hi, y := (F206 x1.y).hi, z := (F206 x1.z).hi : V3 })⟩ : Rg))
     .non)
    .non)
   (.cond (x0.k == 1)
    (.cond ((tr188 ((fun l => { k := x0.k, a := x0.a, b := x0.b, v := l : Nd }) x0.v) { x := (F206 x1.x).lo, y := (F206 x1.y).lo, z := (F206 x1.z).lo : V3 }).pre)
     (.cond ((tr188 ((fun l => { k := x0.k, a := x0.a, b := x0.b, v := l : Nd }) x0.v) { x := (F206 x1.x).hi, y := (F206 x1.y).hi, z := (F206 x1.z).hi : V3 }).pre)
      (.leaf (⟨(F188 ((fun l => { k := x0.k, a := x0.a, b := x0.b, v := l : Nd }) x0.v) { x := (F206 x1.x).lo, y := (F206 x1.y).lo, z := (F206 x1.z).lo : V3 }), (F188 ((fun l => { k := x0.k, a := x0.a, b := x0.b, v := l : Nd }) x0.v) { x := (F206 x1.x).hi, y := (F206 x1.y).hi, z := (F206 x1.z).hi : V3 })⟩ : Rg))
      .non)
     .non)
    (.cond (x0.k == 2)
     (.cond (decide (0 ≤ 0) && decide (0 < (↑x0.v.length : Int)))
      (.cond (decide (0 ≤ 1) && decide (1 < (↑x0.v.length : Int)))
       (.leaf (⟨((F199 (F210 x1.x { lo := fop BinOp.sub FloatKind.f32 x1.y.lo (F208 (F209 0 x1.y.lo) (x0.v.getD (Int.toNat 0) 0)), hi := fop BinOp.sub FloatKind.f32 x1.y.hi (F208 (F209 0 x1.y.hi) (x0.v.getD (Int.toNat 0) 0)) : Rg } x1.z) (F200 (x0.v.getD (Int.toNat 1) 0))).lo), ((F199 (F210 x1.x { lo := fop BinOp.sub FloatKind.f32 x1.y.lo (F208 (F209 0 x1.y.lo) (x0.v.getD (Int.toNat 0) 0)), hi := fop BinOp.sub FloatKind.f32 x1.y.hi (F208 (F209 0 x1.y.hi) (x0.v.getD (Int.toNat 0) 0)) : Rg } x1.z) (F200 (x0.v.getD (Int.toNat 1) 0))).hi)⟩ : Rg))
       .non)
      .non)
     (.cond (x0.k == 3)
      (.cond (decide (0 ≤ 0) && decide (0 < (↑x0.v.length : Int)))
       (.cond (decide (0 ≤ 1) && decide (1 < (↑x0.v.length : Int)))
        (.leaf (⟨((F199 (F210 (F199 (F210 x1.x (F200 0) x1.z) (F200 (x0.v.getD (Int.toNat 0) 0))) x1.y (F200 0)) (F200 (x0.v.getD (Int.toNat 1) 0))).lo), ((F199 (F210 (F199 (F210 x1.x (F200 0) x1.z) (F200 (x0.v.getD (Int.toNat 0) 0))) x1.y (F200 0)) (F200 (x0.v.getD (Int.toNat 1) 0))).hi)⟩ : Rg))
        .non)
       .non)
      (.cond (decide (0 ≤ 0) && decide (0 < (↑x0.v.length : Int)))
       (.cond (decide (0 ≤ 1) && decide (1 < (↑x0.v.length : Int)))
        (.cond (decide (0 ≤ 2) && decide (2 < (↑x0.v.length : Int)))
         (.cond (decide (0 ≤ 3) && decide (3 < (↑x0.v.length : Int)))
          (.leaf (⟨((F199 (F204 (F204 (F205 x1.x (x0.v.getD (Int.toNat 0) 0)) (F205 x1.y (x0.v.getD (Int.toNat 1) 0))) (F205 x1.z (x0.v.getD (Int.toNat 2) 0))) (F200 (x0.v.getD (Int.toNat 3) 0))).lo), ((F199 (F204 (F204 (F205 x1.x (x0.v.getD (Int.toNat 0) 0)) (F205 x1.y (x0.v.getD (Int.toNat 1) 0))) (F205 x1.z (x0.v.getD (Int.toNat 2) 0))) (F200 (x0.v.getD (Int.toNat 3) 0))).hi)⟩ : Rg))
          .non)
         .non)
        .non)
       .non)))))
theorem ev134 (x0 : Nd) (x1 : Sp) : evalF (env tab5 exts (fun _ => [])) 0 Tryz.f134 [.ptr .nd x0 0, .ptr .sp x1 0] = (tr134 x0 x1).toOpt (fun x => .plain (.agg (enc .rg x))) := by kernel_rfl
noncomputable def F134 (x0 : Nd) (x1 : Sp) : Rg := (tr134 x0 x1).val
/- spec.l04Mixed -/
noncomputable def tr135 (x0 : Nd) (x1 : Rg) (x2 : Rg) : Tr (Rg) :=
  (.cond (x0.k == 5)
   (.leaf (⟨(F208 x1.lo x2.lo), (F208 x1.hi x2.hi)⟩ : Rg))
   (.cond (x0.k == 6)
    (.leaf (⟨(F209 x1.lo x2.lo), (F209 x1.hi x2.hi)⟩ : Rg))
    (.cond (x0.k == 7)
     (.leaf (⟨(F209 x1.lo (fneg FloatKind.f32 x2.hi)), (F209 x1.hi (fneg FloatKind.f32 x2.lo))⟩ : Rg))
     (.cond (x0.k == 8)
      (.cond (decide (0 ≤ 0) && decide (0 < (↑x0.v.length : Int)))
       (.leaf (⟨((F199 { lo := F208 x1.lo x2.lo, hi := F208 x1.hi x2.hi : Rg } { lo := F212 (F199 (F200 (x0.v.getD (Int.toNat 0) 0)) (F211 x1 x2)).lo (x0.v.getD (Int.toNat 0) 0), hi := F212 (F199 (F200 (x0.v.getD (Int.toNat 0) 0)) (F211 x1 x2)).hi (x0.v.getD (Int.toNat 0) 0) : Rg }).lo), ((F199 { lo := F208 x1.lo x2.lo, hi := F208 x1.hi x2.hi : Rg } { lo := F212 (F199 (F200 (x0.v.getD (Int.toNat 0) 0)) (F211 x1 x2)).lo (x0.v.getD (Int.toNat 0) 0), hi := F212 (F199 (F200 (x0.v.getD (Int.toNat 0) 0)) (F211 x1 x2)).hi (x0.v.getD (Int.toNat 0) 0) : Rg }).hi)⟩ : Rg))
       .non)
      (.cond (x0.k == 10)
       (.cond (decide (0 ≤ 0) && decide (0 < (↑x0.v.length : Int)))
        (.leaf (⟨((F205 x1 (x0.v.getD (Int.toNat 0) 0)).lo), ((F205 x1 (x0.v.getD (Int.toNat 0) 0)).hi)⟩ : Rg))
        .non)
       (.cond (x0.k == 15)
        (.cond (decide (0 ≤ 0) && decide (0 < (↑x0.v.length : Int)))
         (.leaf (⟨((F199 x1 (F200 (x0.v.getD (Int.toNat 0) 0))).lo), ((F199 x1 (F200 (x0.v.getD (Int.toNat 0) 0))).hi)⟩ : Rg))
         .non)
        (.cond (x0.k == 16)
         (.cond (decide (0 ≤ 0) && decide (0 < (↑x0.v.length : Int)))
          (.leaf (⟨((F199 (F206 x1) (F200 (x0.v.getD (Int.toNat 0) 0))).lo), ((F199 (F206 x1) (F200 (x0.v.getD (Int.toNat 0) 0))).hi)⟩ : Rg))
          .non)
         (.leaf (⟨(x1.lo), (x1.hi)⟩ : Rg)))))))))
theorem ev135 (x0 : Nd) (x1 : Rg) (x2 : Rg) : evalF (env tab5 exts (fun _ => [])) 0 Tryz.f135 [.ptr .nd x0 0, .agg (enc .rg x1), .agg (enc .rg x2)] = (tr135 x0 x1 x2).toOpt (fun x => .plain (.agg (enc .rg x))) := by kernel_rfl
noncomputable def F135 (x0 : Nd) (x1 : Rg) (x2 : Rg) : Rg := (tr135 x0 x1 x2).val
noncomputable def ent228 : List PV → Option (Bool × CRes)
  | [.f32 x0, .ptr .f32 c0 0] => some (true, (fun (x : Nat) => .plain (.f32 x)) (F228 x0 c0))
  | _ => none
theorem ok228 : EntSound Tryz.prog 228 ent228 := by
  refine entry tab5_ok exts_ok (fun _ => []) (fn := Tryz.f228) (by kernel_rfl) (by kernel_rfl) (fun args c h => ?_)
  unfold ent228 at h
  split at h <;> first | (cases h; done) | skip
  rename_i x0 c0
  simp only [Option.some.injEq, Prod.mk.injEq] at h
  obtain ⟨hp, rfl⟩ := h
  exact ⟨0, (ev228 x0 c0).trans (Tr.ok _ _ (pre228 x0 c0))⟩

noncomputable def ent134 : List PV → Option (Bool × CRes)
  | [.ptr .nd x0 0, .ptr .sp x1 0] => some ((tr134 x0 x1).pre, (fun (x : Rg) => .plain (.agg (enc .rg x))) (F134 x0 x1))
  | _ => none
theorem ok134 : EntSound Tryz.prog 134 ent134 := by
  refine entry tab5_ok exts_ok (fun _ => []) (fn := Tryz.f134) (by kernel_rfl) (by kernel_rfl) (fun args c h => ?_)
  unfold ent134 at h
  split at h <;> first | (cases h; done) | skip
  rename_i x0 x1
  simp only [Option.some.injEq, Prod.mk.injEq] at h
  obtain ⟨hp, rfl⟩ := h
  exact ⟨0, (ev134 x0 x1).trans (Tr.ok _ _ hp)⟩

noncomputable def ent135 : List PV → Option (Bool × CRes)
  | [.ptr .nd x0 0, .agg [.f32 x1_0, .f32 x1_1], .agg [.f32 x2_0, .f32 x2_1]] => some ((tr135 x0 (⟨x1_0, x1_1⟩ : Rg) (⟨x2_0, x2_1⟩ : Rg)).pre, (fun (x : Rg) => .plain (.agg (enc .rg x))) (F135 x0 (⟨x1_0, x1_1⟩ : Rg) (⟨x2_0, x2_1⟩ : Rg)))
  | _ => none
theorem ok135 : EntSound Tryz.prog 135 ent135 := by
  refine entry tab5_ok exts_ok (fun _ => []) (fn := Tryz.f135) (by kernel_rfl) (by kernel_rfl) (fun args c h => ?_)
  unfold ent135 at h
  split at h <;> first | (cases h; done) | skip
  rename_i x0 x1_0 x1_1 x2_0 x2_1
  simp only [Option.some.injEq, Prod.mk.injEq] at h
  obtain ⟨hp, rfl⟩ := h
  exact ⟨0, (ev135 x0 (⟨x1_0, x1_1⟩ : Rg) (⟨x2_0, x2_1⟩ : Rg)).trans (Tr.ok _ _ hp)⟩

noncomputable def tab6 : Tab := ((135, ent135) :: ((134, ent134) :: ((228, ent228) :: tab5)))
theorem tab6_ok : TSound Tryz.prog (tabT tab6) := (tab_cons (tab_cons (tab_cons tab5_ok ok228) ok134) ok135)

end Go.Proofs.YtponnbnebjhepaaGreat

namespace Go.Proofs.YtponnbnebjhepaaGreat
open Go Go.Ev
set_option maxRecDepth 100000

/- (impl.Range).both -/
noncomputable def tr215_216 (x0 : Rg) (x1c0 : Nat) : Tr (Rg) :=
  (.leaf (⟨(F216 x0.lo x1c0), (F216 x0.hi x1c0)⟩ : Rg))
theorem ev215_216 (x0 : Rg) (x1c0 : Nat) : evalF (env tab6 exts (fun _ => [])) 0 Tryz.f215 [.agg (enc .rg x0), .func 216 [.ptr .f32 x1c0 0]] = (tr215_216 x0 x1c0).toOpt (fun x => .plain (.agg (enc .rg x))) := by kernel_rfl
noncomputable def F215_216 (x0 : Rg) (x1c0 : Nat) : Rg := (tr215_216 x0 x1c0).val
theorem pre215_216 (x0 : Rg) (x1c0 : Nat) : (tr215_216 x0 x1c0).pre = true := by simp [tr215_216, Tr.pre]
/- (impl.Range).both -/
noncomputable def tr215_223 (x0 : Rg) (x1c0 : List Nat) : Tr (Rg) :=
  (.cond ((tr223 x0.lo x1c0).pre)
   (.cond ((tr223 x0.hi x1c0).pre)
    (.leaf (⟨(F223 x0.lo x1c0), (F223 x0.hi x1c0)⟩ : Rg))
    .non)
   .non)
theorem ev215_223 (x0 : Rg) (x1c0 : List Nat) : evalF (env tab6 exts (fun _ => [])) 0 Tryz.f215 [.agg (enc .rg x0), .func 223 [.ptr .slf32 x1c0 0]] = (tr215_223 x0 x1c0).toOpt (fun x => .plain (.agg (enc .rg x))) := by kernel_rfl
noncomputable def F215_223 (x0 : Rg) (x1c0 : List Nat) : Rg := (tr215_223 x0 x1c0).val
/- (impl.Range).both -/
noncomputable def tr215_228 (x0 : Rg) (x1c0 : Nat) : Tr (Rg) :=
  (.leaf (⟨(F228 x0.lo x1c0), (F228 x0.hi x1c0)⟩ : Rg))
theorem ev215_228 (x0 : Rg) (x1c0 : Nat) : evalF (env tab6 exts (fun _ => [])) 0 Tryz.f215 [.agg (enc .rg x0), .func 228 [.ptr .f32 x1c0 0]] = (tr215_228 x0 x1c0).toOpt (fun x => .plain (.agg (enc .rg x))) := by kernel_rfl
noncomputable def F215_228 (x0 : Rg) (x1c0 : Nat) : Rg := (tr215_228 x0 x1c0).val
theorem pre215_228 (x0 : Rg) (x1c0 : Nat) : (tr215_228 x0 x1c0).pre = true := by simp [tr215_228, Tr.pre]
noncomputable def ent215 : List PV → Option (Bool × CRes)
  | [.agg [.f32 x0_0, .f32 x0_1], .func 216 [.ptr .f32 x1c0 0]] => some (true, (fun (x : Rg) => .plain (.agg (enc .rg x))) (F215_216 (⟨x0_0, x0_1⟩ : Rg) x1c0))
  | [.agg [.f32 x0_0, .f32 x0_1], .func 223 [.ptr .slf32 x1c0 0]] => some ((tr215_223 (⟨x0_0, x0_1⟩ : Rg) x1c0).pre, (fun (x : Rg) => .plain (.agg (enc .rg x))) (F215_223 (⟨x0_0, x0_1⟩ : Rg) x1c0))
  | [.agg [.f32 x0_0, .f32 x0_1], .func 228 [.ptr .f32 x1c0 0]] => some (true, (fun (x : Rg) => .plain (.agg (enc .rg x))) (F215_228 (⟨x0_0, x0_1⟩ : Rg) x1c0))
  | _ => none
theorem ok215 : EntSound Tryz.prog 215 ent215 := by
  refine entry tab6_ok exts_ok (fun _ => []) (fn := Tryz.f215) (by kernel_rfl) (by kernel_rfl) (fun args c h => ?_)
  unfold ent215 at h
  split at h <;> first | (cases h; done) | skip
  · rename_i x0_0 x0_1 x1c0
    simp only [Option.some.injEq, Prod.mk.injEq] at h
    obtain ⟨hp, rfl⟩ := h
    exact ⟨0, (ev215_216 (⟨x0_0, x0_1⟩ : Rg) x1c0).trans (Tr.ok _ _ (pre215_216 (⟨x0_0, x0_1⟩ : Rg) x1c0))⟩
  · rename_i x0_0 x0_1 x1c0
    simp only [Option.some.injEq, Prod.mk.injEq] at h
    obtain ⟨hp, rfl⟩ := h
    exact ⟨0, (ev215_223 (⟨x0_0, x0_1⟩ : Rg) x1c0).trans (Tr.ok _ _ hp)⟩
  · rename_i x0_0 x0_1 x1c0
    simp only [Option.some.injEq, Prod.mk.injEq] at h
    obtain ⟨hp, rfl⟩ := h
    exact ⟨0, (ev215_228 (⟨x0_0, x0_1⟩ : Rg) x1c0).trans (Tr.ok _ _ (pre215_228 (⟨x0_0, x0_1⟩ : Rg) x1c0))⟩

noncomputable def tab7 : Tab := ((215, ent215) :: tab6)
theorem tab7_ok : TSound Tryz.prog (tabT tab7) := (tab_cons tab6_ok ok215)

end Go.Proofs.YtponnbnebjhepaaGreat

namespace Go.Proofs.YtponnbnebjhepaaGreat
open Go Go.Ev
set_option maxRecDepth 100000

theorem dT {p : Prop} [Decidable p] (h : p) : decide p = true := decide_eq_true h
theorem dF {p : Prop} [Decidable p] (h : ¬ p) : decide p = false := decide_eq_false h

/-! slices.IndexFunc over floats, asking for one that is not finite. -/

noncomputable def E255 : Env := env tab7 exts (fgOf 19 [(2, [0, 1, 7, 8])])
noncomputable def lp255 : Code := cAt [1, 0, 1, 0, 0] (bodyOf Tryz.f255)
noncomputable def ks255 : List Kf := [.bk 0, .sq (cAt [1, 1] (bodyOf Tryz.f255))]
noncomputable def st255 (l : List Nat) (i : Int) : St := mkSt 19 [(0, .slice .f32 l), (1, .func 254 []), (7, .int .i64 l.length), (8, .int .i64 i)] []

theorem seg255 (l : List Nat) (n : Nat) : evalF E255 n Tryz.f255 [.slice .f32 l, .func 254 []] =
    loopN (evalC E255 n lp255) (allBut 19 [0, 1, 7, 8]) n (st255 l ((0 : Nat) : Int)) (runK E255 n (finF Tryz.prog Tryz.f255) ks255) := by kernel_rfl

theorem step255 (m : Nat) (l : List Nat) (i : Int) (n : Nat) : loopN (evalC E255 m lp255) (allBut 19 [0, 1, 7, 8]) (n + 1) (st255 l i) (runK E255 m (finF Tryz.prog Tryz.f255) ks255) =
    cond (decide (i < l.length)) (cond (decide (0 ≤ i) && decide (i < l.length)) (cond (F254 (l.getD i.toNat 0)) (some (.plain (.int .i64 i)))
      (loopN (evalC E255 m lp255) (allBut 19 [0, 1, 7, 8]) n (st255 l (IntKind.i64.wrap (i + 1))) (runK E255 m (finF Tryz.prog Tryz.f255) ks255))) none)
      (some (.plain (.int .i64 (-1)))) := by kernel_rfl

/-- The place of the first number that is not finite, or -1. -/
noncomputable def findN (l : List Nat) : Nat → Nat → Int
  | 0, _ => -1
  | k + 1, j => cond (F254 (l.getD j 0)) (j : Int) (findN l k (j + 1))

theorem loop255 (m : Nat) (l : List Nat) (hl : l.length ≤ limB) : ∀ (k j n : Nat), j + k = l.length → k < n →
    loopN (evalC E255 m lp255) (allBut 19 [0, 1, 7, 8]) n (st255 l j) (runK E255 m (finF Tryz.prog Tryz.f255) ks255) = some (.plain (.int .i64 (findN l k j)))
  | 0, j, n + 1, hj, _ => by
    rw [step255, dF (by omega)]
    rfl
  | k + 1, j, n + 1, hj, hn => by
    unfold limB at hl
    rw [step255, dT (p := (j : Int) < l.length) (by omega), dT (p := (0 : Int) ≤ j) (by omega), wrap_small (n := (j : Int) + 1) (by omega) (by omega)]
    simp only [Bool.and_true, cond_true, Int.toNat_natCast, findN]
    cases hb : F254 (l.getD j 0) with
    | true => rfl
    | false =>
      simp only [cond_false]
      exact loop255 m l (by unfold limB; omega) k (j + 1) n (by omega) (by omega)

noncomputable def ent255 : List PV → Option (Bool × CRes)
  | [.slice .f32 l, .func 254 []] => some (decide (l.length ≤ limB), .plain (.int .i64 (findN l l.length 0)))
  | _ => none

theorem ok255 : EntSound Tryz.prog 255 ent255 := by
  refine entry tab7_ok exts_ok (fgOf 19 [(2, [0, 1, 7, 8])]) (fn := Tryz.f255) (by kernel_rfl) (by kernel_rfl) (fun args c h => ?_)
  unfold ent255 at h
  split at h <;> first | (cases h; done) | skip
  rename_i l
  simp only [Option.some.injEq, Prod.mk.injEq, decide_eq_true_eq] at h
  obtain ⟨hl, rfl⟩ := h
  refine ⟨l.length + 1, ?_⟩
  have := seg255 l (l.length + 1)
  unfold E255 at this
  rw [this]
  exact loop255 _ l hl l.length 0 _ (by omega) (by omega)

noncomputable def tab8 : Tab := (255, ent255) :: tab7
theorem tab8_ok : TSound Tryz.prog (tabT tab8) := tab_cons tab7_ok ok255

end Go.Proofs.YtponnbnebjhepaaGreat

namespace Go.Proofs.YtponnbnebjhepaaGreat
open Go Go.Ev
set_option maxRecDepth 100000

/- slices.ContainsFunc[[]float32,float32] -/
noncomputable def tr192_254 (x0 : List Nat) : Tr (Bool) :=
  (.cond (decide (x0.length ≤ limB))
   (.leaf (decide (findN x0 x0.length 0 ≥ 0)))
   .non)
theorem ev192_254 (x0 : List Nat) : evalF (env tab8 exts (fun _ => [])) 0 Tryz.f192 [.slice .f32 x0, .func 254 []] = (tr192_254 x0).toOpt (fun x => .plain (.bool x)) := by kernel_rfl
noncomputable def F192_254 (x0 : List Nat) : Bool := (tr192_254 x0).val
noncomputable def ent192 : List PV → Option (Bool × CRes)
  | [.slice .f32 x0, .func 254 []] => some ((tr192_254 x0).pre, (fun (x : Bool) => .plain (.bool x)) (F192_254 x0))
  | _ => none
theorem ok192 : EntSound Tryz.prog 192 ent192 := by
  refine entry tab8_ok exts_ok (fun _ => []) (fn := Tryz.f192) (by kernel_rfl) (by kernel_rfl) (fun args c h => ?_)
  unfold ent192 at h
  split at h <;> first | (cases h; done) | skip
  rename_i x0
  simp only [Option.some.injEq, Prod.mk.injEq] at h
  obtain ⟨hp, rfl⟩ := h
  exact ⟨0, (ev192_254 x0).trans (Tr.ok _ _ hp)⟩

noncomputable def tab9 : Tab := ((192, ent192) :: tab8)
theorem tab9_ok : TSound Tryz.prog (tabT tab9) := (tab_cons tab8_ok ok192)

end Go.Proofs.YtponnbnebjhepaaGreat

namespace Go.Proofs.YtponnbnebjhepaaGreat
open Go Go.Ev
set_option maxRecDepth 100000

/- impl.finite -/
noncomputable def tr191 (x0 : List Nat) : Tr (Bool) :=
  (.cond ((tr192_254 x0).pre)
   (.leaf (!F192_254 x0))
   .non)
theorem ev191 (x0 : List Nat) : evalF (env tab9 exts (fun _ => [])) 0 Tryz.f191 [.slice .f32 x0] = (tr191 x0).toOpt (fun x => .plain (.bool x)) := by kernel_rfl
noncomputable def F191 (x0 : List Nat) : Bool := (tr191 x0).val
noncomputable def ent191 : List PV → Option (Bool × CRes)
  | [.slice .f32 x0] => some ((tr191 x0).pre, (fun (x : Bool) => .plain (.bool x)) (F191 x0))
  | _ => none
theorem ok191 : EntSound Tryz.prog 191 ent191 := by
  refine entry tab9_ok exts_ok (fun _ => []) (fn := Tryz.f191) (by kernel_rfl) (by kernel_rfl) (fun args c h => ?_)
  unfold ent191 at h
  split at h <;> first | (cases h; done) | skip
  rename_i x0
  simp only [Option.some.injEq, Prod.mk.injEq] at h
  obtain ⟨hp, rfl⟩ := h
  exact ⟨0, (ev191 x0).trans (Tr.ok _ _ hp)⟩

noncomputable def tab10 : Tab := ((191, ent191) :: tab9)
theorem tab10_ok : TSound Tryz.prog (tabT tab10) := (tab_cons tab9_ok ok191)

end Go.Proofs.YtponnbnebjhepaaGreat

namespace Go.Proofs.YtponnbnebjhepaaGreat
open Go Go.Ev
set_option maxRecDepth 100000

/- impl.finiteVector -/
noncomputable def tr138 (x0 : V3) : Tr (Bool) :=
  (.leaf (F191 [x0.x, x0.y, x0.z]))
theorem ev138 (x0 : V3) : evalF (env tab10 exts (fun _ => [])) 0 Tryz.f138 [.agg (enc .v3 x0)] = (tr138 x0).toOpt (fun x => .plain (.bool x)) := by kernel_rfl
noncomputable def F138 (x0 : V3) : Bool := (tr138 x0).val
theorem pre138 (x0 : V3) : (tr138 x0).pre = true := by simp [tr138, Tr.pre]
/- impl.folded -/
noncomputable def tr222 (x0 : Rg) (x1 : Nat) : Tr (Rg) :=
  (.cond (fcmp BinOp.eql FloatKind.f32 (F263 (fop BinOp.quo FloatKind.f32 x0.lo (fop BinOp.mul FloatKind.f32 1073741824 x1))) (F263 (fop BinOp.quo FloatKind.f32 x0.hi (fop BinOp.mul FloatKind.f32 1073741824 x1))))
   (.leaf (⟨((F221 { lo := fop BinOp.sub FloatKind.f32 x0.lo (F256 x0.lo x1), hi := fop BinOp.sub FloatKind.f32 x0.hi (F256 x0.hi x1) : Rg }).lo), ((F221 { lo := fop BinOp.sub FloatKind.f32 x0.lo (F256 x0.lo x1), hi := fop BinOp.sub FloatKind.f32 x0.hi (F256 x0.hi x1) : Rg }).hi)⟩ : Rg))
   (.cond (fcmp BinOp.geq FloatKind.f32 (F263 (fop BinOp.quo FloatKind.f32 x0.lo (fop BinOp.mul FloatKind.f32 1073741824 x1))) 3397386240)
    (.cond (fcmp BinOp.leq FloatKind.f32 (F263 (fop BinOp.quo FloatKind.f32 x0.lo (fop BinOp.mul FloatKind.f32 1073741824 x1))) 1249902592)
     (.cond (fcmp BinOp.geq FloatKind.f32 (F263 (fop BinOp.quo FloatKind.f32 x0.hi (fop BinOp.mul FloatKind.f32 1073741824 x1))) 3397386240)
      (.cond (fcmp BinOp.leq FloatKind.f32 (F263 (fop BinOp.quo FloatKind.f32 x0.hi (fop BinOp.mul FloatKind.f32 1073741824 x1))) 1249902592)
       (.cond (F191 [F256 x0.lo x1, F256 x0.hi x1])
        (.leaf (⟨(0), (fop BinOp.mul FloatKind.f32 1082130432 x1)⟩ : Rg))
        (.leaf (⟨(0), (F230)⟩ : Rg)))
       (.leaf (⟨(0), (F230)⟩ : Rg)))
      (.leaf (⟨(0), (F230)⟩ : Rg)))
     (.leaf (⟨(0), (F230)⟩ : Rg)))
    (.leaf (⟨(0), (F230)⟩ : Rg))))
theorem ev222 (x0 : Rg) (x1 : Nat) : evalF (env tab10 exts (fun _ => [])) 0 Tryz.f222 [.agg (enc .rg x0), .f32 x1] = (tr222 x0 x1).toOpt (fun x => .plain (.agg (enc .rg x))) := by kernel_rfl
noncomputable def F222 (x0 : Rg) (x1 : Nat) : Rg := (tr222 x0 x1).val
theorem pre222 (x0 : Rg) (x1 : Nat) : (tr222 x0 x1).pre = true := by simp [tr222, Tr.pre]
noncomputable def ent138 : List PV → Option (Bool × CRes)
  | [.agg [.f32 x0_0, .f32 x0_1, .f32 x0_2]] => some (true, (fun (x : Bool) => .plain (.bool x)) (F138 (⟨x0_0, x0_1, x0_2⟩ : V3)))
  | _ => none
theorem ok138 : EntSound Tryz.prog 138 ent138 := by
  refine entry tab10_ok exts_ok (fun _ => []) (fn := Tryz.f138) (by kernel_rfl) (by kernel_rfl) (fun args c h => ?_)
  unfold ent138 at h
  split at h <;> first | (cases h; done) | skip
  rename_i x0_0 x0_1 x0_2
  simp only [Option.some.injEq, Prod.mk.injEq] at h
  obtain ⟨hp, rfl⟩ := h
  exact ⟨0, (ev138 (⟨x0_0, x0_1, x0_2⟩ : V3)).trans (Tr.ok _ _ (pre138 (⟨x0_0, x0_1, x0_2⟩ : V3)))⟩

noncomputable def ent222 : List PV → Option (Bool × CRes)
  | [.agg [.f32 x0_0, .f32 x0_1], .f32 x1] => some (true, (fun (x : Rg) => .plain (.agg (enc .rg x))) (F222 (⟨x0_0, x0_1⟩ : Rg) x1))
  | _ => none
theorem ok222 : EntSound Tryz.prog 222 ent222 := by
  refine entry tab10_ok exts_ok (fun _ => []) (fn := Tryz.f222) (by kernel_rfl) (by kernel_rfl) (fun args c h => ?_)
  unfold ent222 at h
  split at h <;> first | (cases h; done) | skip
  rename_i x0_0 x0_1 x1
  simp only [Option.some.injEq, Prod.mk.injEq] at h
  obtain ⟨hp, rfl⟩ := h
  exact ⟨0, (ev222 (⟨x0_0, x0_1⟩ : Rg) x1).trans (Tr.ok _ _ (pre222 (⟨x0_0, x0_1⟩ : Rg) x1))⟩

noncomputable def tab11 : Tab := ((222, ent222) :: ((138, ent138) :: tab10))
theorem tab11_ok : TSound Tryz.prog (tabT tab11) := (tab_cons (tab_cons tab10_ok ok138) ok222)

end Go.Proofs.YtponnbnebjhepaaGreat

namespace Go.Proofs.YtponnbnebjhepaaGreat
open Go Go.Ev
set_option maxRecDepth 100000

/- impl.ValidBox -/
noncomputable def tr75 (x0 : Bx) : Tr (Bool) :=
  (.cond (F138 x0.lo)
   (.cond (F138 x0.hi)
    (.cond (fcmp BinOp.leq FloatKind.f32 x0.lo.x x0.hi.x)
     (.cond (fcmp BinOp.leq FloatKind.f32 x0.lo.y x0.hi.y)
      (.leaf (fcmp BinOp.leq FloatKind.f32 x0.lo.z x0.hi.z))
      (.leaf (false)))
     (.leaf (false)))
    (.leaf (false)))
   (.leaf (false)))
theorem ev75 (x0 : Bx) : evalF (env tab11 exts (fun _ => [])) 0 Tryz.f75 [.agg (enc .bx x0)] = (tr75 x0).toOpt (fun x => .plain (.bool x)) := by kernel_rfl
noncomputable def F75 (x0 : Bx) : Bool := (tr75 x0).val
theorem pre75 (x0 : Bx) : (tr75 x0).pre = true := by simp [tr75, Tr.pre]
/- (*impl.Node).mixRange -/
noncomputable def tr142 (x0 : Nd) (x1 : Rg) (x2 : Rg) : Tr (Rg) :=
  (.cond (x0.k == 5)
   (.leaf (⟨(F226 x1.lo x2.lo), (F226 x1.hi x2.hi)⟩ : Rg))
   (.cond (x0.k == 6)
    (.leaf (⟨(F227 x1.lo x2.lo), (F227 x1.hi x2.hi)⟩ : Rg))
    (.cond (x0.k == 7)
     (.leaf (⟨(F227 x1.lo (fneg FloatKind.f32 x2.hi)), (F227 x1.hi (fneg FloatKind.f32 x2.lo))⟩ : Rg))
     (.cond (x0.k == 8)
      (.cond (decide (0 ≤ 0) && decide (0 < (↑x0.v.length : Int)))
       (.leaf (⟨((F220 { lo := F226 x1.lo x2.lo, hi := F226 x1.hi x2.hi : Rg } (F215_228 (F220 { lo := x0.v.getD (Int.toNat 0) 0, hi := x0.v.getD (Int.toNat 0) 0 : Rg } (F176 x1 x2)) (x0.v.getD (Int.toNat 0) 0))).lo), ((F220 { lo := F226 x1.lo x2.lo, hi := F226 x1.hi x2.hi : Rg } (F215_228 (F220 { lo := x0.v.getD (Int.toNat 0) 0, hi := x0.v.getD (Int.toNat 0) 0 : Rg } (F176 x1 x2)) (x0.v.getD (Int.toNat 0) 0))).hi)⟩ : Rg))
       .non)
      (.cond (x0.k == 10)
       (.cond (decide (0 ≤ 0) && decide (0 < (↑x0.v.length : Int)))
        (.leaf (⟨((F218 x1 (x0.v.getD (Int.toNat 0) 0)).lo), ((F218 x1 (x0.v.getD (Int.toNat 0) 0)).hi)⟩ : Rg))
        .non)
       (.cond (x0.k == 15)
        (.cond (decide (0 ≤ 0) && decide (0 < (↑x0.v.length : Int)))
         (.leaf (⟨((F214 x1 (x0.v.getD (Int.toNat 0) 0)).lo), ((F214 x1 (x0.v.getD (Int.toNat 0) 0)).hi)⟩ : Rg))
         .non)
        (.cond (x0.k == 16)
         (.cond (decide (0 ≤ 0) && decide (0 < (↑x0.v.length : Int)))
          (.leaf (⟨((F214 (F221 x1) (x0.v.getD (Int.toNat 0) 0)).lo), ((F214 (F221 x1) (x0.v.getD (Int.toNat 0) 0)).hi)⟩ : Rg))
          .non)
         (.leaf (⟨(x1.lo), (x1.hi)⟩ : Rg)))))))))
theorem ev142 (x0 : Nd) (x1 : Rg) (x2 : Rg) : evalF (env tab11 exts (fun _ => [])) 0 Tryz.f142 [.ptr .nd x0 0, .agg (enc .rg x1), .agg (enc .rg x2)] = (tr142 x0 x1 x2).toOpt (fun x => .plain (.agg (enc .rg x))) := by kernel_rfl
noncomputable def F142 (x0 : Nd) (x1 : Rg) (x2 : Rg) : Rg := (tr142 x0 x1 x2).val
noncomputable def ent75 : List PV → Option (Bool × CRes)
  | [.agg [.f32 x0_0, .f32 x0_1, .f32 x0_2, .f32 x0_3, .f32 x0_4, .f32 x0_5]] => some (true, (fun (x : Bool) => .plain (.bool x)) (F75 (⟨⟨x0_0, x0_1, x0_2⟩, ⟨x0_3, x0_4, x0_5⟩⟩ : Bx)))
  | _ => none
theorem ok75 : EntSound Tryz.prog 75 ent75 := by
  refine entry tab11_ok exts_ok (fun _ => []) (fn := Tryz.f75) (by kernel_rfl) (by kernel_rfl) (fun args c h => ?_)
  unfold ent75 at h
  split at h <;> first | (cases h; done) | skip
  rename_i x0_0 x0_1 x0_2 x0_3 x0_4 x0_5
  simp only [Option.some.injEq, Prod.mk.injEq] at h
  obtain ⟨hp, rfl⟩ := h
  exact ⟨0, (ev75 (⟨⟨x0_0, x0_1, x0_2⟩, ⟨x0_3, x0_4, x0_5⟩⟩ : Bx)).trans (Tr.ok _ _ (pre75 (⟨⟨x0_0, x0_1, x0_2⟩, ⟨x0_3, x0_4, x0_5⟩⟩ : Bx)))⟩

noncomputable def ent142 : List PV → Option (Bool × CRes)
  | [.ptr .nd x0 0, .agg [.f32 x1_0, .f32 x1_1], .agg [.f32 x2_0, .f32 x2_1]] => some ((tr142 x0 (⟨x1_0, x1_1⟩ : Rg) (⟨x2_0, x2_1⟩ : Rg)).pre, (fun (x : Rg) => .plain (.agg (enc .rg x))) (F142 x0 (⟨x1_0, x1_1⟩ : Rg) (⟨x2_0, x2_1⟩ : Rg)))
  | _ => none
theorem ok142 : EntSound Tryz.prog 142 ent142 := by
  refine entry tab11_ok exts_ok (fun _ => []) (fn := Tryz.f142) (by kernel_rfl) (by kernel_rfl) (fun args c h => ?_)
  unfold ent142 at h
  split at h <;> first | (cases h; done) | skip
  rename_i x0 x1_0 x1_1 x2_0 x2_1
  simp only [Option.some.injEq, Prod.mk.injEq] at h
  obtain ⟨hp, rfl⟩ := h
  exact ⟨0, (ev142 x0 (⟨x1_0, x1_1⟩ : Rg) (⟨x2_0, x2_1⟩ : Rg)).trans (Tr.ok _ _ hp)⟩

noncomputable def tab12 : Tab := ((142, ent142) :: ((75, ent75) :: tab11))
theorem tab12_ok : TSound Tryz.prog (tabT tab12) := (tab_cons (tab_cons tab11_ok ok75) ok142)

end Go.Proofs.YtponnbnebjhepaaGreat

namespace Go.Proofs.YtponnbnebjhepaaGreat
open Go Go.Ev
set_option maxRecDepth 100000

/- spec.l03Positive -/
noncomputable def tr61 (x0 : Nat) : Tr (Bool) :=
  (.cond (F121 x0)
   (.leaf (fcmp BinOp.gtr FloatKind.f32 x0 0))
   (.leaf (false)))
theorem ev61 (x0 : Nat) : evalF (env tab12 exts (fun _ => [])) 0 Tryz.f61 [.f32 x0] = (tr61 x0).toOpt (fun x => .plain (.bool x)) := by kernel_rfl
noncomputable def F61 (x0 : Nat) : Bool := (tr61 x0).val
theorem pre61 (x0 : Nat) : (tr61 x0).pre = true := by simp [tr61, Tr.pre]
/- spec.l01Scale -/
noncomputable def tr235 (x0 : V3) (x1 : Nat) : Tr (V3) :=
  (.leaf (⟨(fop BinOp.mul FloatKind.f32 x0.x x1), (fop BinOp.mul FloatKind.f32 x0.y x1), (fop BinOp.mul FloatKind.f32 x0.z x1)⟩ : V3))
theorem ev235 (x0 : V3) (x1 : Nat) : evalF (env tab12 exts (fun _ => [])) 0 Tryz.f235 [.agg (enc .v3 x0), .f32 x1] = (tr235 x0 x1).toOpt (fun x => .plain (.agg (enc .v3 x))) := by kernel_rfl
noncomputable def F235 (x0 : V3) (x1 : Nat) : V3 := (tr235 x0 x1).val
theorem pre235 (x0 : V3) (x1 : Nat) : (tr235 x0 x1).pre = true := by simp [tr235, Tr.pre]
/- spec.l01Less -/
noncomputable def tr157 (x0 : V3) (x1 : V3) : Tr (V3) :=
  (.leaf (⟨(fop BinOp.sub FloatKind.f32 x0.x x1.x), (fop BinOp.sub FloatKind.f32 x0.y x1.y), (fop BinOp.sub FloatKind.f32 x0.z x1.z)⟩ : V3))
theorem ev157 (x0 : V3) (x1 : V3) : evalF (env tab12 exts (fun _ => [])) 0 Tryz.f157 [.agg (enc .v3 x0), .agg (enc .v3 x1)] = (tr157 x0 x1).toOpt (fun x => .plain (.agg (enc .v3 x))) := by kernel_rfl
noncomputable def F157 (x0 : V3) (x1 : V3) : V3 := (tr157 x0 x1).val
theorem pre157 (x0 : V3) (x1 : V3) : (tr157 x0 x1).pre = true := by simp [tr157, Tr.pre]
/- spec.l01Cross -/
noncomputable def tr264 (x0 : V3) (x1 : V3) : Tr (V3) :=
  (.leaf (⟨(fop BinOp.sub FloatKind.f32 (fop BinOp.mul FloatKind.f32 x0.y x1.z) (fop BinOp.mul FloatKind.f32 x0.z x1.y)), (fop BinOp.sub FloatKind.f32 (fop BinOp.mul FloatKind.f32 x0.z x1.x) (fop BinOp.mul FloatKind.f32 x0.x x1.z)), (fop BinOp.sub FloatKind.f32 (fop BinOp.mul FloatKind.f32 x0.x x1.y) (fop BinOp.mul FloatKind.f32 x0.y x1.x))⟩ : V3))
theorem ev264 (x0 : V3) (x1 : V3) : evalF (env tab12 exts (fun _ => [])) 0 Tryz.f264 [.agg (enc .v3 x0), .agg (enc .v3 x1)] = (tr264 x0 x1).toOpt (fun x => .plain (.agg (enc .v3 x))) := by kernel_rfl
noncomputable def F264 (x0 : V3) (x1 : V3) : V3 := (tr264 x0 x1).val
theorem pre264 (x0 : V3) (x1 : V3) : (tr264 x0 x1).pre = true := by simp [tr264, Tr.pre]
/- spec.l09Some -/
noncomputable def tr233 (x0 : V3) : Tr (Bool) :=
  (.cond (fcmp BinOp.eql FloatKind.f32 x0.x x0.x)
   (.cond (fcmp BinOp.eql FloatKind.f32 x0.y x0.y)
    (.cond (fcmp BinOp.eql FloatKind.f32 x0.z x0.z)
     (.cond (fcmp BinOp.neq FloatKind.f32 x0.x 0)
      (.leaf (true))
      (.cond (fcmp BinOp.neq FloatKind.f32 x0.y 0)
       (.leaf (true))
       (.leaf (fcmp BinOp.neq FloatKind.f32 x0.z 0))))
     (.leaf (false)))
    (.leaf (false)))
   (.leaf (false)))
theorem ev233 (x0 : V3) : evalF (env tab12 exts (fun _ => [])) 0 Tryz.f233 [.agg (enc .v3 x0)] = (tr233 x0).toOpt (fun x => .plain (.bool x)) := by kernel_rfl
noncomputable def F233 (x0 : V3) : Bool := (tr233 x0).val
theorem pre233 (x0 : V3) : (tr233 x0).pre = true := by simp [tr233, Tr.pre]
/- spec.l09Pixel -/
noncomputable def tr86 (x0 : Cam) (x1 : Int) (x2 : Int) : Tr (Bool) :=
  (.cond (F78 x1 0 (IntKind.i64.wrap (x0.w - 1)))
   (.leaf (F78 x2 0 (IntKind.i64.wrap (x0.h - 1))))
   (.leaf (false)))
theorem ev86 (x0 : Cam) (x1 : Int) (x2 : Int) : evalF (env tab12 exts (fun _ => [])) 0 Tryz.f86 [.ptr .cam x0 0, .int .i64 x1, .int .i64 x2] = (tr86 x0 x1 x2).toOpt (fun x => .plain (.bool x)) := by kernel_rfl
noncomputable def F86 (x0 : Cam) (x1 : Int) (x2 : Int) : Bool := (tr86 x0 x1 x2).val
theorem pre86 (x0 : Cam) (x1 : Int) (x2 : Int) : (tr86 x0 x1 x2).pre = true := by simp [tr86, Tr.pre]
/- spec.l01Add -/
noncomputable def tr234 (x0 : V3) (x1 : V3) : Tr (V3) :=
  (.leaf (⟨(fop BinOp.add FloatKind.f32 x0.x x1.x), (fop BinOp.add FloatKind.f32 x0.y x1.y), (fop BinOp.add FloatKind.f32 x0.z x1.z)⟩ : V3))
theorem ev234 (x0 : V3) (x1 : V3) : evalF (env tab12 exts (fun _ => [])) 0 Tryz.f234 [.agg (enc .v3 x0), .agg (enc .v3 x1)] = (tr234 x0 x1).toOpt (fun x => .plain (.agg (enc .v3 x))) := by kernel_rfl
noncomputable def F234 (x0 : V3) (x1 : V3) : V3 := (tr234 x0 x1).val
theorem pre234 (x0 : V3) (x1 : V3) : (tr234 x0 x1).pre = true := by simp [tr234, Tr.pre]
/- spec.l02Pick -/
noncomputable def tr146 (x0 : V3) (x1 : Int) : Tr (Nat) :=
  (.cond (x1 == 0)
   (.leaf (x0.x))
   (.cond (x1 == 1)
    (.leaf (x0.y))
    (.leaf (x0.z))))
theorem ev146 (x0 : V3) (x1 : Int) : evalF (env tab12 exts (fun _ => [])) 0 Tryz.f146 [.agg (enc .v3 x0), .int .i64 x1] = (tr146 x0 x1).toOpt (fun x => .plain (.f32 x)) := by kernel_rfl
noncomputable def F146 (x0 : V3) (x1 : Int) : Nat := (tr146 x0 x1).val
theorem pre146 (x0 : V3) (x1 : Int) : (tr146 x0 x1).pre = true := by simp [tr146, Tr.pre]
/- spec.l02Set -/
noncomputable def tr147 (x0 : V3) (x1 : Int) (x2 : Nat) : Tr (V3) :=
  (.cond (x1 == 0)
   (.leaf (⟨(x2), (x0.y), (x0.z)⟩ : V3))
   (.cond (x1 == 1)
    (.leaf (⟨(x0.x), (x2), (x0.z)⟩ : V3))
    (.leaf (⟨(x0.x), (x0.y), (x2)⟩ : V3))))
theorem ev147 (x0 : V3) (x1 : Int) (x2 : Nat) : evalF (env tab12 exts (fun _ => [])) 0 Tryz.f147 [.agg (enc .v3 x0), .int .i64 x1, .f32 x2] = (tr147 x0 x1 x2).toOpt (fun x => .plain (.agg (enc .v3 x))) := by kernel_rfl
noncomputable def F147 (x0 : V3) (x1 : Int) (x2 : Nat) : V3 := (tr147 x0 x1 x2).val
theorem pre147 (x0 : V3) (x1 : Int) (x2 : Nat) : (tr147 x0 x1 x2).pre = true := by simp [tr147, Tr.pre]
/- spec.l02Folded -/
noncomputable def tr273 (x0 : Nat) (x1 : Nat) : Tr (Nat) :=
  (.cond (narrowOk FloatKind.f64 (fint Ieee.Toward.even (f2f FloatKind.f32 (fop BinOp.quo FloatKind.f32 x0 (fop BinOp.mul FloatKind.f32 1073741824 x1)) FloatKind.f64)) FloatKind.f32)
   (.leaf (F62 (fop BinOp.sub FloatKind.f32 x0 (fop BinOp.mul FloatKind.f32 (fop BinOp.mul FloatKind.f32 1073741824 x1) (f2f FloatKind.f64 (fint Ieee.Toward.even (f2f FloatKind.f32 (fop BinOp.quo FloatKind.f32 x0 (fop BinOp.mul FloatKind.f32 1073741824 x1)) FloatKind.f64)) FloatKind.f32)))))
   .non)
theorem ev273 (x0 : Nat) (x1 : Nat) : evalF (env tab12 exts (fun _ => [])) 0 Tryz.f273 [.f32 x0, .f32 x1] = (tr273 x0 x1).toOpt (fun x => .plain (.f32 x)) := by kernel_rfl
noncomputable def F273 (x0 : Nat) (x1 : Nat) : Nat := (tr273 x0 x1).val
/- spec.l02Mixed -/
noncomputable def tr189 (x0 : Nd) (x1 : Nat) (x2 : Nat) : Tr (Nat) :=
  (.cond (x0.k == 5)
   (.leaf (F208 x1 x2))
   (.cond (x0.k == 6)
    (.leaf (F209 x1 x2))
    (.cond (x0.k == 7)
     (.leaf (F209 x1 (fneg FloatKind.f32 x2)))
     (.cond (x0.k == 8)
      (.cond (decide (0 ≤ 0) && decide (0 < (↑x0.v.length : Int)))
       (.cond (fcmp BinOp.gtr FloatKind.f32 (fop BinOp.sub FloatKind.f32 (x0.v.getD (Int.toNat 0) 0) (F62 (fop BinOp.sub FloatKind.f32 x1 x2))) 0)
        (.leaf (fop BinOp.sub FloatKind.f32 (F208 x1 x2) (fop BinOp.quo FloatKind.f32 (fop BinOp.mul FloatKind.f32 (fop BinOp.sub FloatKind.f32 (x0.v.getD (Int.toNat 0) 0) (F62 (fop BinOp.sub FloatKind.f32 x1 x2))) (fop BinOp.sub FloatKind.f32 (x0.v.getD (Int.toNat 0) 0) (F62 (fop BinOp.sub FloatKind.f32 x1 x2)))) (fop BinOp.mul FloatKind.f32 1082130432 (x0.v.getD (Int.toNat 0) 0)))))
        (.leaf (F208 x1 x2)))
       .non)
      (.cond (x0.k == 10)
       (.cond (decide (0 ≤ 0) && decide (0 < (↑x0.v.length : Int)))
        (.leaf (fop BinOp.mul FloatKind.f32 x1 (x0.v.getD (Int.toNat 0) 0)))
        .non)
       (.cond (x0.k == 15)
        (.cond (decide (0 ≤ 0) && decide (0 < (↑x0.v.length : Int)))
         (.leaf (fop BinOp.sub FloatKind.f32 x1 (x0.v.getD (Int.toNat 0) 0)))
         .non)
        (.cond (x0.k == 16)
         (.cond (decide (0 ≤ 0) && decide (0 < (↑x0.v.length : Int)))
          (.leaf (fop BinOp.sub FloatKind.f32 (F62 x1) (x0.v.getD (Int.toNat 0) 0)))
          .non)
         (.leaf (x1)))))))))
theorem ev189 (x0 : Nd) (x1 : Nat) (x2 : Nat) : evalF (env tab12 exts (fun _ => [])) 0 Tryz.f189 [.ptr .nd x0 0, .f32 x1, .f32 x2] = (tr189 x0 x1 x2).toOpt (fun x => .plain (.f32 x)) := by kernel_rfl
noncomputable def F189 (x0 : Nd) (x1 : Nat) (x2 : Nat) : Nat := (tr189 x0 x1 x2).val
/- laws.toCamera -/
noncomputable def tr88 (x0 : Cam) : Tr (Cam) :=
  (.leaf (⟨⟨((F65 x0.src).x), ((F65 x0.src).y), ((F65 x0.src).z)⟩, ⟨((F65 x0.to).x), ((F65 x0.to).y), ((F65 x0.to).z)⟩, (x0.wide), (x0.w), (x0.h)⟩ : Cam))
theorem ev88 (x0 : Cam) : evalF (env tab12 exts (fun _ => [])) 0 Tryz.f88 [.agg (enc .cam x0)] = (tr88 x0).toOpt (fun x => .plain (.agg (enc .cam x))) := by kernel_rfl
noncomputable def F88 (x0 : Cam) : Cam := (tr88 x0).val
theorem pre88 (x0 : Cam) : (tr88 x0).pre = true := by simp [tr88, Tr.pre]
/- laws.toMarch -/
noncomputable def tr89 (x0 : Mar) : Tr (Mar) :=
  (.leaf (⟨(x0.near), (x0.most), (x0.steps)⟩ : Mar))
theorem ev89 (x0 : Mar) : evalF (env tab12 exts (fun _ => [])) 0 Tryz.f89 [.agg (enc .mar x0)] = (tr89 x0).toOpt (fun x => .plain (.agg (enc .mar x))) := by kernel_rfl
noncomputable def F89 (x0 : Mar) : Mar := (tr89 x0).val
theorem pre89 (x0 : Mar) : (tr89 x0).pre = true := by simp [tr89, Tr.pre]
/- impl.stepOk -/
noncomputable def tr67 (x0 : Nat) : Tr (Bool) :=
  (.cond (F128 x0)
   (.leaf (fcmp BinOp.gtr FloatKind.f32 x0 0))
   (.leaf (false)))
theorem ev67 (x0 : Nat) : evalF (env tab12 exts (fun _ => [])) 0 Tryz.f67 [.f32 x0] = (tr67 x0).toOpt (fun x => .plain (.bool x)) := by kernel_rfl
noncomputable def F67 (x0 : Nat) : Bool := (tr67 x0).val
theorem pre67 (x0 : Nat) : (tr67 x0).pre = true := by simp [tr67, Tr.pre]
/- impl.ScaleVector -/
noncomputable def tr243 (x0 : V3) (x1 : Nat) : Tr (V3) :=
  (.leaf (⟨(fop BinOp.mul FloatKind.f32 x0.x x1), (fop BinOp.mul FloatKind.f32 x0.y x1), (fop BinOp.mul FloatKind.f32 x0.z x1)⟩ : V3))
theorem ev243 (x0 : V3) (x1 : Nat) : evalF (env tab12 exts (fun _ => [])) 0 Tryz.f243 [.agg (enc .v3 x0), .f32 x1] = (tr243 x0 x1).toOpt (fun x => .plain (.agg (enc .v3 x))) := by kernel_rfl
noncomputable def F243 (x0 : V3) (x1 : Nat) : V3 := (tr243 x0 x1).val
theorem pre243 (x0 : V3) (x1 : Nat) : (tr243 x0 x1).pre = true := by simp [tr243, Tr.pre]
/- impl.LessVectors -/
noncomputable def tr168 (x0 : V3) (x1 : V3) : Tr (V3) :=
  (.leaf (⟨(fop BinOp.sub FloatKind.f32 x0.x x1.x), (fop BinOp.sub FloatKind.f32 x0.y x1.y), (fop BinOp.sub FloatKind.f32 x0.z x1.z)⟩ : V3))
theorem ev168 (x0 : V3) (x1 : V3) : evalF (env tab12 exts (fun _ => [])) 0 Tryz.f168 [.agg (enc .v3 x0), .agg (enc .v3 x1)] = (tr168 x0 x1).toOpt (fun x => .plain (.agg (enc .v3 x))) := by kernel_rfl
noncomputable def F168 (x0 : V3) (x1 : V3) : V3 := (tr168 x0 x1).val
theorem pre168 (x0 : V3) (x1 : V3) : (tr168 x0 x1).pre = true := by simp [tr168, Tr.pre]
/- impl.crossed -/
noncomputable def tr279 (x0 : Nat) (x1 : Nat) (x2 : Nat) (x3 : Nat) : Tr (Nat) :=
  (.leaf (fop BinOp.sub FloatKind.f32 (fop BinOp.mul FloatKind.f32 x0 x1) (fop BinOp.mul FloatKind.f32 x2 x3)))
theorem ev279 (x0 : Nat) (x1 : Nat) (x2 : Nat) (x3 : Nat) : evalF (env tab12 exts (fun _ => [])) 0 Tryz.f279 [.f32 x0, .f32 x1, .f32 x2, .f32 x3] = (tr279 x0 x1 x2 x3).toOpt (fun x => .plain (.f32 x)) := by kernel_rfl
noncomputable def F279 (x0 : Nat) (x1 : Nat) (x2 : Nat) (x3 : Nat) : Nat := (tr279 x0 x1 x2 x3).val
theorem pre279 (x0 : Nat) (x1 : Nat) (x2 : Nat) (x3 : Nat) : (tr279 x0 x1 x2 x3).pre = true := by simp [tr279, Tr.pre]
/- impl.isZero -/
noncomputable def tr240 (x0 : V3) : Tr (Bool) :=
  (.cond (fcmp BinOp.eql FloatKind.f32 x0.x 0)
   (.cond (fcmp BinOp.eql FloatKind.f32 x0.y 0)
    (.leaf (fcmp BinOp.eql FloatKind.f32 x0.z 0))
    (.leaf (false)))
   (.leaf (false)))
theorem ev240 (x0 : V3) : evalF (env tab12 exts (fun _ => [])) 0 Tryz.f240 [.agg (enc .v3 x0)] = (tr240 x0).toOpt (fun x => .plain (.bool x)) := by kernel_rfl
noncomputable def F240 (x0 : V3) : Bool := (tr240 x0).val
theorem pre240 (x0 : V3) : (tr240 x0).pre = true := by simp [tr240, Tr.pre]
/- impl.share -/
noncomputable def tr241 (x0 : Int) (x1 : Int) : Tr (Nat) :=
  (.leaf (fop BinOp.mul FloatKind.f32 (fop BinOp.quo FloatKind.f32 (fop BinOp.add FloatKind.f32 (i2f FloatKind.f32 x0) 1056964608) (i2f FloatKind.f32 x1)) 1073741824))
theorem ev241 (x0 : Int) (x1 : Int) : evalF (env tab12 exts (fun _ => [])) 0 Tryz.f241 [.int .i64 x0, .int .i64 x1] = (tr241 x0 x1).toOpt (fun x => .plain (.f32 x)) := by kernel_rfl
noncomputable def F241 (x0 : Int) (x1 : Int) : Nat := (tr241 x0 x1).val
theorem pre241 (x0 : Int) (x1 : Int) : (tr241 x0 x1).pre = true := by simp [tr241, Tr.pre]
/- impl.AddVectors -/
noncomputable def tr242 (x0 : V3) (x1 : V3) : Tr (V3) :=
  (.leaf (⟨(fop BinOp.add FloatKind.f32 x0.x x1.x), (fop BinOp.add FloatKind.f32 x0.y x1.y), (fop BinOp.add FloatKind.f32 x0.z x1.z)⟩ : V3))
theorem ev242 (x0 : V3) (x1 : V3) : evalF (env tab12 exts (fun _ => [])) 0 Tryz.f242 [.agg (enc .v3 x0), .agg (enc .v3 x1)] = (tr242 x0 x1).toOpt (fun x => .plain (.agg (enc .v3 x))) := by kernel_rfl
noncomputable def F242 (x0 : V3) (x1 : V3) : V3 := (tr242 x0 x1).val
theorem pre242 (x0 : V3) (x1 : V3) : (tr242 x0 x1).pre = true := by simp [tr242, Tr.pre]
/- impl.hasWay -/
noncomputable def tr244 (x0 : V3) : Tr (Bool) :=
  (.cond (!F143 x0.x)
   (.cond (!F143 x0.y)
    (.cond (!F143 x0.z)
     (.cond (fcmp BinOp.neq FloatKind.f32 x0.x 0)
      (.leaf (true))
      (.cond (fcmp BinOp.neq FloatKind.f32 x0.y 0)
       (.leaf (true))
       (.leaf (fcmp BinOp.neq FloatKind.f32 x0.z 0))))
     (.leaf (false)))
    (.leaf (false)))
   (.leaf (false)))
theorem ev244 (x0 : V3) : evalF (env tab12 exts (fun _ => [])) 0 Tryz.f244 [.agg (enc .v3 x0)] = (tr244 x0).toOpt (fun x => .plain (.bool x)) := by kernel_rfl
noncomputable def F244 (x0 : V3) : Bool := (tr244 x0).val
theorem pre244 (x0 : V3) : (tr244 x0).pre = true := by simp [tr244, Tr.pre]
/- (*impl.Node).mix -/
noncomputable def tr196 (x0 : Nd) (x1 : Nat) (x2 : Nat) : Tr (Nat) :=
  (.cond (x0.k == 5)
   (.leaf (F226 x1 x2))
   (.cond (x0.k == 6)
    (.leaf (F227 x1 x2))
    (.cond (x0.k == 7)
     (.leaf (F227 x1 (fneg FloatKind.f32 x2)))
     (.cond (x0.k == 8)
      (.cond (decide (0 ≤ 0) && decide (0 < (↑x0.v.length : Int)))
       (.cond (fcmp BinOp.gtr FloatKind.f32 (fop BinOp.sub FloatKind.f32 (x0.v.getD (Int.toNat 0) 0) (F68 (fop BinOp.sub FloatKind.f32 x1 x2))) 0)
        (.cond (decide (0 ≤ 0) && decide (0 < (↑x0.v.length : Int)))
         (.leaf (fop BinOp.sub FloatKind.f32 (F226 x1 x2) (F229 (fop BinOp.sub FloatKind.f32 (x0.v.getD (Int.toNat 0) 0) (F68 (fop BinOp.sub FloatKind.f32 x1 x2))) (x0.v.getD (Int.toNat 0) 0))))
         .non)
        (.leaf (F226 x1 x2)))
       .non)
      (.cond (x0.k == 10)
       (.cond (decide (0 ≤ 0) && decide (0 < (↑x0.v.length : Int)))
        (.leaf (fop BinOp.mul FloatKind.f32 x1 (x0.v.getD (Int.toNat 0) 0)))
        .non)
       (.cond (x0.k == 15)
        (.cond (decide (0 ≤ 0) && decide (0 < (↑x0.v.length : Int)))
         (.leaf (fop BinOp.sub FloatKind.f32 x1 (x0.v.getD (Int.toNat 0) 0)))
         .non)
        (.cond (x0.k == 16)
         (.cond (decide (0 ≤ 0) && decide (0 < (↑x0.v.length : Int)))
          (.leaf (fop BinOp.sub FloatKind.f32 (F68 x1) (x0.v.getD (Int.toNat 0) 0)))
          .non)
         (.leaf (x1)))))))))
theorem ev196 (x0 : Nd) (x1 : Nat) (x2 : Nat) : evalF (env tab12 exts (fun _ => [])) 0 Tryz.f196 [.ptr .nd x0 0, .f32 x1, .f32 x2] = (tr196 x0 x1 x2).toOpt (fun x => .plain (.f32 x)) := by kernel_rfl
noncomputable def F196 (x0 : Nd) (x1 : Nat) (x2 : Nat) : Nat := (tr196 x0 x1 x2).val
/- impl.vectorOf -/
noncomputable def tr231 (x0 : V3) : Tr (V3) :=
  (.leaf (⟨(x0.x), (x0.y), (x0.z)⟩ : V3))
theorem ev231 (x0 : V3) : evalF (env tab12 exts (fun _ => [])) 0 Tryz.f231 [.agg (enc .v3 x0)] = (tr231 x0).toOpt (fun x => .plain (.agg (enc .v3 x))) := by kernel_rfl
noncomputable def F231 (x0 : V3) : V3 := (tr231 x0).val
theorem pre231 (x0 : V3) : (tr231 x0).pre = true := by simp [tr231, Tr.pre]
/- laws.eqVector -/
noncomputable def tr71 (x0 : V3) (x1 : V3) : Tr (Bool) :=
  (.cond (!F41 (f2f FloatKind.f32 x0.x FloatKind.f64) (f2f FloatKind.f32 x1.x FloatKind.f64))
   (.leaf (false))
   (.cond (!F41 (f2f FloatKind.f32 x0.y FloatKind.f64) (f2f FloatKind.f32 x1.y FloatKind.f64))
    (.leaf (false))
    (.cond (!F41 (f2f FloatKind.f32 x0.z FloatKind.f64) (f2f FloatKind.f32 x1.z FloatKind.f64))
     (.leaf (false))
     (.leaf (true)))))
theorem ev71 (x0 : V3) (x1 : V3) : evalF (env tab12 exts (fun _ => [])) 0 Tryz.f71 [.agg (enc .v3 x0), .agg (enc .v3 x1)] = (tr71 x0 x1).toOpt (fun x => .plain (.bool x)) := by kernel_rfl
noncomputable def F71 (x0 : V3) (x1 : V3) : Bool := (tr71 x0 x1).val
theorem pre71 (x0 : V3) (x1 : V3) : (tr71 x0 x1).pre = true := by simp [tr71, Tr.pre]
/- laws.eqMarch -/
noncomputable def tr94 (x0 : Mar) (x1 : Mar) : Tr (Bool) :=
  (.cond (!F41 (f2f FloatKind.f32 x0.near FloatKind.f64) (f2f FloatKind.f32 x1.near FloatKind.f64))
   (.leaf (false))
   (.cond (!F41 (f2f FloatKind.f32 x0.most FloatKind.f64) (f2f FloatKind.f32 x1.most FloatKind.f64))
    (.leaf (false))
    (.cond (x0.steps != x1.steps)
     (.leaf (false))
     (.leaf (true)))))
theorem ev94 (x0 : Mar) (x1 : Mar) : evalF (env tab12 exts (fun _ => [])) 0 Tryz.f94 [.agg (enc .mar x0), .agg (enc .mar x1)] = (tr94 x0 x1).toOpt (fun x => .plain (.bool x)) := by kernel_rfl
noncomputable def F94 (x0 : Mar) (x1 : Mar) : Bool := (tr94 x0 x1).val
theorem pre94 (x0 : Mar) (x1 : Mar) : (tr94 x0 x1).pre = true := by simp [tr94, Tr.pre]
/- spec.l09Whole -/
noncomputable def tr103 (x0 : Cam) : Tr (Tl) :=
  (.leaf (⟨(0), (0), (x0.w), (x0.h)⟩ : Tl))
theorem ev103 (x0 : Cam) : evalF (env tab12 exts (fun _ => [])) 0 Tryz.f103 [.ptr .cam x0 0] = (tr103 x0).toOpt (fun x => .plain (.agg (enc .tl x))) := by kernel_rfl
noncomputable def F103 (x0 : Cam) : Tl := (tr103 x0).val
theorem pre103 (x0 : Cam) : (tr103 x0).pre = true := by simp [tr103, Tr.pre]
/- math.IsNaN -/
noncomputable def tr280 (x0 : Nat) : Tr (Bool) :=
  (.leaf (fcmp BinOp.neq FloatKind.f64 x0 x0))
theorem ev280 (x0 : Nat) : evalF (env tab12 exts (fun _ => [])) 0 Tryz.f280 [.f64 x0] = (tr280 x0).toOpt (fun x => .plain (.bool x)) := by kernel_rfl
noncomputable def F280 (x0 : Nat) : Bool := (tr280 x0).val
theorem pre280 (x0 : Nat) : (tr280 x0).pre = true := by simp [tr280, Tr.pre]
/- math.IsInf -/
noncomputable def tr281 (x0 : Nat) (x1 : Int) : Tr (Bool) :=
  (.cond (x1 == 0)
   (.cond (fcmp BinOp.eql FloatKind.f64 x0 x0)
    (.leaf (fcmp BinOp.gtr FloatKind.f64 (fabs x0) 9218868437227405311))
    .non)
   (.cond (decide (x1 < 0))
    (.leaf (fcmp BinOp.gtr FloatKind.f64 (fneg FloatKind.f64 x0) 9218868437227405311))
    (.leaf (fcmp BinOp.gtr FloatKind.f64 x0 9218868437227405311))))
theorem ev281 (x0 : Nat) (x1 : Int) : evalF (env tab12 exts (fun _ => [])) 0 Tryz.f281 [.f64 x0, .int .i64 x1] = (tr281 x0 x1).toOpt (fun x => .plain (.bool x)) := by kernel_rfl
noncomputable def F281 (x0 : Nat) (x1 : Int) : Bool := (tr281 x0 x1).val
/- laws.toTile -/
noncomputable def tr51 (x0 : Tl) : Tr (Tl) :=
  (.leaf (⟨(x0.x), (x0.y), (x0.w), (x0.h)⟩ : Tl))
theorem ev51 (x0 : Tl) : evalF (env tab12 exts (fun _ => [])) 0 Tryz.f51 [.agg (enc .tl x0)] = (tr51 x0).toOpt (fun x => .plain (.agg (enc .tl x))) := by kernel_rfl
noncomputable def F51 (x0 : Tl) : Tl := (tr51 x0).val
theorem pre51 (x0 : Tl) : (tr51 x0).pre = true := by simp [tr51, Tr.pre]
/- impl.splitsOk -/
noncomputable def tr111 (x0 : Int) : Tr (Bool) :=
  (.leaf (F81 x0 0 6))
theorem ev111 (x0 : Int) : evalF (env tab12 exts (fun _ => [])) 0 Tryz.f111 [.int .i64 x0] = (tr111 x0).toOpt (fun x => .plain (.bool x)) := by kernel_rfl
noncomputable def F111 (x0 : Int) : Bool := (tr111 x0).val
theorem pre111 (x0 : Int) : (tr111 x0).pre = true := by simp [tr111, Tr.pre]
/- laws.szVectorS -/
noncomputable def tr14 (x0 : List V3) (x1 : Int) : Tr (Int) :=
  (.cond (decide (IntKind.i64.wrap (x1 - (↑x0.length : Int)) < 0))
   (.leaf (-1))
   (.leaf (IntKind.i64.wrap (x1 - (↑x0.length : Int)))))
theorem ev14 (x0 : List V3) (x1 : Int) : evalF (env tab12 exts (fun _ => [])) 0 Tryz.f14 [.slice .v3 x0, .int .i64 x1] = (tr14 x0 x1).toOpt (fun x => .plain (.int .i64 x)) := by kernel_rfl
noncomputable def F14 (x0 : List V3) (x1 : Int) : Int := (tr14 x0 x1).val
theorem pre14 (x0 : List V3) (x1 : Int) : (tr14 x0 x1).pre = true := by simp [tr14, Tr.pre]
/- spec.l04Choice -/
noncomputable def tr172 (x0 : Nd) (x1 : Rg) (x2 : Rg) : Tr (Int) :=
  (.cond (x0.k == 8)
   (.cond (x0.k == 8)
    (.cond (decide (0 ≤ 0) && decide (0 < (↑x0.v.length : Int)))
     (.cond (!fcmp BinOp.leq FloatKind.f32 (x0.v.getD (Int.toNat 0) 0) (F211 x1 x2).lo)
      (.leaf (-1))
      (.cond (fcmp BinOp.geq FloatKind.f32 x2.lo x1.hi)
       (.leaf (0))
       (.cond (fcmp BinOp.lss FloatKind.f32 x2.hi x1.lo)
        (.leaf (1))
        (.leaf (-1)))))
     .non)
    (.cond (fcmp BinOp.geq FloatKind.f32 x2.lo x1.hi)
     (.leaf (0))
     (.cond (fcmp BinOp.lss FloatKind.f32 x2.hi x1.lo)
      (.leaf (1))
      (.leaf (-1)))))
   (.cond (x0.k == 5)
    (.cond (x0.k == 8)
     (.cond (decide (0 ≤ 0) && decide (0 < (↑x0.v.length : Int)))
      (.cond (!fcmp BinOp.leq FloatKind.f32 (x0.v.getD (Int.toNat 0) 0) (F211 x1 x2).lo)
       (.leaf (-1))
       (.cond (fcmp BinOp.geq FloatKind.f32 x2.lo x1.hi)
        (.leaf (0))
        (.cond (fcmp BinOp.lss FloatKind.f32 x2.hi x1.lo)
         (.leaf (1))
         (.leaf (-1)))))
      .non)
     (.cond (fcmp BinOp.geq FloatKind.f32 x2.lo x1.hi)
      (.leaf (0))
      (.cond (fcmp BinOp.lss FloatKind.f32 x2.hi x1.lo)
       (.leaf (1))
       (.leaf (-1)))))
    (.cond (x0.k == 6)
     (.cond (fcmp BinOp.leq FloatKind.f32 x2.hi x1.lo)
      (.leaf (0))
      (.cond (fcmp BinOp.gtr FloatKind.f32 x2.lo x1.hi)
       (.leaf (1))
       (.leaf (-1))))
     (.cond (x0.k == 7)
      (.cond (fcmp BinOp.leq FloatKind.f32 (fneg FloatKind.f32 x2.lo) x1.lo)
       (.leaf (0))
       (.leaf (-1)))
      (.leaf (-1))))))
theorem ev172 (x0 : Nd) (x1 : Rg) (x2 : Rg) : evalF (env tab12 exts (fun _ => [])) 0 Tryz.f172 [.ptr .nd x0 0, .agg (enc .rg x1), .agg (enc .rg x2)] = (tr172 x0 x1 x2).toOpt (fun x => .plain (.int .i64 x)) := by kernel_rfl
noncomputable def F172 (x0 : Nd) (x1 : Rg) (x2 : Rg) : Int := (tr172 x0 x1 x2).val
/- spec.l00Min -/
noncomputable def tr183 (x0 : Int) (x1 : Int) : Tr (Int) :=
  (.cond (decide (x0 < x1))
   (.leaf (x0))
   (.leaf (x1)))
theorem ev183 (x0 : Int) (x1 : Int) : evalF (env tab12 exts (fun _ => [])) 0 Tryz.f183 [.int .i64 x0, .int .i64 x1] = (tr183 x0 x1).toOpt (fun x => .plain (.int .i64 x)) := by kernel_rfl
noncomputable def F183 (x0 : Int) (x1 : Int) : Int := (tr183 x0 x1).val
theorem pre183 (x0 : Int) (x1 : Int) : (tr183 x0 x1).pre = true := by simp [tr183, Tr.pre]
noncomputable def ent61 : List PV → Option (Bool × CRes)
  | [.f32 x0] => some (true, (fun (x : Bool) => .plain (.bool x)) (F61 x0))
  | _ => none
theorem ok61 : EntSound Tryz.prog 61 ent61 := by
  refine entry tab12_ok exts_ok (fun _ => []) (fn := Tryz.f61) (by kernel_rfl) (by kernel_rfl) (fun args c h => ?_)
  unfold ent61 at h
  split at h <;> first | (cases h; done) | skip
  rename_i x0
  simp only [Option.some.injEq, Prod.mk.injEq] at h
  obtain ⟨hp, rfl⟩ := h
  exact ⟨0, (ev61 x0).trans (Tr.ok _ _ (pre61 x0))⟩

noncomputable def ent235 : List PV → Option (Bool × CRes)
  | [.agg [.f32 x0_0, .f32 x0_1, .f32 x0_2], .f32 x1] => some (true, (fun (x : V3) => .plain (.agg (enc .v3 x))) (F235 (⟨x0_0, x0_1, x0_2⟩ : V3) x1))
  | _ => none
theorem ok235 : EntSound Tryz.prog 235 ent235 := by
  refine entry tab12_ok exts_ok (fun _ => []) (fn := Tryz.f235) (by kernel_rfl) (by kernel_rfl) (fun args c h => ?_)
  unfold ent235 at h
  split at h <;> first | (cases h; done) | skip
  rename_i x0_0 x0_1 x0_2 x1
  simp only [Option.some.injEq, Prod.mk.injEq] at h
  obtain ⟨hp, rfl⟩ := h
  exact ⟨0, (ev235 (⟨x0_0, x0_1, x0_2⟩ : V3) x1).trans (Tr.ok _ _ (pre235 (⟨x0_0, x0_1, x0_2⟩ : V3) x1))⟩

noncomputable def ent157 : List PV → Option (Bool × CRes)
  | [.agg [.f32 x0_0, .f32 x0_1, .f32 x0_2], .agg [.f32 x1_0, .f32 x1_1, .f32 x1_2]] => some (true, (fun (x : V3) => .plain (.agg (enc .v3 x))) (F157 (⟨x0_0, x0_1, x0_2⟩ : V3) (⟨x1_0, x1_1, x1_2⟩ : V3)))
  | _ => none
theorem ok157 : EntSound Tryz.prog 157 ent157 := by
  refine entry tab12_ok exts_ok (fun _ => []) (fn := Tryz.f157) (by kernel_rfl) (by kernel_rfl) (fun args c h => ?_)
  unfold ent157 at h
  split at h <;> first | (cases h; done) | skip
  rename_i x0_0 x0_1 x0_2 x1_0 x1_1 x1_2
  simp only [Option.some.injEq, Prod.mk.injEq] at h
  obtain ⟨hp, rfl⟩ := h
  exact ⟨0, (ev157 (⟨x0_0, x0_1, x0_2⟩ : V3) (⟨x1_0, x1_1, x1_2⟩ : V3)).trans (Tr.ok _ _ (pre157 (⟨x0_0, x0_1, x0_2⟩ : V3) (⟨x1_0, x1_1, x1_2⟩ : V3)))⟩

noncomputable def ent264 : List PV → Option (Bool × CRes)
  | [.agg [.f32 x0_0, .f32 x0_1, .f32 x0_2], .agg [.f32 x1_0, .f32 x1_1, .f32 x1_2]] => some (true, (fun (x : V3) => .plain (.agg (enc .v3 x))) (F264 (⟨x0_0, x0_1, x0_2⟩ : V3) (⟨x1_0, x1_1, x1_2⟩ : V3)))
  | _ => none
theorem ok264 : EntSound Tryz.prog 264 ent264 := by
  refine entry tab12_ok exts_ok (fun _ => []) (fn := Tryz.f264) (by kernel_rfl) (by kernel_rfl) (fun args c h => ?_)
  unfold ent264 at h
  split at h <;> first | (cases h; done) | skip
  rename_i x0_0 x0_1 x0_2 x1_0 x1_1 x1_2
  simp only [Option.some.injEq, Prod.mk.injEq] at h
  obtain ⟨hp, rfl⟩ := h
  exact ⟨0, (ev264 (⟨x0_0, x0_1, x0_2⟩ : V3) (⟨x1_0, x1_1, x1_2⟩ : V3)).trans (Tr.ok _ _ (pre264 (⟨x0_0, x0_1, x0_2⟩ : V3) (⟨x1_0, x1_1, x1_2⟩ : V3)))⟩

noncomputable def ent233 : List PV → Option (Bool × CRes)
  | [.agg [.f32 x0_0, .f32 x0_1, .f32 x0_2]] => some (true, (fun (x : Bool) => .plain (.bool x)) (F233 (⟨x0_0, x0_1, x0_2⟩ : V3)))
  | _ => none
theorem ok233 : EntSound Tryz.prog 233 ent233 := by
  refine entry tab12_ok exts_ok (fun _ => []) (fn := Tryz.f233) (by kernel_rfl) (by kernel_rfl) (fun args c h => ?_)
  unfold ent233 at h
  split at h <;> first | (cases h; done) | skip
  rename_i x0_0 x0_1 x0_2
  simp only [Option.some.injEq, Prod.mk.injEq] at h
  obtain ⟨hp, rfl⟩ := h
  exact ⟨0, (ev233 (⟨x0_0, x0_1, x0_2⟩ : V3)).trans (Tr.ok _ _ (pre233 (⟨x0_0, x0_1, x0_2⟩ : V3)))⟩

noncomputable def ent86 : List PV → Option (Bool × CRes)
  | [.ptr .cam x0 0, .int .i64 x1, .int .i64 x2] => some (true, (fun (x : Bool) => .plain (.bool x)) (F86 x0 x1 x2))
  | _ => none
theorem ok86 : EntSound Tryz.prog 86 ent86 := by
  refine entry tab12_ok exts_ok (fun _ => []) (fn := Tryz.f86) (by kernel_rfl) (by kernel_rfl) (fun args c h => ?_)
  unfold ent86 at h
  split at h <;> first | (cases h; done) | skip
  rename_i x0 x1 x2
  simp only [Option.some.injEq, Prod.mk.injEq] at h
  obtain ⟨hp, rfl⟩ := h
  exact ⟨0, (ev86 x0 x1 x2).trans (Tr.ok _ _ (pre86 x0 x1 x2))⟩

noncomputable def ent234 : List PV → Option (Bool × CRes)
  | [.agg [.f32 x0_0, .f32 x0_1, .f32 x0_2], .agg [.f32 x1_0, .f32 x1_1, .f32 x1_2]] => some (true, (fun (x : V3) => .plain (.agg (enc .v3 x))) (F234 (⟨x0_0, x0_1, x0_2⟩ : V3) (⟨x1_0, x1_1, x1_2⟩ : V3)))
  | _ => none
theorem ok234 : EntSound Tryz.prog 234 ent234 := by
  refine entry tab12_ok exts_ok (fun _ => []) (fn := Tryz.f234) (by kernel_rfl) (by kernel_rfl) (fun args c h => ?_)
  unfold ent234 at h
  split at h <;> first | (cases h; done) | skip
  rename_i x0_0 x0_1 x0_2 x1_0 x1_1 x1_2
  simp only [Option.some.injEq, Prod.mk.injEq] at h
  obtain ⟨hp, rfl⟩ := h
  exact ⟨0, (ev234 (⟨x0_0, x0_1, x0_2⟩ : V3) (⟨x1_0, x1_1, x1_2⟩ : V3)).trans (Tr.ok _ _ (pre234 (⟨x0_0, x0_1, x0_2⟩ : V3) (⟨x1_0, x1_1, x1_2⟩ : V3)))⟩

noncomputable def ent146 : List PV → Option (Bool × CRes)
  | [.agg [.f32 x0_0, .f32 x0_1, .f32 x0_2], .int .i64 x1] => some (true, (fun (x : Nat) => .plain (.f32 x)) (F146 (⟨x0_0, x0_1, x0_2⟩ : V3) x1))
  | _ => none
theorem ok146 : EntSound Tryz.prog 146 ent146 := by
  refine entry tab12_ok exts_ok (fun _ => []) (fn := Tryz.f146) (by kernel_rfl) (by kernel_rfl) (fun args c h => ?_)
  unfold ent146 at h
  split at h <;> first | (cases h; done) | skip
  rename_i x0_0 x0_1 x0_2 x1
  simp only [Option.some.injEq, Prod.mk.injEq] at h
  obtain ⟨hp, rfl⟩ := h
  exact ⟨0, (ev146 (⟨x0_0, x0_1, x0_2⟩ : V3) x1).trans (Tr.ok _ _ (pre146 (⟨x0_0, x0_1, x0_2⟩ : V3) x1))⟩

noncomputable def ent147 : List PV → Option (Bool × CRes)
  | [.agg [.f32 x0_0, .f32 x0_1, .f32 x0_2], .int .i64 x1, .f32 x2] => some (true, (fun (x : V3) => .plain (.agg (enc .v3 x))) (F147 (⟨x0_0, x0_1, x0_2⟩ : V3) x1 x2))
  | _ => none
theorem ok147 : EntSound Tryz.prog 147 ent147 := by
  refine entry tab12_ok exts_ok (fun _ => []) (fn := Tryz.f147) (by kernel_rfl) (by kernel_rfl) (fun args c h => ?_)
  unfold ent147 at h
  split at h <;> first | (cases h; done) | skip
  rename_i x0_0 x0_1 x0_2 x1 x2
  simp only [Option.some.injEq, Prod.mk.injEq] at h
  obtain ⟨hp, rfl⟩ := h
  exact ⟨0, (ev147 (⟨x0_0, x0_1, x0_2⟩ : V3) x1 x2).trans (Tr.ok _ _ (pre147 (⟨x0_0, x0_1, x0_2⟩ : V3) x1 x2))⟩

noncomputable def ent273 : List PV → Option (Bool × CRes)
  | [.f32 x0, .f32 x1] => some ((tr273 x0 x1).pre, (fun (x : Nat) => .plain (.f32 x)) (F273 x0 x1))
  | _ => none
theorem ok273 : EntSound Tryz.prog 273 ent273 := by
  refine entry tab12_ok exts_ok (fun _ => []) (fn := Tryz.f273) (by kernel_rfl) (by kernel_rfl) (fun args c h => ?_)
  unfold ent273 at h
  split at h <;> first | (cases h; done) | skip
  rename_i x0 x1
  simp only [Option.some.injEq, Prod.mk.injEq] at h
  obtain ⟨hp, rfl⟩ := h
  exact ⟨0, (ev273 x0 x1).trans (Tr.ok _ _ hp)⟩

noncomputable def ent189 : List PV → Option (Bool × CRes)
  | [.ptr .nd x0 0, .f32 x1, .f32 x2] => some ((tr189 x0 x1 x2).pre, (fun (x : Nat) => .plain (.f32 x)) (F189 x0 x1 x2))
  | _ => none
theorem ok189 : EntSound Tryz.prog 189 ent189 := by
  refine entry tab12_ok exts_ok (fun _ => []) (fn := Tryz.f189) (by kernel_rfl) (by kernel_rfl) (fun args c h => ?_)
  unfold ent189 at h
  split at h <;> first | (cases h; done) | skip
  rename_i x0 x1 x2
  simp only [Option.some.injEq, Prod.mk.injEq] at h
  obtain ⟨hp, rfl⟩ := h
  exact ⟨0, (ev189 x0 x1 x2).trans (Tr.ok _ _ hp)⟩

noncomputable def ent88 : List PV → Option (Bool × CRes)
  | [.agg [.f32 x0_0, .f32 x0_1, .f32 x0_2, .f32 x0_3, .f32 x0_4, .f32 x0_5, .f32 x0_6, .int .i64 x0_7, .int .i64 x0_8]] => some (true, (fun (x : Cam) => .plain (.agg (enc .cam x))) (F88 (⟨⟨x0_0, x0_1, x0_2⟩, ⟨x0_3, x0_4, x0_5⟩, x0_6, x0_7, x0_8⟩ : Cam)))
  | _ => none
theorem ok88 : EntSound Tryz.prog 88 ent88 := by
  refine entry tab12_ok exts_ok (fun _ => []) (fn := Tryz.f88) (by kernel_rfl) (by kernel_rfl) (fun args c h => ?_)
  unfold ent88 at h
  split at h <;> first | (cases h; done) | skip
  rename_i x0_0 x0_1 x0_2 x0_3 x0_4 x0_5 x0_6 x0_7 x0_8
  simp only [Option.some.injEq, Prod.mk.injEq] at h
  obtain ⟨hp, rfl⟩ := h
  exact ⟨0, (ev88 (⟨⟨x0_0, x0_1, x0_2⟩, ⟨x0_3, x0_4, x0_5⟩, x0_6, x0_7, x0_8⟩ : Cam)).trans (Tr.ok _ _ (pre88 (⟨⟨x0_0, x0_1, x0_2⟩, ⟨x0_3, x0_4, x0_5⟩, x0_6, x0_7, x0_8⟩ : Cam)))⟩

noncomputable def ent89 : List PV → Option (Bool × CRes)
  | [.agg [.f32 x0_0, .f32 x0_1, .int .i64 x0_2]] => some (true, (fun (x : Mar) => .plain (.agg (enc .mar x))) (F89 (⟨x0_0, x0_1, x0_2⟩ : Mar)))
  | _ => none
theorem ok89 : EntSound Tryz.prog 89 ent89 := by
  refine entry tab12_ok exts_ok (fun _ => []) (fn := Tryz.f89) (by kernel_rfl) (by kernel_rfl) (fun args c h => ?_)
  unfold ent89 at h
  split at h <;> first | (cases h; done) | skip
  rename_i x0_0 x0_1 x0_2
  simp only [Option.some.injEq, Prod.mk.injEq] at h
  obtain ⟨hp, rfl⟩ := h
  exact ⟨0, (ev89 (⟨x0_0, x0_1, x0_2⟩ : Mar)).trans (Tr.ok _ _ (pre89 (⟨x0_0, x0_1, x0_2⟩ : Mar)))⟩

noncomputable def ent67 : List PV → Option (Bool × CRes)
  | [.f32 x0] => some (true, (fun (x : Bool) => .plain (.bool x)) (F67 x0))
  | _ => none
theorem ok67 : EntSound Tryz.prog 67 ent67 := by
  refine entry tab12_ok exts_ok (fun _ => []) (fn := Tryz.f67) (by kernel_rfl) (by kernel_rfl) (fun args c h => ?_)
  unfold ent67 at h
  split at h <;> first | (cases h; done) | skip
  rename_i x0
  simp only [Option.some.injEq, Prod.mk.injEq] at h
  obtain ⟨hp, rfl⟩ := h
  exact ⟨0, (ev67 x0).trans (Tr.ok _ _ (pre67 x0))⟩

noncomputable def ent243 : List PV → Option (Bool × CRes)
  | [.agg [.f32 x0_0, .f32 x0_1, .f32 x0_2], .f32 x1] => some (true, (fun (x : V3) => .plain (.agg (enc .v3 x))) (F243 (⟨x0_0, x0_1, x0_2⟩ : V3) x1))
  | _ => none
theorem ok243 : EntSound Tryz.prog 243 ent243 := by
  refine entry tab12_ok exts_ok (fun _ => []) (fn := Tryz.f243) (by kernel_rfl) (by kernel_rfl) (fun args c h => ?_)
  unfold ent243 at h
  split at h <;> first | (cases h; done) | skip
  rename_i x0_0 x0_1 x0_2 x1
  simp only [Option.some.injEq, Prod.mk.injEq] at h
  obtain ⟨hp, rfl⟩ := h
  exact ⟨0, (ev243 (⟨x0_0, x0_1, x0_2⟩ : V3) x1).trans (Tr.ok _ _ (pre243 (⟨x0_0, x0_1, x0_2⟩ : V3) x1))⟩

noncomputable def ent168 : List PV → Option (Bool × CRes)
  | [.agg [.f32 x0_0, .f32 x0_1, .f32 x0_2], .agg [.f32 x1_0, .f32 x1_1, .f32 x1_2]] => some (true, (fun (x : V3) => .plain (.agg (enc .v3 x))) (F168 (⟨x0_0, x0_1, x0_2⟩ : V3) (⟨x1_0, x1_1, x1_2⟩ : V3)))
  | _ => none
theorem ok168 : EntSound Tryz.prog 168 ent168 := by
  refine entry tab12_ok exts_ok (fun _ => []) (fn := Tryz.f168) (by kernel_rfl) (by kernel_rfl) (fun args c h => ?_)
  unfold ent168 at h
  split at h <;> first | (cases h; done) | skip
  rename_i x0_0 x0_1 x0_2 x1_0 x1_1 x1_2
  simp only [Option.some.injEq, Prod.mk.injEq] at h
  obtain ⟨hp, rfl⟩ := h
  exact ⟨0, (ev168 (⟨x0_0, x0_1, x0_2⟩ : V3) (⟨x1_0, x1_1, x1_2⟩ : V3)).trans (Tr.ok _ _ (pre168 (⟨x0_0, x0_1, x0_2⟩ : V3) (⟨x1_0, x1_1, x1_2⟩ : V3)))⟩

noncomputable def ent279 : List PV → Option (Bool × CRes)
  | [.f32 x0, .f32 x1, .f32 x2, .f32 x3] => some (true, (fun (x : Nat) => .plain (.f32 x)) (F279 x0 x1 x2 x3))
  | _ => none
theorem ok279 : EntSound Tryz.prog 279 ent279 := by
  refine entry tab12_ok exts_ok (fun _ => []) (fn := Tryz.f279) (by kernel_rfl) (by kernel_rfl) (fun args c h => ?_)
  unfold ent279 at h
  split at h <;> first | (cases h; done) | skip
  rename_i x0 x1 x2 x3
  simp only [Option.some.injEq, Prod.mk.injEq] at h
  obtain ⟨hp, rfl⟩ := h
  exact ⟨0, (ev279 x0 x1 x2 x3).trans (Tr.ok _ _ (pre279 x0 x1 x2 x3))⟩

noncomputable def ent240 : List PV → Option (Bool × CRes)
  | [.agg [.f32 x0_0, .f32 x0_1, .f32 x0_2]] => some (true, (fun (x : Bool) => .plain (.bool x)) (F240 (⟨x0_0, x0_1, x0_2⟩ : V3)))
  | _ => none
theorem ok240 : EntSound Tryz.prog 240 ent240 := by
  refine entry tab12_ok exts_ok (fun _ => []) (fn := Tryz.f240) (by kernel_rfl) (by kernel_rfl) (fun args c h => ?_)
  unfold ent240 at h
  split at h <;> first | (cases h; done) | skip
  rename_i x0_0 x0_1 x0_2
  simp only [Option.some.injEq, Prod.mk.injEq] at h
  obtain ⟨hp, rfl⟩ := h
  exact ⟨0, (ev240 (⟨x0_0, x0_1, x0_2⟩ : V3)).trans (Tr.ok _ _ (pre240 (⟨x0_0, x0_1, x0_2⟩ : V3)))⟩

noncomputable def ent241 : List PV → Option (Bool × CRes)
  | [.int .i64 x0, .int .i64 x1] => some (true, (fun (x : Nat) => .plain (.f32 x)) (F241 x0 x1))
  | _ => none
theorem ok241 : EntSound Tryz.prog 241 ent241 := by
  refine entry tab12_ok exts_ok (fun _ => []) (fn := Tryz.f241) (by kernel_rfl) (by kernel_rfl) (fun args c h => ?_)
  unfold ent241 at h
  split at h <;> first | (cases h; done) | skip
  rename_i x0 x1
  simp only [Option.some.injEq, Prod.mk.injEq] at h
  obtain ⟨hp, rfl⟩ := h
  exact ⟨0, (ev241 x0 x1).trans (Tr.ok _ _ (pre241 x0 x1))⟩

noncomputable def ent242 : List PV → Option (Bool × CRes)
  | [.agg [.f32 x0_0, .f32 x0_1, .f32 x0_2], .agg [.f32 x1_0, .f32 x1_1, .f32 x1_2]] => some (true, (fun (x : V3) => .plain (.agg (enc .v3 x))) (F242 (⟨x0_0, x0_1, x0_2⟩ : V3) (⟨x1_0, x1_1, x1_2⟩ : V3)))
  | _ => none
theorem ok242 : EntSound Tryz.prog 242 ent242 := by
  refine entry tab12_ok exts_ok (fun _ => []) (fn := Tryz.f242) (by kernel_rfl) (by kernel_rfl) (fun args c h => ?_)
  unfold ent242 at h
  split at h <;> first | (cases h; done) | skip
  rename_i x0_0 x0_1 x0_2 x1_0 x1_1 x1_2
  simp only [Option.some.injEq, Prod.mk.injEq] at h
  obtain ⟨hp, rfl⟩ := h
  exact ⟨0, (ev242 (⟨x0_0, x0_1, x0_2⟩ : V3) (⟨x1_0, x1_1, x1_2⟩ : V3)).trans (Tr.ok _ _ (pre242 (⟨x0_0, x0_1, x0_2⟩ : V3) (⟨x1_0, x1_1, x1_2⟩ : V3)))⟩

noncomputable def ent244 : List PV → Option (Bool × CRes)
  | [.agg [.f32 x0_0, .f32 x0_1, .f32 x0_2]] => some (true, (fun (x : Bool) => .plain (.bool x)) (F244 (⟨x0_0, x0_1, x0_2⟩ : V3)))
  | _ => none
theorem ok244 : EntSound Tryz.prog 244 ent244 := by
  refine entry tab12_ok exts_ok (fun _ => []) (fn := Tryz.f244) (by kernel_rfl) (by kernel_rfl) (fun args c h => ?_)
  unfold ent244 at h
  split at h <;> first | (cases h; done) | skip
  rename_i x0_0 x0_1 x0_2
  simp only [Option.some.injEq, Prod.mk.injEq] at h
  obtain ⟨hp, rfl⟩ := h
  exact ⟨0, (ev244 (⟨x0_0, x0_1, x0_2⟩ : V3)).trans (Tr.ok _ _ (pre244 (⟨x0_0, x0_1, x0_2⟩ : V3)))⟩

noncomputable def ent196 : List PV → Option (Bool × CRes)
  | [.ptr .nd x0 0, .f32 x1, .f32 x2] => some ((tr196 x0 x1 x2).pre, (fun (x : Nat) => .plain (.f32 x)) (F196 x0 x1 x2))
  | _ => none
theorem ok196 : EntSound Tryz.prog 196 ent196 := by
  refine entry tab12_ok exts_ok (fun _ => []) (fn := Tryz.f196) (by kernel_rfl) (by kernel_rfl) (fun args c h => ?_)
  unfold ent196 at h
  split at h <;> first | (cases h; done) | skip
  rename_i x0 x1 x2
  simp only [Option.some.injEq, Prod.mk.injEq] at h
  obtain ⟨hp, rfl⟩ := h
  exact ⟨0, (ev196 x0 x1 x2).trans (Tr.ok _ _ hp)⟩

noncomputable def ent231 : List PV → Option (Bool × CRes)
  | [.agg [.f32 x0_0, .f32 x0_1, .f32 x0_2]] => some (true, (fun (x : V3) => .plain (.agg (enc .v3 x))) (F231 (⟨x0_0, x0_1, x0_2⟩ : V3)))
  | _ => none
theorem ok231 : EntSound Tryz.prog 231 ent231 := by
  refine entry tab12_ok exts_ok (fun _ => []) (fn := Tryz.f231) (by kernel_rfl) (by kernel_rfl) (fun args c h => ?_)
  unfold ent231 at h
  split at h <;> first | (cases h; done) | skip
  rename_i x0_0 x0_1 x0_2
  simp only [Option.some.injEq, Prod.mk.injEq] at h
  obtain ⟨hp, rfl⟩ := h
  exact ⟨0, (ev231 (⟨x0_0, x0_1, x0_2⟩ : V3)).trans (Tr.ok _ _ (pre231 (⟨x0_0, x0_1, x0_2⟩ : V3)))⟩

noncomputable def ent71 : List PV → Option (Bool × CRes)
  | [.agg [.f32 x0_0, .f32 x0_1, .f32 x0_2], .agg [.f32 x1_0, .f32 x1_1, .f32 x1_2]] => some (true, (fun (x : Bool) => .plain (.bool x)) (F71 (⟨x0_0, x0_1, x0_2⟩ : V3) (⟨x1_0, x1_1, x1_2⟩ : V3)))
  | _ => none
theorem ok71 : EntSound Tryz.prog 71 ent71 := by
  refine entry tab12_ok exts_ok (fun _ => []) (fn := Tryz.f71) (by kernel_rfl) (by kernel_rfl) (fun args c h => ?_)
  unfold ent71 at h
  split at h <;> first | (cases h; done) | skip
  rename_i x0_0 x0_1 x0_2 x1_0 x1_1 x1_2
  simp only [Option.some.injEq, Prod.mk.injEq] at h
  obtain ⟨hp, rfl⟩ := h
  exact ⟨0, (ev71 (⟨x0_0, x0_1, x0_2⟩ : V3) (⟨x1_0, x1_1, x1_2⟩ : V3)).trans (Tr.ok _ _ (pre71 (⟨x0_0, x0_1, x0_2⟩ : V3) (⟨x1_0, x1_1, x1_2⟩ : V3)))⟩

noncomputable def ent94 : List PV → Option (Bool × CRes)
  | [.agg [.f32 x0_0, .f32 x0_1, .int .i64 x0_2], .agg [.f32 x1_0, .f32 x1_1, .int .i64 x1_2]] => some (true, (fun (x : Bool) => .plain (.bool x)) (F94 (⟨x0_0, x0_1, x0_2⟩ : Mar) (⟨x1_0, x1_1, x1_2⟩ : Mar)))
  | _ => none
theorem ok94 : EntSound Tryz.prog 94 ent94 := by
  refine entry tab12_ok exts_ok (fun _ => []) (fn := Tryz.f94) (by kernel_rfl) (by kernel_rfl) (fun args c h => ?_)
  unfold ent94 at h
  split at h <;> first | (cases h; done) | skip
  rename_i x0_0 x0_1 x0_2 x1_0 x1_1 x1_2
  simp only [Option.some.injEq, Prod.mk.injEq] at h
  obtain ⟨hp, rfl⟩ := h
  exact ⟨0, (ev94 (⟨x0_0, x0_1, x0_2⟩ : Mar) (⟨x1_0, x1_1, x1_2⟩ : Mar)).trans (Tr.ok _ _ (pre94 (⟨x0_0, x0_1, x0_2⟩ : Mar) (⟨x1_0, x1_1, x1_2⟩ : Mar)))⟩

noncomputable def ent103 : List PV → Option (Bool × CRes)
  | [.ptr .cam x0 0] => some (true, (fun (x : Tl) => .plain (.agg (enc .tl x))) (F103 x0))
  | _ => none
theorem ok103 : EntSound Tryz.prog 103 ent103 := by
  refine entry tab12_ok exts_ok (fun _ => []) (fn := Tryz.f103) (by kernel_rfl) (by kernel_rfl) (fun args c h => ?_)
  unfold ent103 at h
  split at h <;> first | (cases h; done) | skip
  rename_i x0
  simp only [Option.some.injEq, Prod.mk.injEq] at h
  obtain ⟨hp, rfl⟩ := h
  exact ⟨0, (ev103 x0).trans (Tr.ok _ _ (pre103 x0))⟩

noncomputable def ent280 : List PV → Option (Bool × CRes)
  | [.f64 x0] => some (true, (fun (x : Bool) => .plain (.bool x)) (F280 x0))
  | _ => none
theorem ok280 : EntSound Tryz.prog 280 ent280 := by
  refine entry tab12_ok exts_ok (fun _ => []) (fn := Tryz.f280) (by kernel_rfl) (by kernel_rfl) (fun args c h => ?_)
  unfold ent280 at h
  split at h <;> first | (cases h; done) | skip
  rename_i x0
  simp only [Option.some.injEq, Prod.mk.injEq] at h
  obtain ⟨hp, rfl⟩ := h
  exact ⟨0, (ev280 x0).trans (Tr.ok _ _ (pre280 x0))⟩

noncomputable def ent281 : List PV → Option (Bool × CRes)
  | [.f64 x0, .int .i64 x1] => some ((tr281 x0 x1).pre, (fun (x : Bool) => .plain (.bool x)) (F281 x0 x1))
  | _ => none
theorem ok281 : EntSound Tryz.prog 281 ent281 := by
  refine entry tab12_ok exts_ok (fun _ => []) (fn := Tryz.f281) (by kernel_rfl) (by kernel_rfl) (fun args c h => ?_)
  unfold ent281 at h
  split at h <;> first | (cases h; done) | skip
  rename_i x0 x1
  simp only [Option.some.injEq, Prod.mk.injEq] at h
  obtain ⟨hp, rfl⟩ := h
  exact ⟨0, (ev281 x0 x1).trans (Tr.ok _ _ hp)⟩

noncomputable def ent51 : List PV → Option (Bool × CRes)
  | [.agg [.int .i64 x0_0, .int .i64 x0_1, .int .i64 x0_2, .int .i64 x0_3]] => some (true, (fun (x : Tl) => .plain (.agg (enc .tl x))) (F51 (⟨x0_0, x0_1, x0_2, x0_3⟩ : Tl)))
  | _ => none
theorem ok51 : EntSound Tryz.prog 51 ent51 := by
  refine entry tab12_ok exts_ok (fun _ => []) (fn := Tryz.f51) (by kernel_rfl) (by kernel_rfl) (fun args c h => ?_)
  unfold ent51 at h
  split at h <;> first | (cases h; done) | skip
  rename_i x0_0 x0_1 x0_2 x0_3
  simp only [Option.some.injEq, Prod.mk.injEq] at h
  obtain ⟨hp, rfl⟩ := h
  exact ⟨0, (ev51 (⟨x0_0, x0_1, x0_2, x0_3⟩ : Tl)).trans (Tr.ok _ _ (pre51 (⟨x0_0, x0_1, x0_2, x0_3⟩ : Tl)))⟩

noncomputable def ent111 : List PV → Option (Bool × CRes)
  | [.int .i64 x0] => some (true, (fun (x : Bool) => .plain (.bool x)) (F111 x0))
  | _ => none
theorem ok111 : EntSound Tryz.prog 111 ent111 := by
  refine entry tab12_ok exts_ok (fun _ => []) (fn := Tryz.f111) (by kernel_rfl) (by kernel_rfl) (fun args c h => ?_)
  unfold ent111 at h
  split at h <;> first | (cases h; done) | skip
  rename_i x0
  simp only [Option.some.injEq, Prod.mk.injEq] at h
  obtain ⟨hp, rfl⟩ := h
  exact ⟨0, (ev111 x0).trans (Tr.ok _ _ (pre111 x0))⟩

noncomputable def ent14 : List PV → Option (Bool × CRes)
  | [.slice .v3 x0, .int .i64 x1] => some (true, (fun (x : Int) => .plain (.int .i64 x)) (F14 x0 x1))
  | _ => none
theorem ok14 : EntSound Tryz.prog 14 ent14 := by
  refine entry tab12_ok exts_ok (fun _ => []) (fn := Tryz.f14) (by kernel_rfl) (by kernel_rfl) (fun args c h => ?_)
  unfold ent14 at h
  split at h <;> first | (cases h; done) | skip
  rename_i x0 x1
  simp only [Option.some.injEq, Prod.mk.injEq] at h
  obtain ⟨hp, rfl⟩ := h
  exact ⟨0, (ev14 x0 x1).trans (Tr.ok _ _ (pre14 x0 x1))⟩

noncomputable def ent172 : List PV → Option (Bool × CRes)
  | [.ptr .nd x0 0, .agg [.f32 x1_0, .f32 x1_1], .agg [.f32 x2_0, .f32 x2_1]] => some ((tr172 x0 (⟨x1_0, x1_1⟩ : Rg) (⟨x2_0, x2_1⟩ : Rg)).pre, (fun (x : Int) => .plain (.int .i64 x)) (F172 x0 (⟨x1_0, x1_1⟩ : Rg) (⟨x2_0, x2_1⟩ : Rg)))
  | _ => none
theorem ok172 : EntSound Tryz.prog 172 ent172 := by
  refine entry tab12_ok exts_ok (fun _ => []) (fn := Tryz.f172) (by kernel_rfl) (by kernel_rfl) (fun args c h => ?_)
  unfold ent172 at h
  split at h <;> first | (cases h; done) | skip
  rename_i x0 x1_0 x1_1 x2_0 x2_1
  simp only [Option.some.injEq, Prod.mk.injEq] at h
  obtain ⟨hp, rfl⟩ := h
  exact ⟨0, (ev172 x0 (⟨x1_0, x1_1⟩ : Rg) (⟨x2_0, x2_1⟩ : Rg)).trans (Tr.ok _ _ hp)⟩

noncomputable def ent183 : List PV → Option (Bool × CRes)
  | [.int .i64 x0, .int .i64 x1] => some (true, (fun (x : Int) => .plain (.int .i64 x)) (F183 x0 x1))
  | _ => none
theorem ok183 : EntSound Tryz.prog 183 ent183 := by
  refine entry tab12_ok exts_ok (fun _ => []) (fn := Tryz.f183) (by kernel_rfl) (by kernel_rfl) (fun args c h => ?_)
  unfold ent183 at h
  split at h <;> first | (cases h; done) | skip
  rename_i x0 x1
  simp only [Option.some.injEq, Prod.mk.injEq] at h
  obtain ⟨hp, rfl⟩ := h
  exact ⟨0, (ev183 x0 x1).trans (Tr.ok _ _ (pre183 x0 x1))⟩

noncomputable def tab13 : Tab := ((183, ent183) :: ((172, ent172) :: ((14, ent14) :: ((111, ent111) :: ((51, ent51) :: ((281, ent281) :: ((280, ent280) :: ((103, ent103) :: ((94, ent94) :: ((71, ent71) :: ((231, ent231) :: ((196, ent196) :: ((244, ent244) :: ((242, ent242) :: ((241, ent241) :: ((240, ent240) :: ((279, ent279) :: ((168, ent168) :: ((243, ent243) :: ((67, ent67) :: ((89, ent89) :: ((88, ent88) :: ((189, ent189) :: ((273, ent273) :: ((147, ent147) :: ((146, ent146) :: ((234, ent234) :: ((86, ent86) :: ((233, ent233) :: ((264, ent264) :: ((157, ent157) :: ((235, ent235) :: ((61, ent61) :: tab12)))))))))))))))))))))))))))))))))
theorem tab13_ok : TSound Tryz.prog (tabT tab13) := (tab_cons (tab_cons (tab_cons (tab_cons (tab_cons (tab_cons (tab_cons (tab_cons (tab_cons (tab_cons (tab_cons (tab_cons (tab_cons (tab_cons (tab_cons (tab_cons (tab_cons (tab_cons (tab_cons (tab_cons (tab_cons (tab_cons (tab_cons (tab_cons (tab_cons (tab_cons (tab_cons (tab_cons (tab_cons (tab_cons (tab_cons (tab_cons (tab_cons tab12_ok ok61) ok235) ok157) ok264) ok233) ok86) ok234) ok146) ok147) ok273) ok189) ok88) ok89) ok67) ok243) ok168) ok279) ok240) ok241) ok242) ok244) ok196) ok231) ok71) ok94) ok103) ok280) ok281) ok51) ok111) ok14) ok172) ok183)

end Go.Proofs.YtponnbnebjhepaaGreat

namespace Go.Proofs.YtponnbnebjhepaaGreat
open Go Go.Ev
set_option maxRecDepth 100000

/- spec.l03Unit -/
noncomputable def tr156 (x0 : V3) : Tr (V3) :=
  (.cond (fcmp BinOp.eql FloatKind.f32 (F238 x0) 0)
   (.leaf (⟨(0), (0), (0)⟩ : V3))
   (.cond (!F121 (F238 x0))
    (.leaf (⟨(0), (0), (0)⟩ : V3))
    (.cond (!F121 (fop BinOp.quo FloatKind.f32 1065353216 (F238 x0)))
     (.leaf (⟨(0), (0), (0)⟩ : V3))
     (.leaf (⟨((F235 x0 (fop BinOp.quo FloatKind.f32 1065353216 (F238 x0))).x), ((F235 x0 (fop BinOp.quo FloatKind.f32 1065353216 (F238 x0))).y), ((F235 x0 (fop BinOp.quo FloatKind.f32 1065353216 (F238 x0))).z)⟩ : V3)))))
theorem ev156 (x0 : V3) : evalF (env tab13 exts (fun _ => [])) 0 Tryz.f156 [.agg (enc .v3 x0)] = (tr156 x0).toOpt (fun x => .plain (.agg (enc .v3 x))) := by kernel_rfl
noncomputable def F156 (x0 : V3) : V3 := (tr156 x0).val
theorem pre156 (x0 : V3) : (tr156 x0).pre = true := by simp [tr156, Tr.pre]
/- spec.l03March -/
noncomputable def tr150 (x0 : Mar) : Tr (Bool) :=
  (.cond (F61 x0.near)
   (.cond (F121 x0.most)
    (.cond (fcmp BinOp.geq FloatKind.f32 x0.most 0)
     (.leaf (F78 x0.steps 1 64))
     (.leaf (false)))
    (.leaf (false)))
   (.leaf (false)))
theorem ev150 (x0 : Mar) : evalF (env tab13 exts (fun _ => [])) 0 Tryz.f150 [.ptr .mar x0 0] = (tr150 x0).toOpt (fun x => .plain (.bool x)) := by kernel_rfl
noncomputable def F150 (x0 : Mar) : Bool := (tr150 x0).val
theorem pre150 (x0 : Mar) : (tr150 x0).pre = true := by simp [tr150, Tr.pre]
/- impl.UnitOf -/
noncomputable def tr167 (x0 : V3) : Tr (V3) :=
  (.cond (fcmp BinOp.eql FloatKind.f32 (F248 x0) 0)
   (.leaf (⟨(0), (0), (0)⟩ : V3))
   (.cond (!F191 [F248 x0, fop BinOp.quo FloatKind.f32 1065353216 (F248 x0)])
    (.leaf (⟨(0), (0), (0)⟩ : V3))
    (.leaf (⟨((F243 x0 (fop BinOp.quo FloatKind.f32 1065353216 (F248 x0))).x), ((F243 x0 (fop BinOp.quo FloatKind.f32 1065353216 (F248 x0))).y), ((F243 x0 (fop BinOp.quo FloatKind.f32 1065353216 (F248 x0))).z)⟩ : V3))))
theorem ev167 (x0 : V3) : evalF (env tab13 exts (fun _ => [])) 0 Tryz.f167 [.agg (enc .v3 x0)] = (tr167 x0).toOpt (fun x => .plain (.agg (enc .v3 x))) := by kernel_rfl
noncomputable def F167 (x0 : V3) : V3 := (tr167 x0).val
theorem pre167 (x0 : V3) : (tr167 x0).pre = true := by simp [tr167, Tr.pre]
/- impl.CrossOf -/
noncomputable def tr267 (x0 : V3) (x1 : V3) : Tr (V3) :=
  (.leaf (⟨(F279 x0.y x1.z x0.z x1.y), (F279 x0.z x1.x x0.x x1.z), (F279 x0.x x1.y x0.y x1.x)⟩ : V3))
theorem ev267 (x0 : V3) (x1 : V3) : evalF (env tab13 exts (fun _ => [])) 0 Tryz.f267 [.agg (enc .v3 x0), .agg (enc .v3 x1)] = (tr267 x0 x1).toOpt (fun x => .plain (.agg (enc .v3 x))) := by kernel_rfl
noncomputable def F267 (x0 : V3) (x1 : V3) : V3 := (tr267 x0 x1).val
theorem pre267 (x0 : V3) (x1 : V3) : (tr267 x0 x1).pre = true := by simp [tr267, Tr.pre]
/- impl.ValidMarch -/
noncomputable def tr161 (x0 : Mar) : Tr (Bool) :=
  (.cond (F67 x0.near)
   (.cond (F128 x0.most)
    (.cond (fcmp BinOp.geq FloatKind.f32 x0.most 0)
     (.leaf (F81 x0.steps 1 64))
     (.leaf (false)))
    (.leaf (false)))
   (.leaf (false)))
theorem ev161 (x0 : Mar) : evalF (env tab13 exts (fun _ => [])) 0 Tryz.f161 [.agg (enc .mar x0)] = (tr161 x0).toOpt (fun x => .plain (.bool x)) := by kernel_rfl
noncomputable def F161 (x0 : Mar) : Bool := (tr161 x0).val
theorem pre161 (x0 : Mar) : (tr161 x0).pre = true := by simp [tr161, Tr.pre]
/- laws.eqCamera -/
noncomputable def tr93 (x0 : Cam) (x1 : Cam) : Tr (Bool) :=
  (.cond (!F71 x0.src x1.src)
   (.leaf (false))
   (.cond (!F71 x0.to x1.to)
    (.leaf (false))
    (.cond (!F41 (f2f FloatKind.f32 x0.wide FloatKind.f64) (f2f FloatKind.f32 x1.wide FloatKind.f64))
     (.leaf (false))
     (.cond (x0.w != x1.w)
      (.leaf (false))
      (.cond (x0.h != x1.h)
       (.leaf (false))
       (.leaf (true)))))))
theorem ev93 (x0 : Cam) (x1 : Cam) : evalF (env tab13 exts (fun _ => [])) 0 Tryz.f93 [.agg (enc .cam x0), .agg (enc .cam x1)] = (tr93 x0 x1).toOpt (fun x => .plain (.bool x)) := by kernel_rfl
noncomputable def F93 (x0 : Cam) (x1 : Cam) : Bool := (tr93 x0 x1).val
theorem pre93 (x0 : Cam) (x1 : Cam) : (tr93 x0 x1).pre = true := by simp [tr93, Tr.pre]
/- spec.l09Tile -/
noncomputable def tr105 (x0 : Cam) (x1 : Tl) : Tr (Bool) :=
  (.cond (F86 x0 x1.x x1.y)
   (.cond (F78 x1.w 1 (IntKind.i64.wrap (x0.w - x1.x)))
    (.leaf (F78 x1.h 1 (IntKind.i64.wrap (x0.h - x1.y))))
    (.leaf (false)))
   (.leaf (false)))
theorem ev105 (x0 : Cam) (x1 : Tl) : evalF (env tab13 exts (fun _ => [])) 0 Tryz.f105 [.ptr .cam x0 0, .ptr .tl x1 0] = (tr105 x0 x1).toOpt (fun x => .plain (.bool x)) := by kernel_rfl
noncomputable def F105 (x0 : Cam) (x1 : Tl) : Bool := (tr105 x0 x1).val
theorem pre105 (x0 : Cam) (x1 : Tl) : (tr105 x0 x1).pre = true := by simp [tr105, Tr.pre]
/- spec.l01Between -/
noncomputable def tr181 (x0 : V3) (x1 : V3) (x2 : Nat) : Tr (V3) :=
  (.leaf (⟨((F234 x0 (F235 (F157 x1 x0) x2)).x), ((F234 x0 (F235 (F157 x1 x0) x2)).y), ((F234 x0 (F235 (F157 x1 x0) x2)).z)⟩ : V3))
theorem ev181 (x0 : V3) (x1 : V3) (x2 : Nat) : evalF (env tab13 exts (fun _ => [])) 0 Tryz.f181 [.agg (enc .v3 x0), .agg (enc .v3 x1), .f32 x2] = (tr181 x0 x1 x2).toOpt (fun x => .plain (.agg (enc .v3 x))) := by kernel_rfl
noncomputable def F181 (x0 : V3) (x1 : V3) (x2 : Nat) : V3 := (tr181 x0 x1 x2).val
theorem pre181 (x0 : V3) (x1 : V3) (x2 : Nat) : (tr181 x0 x1 x2).pre = true := by simp [tr181, Tr.pre]
/- impl.BetweenVectors -/
noncomputable def tr182 (x0 : V3) (x1 : V3) (x2 : Nat) : Tr (V3) :=
  (.leaf (⟨((F242 x0 (F243 (F168 x1 x0) x2)).x), ((F242 x0 (F243 (F168 x1 x0) x2)).y), ((F242 x0 (F243 (F168 x1 x0) x2)).z)⟩ : V3))
theorem ev182 (x0 : V3) (x1 : V3) (x2 : Nat) : evalF (env tab13 exts (fun _ => [])) 0 Tryz.f182 [.agg (enc .v3 x0), .agg (enc .v3 x1), .f32 x2] = (tr182 x0 x1 x2).toOpt (fun x => .plain (.agg (enc .v3 x))) := by kernel_rfl
noncomputable def F182 (x0 : V3) (x1 : V3) (x2 : Nat) : V3 := (tr182 x0 x1 x2).val
theorem pre182 (x0 : V3) (x1 : V3) (x2 : Nat) : (tr182 x0 x1 x2).pre = true := by simp [tr182, Tr.pre]
/- laws.eqTouch -/
noncomputable def tr55 (x0_0 : Int) (x0_1 : Int) (x0_2 : Nat) (x0_3 : Nat) (x0_4 : Nat) (x1_0 : Int) (x1_1 : Int) (x1_2 : Nat) (x1_3 : Nat) (x1_4 : Nat) : Tr (Bool) :=
  (.cond (x0_0 != x1_0)
   (.leaf (false))
   (.cond (x0_1 != x1_1)
    (.leaf (false))
    (.cond (!F71 { x := x0_2, y := x0_3, z := x0_4 : V3 } { x := x1_2, y := x1_3, z := x1_4 : V3 })
     (.leaf (false))
     (.leaf (true)))))
theorem ev55 (x0_0 : Int) (x0_1 : Int) (x0_2 : Nat) (x0_3 : Nat) (x0_4 : Nat) (x1_0 : Int) (x1_1 : Int) (x1_2 : Nat) (x1_3 : Nat) (x1_4 : Nat) : evalF (env tab13 exts (fun _ => [])) 0 Tryz.f55 [.agg [.int .i64 x0_0, .int .i64 x0_1, .f32 x0_2, .f32 x0_3, .f32 x0_4], .agg [.int .i64 x1_0, .int .i64 x1_1, .f32 x1_2, .f32 x1_3, .f32 x1_4]] = (tr55 x0_0 x0_1 x0_2 x0_3 x0_4 x1_0 x1_1 x1_2 x1_3 x1_4).toOpt (fun x => .plain (.bool x)) := by kernel_rfl
noncomputable def F55 (x0_0 : Int) (x0_1 : Int) (x0_2 : Nat) (x0_3 : Nat) (x0_4 : Nat) (x1_0 : Int) (x1_1 : Int) (x1_2 : Nat) (x1_3 : Nat) (x1_4 : Nat) : Bool := (tr55 x0_0 x0_1 x0_2 x0_3 x0_4 x1_0 x1_1 x1_2 x1_3 x1_4).val
theorem pre55 (x0_0 : Int) (x0_1 : Int) (x0_2 : Nat) (x0_3 : Nat) (x0_4 : Nat) (x1_0 : Int) (x1_1 : Int) (x1_2 : Nat) (x1_3 : Nat) (x1_4 : Nat) : (tr55 x0_0 x0_1 x0_2 x0_3 x0_4 x1_0 x1_1 x1_2 x1_3 x1_4).pre = true := by simp [tr55, Tr.pre]
/- laws.eqBox -/
noncomputable def tr84 (x0 : Bx) (x1 : Bx) : Tr (Bool) :=
  (.cond (!F71 x0.lo x1.lo)
   (.leaf (false))
   (.cond (!F71 x0.hi x1.hi)
    (.leaf (false))
    (.leaf (true))))
theorem ev84 (x0 : Bx) (x1 : Bx) : evalF (env tab13 exts (fun _ => [])) 0 Tryz.f84 [.agg (enc .bx x0), .agg (enc .bx x1)] = (tr84 x0 x1).toOpt (fun x => .plain (.bool x)) := by kernel_rfl
noncomputable def F84 (x0 : Bx) (x1 : Bx) : Bool := (tr84 x0 x1).val
theorem pre84 (x0 : Bx) (x1 : Bx) : (tr84 x0 x1).pre = true := by simp [tr84, Tr.pre]
noncomputable def ent156 : List PV → Option (Bool × CRes)
  | [.agg [.f32 x0_0, .f32 x0_1, .f32 x0_2]] => some (true, (fun (x : V3) => .plain (.agg (enc .v3 x))) (F156 (⟨x0_0, x0_1, x0_2⟩ : V3)))
  | _ => none
theorem ok156 : EntSound Tryz.prog 156 ent156 := by
  refine entry tab13_ok exts_ok (fun _ => []) (fn := Tryz.f156) (by kernel_rfl) (by kernel_rfl) (fun args c h => ?_)
  unfold ent156 at h
  split at h <;> first | (cases h; done) | skip
  rename_i x0_0 x0_1 x0_2
  simp only [Option.some.injEq, Prod.mk.injEq] at h
  obtain ⟨hp, rfl⟩ := h
  exact ⟨0, (ev156 (⟨x0_0, x0_1, x0_2⟩ : V3)).trans (Tr.ok _ _ (pre156 (⟨x0_0, x0_1, x0_2⟩ : V3)))⟩

noncomputable def ent150 : List PV → Option (Bool × CRes)
  | [.ptr .mar x0 0] => some (true, (fun (x : Bool) => .plain (.bool x)) (F150 x0))
  | _ => none
theorem ok150 : EntSound Tryz.prog 150 ent150 := by
  refine entry tab13_ok exts_ok (fun _ => []) (fn := Tryz.f150) (by kernel_rfl) (by kernel_rfl) (fun args c h => ?_)
  unfold ent150 at h
  split at h <;> first | (cases h; done) | skip
  rename_i x0
  simp only [Option.some.injEq, Prod.mk.injEq] at h
  obtain ⟨hp, rfl⟩ := h
  exact ⟨0, (ev150 x0).trans (Tr.ok _ _ (pre150 x0))⟩

noncomputable def ent167 : List PV → Option (Bool × CRes)
  | [.agg [.f32 x0_0, .f32 x0_1, .f32 x0_2]] => some (true, (fun (x : V3) => .plain (.agg (enc .v3 x))) (F167 (⟨x0_0, x0_1, x0_2⟩ : V3)))
  | _ => none
theorem ok167 : EntSound Tryz.prog 167 ent167 := by
  refine entry tab13_ok exts_ok (fun _ => []) (fn := Tryz.f167) (by kernel_rfl) (by kernel_rfl) (fun args c h => ?_)
  unfold ent167 at h
  split at h <;> first | (cases h; done) | skip
  rename_i x0_0 x0_1 x0_2
  simp only [Option.some.injEq, Prod.mk.injEq] at h
  obtain ⟨hp, rfl⟩ := h
  exact ⟨0, (ev167 (⟨x0_0, x0_1, x0_2⟩ : V3)).trans (Tr.ok _ _ (pre167 (⟨x0_0, x0_1, x0_2⟩ : V3)))⟩

noncomputable def ent267 : List PV → Option (Bool × CRes)
  | [.agg [.f32 x0_0, .f32 x0_1, .f32 x0_2], .agg [.f32 x1_0, .f32 x1_1, .f32 x1_2]] => some (true, (fun (x : V3) => .plain (.agg (enc .v3 x))) (F267 (⟨x0_0, x0_1, x0_2⟩ : V3) (⟨x1_0, x1_1, x1_2⟩ : V3)))
  | _ => none
theorem ok267 : EntSound Tryz.prog 267 ent267 := by
  refine entry tab13_ok exts_ok (fun _ => []) (fn := Tryz.f267) (by kernel_rfl) (by kernel_rfl) (fun args c h => ?_)
  unfold ent267 at h
  split at h <;> first | (cases h; done) | skip
  rename_i x0_0 x0_1 x0_2 x1_0 x1_1 x1_2
  simp only [Option.some.injEq, Prod.mk.injEq] at h
  obtain ⟨hp, rfl⟩ := h
  exact ⟨0, (ev267 (⟨x0_0, x0_1, x0_2⟩ : V3) (⟨x1_0, x1_1, x1_2⟩ : V3)).trans (Tr.ok _ _ (pre267 (⟨x0_0, x0_1, x0_2⟩ : V3) (⟨x1_0, x1_1, x1_2⟩ : V3)))⟩

noncomputable def ent161 : List PV → Option (Bool × CRes)
  | [.agg [.f32 x0_0, .f32 x0_1, .int .i64 x0_2]] => some (true, (fun (x : Bool) => .plain (.bool x)) (F161 (⟨x0_0, x0_1, x0_2⟩ : Mar)))
  | _ => none
theorem ok161 : EntSound Tryz.prog 161 ent161 := by
  refine entry tab13_ok exts_ok (fun _ => []) (fn := Tryz.f161) (by kernel_rfl) (by kernel_rfl) (fun args c h => ?_)
  unfold ent161 at h
  split at h <;> first | (cases h; done) | skip
  rename_i x0_0 x0_1 x0_2
  simp only [Option.some.injEq, Prod.mk.injEq] at h
  obtain ⟨hp, rfl⟩ := h
  exact ⟨0, (ev161 (⟨x0_0, x0_1, x0_2⟩ : Mar)).trans (Tr.ok _ _ (pre161 (⟨x0_0, x0_1, x0_2⟩ : Mar)))⟩

noncomputable def ent93 : List PV → Option (Bool × CRes)
  | [.agg [.f32 x0_0, .f32 x0_1, .f32 x0_2, .f32 x0_3, .f32 x0_4, .f32 x0_5, .f32 x0_6, .int .i64 x0_7, .int .i64 x0_8], .agg [.f32 x1_0, .f32 x1_1, .f32 x1_2, .f32 x1_3, .f32 x1_4, .f32 x1_5, .f32 x1_6, .int .i64 x1_7, .int .i64 x1_8]] => some (true, (fun (x : Bool) => .plain (.bool x)) (F93 (⟨⟨x0_0, x0_1, x0_2⟩, ⟨x0_3, x0_4, x0_5⟩, x0_6, x0_7, x0_8⟩ : Cam) (⟨⟨x1_0, x1_1, x1_2⟩, ⟨x1_3, x1_4, x1_5⟩, x1_6, x1_7, x1_8⟩ : Cam)))
  | _ => none
theorem ok93 : EntSound Tryz.prog 93 ent93 := by
  refine entry tab13_ok exts_ok (fun _ => []) (fn := Tryz.f93) (by kernel_rfl) (by kernel_rfl) (fun args c h => ?_)
  unfold ent93 at h
  split at h <;> first | (cases h; done) | skip
  rename_i x0_0 x0_1 x0_2 x0_3 x0_4 x0_5 x0_6 x0_7 x0_8 x1_0 x1_1 x1_2 x1_3 x1_4 x1_5 x1_6 x1_7 x1_8
  simp only [Option.some.injEq, Prod.mk.injEq] at h
  obtain ⟨hp, rfl⟩ := h
  exact ⟨0, (ev93 (⟨⟨x0_0, x0_1, x0_2⟩, ⟨x0_3, x0_4, x0_5⟩, x0_6, x0_7, x0_8⟩ : Cam) (⟨⟨x1_0, x1_1, x1_2⟩, ⟨x1_3, x1_4, x1_5⟩, x1_6, x1_7, x1_8⟩ : Cam)).trans (Tr.ok _ _ (pre93 (⟨⟨x0_0, x0_1, x0_2⟩, ⟨x0_3, x0_4, x0_5⟩, x0_6, x0_7, x0_8⟩ : Cam) (⟨⟨x1_0, x1_1, x1_2⟩, ⟨x1_3, x1_4, x1_5⟩, x1_6, x1_7, x1_8⟩ : Cam)))⟩

noncomputable def ent105 : List PV → Option (Bool × CRes)
  | [.ptr .cam x0 0, .ptr .tl x1 0] => some (true, (fun (x : Bool) => .plain (.bool x)) (F105 x0 x1))
  | _ => none
theorem ok105 : EntSound Tryz.prog 105 ent105 := by
  refine entry tab13_ok exts_ok (fun _ => []) (fn := Tryz.f105) (by kernel_rfl) (by kernel_rfl) (fun args c h => ?_)
  unfold ent105 at h
  split at h <;> first | (cases h; done) | skip
  rename_i x0 x1
  simp only [Option.some.injEq, Prod.mk.injEq] at h
  obtain ⟨hp, rfl⟩ := h
  exact ⟨0, (ev105 x0 x1).trans (Tr.ok _ _ (pre105 x0 x1))⟩

noncomputable def ent181 : List PV → Option (Bool × CRes)
  | [.agg [.f32 x0_0, .f32 x0_1, .f32 x0_2], .agg [.f32 x1_0, .f32 x1_1, .f32 x1_2], .f32 x2] => some (true, (fun (x : V3) => .plain (.agg (enc .v3 x))) (F181 (⟨x0_0, x0_1, x0_2⟩ : V3) (⟨x1_0, x1_1, x1_2⟩ : V3) x2))
  | _ => none
theorem ok181 : EntSound Tryz.prog 181 ent181 := by
  refine entry tab13_ok exts_ok (fun _ => []) (fn := Tryz.f181) (by kernel_rfl) (by kernel_rfl) (fun args c h => ?_)
  unfold ent181 at h
  split at h <;> first | (cases h; done) | skip
  rename_i x0_0 x0_1 x0_2 x1_0 x1_1 x1_2 x2
  simp only [Option.some.injEq, Prod.mk.injEq] at h
  obtain ⟨hp, rfl⟩ := h
  exact ⟨0, (ev181 (⟨x0_0, x0_1, x0_2⟩ : V3) (⟨x1_0, x1_1, x1_2⟩ : V3) x2).trans (Tr.ok _ _ (pre181 (⟨x0_0, x0_1, x0_2⟩ : V3) (⟨x1_0, x1_1, x1_2⟩ : V3) x2))⟩

noncomputable def ent182 : List PV → Option (Bool × CRes)
  | [.agg [.f32 x0_0, .f32 x0_1, .f32 x0_2], .agg [.f32 x1_0, .f32 x1_1, .f32 x1_2], .f32 x2] => some (true, (fun (x : V3) => .plain (.agg (enc .v3 x))) (F182 (⟨x0_0, x0_1, x0_2⟩ : V3) (⟨x1_0, x1_1, x1_2⟩ : V3) x2))
  | _ => none
theorem ok182 : EntSound Tryz.prog 182 ent182 := by
  refine entry tab13_ok exts_ok (fun _ => []) (fn := Tryz.f182) (by kernel_rfl) (by kernel_rfl) (fun args c h => ?_)
  unfold ent182 at h
  split at h <;> first | (cases h; done) | skip
  rename_i x0_0 x0_1 x0_2 x1_0 x1_1 x1_2 x2
  simp only [Option.some.injEq, Prod.mk.injEq] at h
  obtain ⟨hp, rfl⟩ := h
  exact ⟨0, (ev182 (⟨x0_0, x0_1, x0_2⟩ : V3) (⟨x1_0, x1_1, x1_2⟩ : V3) x2).trans (Tr.ok _ _ (pre182 (⟨x0_0, x0_1, x0_2⟩ : V3) (⟨x1_0, x1_1, x1_2⟩ : V3) x2))⟩

noncomputable def ent55 : List PV → Option (Bool × CRes)
  | [.agg [.int .i64 x0_0, .int .i64 x0_1, .f32 x0_2, .f32 x0_3, .f32 x0_4], .agg [.int .i64 x1_0, .int .i64 x1_1, .f32 x1_2, .f32 x1_3, .f32 x1_4]] => some (true, (fun (x : Bool) => .plain (.bool x)) (F55 x0_0 x0_1 x0_2 x0_3 x0_4 x1_0 x1_1 x1_2 x1_3 x1_4))
  | _ => none
theorem ok55 : EntSound Tryz.prog 55 ent55 := by
  refine entry tab13_ok exts_ok (fun _ => []) (fn := Tryz.f55) (by kernel_rfl) (by kernel_rfl) (fun args c h => ?_)
  unfold ent55 at h
  split at h <;> first | (cases h; done) | skip
  rename_i x0_0 x0_1 x0_2 x0_3 x0_4 x1_0 x1_1 x1_2 x1_3 x1_4
  simp only [Option.some.injEq, Prod.mk.injEq] at h
  obtain ⟨hp, rfl⟩ := h
  exact ⟨0, (ev55 x0_0 x0_1 x0_2 x0_3 x0_4 x1_0 x1_1 x1_2 x1_3 x1_4).trans (Tr.ok _ _ (pre55 x0_0 x0_1 x0_2 x0_3 x0_4 x1_0 x1_1 x1_2 x1_3 x1_4))⟩

noncomputable def ent84 : List PV → Option (Bool × CRes)
  | [.agg [.f32 x0_0, .f32 x0_1, .f32 x0_2, .f32 x0_3, .f32 x0_4, .f32 x0_5], .agg [.f32 x1_0, .f32 x1_1, .f32 x1_2, .f32 x1_3, .f32 x1_4, .f32 x1_5]] => some (true, (fun (x : Bool) => .plain (.bool x)) (F84 (⟨⟨x0_0, x0_1, x0_2⟩, ⟨x0_3, x0_4, x0_5⟩⟩ : Bx) (⟨⟨x1_0, x1_1, x1_2⟩, ⟨x1_3, x1_4, x1_5⟩⟩ : Bx)))
  | _ => none
theorem ok84 : EntSound Tryz.prog 84 ent84 := by
  refine entry tab13_ok exts_ok (fun _ => []) (fn := Tryz.f84) (by kernel_rfl) (by kernel_rfl) (fun args c h => ?_)
  unfold ent84 at h
  split at h <;> first | (cases h; done) | skip
  rename_i x0_0 x0_1 x0_2 x0_3 x0_4 x0_5 x1_0 x1_1 x1_2 x1_3 x1_4 x1_5
  simp only [Option.some.injEq, Prod.mk.injEq] at h
  obtain ⟨hp, rfl⟩ := h
  exact ⟨0, (ev84 (⟨⟨x0_0, x0_1, x0_2⟩, ⟨x0_3, x0_4, x0_5⟩⟩ : Bx) (⟨⟨x1_0, x1_1, x1_2⟩, ⟨x1_3, x1_4, x1_5⟩⟩ : Bx)).trans (Tr.ok _ _ (pre84 (⟨⟨x0_0, x0_1, x0_2⟩, ⟨x0_3, x0_4, x0_5⟩⟩ : Bx) (⟨⟨x1_0, x1_1, x1_2⟩, ⟨x1_3, x1_4, x1_5⟩⟩ : Bx)))⟩

noncomputable def tab14 : Tab := ((84, ent84) :: ((55, ent55) :: ((182, ent182) :: ((181, ent181) :: ((105, ent105) :: ((93, ent93) :: ((161, ent161) :: ((267, ent267) :: ((167, ent167) :: ((150, ent150) :: ((156, ent156) :: tab13)))))))))))
theorem tab14_ok : TSound Tryz.prog (tabT tab14) := (tab_cons (tab_cons (tab_cons (tab_cons (tab_cons (tab_cons (tab_cons (tab_cons (tab_cons (tab_cons (tab_cons tab13_ok ok156) ok150) ok167) ok267) ok161) ok93) ok105) ok181) ok182) ok55) ok84)

end Go.Proofs.YtponnbnebjhepaaGreat

namespace Go.Proofs.YtponnbnebjhepaaGreat
open Go Go.Ev
set_option maxRecDepth 100000

/- spec.l09Axes -/
noncomputable def tr232 (x0 : Cam) : Tr ((V3) × (V3) × (V3)) :=
  (.leaf ((⟨((F156 (F264 (F156 (F157 x0.to x0.src)) { x := 0, y := 1065353216, z := 0 : V3 })).x), ((F156 (F264 (F156 (F157 x0.to x0.src)) { x := 0, y := 1065353216, z := 0 : V3 })).y), ((F156 (F264 (F156 (F157 x0.to x0.src)) { x := 0, y := 1065353216, z := 0 : V3 })).z)⟩ : V3), (⟨((F264 (F156 (F264 (F156 (F157 x0.to x0.src)) { x := 0, y := 1065353216, z := 0 : V3 })) (F156 (F157 x0.to x0.src))).x), ((F264 (F156 (F264 (F156 (F157 x0.to x0.src)) { x := 0, y := 1065353216, z := 0 : V3 })) (F156 (F157 x0.to x0.src))).y), ((F264 (F156 (F264 (F156 (F157 x0.to x0.src)) { x := 0, y := 1065353216, z := 0 : V3 })) (F156 (F157 x0.to x0.src))).z)⟩ : V3), (⟨((F156 (F157 x0.to x0.src)).x), ((F156 (F157 x0.to x0.src)).y), ((F156 (F157 x0.to x0.src)).z)⟩ : V3)))
theorem ev232 (x0 : Cam) : evalF (env tab14 exts (fun _ => [])) 0 Tryz.f232 [.ptr .cam x0 0] = (tr232 x0).toOpt (fun x => .plain (.tup [.agg (enc .v3 x.1), .agg (enc .v3 x.2.1), .agg (enc .v3 x.2.2)])) := by kernel_rfl
noncomputable def F232 (x0 : Cam) : (V3) × (V3) × (V3) := (tr232 x0).val
theorem pre232 (x0 : Cam) : (tr232 x0).pre = true := by simp [tr232, Tr.pre]
/- spec.l03Is -/
noncomputable def tr152 (x0 : Ray) : Tr (Bool) :=
  (.cond (F132 x0.src)
   (.cond (fcmp BinOp.eql FloatKind.f32 (F156 x0.way).x (F156 x0.way).x)
    (.cond (fcmp BinOp.eql FloatKind.f32 (F156 x0.way).y (F156 x0.way).y)
     (.cond (fcmp BinOp.eql FloatKind.f32 (F156 x0.way).z (F156 x0.way).z)
      (.cond (fcmp BinOp.neq FloatKind.f32 (F156 x0.way).x 0)
       (.leaf (true))
       (.cond (fcmp BinOp.neq FloatKind.f32 (F156 x0.way).y 0)
        (.leaf (true))
        (.leaf (fcmp BinOp.neq FloatKind.f32 (F156 x0.way).z 0))))
      (.leaf (false)))
     (.leaf (false)))
    (.leaf (false)))
   (.leaf (false)))
theorem ev152 (x0 : Ray) : evalF (env tab14 exts (fun _ => [])) 0 Tryz.f152 [.ptr .ray x0 0] = (tr152 x0).toOpt (fun x => .plain (.bool x)) := by kernel_rfl
noncomputable def F152 (x0 : Ray) : Bool := (tr152 x0).val
theorem pre152 (x0 : Ray) : (tr152 x0).pre = true := by simp [tr152, Tr.pre]
/- spec.l03On -/
noncomputable def tr237 (x0 : Ray) (x1 : Nat) : Tr (V3) :=
  (.leaf (⟨((F234 x0.src (F235 (F156 x0.way) x1)).x), ((F234 x0.src (F235 (F156 x0.way) x1)).y), ((F234 x0.src (F235 (F156 x0.way) x1)).z)⟩ : V3))
theorem ev237 (x0 : Ray) (x1 : Nat) : evalF (env tab14 exts (fun _ => [])) 0 Tryz.f237 [.ptr .ray x0 0, .f32 x1] = (tr237 x0 x1).toOpt (fun x => .plain (.agg (enc .v3 x))) := by kernel_rfl
noncomputable def F237 (x0 : Ray) (x1 : Nat) : V3 := (tr237 x0 x1).val
theorem pre237 (x0 : Ray) (x1 : Nat) : (tr237 x0 x1).pre = true := by simp [tr237, Tr.pre]
/- (*impl.Camera).axes -/
noncomputable def tr239 (x0 : Cam) : Tr ((V3) × (V3) × (V3)) :=
  (.leaf ((⟨((F167 (F267 (F167 (F168 x0.to x0.src)) { x := 0, y := 1065353216, z := 0 : V3 })).x), ((F167 (F267 (F167 (F168 x0.to x0.src)) { x := 0, y := 1065353216, z := 0 : V3 })).y), ((F167 (F267 (F167 (F168 x0.to x0.src)) { x := 0, y := 1065353216, z := 0 : V3 })).z)⟩ : V3), (⟨((F267 (F167 (F267 (F167 (F168 x0.to x0.src)) { x := 0, y := 1065353216, z := 0 : V3 })) (F167 (F168 x0.to x0.src))).x), ((F267 (F167 (F267 (F167 (F168 x0.to x0.src)) { x := 0, y := 1065353216, z := 0 : V3 })) (F167 (F168 x0.to x0.src))).y), ((F267 (F167 (F267 (F167 (F168 x0.to x0.src)) { x := 0, y := 1065353216, z := 0 : V3 })) (F167 (F168 x0.to x0.src))).z)⟩ : V3), (⟨((F167 (F168 x0.to x0.src)).x), ((F167 (F168 x0.to x0.src)).y), ((F167 (F168 x0.to x0.src)).z)⟩ : V3)))
theorem ev239 (x0 : Cam) : evalF (env tab14 exts (fun _ => [])) 0 Tryz.f239 [.ptr .cam x0 0] = (tr239 x0).toOpt (fun x => .plain (.tup [.agg (enc .v3 x.1), .agg (enc .v3 x.2.1), .agg (enc .v3 x.2.2)])) := by kernel_rfl
noncomputable def F239 (x0 : Cam) : (V3) × (V3) × (V3) := (tr239 x0).val
theorem pre239 (x0 : Cam) : (tr239 x0).pre = true := by simp [tr239, Tr.pre]
/- impl.ValidRay -/
noncomputable def tr163 (x0 : Ray) : Tr (Bool) :=
  (.cond (F138 x0.src)
   (.leaf (F244 (F167 x0.way)))
   (.leaf (false)))
theorem ev163 (x0 : Ray) : evalF (env tab14 exts (fun _ => [])) 0 Tryz.f163 [.agg (enc .ray x0)] = (tr163 x0).toOpt (fun x => .plain (.bool x)) := by kernel_rfl
noncomputable def F163 (x0 : Ray) : Bool := (tr163 x0).val
theorem pre163 (x0 : Ray) : (tr163 x0).pre = true := by simp [tr163, Tr.pre]
/- (*impl.Ray).on -/
noncomputable def tr246 (x0 : Ray) (x1 : Nat) : Tr (V3) :=
  (.leaf (⟨((F242 x0.src (F243 (F167 x0.way) x1)).x), ((F242 x0.src (F243 (F167 x0.way) x1)).y), ((F242 x0.src (F243 (F167 x0.way) x1)).z)⟩ : V3))
theorem ev246 (x0 : Ray) (x1 : Nat) : evalF (env tab14 exts (fun _ => [])) 0 Tryz.f246 [.ptr .ray x0 0, .f32 x1] = (tr246 x0 x1).toOpt (fun x => .plain (.agg (enc .v3 x))) := by kernel_rfl
noncomputable def F246 (x0 : Ray) (x1 : Nat) : V3 := (tr246 x0 x1).val
theorem pre246 (x0 : Ray) (x1 : Nat) : (tr246 x0 x1).pre = true := by simp [tr246, Tr.pre]
/- spec.l08Middle -/
noncomputable def tr109 (x0 : Bx) : Tr (V3) :=
  (.leaf (⟨((F181 x0.lo x0.hi 1056964608).x), ((F181 x0.lo x0.hi 1056964608).y), ((F181 x0.lo x0.hi 1056964608).z)⟩ : V3))
theorem ev109 (x0 : Bx) : evalF (env tab14 exts (fun _ => [])) 0 Tryz.f109 [.ptr .bx x0 0] = (tr109 x0).toOpt (fun x => .plain (.agg (enc .v3 x))) := by kernel_rfl
noncomputable def F109 (x0 : Bx) : V3 := (tr109 x0).val
theorem pre109 (x0 : Bx) : (tr109 x0).pre = true := by simp [tr109, Tr.pre]
/- (*impl.Box).middle -/
noncomputable def tr112 (x0 : Bx) : Tr (V3) :=
  (.leaf (⟨((F182 x0.lo x0.hi 1056964608).x), ((F182 x0.lo x0.hi 1056964608).y), ((F182 x0.lo x0.hi 1056964608).z)⟩ : V3))
theorem ev112 (x0 : Bx) : evalF (env tab14 exts (fun _ => [])) 0 Tryz.f112 [.ptr .bx x0 0] = (tr112 x0).toOpt (fun x => .plain (.agg (enc .v3 x))) := by kernel_rfl
noncomputable def F112 (x0 : Bx) : V3 := (tr112 x0).val
theorem pre112 (x0 : Bx) : (tr112 x0).pre = true := by simp [tr112, Tr.pre]
/- math.Floor -/
noncomputable def tr251 (x0 : Nat) : Tr (Nat) :=
  (.leaf (fint Ieee.Toward.down x0))
theorem ev251 (x0 : Nat) : evalF (env tab14 exts (fun _ => [])) 0 Tryz.f251 [.f64 x0] = (tr251 x0).toOpt (fun x => .plain (.f64 x)) := by kernel_rfl
noncomputable def F251 (x0 : Nat) : Nat := (tr251 x0).val
theorem pre251 (x0 : Nat) : (tr251 x0).pre = true := by simp [tr251, Tr.pre]
noncomputable def ent232 : List PV → Option (Bool × CRes)
  | [.ptr .cam x0 0] => some (true, (fun (x : (V3) × (V3) × (V3)) => .plain (.tup [.agg (enc .v3 x.1), .agg (enc .v3 x.2.1), .agg (enc .v3 x.2.2)])) (F232 x0))
  | _ => none
theorem ok232 : EntSound Tryz.prog 232 ent232 := by
  refine entry tab14_ok exts_ok (fun _ => []) (fn := Tryz.f232) (by kernel_rfl) (by kernel_rfl) (fun args c h => ?_)
  unfold ent232 at h
  split at h <;> first | (cases h; done) | skip
  rename_i x0
  simp only [Option.some.injEq, Prod.mk.injEq] at h
  obtain ⟨hp, rfl⟩ := h
  exact ⟨0, (ev232 x0).trans (Tr.ok _ _ (pre232 x0))⟩

noncomputable def ent152 : List PV → Option (Bool × CRes)
  | [.ptr .ray x0 0] => some (true, (fun (x : Bool) => .plain (.bool x)) (F152 x0))
  | _ => none
theorem ok152 : EntSound Tryz.prog 152 ent152 := by
  refine entry tab14_ok exts_ok (fun _ => []) (fn := Tryz.f152) (by kernel_rfl) (by kernel_rfl) (fun args c h => ?_)
  unfold ent152 at h
  split at h <;> first | (cases h; done) | skip
  rename_i x0
  simp only [Option.some.injEq, Prod.mk.injEq] at h
  obtain ⟨hp, rfl⟩ := h
  exact ⟨0, (ev152 x0).trans (Tr.ok _ _ (pre152 x0))⟩

noncomputable def ent237 : List PV → Option (Bool × CRes)
  | [.ptr .ray x0 0, .f32 x1] => some (true, (fun (x : V3) => .plain (.agg (enc .v3 x))) (F237 x0 x1))
  | _ => none
theorem ok237 : EntSound Tryz.prog 237 ent237 := by
  refine entry tab14_ok exts_ok (fun _ => []) (fn := Tryz.f237) (by kernel_rfl) (by kernel_rfl) (fun args c h => ?_)
  unfold ent237 at h
  split at h <;> first | (cases h; done) | skip
  rename_i x0 x1
  simp only [Option.some.injEq, Prod.mk.injEq] at h
  obtain ⟨hp, rfl⟩ := h
  exact ⟨0, (ev237 x0 x1).trans (Tr.ok _ _ (pre237 x0 x1))⟩

noncomputable def ent239 : List PV → Option (Bool × CRes)
  | [.ptr .cam x0 0] => some (true, (fun (x : (V3) × (V3) × (V3)) => .plain (.tup [.agg (enc .v3 x.1), .agg (enc .v3 x.2.1), .agg (enc .v3 x.2.2)])) (F239 x0))
  | _ => none
theorem ok239 : EntSound Tryz.prog 239 ent239 := by
  refine entry tab14_ok exts_ok (fun _ => []) (fn := Tryz.f239) (by kernel_rfl) (by kernel_rfl) (fun args c h => ?_)
  unfold ent239 at h
  split at h <;> first | (cases h; done) | skip
  rename_i x0
  simp only [Option.some.injEq, Prod.mk.injEq] at h
  obtain ⟨hp, rfl⟩ := h
  exact ⟨0, (ev239 x0).trans (Tr.ok _ _ (pre239 x0))⟩

noncomputable def ent163 : List PV → Option (Bool × CRes)
  | [.agg [.f32 x0_0, .f32 x0_1, .f32 x0_2, .f32 x0_3, .f32 x0_4, .f32 x0_5]] => some (true, (fun (x : Bool) => .plain (.bool x)) (F163 (⟨⟨x0_0, x0_1, x0_2⟩, ⟨x0_3, x0_4, x0_5⟩⟩ : Ray)))
  | _ => none
theorem ok163 : EntSound Tryz.prog 163 ent163 := by
  refine entry tab14_ok exts_ok (fun _ => []) (fn := Tryz.f163) (by kernel_rfl) (by kernel_rfl) (fun args c h => ?_)
  unfold ent163 at h
  split at h <;> first | (cases h; done) | skip
  rename_i x0_0 x0_1 x0_2 x0_3 x0_4 x0_5
  simp only [Option.some.injEq, Prod.mk.injEq] at h
  obtain ⟨hp, rfl⟩ := h
  exact ⟨0, (ev163 (⟨⟨x0_0, x0_1, x0_2⟩, ⟨x0_3, x0_4, x0_5⟩⟩ : Ray)).trans (Tr.ok _ _ (pre163 (⟨⟨x0_0, x0_1, x0_2⟩, ⟨x0_3, x0_4, x0_5⟩⟩ : Ray)))⟩

noncomputable def ent246 : List PV → Option (Bool × CRes)
  | [.ptr .ray x0 0, .f32 x1] => some (true, (fun (x : V3) => .plain (.agg (enc .v3 x))) (F246 x0 x1))
  | _ => none
theorem ok246 : EntSound Tryz.prog 246 ent246 := by
  refine entry tab14_ok exts_ok (fun _ => []) (fn := Tryz.f246) (by kernel_rfl) (by kernel_rfl) (fun args c h => ?_)
  unfold ent246 at h
  split at h <;> first | (cases h; done) | skip
  rename_i x0 x1
  simp only [Option.some.injEq, Prod.mk.injEq] at h
  obtain ⟨hp, rfl⟩ := h
  exact ⟨0, (ev246 x0 x1).trans (Tr.ok _ _ (pre246 x0 x1))⟩

noncomputable def ent109 : List PV → Option (Bool × CRes)
  | [.ptr .bx x0 0] => some (true, (fun (x : V3) => .plain (.agg (enc .v3 x))) (F109 x0))
  | _ => none
theorem ok109 : EntSound Tryz.prog 109 ent109 := by
  refine entry tab14_ok exts_ok (fun _ => []) (fn := Tryz.f109) (by kernel_rfl) (by kernel_rfl) (fun args c h => ?_)
  unfold ent109 at h
  split at h <;> first | (cases h; done) | skip
  rename_i x0
  simp only [Option.some.injEq, Prod.mk.injEq] at h
  obtain ⟨hp, rfl⟩ := h
  exact ⟨0, (ev109 x0).trans (Tr.ok _ _ (pre109 x0))⟩

noncomputable def ent112 : List PV → Option (Bool × CRes)
  | [.ptr .bx x0 0] => some (true, (fun (x : V3) => .plain (.agg (enc .v3 x))) (F112 x0))
  | _ => none
theorem ok112 : EntSound Tryz.prog 112 ent112 := by
  refine entry tab14_ok exts_ok (fun _ => []) (fn := Tryz.f112) (by kernel_rfl) (by kernel_rfl) (fun args c h => ?_)
  unfold ent112 at h
  split at h <;> first | (cases h; done) | skip
  rename_i x0
  simp only [Option.some.injEq, Prod.mk.injEq] at h
  obtain ⟨hp, rfl⟩ := h
  exact ⟨0, (ev112 x0).trans (Tr.ok _ _ (pre112 x0))⟩

noncomputable def ent251 : List PV → Option (Bool × CRes)
  | [.f64 x0] => some (true, (fun (x : Nat) => .plain (.f64 x)) (F251 x0))
  | _ => none
theorem ok251 : EntSound Tryz.prog 251 ent251 := by
  refine entry tab14_ok exts_ok (fun _ => []) (fn := Tryz.f251) (by kernel_rfl) (by kernel_rfl) (fun args c h => ?_)
  unfold ent251 at h
  split at h <;> first | (cases h; done) | skip
  rename_i x0
  simp only [Option.some.injEq, Prod.mk.injEq] at h
  obtain ⟨hp, rfl⟩ := h
  exact ⟨0, (ev251 x0).trans (Tr.ok _ _ (pre251 x0))⟩

noncomputable def tab15 : Tab := ((251, ent251) :: ((112, ent112) :: ((109, ent109) :: ((246, ent246) :: ((163, ent163) :: ((239, ent239) :: ((237, ent237) :: ((152, ent152) :: ((232, ent232) :: tab14)))))))))
theorem tab15_ok : TSound Tryz.prog (tabT tab15) := (tab_cons (tab_cons (tab_cons (tab_cons (tab_cons (tab_cons (tab_cons (tab_cons (tab_cons tab14_ok ok232) ok152) ok237) ok239) ok163) ok246) ok109) ok112) ok251)

end Go.Proofs.YtponnbnebjhepaaGreat

namespace Go.Proofs.YtponnbnebjhepaaGreat
open Go Go.Ev
set_option maxRecDepth 100000

/- spec.l09Is -/
noncomputable def tr149 (x0 : Cam) : Tr (Bool) :=
  (.cond (!F78 x0.w 1 12)
   (.leaf (false))
   (.cond (!F78 x0.h 1 12)
    (.leaf (false))
    (.cond (!F61 x0.wide)
     (.leaf (false))
     (.cond (!F132 x0.src)
      (.leaf (false))
      (.cond (!F132 x0.to)
       (.leaf (false))
       (.cond (F233 (F232 x0).snd.snd)
        (.leaf (F233 (F232 x0).fst))
        (.leaf (false))))))))
theorem ev149 (x0 : Cam) : evalF (env tab15 exts (fun _ => [])) 0 Tryz.f149 [.ptr .cam x0 0] = (tr149 x0).toOpt (fun x => .plain (.bool x)) := by kernel_rfl
noncomputable def F149 (x0 : Cam) : Bool := (tr149 x0).val
theorem pre149 (x0 : Cam) : (tr149 x0).pre = true := by simp [tr149, Tr.pre]
/- spec.l09Ray -/
noncomputable def tr151 (x0 : Cam) (x1 : Int) (x2 : Int) : Tr (Ray) :=
  (.leaf (⟨⟨(x0.src.x), (x0.src.y), (x0.src.z)⟩, ⟨((F234 (F234 (F232 x0).snd.snd (F235 (F232 x0).fst (fop BinOp.mul FloatKind.f32 (fop BinOp.mul FloatKind.f32 (fop BinOp.sub FloatKind.f32 (fop BinOp.mul FloatKind.f32 (fop BinOp.quo FloatKind.f32 (fop BinOp.add FloatKind.f32 (i2f FloatKind.f32 x1) 1056964608) (i2f FloatKind.f32 x0.w)) 1073741824) 1065353216) x0.wide) (fop BinOp.quo FloatKind.f32 (i2f FloatKind.f32 x0.w) (i2f FloatKind.f32 x0.h))))) (F235 (F232 x0).snd.fst (fop BinOp.mul FloatKind.f32 (fop BinOp.sub FloatKind.f32 1065353216 (fop BinOp.mul FloatKind.f32 (fop BinOp.quo FloatKind.f32 (fop BinOp.add FloatKind.f32 (i2f FloatKind.f32 x2) 1056964608) (i2f FloatKind.f32 x0.h)) 1073741824)) x0.wide))).x), ((F234 (F234 (F232 x0).snd.snd (F235 (F232 x0).fst (fop BinOp.mul FloatKind.f32 (fop BinOp.mul FloatKind.f32 (fop BinOp.sub FloatKind.f32 (fop BinOp.mul FloatKind.f32 (fop BinOp.quo FloatKind.f32 (fop BinOp.add FloatKind.f32 (i2f FloatKind.f32 x1) 1056964608) (i2f FloatKind.f32 x0.w)) 1073741824) 1065353216) x0.wide) (fop BinOp.quo FloatKind.f32 (i2f FloatKind.f32 x0.w) (i2f FloatKind.f32 x0.h))))) (F235 (F232 x0).snd.fst (fop BinOp.mul FloatKind.f32 (fop BinOp.sub FloatKind.f32 1065353216 (fop BinOp.mul FloatKind.f32 (fop BinOp.quo FloatKind.f32 (fop BinOp.add FloatKind.f32 (i2f FloatKind.f32 x2) 1056964608) (i2f FloatKind.f32 x0.h)) 1073741824)) x0.wide))).y), ((F234 (F234 (F232 x0).snd.snd (F235 (F232 x0).fst (fop BinOp.mul FloatKind.f32 (fop BinOp.mul FloatKind.f32 (fop BinOp.sub FloatKind.f32 (fop BinOp.mul FloatKind.f32 (fop BinOp.quo FloatKind.f32 (fop BinOp.add FloatKind.f32 (i2f FloatKind.f32 x1) 1056964608) (i2f FloatKind.f32 x0.w)) 1073741824) 1065353216) x0.wide) (fop BinOp.quo FloatKind.f32 (i2f FloatKind.f32 x0.w) (i2f FloatKind.f32 x0.h))))) (F235 (F232 x0).snd.fst (fop BinOp.mul FloatKind.f32 (fop BinOp.sub FloatKind.f32 1065353216 (fop BinOp.mul FloatKind.f32 (fop BinOp.quo FloatKind.f32 (fop BinOp.add FloatKind.f32 (i2f FloatKind.f32 x2) 1056964608) (i2f FloatKind.f32 x0.h)) 1073741824)) x0.wide))).z)⟩⟩ : Ray))
theorem ev151 (x0 : Cam) (x1 : Int) (x2 : Int) : evalF (env tab15 exts (fun _ => [])) 0 Tryz.f151 [.ptr .cam x0 0, .int .i64 x1, .int .i64 x2] = (tr151 x0 x1 x2).toOpt (fun x => .plain (.agg (enc .ray x))) := by kernel_rfl
noncomputable def F151 (x0 : Cam) (x1 : Int) (x2 : Int) : Ray := (tr151 x0 x1 x2).val
theorem pre151 (x0 : Cam) (x1 : Int) (x2 : Int) : (tr151 x0 x1 x2).pre = true := by simp [tr151, Tr.pre]
/- impl.ValidCamera -/
noncomputable def tr160 (x0 : Cam) : Tr (Bool) :=
  (.cond (F81 x0.w 1 12)
   (.cond (F81 x0.h 1 12)
    (.cond (F67 x0.wide)
     (.cond (F138 x0.src)
      (.cond (F138 x0.to)
       (.cond (!F240 (F239 x0).fst)
        (.leaf (!F240 (F239 x0).snd.snd))
        (.leaf (false)))
       (.leaf (false)))
      (.leaf (false)))
     (.leaf (false)))
    (.leaf (false)))
   (.leaf (false)))
theorem ev160 (x0 : Cam) : evalF (env tab15 exts (fun _ => [])) 0 Tryz.f160 [.agg (enc .cam x0)] = (tr160 x0).toOpt (fun x => .plain (.bool x)) := by kernel_rfl
noncomputable def F160 (x0 : Cam) : Bool := (tr160 x0).val
theorem pre160 (x0 : Cam) : (tr160 x0).pre = true := by simp [tr160, Tr.pre]
/- (*impl.Camera).ray -/
noncomputable def tr162 (x0 : Cam) (x1 : Int) (x2 : Int) : Tr (Ray) :=
  (.leaf (⟨⟨(x0.src.x), (x0.src.y), (x0.src.z)⟩, ⟨((F242 (F242 (F239 x0).snd.snd (F243 (F239 x0).fst (fop BinOp.mul FloatKind.f32 (fop BinOp.mul FloatKind.f32 (fop BinOp.sub FloatKind.f32 (F241 x1 x0.w) 1065353216) x0.wide) (fop BinOp.quo FloatKind.f32 (i2f FloatKind.f32 x0.w) (i2f FloatKind.f32 x0.h))))) (F243 (F239 x0).snd.fst (fop BinOp.mul FloatKind.f32 (fop BinOp.sub FloatKind.f32 1065353216 (F241 x2 x0.h)) x0.wide))).x), ((F242 (F242 (F239 x0).snd.snd (F243 (F239 x0).fst (fop BinOp.mul FloatKind.f32 (fop BinOp.mul FloatKind.f32 (fop BinOp.sub FloatKind.f32 (F241 x1 x0.w) 1065353216) x0.wide) (fop BinOp.quo FloatKind.f32 (i2f FloatKind.f32 x0.w) (i2f FloatKind.f32 x0.h))))) (F243 (F239 x0).snd.fst (fop BinOp.mul FloatKind.f32 (fop BinOp.sub FloatKind.f32 1065353216 (F241 x2 x0.h)) x0.wide))).y), ((F242 (F242 (F239 x0).snd.snd (F243 (F239 x0).fst (fop BinOp.mul FloatKind.f32 (fop BinOp.mul FloatKind.f32 (fop BinOp.sub FloatKind.f32 (F241 x1 x0.w) 1065353216) x0.wide) (fop BinOp.quo FloatKind.f32 (i2f FloatKind.f32 x0.w) (i2f FloatKind.f32 x0.h))))) (F243 (F239 x0).snd.fst (fop BinOp.mul FloatKind.f32 (fop BinOp.sub FloatKind.f32 1065353216 (F241 x2 x0.h)) x0.wide))).z)⟩⟩ : Ray))
theorem ev162 (x0 : Cam) (x1 : Int) (x2 : Int) : evalF (env tab15 exts (fun _ => [])) 0 Tryz.f162 [.ptr .cam x0 0, .int .i64 x1, .int .i64 x2] = (tr162 x0 x1 x2).toOpt (fun x => .plain (.agg (enc .ray x))) := by kernel_rfl
noncomputable def F162 (x0 : Cam) (x1 : Int) (x2 : Int) : Ray := (tr162 x0 x1 x2).val
theorem pre162 (x0 : Cam) (x1 : Int) (x2 : Int) : (tr162 x0 x1 x2).pre = true := by simp [tr162, Tr.pre]
/- spec.l09Byte -/
noncomputable def tr179 (x0 : Nat) : Tr (Int) :=
  (.cond (!fcmp BinOp.geq FloatKind.f32 x0 0)
   (.leaf (0))
   (.cond (fcmp BinOp.gtr FloatKind.f32 x0 1065353216)
    (.leaf (255))
    (.cond (f2iOk FloatKind.f64 (F251 (fop BinOp.add FloatKind.f64 (fop BinOp.mul FloatKind.f64 (f2f FloatKind.f32 x0 FloatKind.f64) 4643176031446892544) 4602678819172646912)) IntKind.i64)
     (.leaf (f2i FloatKind.f64 (F251 (fop BinOp.add FloatKind.f64 (fop BinOp.mul FloatKind.f64 (f2f FloatKind.f32 x0 FloatKind.f64) 4643176031446892544) 4602678819172646912)) IntKind.i64))
     .non)))
theorem ev179 (x0 : Nat) : evalF (env tab15 exts (fun _ => [])) 0 Tryz.f179 [.f32 x0] = (tr179 x0).toOpt (fun x => .plain (.int .i64 x)) := by kernel_rfl
noncomputable def F179 (x0 : Nat) : Int := (tr179 x0).val
/- impl.ByteOf -/
noncomputable def tr180 (x0 : Nat) : Tr (Int) :=
  (.cond (F143 x0)
   (.leaf (0))
   (.cond (fcmp BinOp.lss FloatKind.f32 x0 0)
    (.leaf (0))
    (.cond (fcmp BinOp.gtr FloatKind.f32 x0 1065353216)
     (.leaf (255))
     (.cond (f2iOk FloatKind.f64 (F251 (fop BinOp.add FloatKind.f64 (fop BinOp.mul FloatKind.f64 (f2f FloatKind.f32 x0 FloatKind.f64) 4643176031446892544) 4602678819172646912)) IntKind.i64)
      (.leaf (f2i FloatKind.f64 (F251 (fop BinOp.add FloatKind.f64 (fop BinOp.mul FloatKind.f64 (f2f FloatKind.f32 x0 FloatKind.f64) 4643176031446892544) 4602678819172646912)) IntKind.i64))
      .non))))
theorem ev180 (x0 : Nat) : evalF (env tab15 exts (fun _ => [])) 0 Tryz.f180 [.f32 x0] = (tr180 x0).toOpt (fun x => .plain (.int .i64 x)) := by kernel_rfl
noncomputable def F180 (x0 : Nat) : Int := (tr180 x0).val
noncomputable def ent149 : List PV → Option (Bool × CRes)
  | [.ptr .cam x0 0] => some (true, (fun (x : Bool) => .plain (.bool x)) (F149 x0))
  | _ => none
theorem ok149 : EntSound Tryz.prog 149 ent149 := by
  refine entry tab15_ok exts_ok (fun _ => []) (fn := Tryz.f149) (by kernel_rfl) (by kernel_rfl) (fun args c h => ?_)
  unfold ent149 at h
  split at h <;> first | (cases h; done) | skip
  rename_i x0
  simp only [Option.some.injEq, Prod.mk.injEq] at h
  obtain ⟨hp, rfl⟩ := h
  exact ⟨0, (ev149 x0).trans (Tr.ok _ _ (pre149 x0))⟩

noncomputable def ent151 : List PV → Option (Bool × CRes)
  | [.ptr .cam x0 0, .int .i64 x1, .int .i64 x2] => some (true, (fun (x : Ray) => .plain (.agg (enc .ray x))) (F151 x0 x1 x2))
  | _ => none
theorem ok151 : EntSound Tryz.prog 151 ent151 := by
  refine entry tab15_ok exts_ok (fun _ => []) (fn := Tryz.f151) (by kernel_rfl) (by kernel_rfl) (fun args c h => ?_)
  unfold ent151 at h
  split at h <;> first | (cases h; done) | skip
  rename_i x0 x1 x2
  simp only [Option.some.injEq, Prod.mk.injEq] at h
  obtain ⟨hp, rfl⟩ := h
  exact ⟨0, (ev151 x0 x1 x2).trans (Tr.ok _ _ (pre151 x0 x1 x2))⟩

noncomputable def ent160 : List PV → Option (Bool × CRes)
  | [.agg [.f32 x0_0, .f32 x0_1, .f32 x0_2, .f32 x0_3, .f32 x0_4, .f32 x0_5, .f32 x0_6, .int .i64 x0_7, .int .i64 x0_8]] => some (true, (fun (x : Bool) => .plain (.bool x)) (F160 (⟨⟨x0_0, x0_1, x0_2⟩, ⟨x0_3, x0_4, x0_5⟩, x0_6, x0_7, x0_8⟩ : Cam)))
  | _ => none
theorem ok160 : EntSound Tryz.prog 160 ent160 := by
  refine entry tab15_ok exts_ok (fun _ => []) (fn := Tryz.f160) (by kernel_rfl) (by kernel_rfl) (fun args c h => ?_)
  unfold ent160 at h
  split at h <;> first | (cases h; done) | skip
  rename_i x0_0 x0_1 x0_2 x0_3 x0_4 x0_5 x0_6 x0_7 x0_8
  simp only [Option.some.injEq, Prod.mk.injEq] at h
  obtain ⟨hp, rfl⟩ := h
  exact ⟨0, (ev160 (⟨⟨x0_0, x0_1, x0_2⟩, ⟨x0_3, x0_4, x0_5⟩, x0_6, x0_7, x0_8⟩ : Cam)).trans (Tr.ok _ _ (pre160 (⟨⟨x0_0, x0_1, x0_2⟩, ⟨x0_3, x0_4, x0_5⟩, x0_6, x0_7, x0_8⟩ : Cam)))⟩

noncomputable def ent162 : List PV → Option (Bool × CRes)
  | [.ptr .cam x0 0, .int .i64 x1, .int .i64 x2] => some (true, (fun (x : Ray) => .plain (.agg (enc .ray x))) (F162 x0 x1 x2))
  | _ => none
theorem ok162 : EntSound Tryz.prog 162 ent162 := by
  refine entry tab15_ok exts_ok (fun _ => []) (fn := Tryz.f162) (by kernel_rfl) (by kernel_rfl) (fun args c h => ?_)
  unfold ent162 at h
  split at h <;> first | (cases h; done) | skip
  rename_i x0 x1 x2
  simp only [Option.some.injEq, Prod.mk.injEq] at h
  obtain ⟨hp, rfl⟩ := h
  exact ⟨0, (ev162 x0 x1 x2).trans (Tr.ok _ _ (pre162 x0 x1 x2))⟩

noncomputable def ent179 : List PV → Option (Bool × CRes)
  | [.f32 x0] => some ((tr179 x0).pre, (fun (x : Int) => .plain (.int .i64 x)) (F179 x0))
  | _ => none
theorem ok179 : EntSound Tryz.prog 179 ent179 := by
  refine entry tab15_ok exts_ok (fun _ => []) (fn := Tryz.f179) (by kernel_rfl) (by kernel_rfl) (fun args c h => ?_)
  unfold ent179 at h
  split at h <;> first | (cases h; done) | skip
  rename_i x0
  simp only [Option.some.injEq, Prod.mk.injEq] at h
  obtain ⟨hp, rfl⟩ := h
  exact ⟨0, (ev179 x0).trans (Tr.ok _ _ hp)⟩

noncomputable def ent180 : List PV → Option (Bool × CRes)
  | [.f32 x0] => some ((tr180 x0).pre, (fun (x : Int) => .plain (.int .i64 x)) (F180 x0))
  | _ => none
theorem ok180 : EntSound Tryz.prog 180 ent180 := by
  refine entry tab15_ok exts_ok (fun _ => []) (fn := Tryz.f180) (by kernel_rfl) (by kernel_rfl) (fun args c h => ?_)
  unfold ent180 at h
  split at h <;> first | (cases h; done) | skip
  rename_i x0
  simp only [Option.some.injEq, Prod.mk.injEq] at h
  obtain ⟨hp, rfl⟩ := h
  exact ⟨0, (ev180 x0).trans (Tr.ok _ _ hp)⟩

noncomputable def tab16 : Tab := ((180, ent180) :: ((179, ent179) :: ((162, ent162) :: ((160, ent160) :: ((151, ent151) :: ((149, ent149) :: tab15))))))
theorem tab16_ok : TSound Tryz.prog (tabT tab16) := (tab_cons (tab_cons (tab_cons (tab_cons (tab_cons (tab_cons tab15_ok ok149) ok151) ok160) ok162) ok179) ok180)

end Go.Proofs.YtponnbnebjhepaaGreat

namespace Go.Proofs.YtponnbnebjhepaaGreat
open Go Go.Ev
set_option maxRecDepth 100000

/- (*impl.Camera).has -/
noncomputable def tr91 (x0 : Cam) (x1 : Int) (x2 : Int) : Tr (Bool) :=
  (.cond (F160 x0)
   (.cond (F81 x1 0 (IntKind.i64.wrap (x0.w - 1)))
    (.leaf (F81 x2 0 (IntKind.i64.wrap (x0.h - 1))))
    (.leaf (false)))
   (.leaf (false)))
theorem ev91 (x0 : Cam) (x1 : Int) (x2 : Int) : evalF (env tab16 exts (fun _ => [])) 0 Tryz.f91 [.ptr .cam x0 0, .int .i64 x1, .int .i64 x2] = (tr91 x0 x1 x2).toOpt (fun x => .plain (.bool x)) := by kernel_rfl
noncomputable def F91 (x0 : Cam) (x1 : Int) (x2 : Int) : Bool := (tr91 x0 x1 x2).val
theorem pre91 (x0 : Cam) (x1 : Int) (x2 : Int) : (tr91 x0 x1 x2).pre = true := by simp [tr91, Tr.pre]
/- impl.IsTile -/
noncomputable def tr106 (x0 : Cam) (x1 : Tl) : Tr (Bool) :=
  (.cond (F81 x1.x 0 (IntKind.i64.wrap (x0.w - 1)))
   (.cond (F81 x1.y 0 (IntKind.i64.wrap (x0.h - 1)))
    (.cond (F81 x1.w 1 (IntKind.i64.wrap (x0.w - x1.x)))
     (.cond (F160 x0)
      (.leaf (F81 x1.h 1 (IntKind.i64.wrap (x0.h - x1.y))))
      (.leaf (false)))
     (.cond (F160 x0)
      (.leaf (false))
      (.leaf (false))))
    (.cond (F160 x0)
     (.leaf (false))
     (.leaf (false))))
   (.cond (F160 x0)
    (.leaf (false))
    (.leaf (false))))
theorem ev106 (x0 : Cam) (x1 : Tl) : evalF (env tab16 exts (fun _ => [])) 0 Tryz.f106 [.agg (enc .cam x0), .agg (enc .tl x1)] = (tr106 x0 x1).toOpt (fun x => .plain (.bool x)) := by kernel_rfl
noncomputable def F106 (x0 : Cam) (x1 : Tl) : Bool := (tr106 x0 x1).val
theorem pre106 (x0 : Cam) (x1 : Tl) : (tr106 x0 x1).pre = true := by simp [tr106, Tr.pre]
noncomputable def ent91 : List PV → Option (Bool × CRes)
  | [.ptr .cam x0 0, .int .i64 x1, .int .i64 x2] => some (true, (fun (x : Bool) => .plain (.bool x)) (F91 x0 x1 x2))
  | _ => none
theorem ok91 : EntSound Tryz.prog 91 ent91 := by
  refine entry tab16_ok exts_ok (fun _ => []) (fn := Tryz.f91) (by kernel_rfl) (by kernel_rfl) (fun args c h => ?_)
  unfold ent91 at h
  split at h <;> first | (cases h; done) | skip
  rename_i x0 x1 x2
  simp only [Option.some.injEq, Prod.mk.injEq] at h
  obtain ⟨hp, rfl⟩ := h
  exact ⟨0, (ev91 x0 x1 x2).trans (Tr.ok _ _ (pre91 x0 x1 x2))⟩

noncomputable def ent106 : List PV → Option (Bool × CRes)
  | [.agg [.f32 x0_0, .f32 x0_1, .f32 x0_2, .f32 x0_3, .f32 x0_4, .f32 x0_5, .f32 x0_6, .int .i64 x0_7, .int .i64 x0_8], .agg [.int .i64 x1_0, .int .i64 x1_1, .int .i64 x1_2, .int .i64 x1_3]] => some (true, (fun (x : Bool) => .plain (.bool x)) (F106 (⟨⟨x0_0, x0_1, x0_2⟩, ⟨x0_3, x0_4, x0_5⟩, x0_6, x0_7, x0_8⟩ : Cam) (⟨x1_0, x1_1, x1_2, x1_3⟩ : Tl)))
  | _ => none
theorem ok106 : EntSound Tryz.prog 106 ent106 := by
  refine entry tab16_ok exts_ok (fun _ => []) (fn := Tryz.f106) (by kernel_rfl) (by kernel_rfl) (fun args c h => ?_)
  unfold ent106 at h
  split at h <;> first | (cases h; done) | skip
  rename_i x0_0 x0_1 x0_2 x0_3 x0_4 x0_5 x0_6 x0_7 x0_8 x1_0 x1_1 x1_2 x1_3
  simp only [Option.some.injEq, Prod.mk.injEq] at h
  obtain ⟨hp, rfl⟩ := h
  exact ⟨0, (ev106 (⟨⟨x0_0, x0_1, x0_2⟩, ⟨x0_3, x0_4, x0_5⟩, x0_6, x0_7, x0_8⟩ : Cam) (⟨x1_0, x1_1, x1_2, x1_3⟩ : Tl)).trans (Tr.ok _ _ (pre106 (⟨⟨x0_0, x0_1, x0_2⟩, ⟨x0_3, x0_4, x0_5⟩, x0_6, x0_7, x0_8⟩ : Cam) (⟨x1_0, x1_1, x1_2, x1_3⟩ : Tl)))⟩

noncomputable def tab17 : Tab := ((106, ent106) :: ((91, ent91) :: tab16))
theorem tab17_ok : TSound Tryz.prog (tabT tab17) := (tab_cons (tab_cons tab16_ok ok91) ok106)

end Go.Proofs.YtponnbnebjhepaaGreat

