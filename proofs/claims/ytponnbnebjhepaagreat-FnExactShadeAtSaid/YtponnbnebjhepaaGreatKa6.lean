/- Part 6 of the proof: the abstract evaluator and what the functions of the program compute (condition: none). -/
import Derived.Test.YtponnbnebjhepaaGreatKa5
namespace Go.Proofs.YtponnbnebjhepaaGreat
open Go Go.Ev Ieee
set_option maxRecDepth 100000

theorem zq_bif {b b' : Bool} {x x' y y' : Nat} (hb : b = b') (h1 : b = true → zq x x') (h2 : b = false → zq y y') : zq (bif b then x else y) (bif b' then x' else y') := by
  subst hb
  cases b
  · exact h2 rfl
  · exact h1 rfl
theorem zq_nought : zq 0 0 := zq.refl (by decide)
theorem zq_addl {x x' y : Nat} (hx : zq x x') : zq (fop .add .f32 x y) (fop .add .f32 x' y) := by
  rcases hx with ⟨rfl, _⟩ | ⟨h, h'⟩
  · exact zq.refl (add_lt _ _)
  · obtain ⟨s, hs⟩ := zw_decode h; obtain ⟨s', hs'⟩ := zw_decode h'
    rw [add_res, add_res, hs, hs']; exact res32_zq (sum_left _ _ _ _)
theorem zq_addr {x y y' : Nat} (hy : zq y y') : zq (fop .add .f32 x y) (fop .add .f32 x y') := by
  rcases hy with ⟨rfl, _⟩ | ⟨h, h'⟩
  · exact zq.refl (add_lt _ _)
  · obtain ⟨s, hs⟩ := zw_decode h; obtain ⟨s', hs'⟩ := zw_decode h'
    rw [add_res, add_res, hs, hs']; exact res32_zq (sum_right _ _ _ _)
theorem zq_subl {x x' y : Nat} (hx : zq x x') : zq (fop .sub .f32 x y) (fop .sub .f32 x' y) := by
  rcases hx with ⟨rfl, _⟩ | ⟨h, h'⟩
  · exact zq.refl (sub_lt _ _)
  · obtain ⟨s, hs⟩ := zw_decode h; obtain ⟨s', hs'⟩ := zw_decode h'
    rw [sub_res, sub_res, hs, hs']; exact res32_zq (sum_left _ _ _ _)
theorem zq_subr {x y y' : Nat} (hy : zq y y') : zq (fop .sub .f32 x y) (fop .sub .f32 x y') := by
  rcases hy with ⟨rfl, _⟩ | ⟨h, h'⟩
  · exact zq.refl (sub_lt _ _)
  · obtain ⟨s, hs⟩ := zw_decode h; obtain ⟨s', hs'⟩ := zw_decode h'
    rw [sub_res, sub_res, hs, hs']; exact res32_zq (sum_right _ _ _ _)
theorem zq_mull {x x' y : Nat} (hx : zq x x') : zq (fop .mul .f32 x y) (fop .mul .f32 x' y) := by
  rcases hx with ⟨rfl, _⟩ | ⟨h, h'⟩
  · exact zq.refl (mul_lt _ _)
  · obtain ⟨s, hs⟩ := zw_decode h; obtain ⟨s', hs'⟩ := zw_decode h'
    rw [mul_res, mul_res, hs, hs']; exact res32_zq (product_left _ _ _ _)
theorem zq_mulr {x y y' : Nat} (hy : zq y y') : zq (fop .mul .f32 x y) (fop .mul .f32 x y') := by
  rcases hy with ⟨rfl, _⟩ | ⟨h, h'⟩
  · exact zq.refl (mul_lt _ _)
  · obtain ⟨s, hs⟩ := zw_decode h; obtain ⟨s', hs'⟩ := zw_decode h'
    rw [mul_res, mul_res, hs, hs']; exact res32_zq (product_right _ _ _ _)
theorem zq_cmpl {x x' y : Nat} (op : BinOp) (hx : zq x x') : fcmp op .f32 x y = fcmp op .f32 x' y := by
  have : fordR .f32 x y = fordR .f32 x' y := by
    rcases hx with ⟨rfl, _⟩ | ⟨h, h'⟩
    · rfl
    · obtain ⟨s, hs⟩ := zw_decode h; obtain ⟨s', hs'⟩ := zw_decode h'
      rw [ord_eq, ord_eq, hs, hs']; exact order_left _ _ _ _
  rw [fcmp_eq]
  cases op <;> simp only [fcmpR, this]

/-! What a number is without its sign: the one way takes it from nothing, the other turns it. -/
theorem zero_of_number {x : Nat} (h : x < 4294967296) {s : Bool} {e : Int} (hd : FloatKind.f32.decode x = .number s 0 e) : Zw x := by
  unfold FloatKind.decode Format.read at hd
  have e1 : FloatKind.f32.format.signWeight = 2147483648 := by decide
  have e2 : FloatKind.f32.format.binade = 8388608 := by decide
  simp only [e1, e2] at hd
  split at hd
  · injection hd with _ h2 _
    unfold Zw; omega
  · split at hd
    · injection hd with _ h2 _; omega
    · split at hd <;> cases hd
theorem flip_low {x : Nat} (h : x < 4294967296) (hs : x / 2147483648 % 2 = 1) : x ^^^ 2147483648 = x - 2147483648 := by
  have hx : x - 2147483648 < 2 ^ 31 := by omega
  have : x = 2 ^ 31 + (x - 2147483648) := by omega
  generalize x - 2147483648 = r at *
  subst this
  apply Nat.eq_of_testBit_eq
  intro i
  have e : (2147483648 : Nat) = 2 ^ 31 := by decide
  rw [e, Nat.testBit_xor, Nat.testBit_two_pow]
  by_cases hi : i < 31
  · rw [Nat.testBit_two_pow_add_gt hi]
    have : ¬ 31 = i := by omega
    simp [this]
  · by_cases hi' : i = 31
    · subst hi'
      rw [Nat.testBit_two_pow_add_eq]
      simp
    · have : 2 ^ 32 ≤ 2 ^ i := Nat.pow_le_pow_right (by decide) (by omega)
      have h1 : (2 ^ 31 + r) < 2 ^ i := by omega
      have h2 : r < 2 ^ i := by omega
      rw [Nat.testBit_lt_two_pow h1, Nat.testBit_lt_two_pow h2]
      have : ¬ 31 = i := by omega
      simp [this]
theorem read_low {x : Nat} (h : x < 4294967296) (hs : x / 2147483648 % 2 = 1) {s : Bool} {m : Nat} {e : Int} (hd : FloatKind.f32.decode x = .number s m e) :
    s = true ∧ FloatKind.f32.decode (x - 2147483648) = .number false m e := by
  unfold FloatKind.decode Format.read at hd ⊢
  have e1 : FloatKind.f32.format.signWeight = 2147483648 := by decide
  have hm : (x - 2147483648) % 2147483648 = x % 2147483648 := by omega
  have hdv : (x - 2147483648) / 2147483648 % 2 = 0 := by omega
  simp only [e1, hs, hm, hdv] at hd ⊢
  split at hd
  · rename_i h1; rw [if_pos h1]; cases hd; exact ⟨rfl, rfl⟩
  · rename_i h1
    split at hd
    · rename_i h2; rw [if_neg h1, if_pos h2]; cases hd; exact ⟨rfl, rfl⟩
    · split at hd <;> cases hd
theorem zero_sub {x : Nat} (h : x < 4294967296) (hs : x / 2147483648 % 2 = 1) {s : Bool} {m : Nat} {e : Int} (hd : FloatKind.f32.decode x = .number s m e) (hm : m ≠ 0) :
    fop .sub .f32 0 x = fneg .f32 x := by
  obtain ⟨rfl, hl⟩ := read_low h hs hd
  have hneg : fneg .f32 x = x - 2147483648 := by
    rw [fneg_eq]
    unfold fnegR
    have e1 : Op.negFloat .f32 x = x ^^^ 2147483648 := rfl
    rw [e1, flip_low h hs, canon_of_not (by rw [hl]; rfl)]
  rw [hneg, sub_res, hd]
  have h0 : FloatKind.f32.decode 0 = .number false 0 (-149) := by decide +kernel
  have hp := number_place (f := Ieee.single) hl
  have e5 : Ieee.single.leastPlace = -149 := by decide
  rw [e5] at hp
  rw [h0]
  have hmin : min (-149) e = -149 := by omega
  have hpos : 0 < m * 2 ^ (e + 149).toNat := Nat.mul_pos (by omega) (Nat.two_pow_pos _)
  have hsg : signed false m (e + 149).toNat = ((m * 2 ^ (e + 149).toNat : Nat) : Int) := by
    unfold signed; rw [Nat.shiftLeft_eq]; rfl
  have hsum : (Datum.number false 0 (-149)).sum (Datum.number true m e).opposite = some (.number false (m * 2 ^ (e + 149).toNat) (-149)) := by
    unfold Datum.sum Datum.opposite
    simp only [hmin, signed_nought, Int.zero_add, Bool.not_true, show e - -149 = e + 149 by omega, hsg, Int.natAbs_natCast]
    rw [if_neg (by omega)]
    have : (decide (((m * 2 ^ (e + 149).toNat : Nat) : Int) < 0)) = false := by simp only [decide_eq_false_iff_not]; omega
    rw [this]
  rw [hsum]
  have hw : FloatKind.f32.encode (FloatKind.f32.decode (x - 2147483648)) = x - 2147483648 := write_read Ieee.single (by decide) _ (by show _ < 2 * 2 ^ 31; omega) (by show (FloatKind.f32.decode (x - 2147483648)).isNaN = false; rw [hl]; rfl)
  have hn := nearest_scale Ieee.single false m (e + 149).toNat e
  rw [show e - ((e + 149).toNat : Int) = -149 by omega] at hn
  show canon .f32 (Ieee.single.nearest false (m * 2 ^ (e + 149).toNat) (-149)) = _
  rw [hn]
  have : Ieee.single.nearest false m e = x - 2147483648 := by rw [hl] at hw; exact hw
  rw [this, canon_of_not (by rw [hl]; rfl)]

theorem inf_word {x : Nat} (h : x < 4294967296) {s : Bool} (hd : FloatKind.f32.decode x = .infinity s) : x = 2139095040 ∨ x = 4286578688 := by
  unfold FloatKind.decode Format.read at hd
  have e1 : FloatKind.f32.format.signWeight = 2147483648 := by decide
  have e2 : FloatKind.f32.format.infRung = 2139095040 := by decide
  simp only [e1, e2] at hd
  split at hd
  · cases hd
  · split at hd
    · cases hd
    · split at hd
      · omega
      · cases hd
theorem sign_bit {x : Nat} {m : Nat} {e : Int} {s : Bool} (hd : FloatKind.f32.decode x = .number s m e) : (x / 2147483648 % 2 == 1) = s := by
  unfold FloatKind.decode Format.read at hd
  have e1 : FloatKind.f32.format.signWeight = 2147483648 := by decide
  simp only [e1] at hd
  split at hd
  · cases hd; rfl
  · split at hd
    · cases hd; rfl
    · split at hd <;> cases hd

theorem abs_same {x : Nat} (h : x < 4294967296) : zq (bif fcmp .leq .f32 x 0 then fop .sub .f32 0 x else x) (bif fcmp .lss .f32 x 0 then fneg .f32 x else x) := by
  have h0 : FloatKind.f32.decode 0 = .number false 0 (-149) := by decide +kernel
  cases hd : FloatKind.f32.decode x with
  | nan s t =>
    have ho : fordR .f32 x 0 = none := by rw [ord_eq, hd]; rfl
    rw [fcmp_eq]
    simp only [fcmpR, ho]
    exact zq.refl h
  | infinity s =>
    rcases inf_word h hd with rfl | rfl
    · rw [fcmp_eq, fneg_eq, fop_eq]; exact .inl ⟨by decide +kernel, by decide +kernel⟩
    · rw [fcmp_eq, fneg_eq, fop_eq]; exact .inl ⟨by decide +kernel, by decide +kernel⟩
  | number s m e =>
    by_cases hm : m = 0
    · subst hm
      rcases zero_of_number h hd with rfl | rfl
      · rw [fcmp_eq, fneg_eq, fop_eq]; exact .inr ⟨.inl (by decide +kernel), .inl (by decide +kernel)⟩
      · rw [fcmp_eq, fneg_eq, fop_eq]; exact .inr ⟨.inl (by decide +kernel), .inr (by decide +kernel)⟩
    · have hs := sign_bit hd
      have ho : fordR .f32 x 0 = some (compare (signed s m (e - min e (-149)).toNat) 0) := by
        rw [ord_eq, hd, h0]
        show some (compare _ (signed false 0 _)) = _
        rw [signed_nought]
      have hpos : 0 < m * 2 ^ (e - min e (-149)).toNat := Nat.mul_pos (by omega) (Nat.two_pow_pos _)
      cases s
      · have : compare (signed false m (e - min e (-149)).toNat) 0 = .gt := by
          unfold signed; rw [Nat.shiftLeft_eq]
          exact Int.compare_eq_gt.2 (by simp only [Bool.false_eq_true, if_false]; omega)
        rw [this] at ho
        rw [fcmp_eq]
        simp only [fcmpR, ho]
        exact zq.refl h
      · have : compare (signed true m (e - min e (-149)).toNat) 0 = .lt := by
          unfold signed; rw [Nat.shiftLeft_eq]
          exact Int.compare_eq_lt.2 (by simp only [if_true]; omega)
        rw [this] at ho
        rw [zero_sub h (by simpa using hs) hd hm, fcmp_eq]
        simp only [fcmpR, ho]
        exact zq.refl (neg_lt h)

theorem abs_zq {x y : Nat} (h : zq x y) : zq (F62 x) (F68 y) := by
  have h2 : zq (F68 x) (F68 y) := by
    unfold F68 tr68
    simp only [Tr.val]
    exact zq_bif (zq_cmpl _ h) (fun _ => zq_neg h) (fun _ => h)
  refine zq.trans ?_ h2
  have := abs_same h.lt
  unfold F62 tr62 F68 tr68
  simp only [Tr.val]
  exact this
theorem abs_lt {x : Nat} (h : x < 4294967296) : F62 x < 4294967296 := (abs_zq (zq.refl h)).lt

end Go.Proofs.YtponnbnebjhepaaGreat

namespace Go.Proofs.YtponnbnebjhepaaGreat
open Go Go.Ev Ieee
set_option maxRecDepth 100000

/-! A brightness as a byte: what is rounded down is small. -/
theorem shade_Bd {x : Nat} (h0 : fcmp .geq .f32 x 0 = true) (h1 : fcmp .gtr .f32 x 1065353216 = false) : Bd (f2f .f32 x .f64) 0 := by
  have d0 : FloatKind.f32.decode 0 = .number false 0 (-149) := by decide +kernel
  have d1 : FloatKind.f32.decode 1065353216 = .number false 8388608 (-23) := by decide +kernel
  rw [fcmp_eq] at h0 h1
  have o0 : fordR .f32 x 0 = (FloatKind.f32.decode x).order (FloatKind.f32.decode 0) := rfl
  have o1 : fordR .f32 x 1065353216 = (FloatKind.f32.decode x).order (FloatKind.f32.decode 1065353216) := rfl
  rw [d0] at o0
  rw [d1] at o1
  cases hd : FloatKind.f32.decode x with
  | nan s t => rw [hd] at o0; simp only [fcmpR, o0] at h0; cases h0
  | infinity s =>
    rw [hd] at o0 o1
    cases s
    · simp only [fcmpR, o1] at h1; cases h1
    · simp only [fcmpR, o0] at h0; cases h0
  | number s m e =>
    rw [hd] at o0 o1
    have hl : LeP m e 0 := by
      cases s
      · have hle : ¬ compare (signed false m (e - min e (-23)).toNat) (signed false 8388608 (-23 - min e (-23)).toNat) = .gt := by
          intro hc
          have : fordR .f32 x 1065353216 = some .gt := by rw [o1, ← hc]; rfl
          simp only [fcmpR, this] at h1
          cases h1
        rw [Int.compare_eq_gt] at hle
        unfold signed at hle
        simp only [Nat.shiftLeft_eq, Bool.false_eq_true, if_false] at hle
        have hle' : m * 2 ^ (e - min e (-23)).toNat ≤ 8388608 * 2 ^ (-23 - min e (-23)).toNat := by omega
        refine LeP.of_scaled (b := min e (-23)) (by omega) ?_ (by omega)
        refine Nat.le_trans hle' ?_
        have e8 : (8388608 : Nat) = 2 ^ 23 := by decide
        rw [e8, ← Nat.pow_add]
        exact Nat.pow_le_pow_right (by decide) (by omega)
      · refine .inl ?_
        have hge : ¬ compare (signed true m (e - min e (-149)).toNat) (signed false 0 (-149 - min e (-149)).toNat) = .lt := by
          intro hc
          have : fordR .f32 x 0 = some .lt := by rw [o0, ← hc]; rfl
          simp only [fcmpR, this] at h0
          cases h0
        rw [Int.compare_eq_lt, signed_nought] at hge
        unfold signed at hge
        simp only [Nat.shiftLeft_eq, if_true] at hge
        have := Nat.two_pow_pos (e - min e (-149)).toNat
        by_cases hm : m = 0
        · exact hm
        · have : 0 < m * 2 ^ (e - min e (-149)).toNat := Nat.mul_pos (by omega) this
          omega
    obtain ⟨m', e', b, hd', hb', hb, hb0, heq⟩ := widen_number hd
    refine ⟨s, m', e', hd', ?_⟩
    have hpl := number_place (f := Ieee.single) hd
    rcases Int.le_total b 0 with hb1 | hb1
    · exact LeP_of_eq hb hb' heq hl hb1
    · -- the numbers are whole and at most one
      rcases hl with hm | ⟨he, _⟩
      · subst hm
        refine .inl ?_
        rw [Nat.zero_mul] at heq
        rcases Nat.mul_eq_zero.1 heq with h | h
        · exact h
        · exact absurd h (Nat.ne_of_gt (Nat.two_pow_pos _))
      · exact LeP_of_eq (b := b) hb hb' heq (.inr ⟨he, by assumption⟩) (by omega)

theorem down_Bd {y : Nat} (h : Bd y 9) : Bd (fint .down y) 10 := by
  obtain ⟨s, m, e, hd, hl⟩ := h
  have : fint .down y = canon .f64 (FloatKind.f64.encode (.number s (Toward.down.cut s (m * 2 ^ e.toNat) (-e).toNat) 0)) := by
    rw [fint_eq]; unfold fintR; rw [hd]; simp only
    show canon .f64 (FloatKind.f64.encode (Datum.number s (Toward.down.cut s (m <<< e.toNat) (-e).toNat) 0)) = _
    rw [Nat.shiftLeft_eq]
  rw [this]
  refine encode_Bd (.inr ⟨by omega, ?_⟩) (by omega) (by omega)
  refine Nat.le_trans (cut_le _ _ _ _) ?_
  have : m * 2 ^ e.toNat / 2 ^ (-e).toNat ≤ 2 ^ 9 := by
    rcases hl with rfl | ⟨he, hm⟩
    · simp
    · rcases Int.le_total 0 e with h | h
      · have : (-e).toNat = 0 := by omega
        rw [this, Nat.pow_zero, Nat.div_one]
        refine Nat.le_trans (Nat.mul_le_mul_right _ hm) ?_
        rw [← Nat.pow_add]
        exact Nat.pow_le_pow_right (by decide) (by omega)
      · have : e.toNat = 0 := by omega
        rw [this, Nat.pow_zero, Nat.mul_one]
        refine Nat.div_le_of_le_mul ?_
        refine Nat.le_trans hm ?_
        rw [← Nat.pow_add]
        exact Nat.pow_le_pow_right (by decide) (by omega)
  have e10 : (2 : Nat) ^ ((10 : Int) - 0).toNat = 1024 := by decide
  omega

theorem byte_ok {x : Nat} (h0 : fcmp .geq .f32 x 0 = true) (h1 : fcmp .gtr .f32 x 1065353216 = false) :
    f2iOk .f64 (F251 (fop .add .f64 (fop .mul .f64 (f2f .f32 x .f64) 4643176031446892544) 4602678819172646912)) .i64 = true := by
  have b1 : Bd (f2f .f32 x .f64) 0 := shade_Bd h0 h1
  have b2 : Bd 4643176031446892544 8 := ⟨false, 8972014882652160, -45, by decide +kernel, .inr ⟨by omega, by decide⟩⟩
  have b3 : Bd 4602678819172646912 8 := ⟨false, 4503599627370496, -53, by decide +kernel, .inr ⟨by omega, by decide⟩⟩
  have b4 := b1.mul b2 (by omega) (by omega)
  have b5 := (b4.mono (K' := 8) (by omega)).add b3 (by omega) (by omega)
  have b6 : Bd (F251 (fop .add .f64 (fop .mul .f64 (f2f .f32 x .f64) 4643176031446892544) 4602678819172646912)) 10 := down_Bd (b5.mono (by omega))
  obtain ⟨s, m, e, hd, hl⟩ := b6
  refine (f2i_small hd ?_).1
  unfold Sm
  rcases hl with rfl | ⟨he, hm⟩
  · rw [Nat.zero_mul]; exact Nat.mul_pos (by decide) (Nat.two_pow_pos _)
  · refine Nat.lt_of_le_of_lt (Nat.mul_le_mul_right _ hm) ?_
    rw [← Nat.pow_add, ← Nat.pow_add]
    exact Nat.pow_lt_pow_right (by decide) (by omega)

theorem pre179 (x : Nat) : (tr179 x).pre = true := by
  unfold tr179
  simp only [Tr.pre]
  cases h0 : fcmp .geq .f32 x 0
  · rfl
  · cases h1 : fcmp .gtr .f32 x 1065353216
    · simp only [byte_ok h0 h1]; rfl
    · rfl
/-- What is no NaN and not below nought is not less than nought. -/
theorem geq_of {x : Nat} (h1 : F143 x = false) (h2 : fcmp .lss .f32 x 0 = false) : fcmp .geq .f32 x 0 = true := by
  unfold F143 tr143 at h1
  simp only [Tr.val] at h1
  rw [fcmp_eq] at h1 h2 ⊢
  have o : fordR .f32 x x = (FloatKind.f32.decode x).order (FloatKind.f32.decode x) := rfl
  have o0 : fordR .f32 x 0 = (FloatKind.f32.decode x).order (FloatKind.f32.decode 0) := rfl
  have d0 : FloatKind.f32.decode 0 = .number false 0 (-149) := by decide +kernel
  rw [d0] at o0
  have : ∃ c, fordR .f32 x 0 = some c := by
    cases hd : FloatKind.f32.decode x with
    | nan s t => rw [hd] at o; simp only [fcmpR, o] at h1; cases h1
    | infinity s => rw [hd] at o0; exact ⟨_, o0⟩
    | number s m e => rw [hd] at o0; exact ⟨_, o0⟩
  obtain ⟨c, hc⟩ := this
  simp only [fcmpR, hc] at h2 ⊢
  cases c
  · cases h2
  · rfl
  · rfl
theorem geq_no {x : Nat} (h : fcmp .geq .f32 x 0 = true) : F143 x = false ∧ fcmp .lss .f32 x 0 = false := by
  unfold F143 tr143
  simp only [Tr.val]
  rw [fcmp_eq] at h ⊢
  have o : fordR .f32 x x = (FloatKind.f32.decode x).order (FloatKind.f32.decode x) := rfl
  have o0 : fordR .f32 x 0 = (FloatKind.f32.decode x).order (FloatKind.f32.decode 0) := rfl
  constructor
  · cases hd : FloatKind.f32.decode x with
    | nan s t => rw [hd] at o0; simp only [fcmpR, o0] at h; cases h
    | infinity s =>
      have : fordR .f32 x x = some .eq := by rw [o, hd]; show some (compare s.toNat s.toNat) = _; cases s <;> rfl
      simp only [fcmpR, this]; rfl
    | number s m e =>
      have : fordR .f32 x x = some .eq := by rw [o, hd]; show some (compare _ _) = _; rw [Int.compare_eq_eq.2 rfl]
      simp only [fcmpR, this]; rfl
  · cases hc : fordR .f32 x 0 with
    | none => simp only [fcmpR, hc] at h; cases h
    | some c =>
      simp only [fcmpR, hc] at h ⊢
      cases c
      · cases h
      · rfl
      · rfl
theorem pre180 (x : Nat) : (tr180 x).pre = true := by
  unfold tr180
  simp only [Tr.pre]
  cases h0 : F143 x
  · cases h2 : fcmp .lss .f32 x 0
    · cases h1 : fcmp .gtr .f32 x 1065353216
      · simp only [byte_ok (geq_of h0 h2) h1]; rfl
      · rfl
    · rfl
  · rfl
theorem F179_180 (x : Nat) : F179 x = F180 x := by
  unfold F179 tr179 F180 tr180
  simp only [Tr.val]
  cases h : fcmp .geq .f32 x 0
  · simp only [Bool.not_false, cond_true]
    cases h1 : F143 x
    · cases h2 : fcmp .lss .f32 x 0
      · rw [geq_of h1 h2] at h; cases h
      · rfl
    · rfl
  · obtain ⟨h1, h2⟩ := geq_no h
    rw [h1, h2]
    rfl

/-! Shades fail nowhere. -/
noncomputable def okView (v : Vw) : Bool := F60 v.shape && decide (1 ≤ v.march.steps) && decide (v.march.steps ≤ 64)

theorem pre158 {s : Shp} {m : Mar} (hv : F60 s = true) (h1 : 1 ≤ m.steps) (h2 : m.steps ≤ 64) (p n l : V3) : (tr158 s p n l m).pre = true := by
  have hp : ∀ (r : Ray) (a b : Nat), P153 s r ⟨a, b, m.steps⟩ = true := fun r a b => by
    show (F60 s && decide (1 ≤ m.steps) && decide (m.steps ≤ 64)) = true
    rw [hv, decide_eq_true h1, decide_eq_true h2]; rfl
  have hp' : ∀ r : Ray, P153 s r m = true := fun r => hp r m.near m.most
  unfold tr158
  simp only [Tr.pre, hp, hp', cond_true]
  cases F152 _ <;> simp only [Bool.not_true, Bool.not_false, cond_true, cond_false] <;> cases fcmp .lss .f32 _ _ <;> rfl
theorem pre169 {s : Shp} {m : Mar} (hv : F60 s = true) (h1 : 1 ≤ m.steps) (h2 : m.steps ≤ 64) (p n l : V3) : (tr169 s p n l m).pre = true := by
  have hp : ∀ (r : Ray) (a b : Nat), P164 s r ⟨a, b, m.steps⟩ = true := fun r a b => by
    show (F60 s && decide (1 ≤ m.steps) && decide (m.steps ≤ 64)) = true
    rw [hv, decide_eq_true h1, decide_eq_true h2]; rfl
  unfold tr169
  simp only [Tr.pre, hp, cond_true]
  cases F66 s <;> simp only [Bool.not_true, Bool.not_false, cond_true, cond_false] <;> cases F161 m <;> simp only [Bool.not_true, Bool.not_false, cond_true, cond_false] <;> cases F163 _ <;> rfl
theorem pre165 {s : Shp} (hv : F60 s = true) (p : V3) (st : Nat) : (tr165 s p st).pre = true := by
  have hp : ∀ (v p : V3), P247 v s p = true := fun _ _ => hv
  unfold tr165
  simp only [Tr.pre, hp, cond_true]

theorem bif_true {b : Bool} : (bif b then true else true) = true := by cases b <;> rfl

theorem pre87 {v : Vw} (h : okView v = true) (x y : Int) : (tr87 v x y).pre = true := by
  unfold okView at h
  simp only [Bool.and_eq_true, decide_eq_true_eq] at h
  obtain ⟨⟨hv, h1⟩, h2⟩ := h
  have hp : ∀ r : Ray, P153 v.shape r v.march = true := fun r => by
    show (F60 v.shape && decide (1 ≤ v.march.steps) && decide (v.march.steps ≤ 64)) = true
    rw [hv, decide_eq_true h1, decide_eq_true h2]; rfl
  have hn : ∀ p st, P154 v.shape p st = true := fun _ _ => hv
  have ha : ∀ p n st, P159 v.shape p n st 4 = true := fun p n st => by
    show (F60 v.shape && decide ((1 : Int) ≤ 4) && decide ((4 : Int) ≤ 8)) = true
    rw [hv]; rfl
  unfold tr87
  simp only [Tr.pre, hp, hn, ha, pre158 hv h1 h2, cond_true, bif_true]
theorem pre92 {v : Vw} (h : okView v = true) (x y : Int) : (tr92 v x y).pre = true := by
  unfold okView at h
  simp only [Bool.and_eq_true, decide_eq_true_eq] at h
  obtain ⟨⟨hv, h1⟩, h2⟩ := h
  have hp : ∀ r : Ray, P164 v.shape r v.march = true := fun r => by
    show (F60 v.shape && decide (1 ≤ v.march.steps) && decide (v.march.steps ≤ 64)) = true
    rw [hv, decide_eq_true h1, decide_eq_true h2]; rfl
  have ha : ∀ p n st, P170 v.shape p n st 4 = true := fun p n st => by
    show (F60 v.shape && decide ((1 : Int) ≤ 4) && decide ((4 : Int) ≤ 8)) = true
    rw [hv]; rfl
  unfold tr92
  simp only [Tr.pre, hp, ha, pre165 hv, pre169 hv h1 h2, cond_true, bif_true]

/-! Pictures. -/
def rowF (f : Int → Int → Int) (y : Int) : Nat → Int → List Int
  | 0, _ => []
  | n + 1, x => f x y :: rowF f y n (x + 1)
def pixF (f : Int → Int → Int) (x : Int) (w : Nat) : Nat → Int → List Int
  | 0, _ => []
  | n + 1, y => rowF f y w x ++ pixF f x w n (y + 1)
theorem rowF_length (f : Int → Int → Int) (y : Int) : ∀ (n : Nat) (x : Int), (rowF f y n x).length = n
  | 0, _ => rfl
  | n + 1, x => by rw [rowF, List.length_cons, rowF_length]
def okTile (t : Tl) : Bool := decide (0 ≤ t.x) && decide (t.x ≤ 100) && decide (0 ≤ t.y) && decide (t.y ≤ 100) && decide (0 ≤ t.w) && decide (t.w ≤ 100) && decide (0 ≤ t.h) && decide (t.h ≤ 100)

noncomputable def pixS (v : Vw) (x y : Int) : Int := IntKind.u8.wrap (F179 (F87 v x y))
noncomputable def pixI (v : Vw) (x y : Int) : Int := IntKind.u8.wrap (F180 (F92 v x y))
noncomputable def F104 (v : Vw) (t : Tl) : ByteArray := bytesL (pixF (pixS v) t.x t.w.toNat t.h.toNat t.y)
noncomputable def P104 (v : Vw) (t : Tl) : Bool := okView v && okTile t
noncomputable def F107 (v : Vw) (t : Tl) : ByteArray := bytesL (pixF (pixI v) t.x t.w.toNat t.h.toNat t.y)
noncomputable def P107 (v : Vw) (t : Tl) : Bool := okView v && okTile t

theorem wrap_near {n : Int} (h0 : -1000 ≤ n) (h1 : n ≤ 1000) : IntKind.i64.wrap n = n := wrap_mid (by omega) (by omega)

theorem loop104_1 (m : Nat) (K : V104_0 → Option ByteArray) (v : Vw) (t : Tl) (hv : okView v = true) (hx : 0 ≤ t.x) (hx' : t.x ≤ 100) (hw : 0 ≤ t.w) (hw' : t.w ≤ 100) (y : Int) (hy : 0 ≤ y) (hy' : y ≤ 300) : ∀ (q n : Nat) (x : Int) (o : List Int),
    x + q = t.x + t.w → 0 ≤ x → q < n → o.length + q ≤ 20000 → L104_1 m K n (v, t, o.length, y, x, o) = K (v, t, (o ++ rowF (pixS v) y q x).length, y + 1, o ++ rowF (pixS v) y q x)
  | 0, n + 1, x, o, h, h0, _, _ => by
    have e : IntKind.i64.wrap (t.x + t.w) = t.x + t.w := wrap_near (by omega) (by omega)
    have e2 : IntKind.i64.wrap (y + 1) = y + 1 := wrap_near (by omega) (by omega)
    simp only [L104_1, stp104_1, Tr.run, e, e2, dF (p := x < t.x + t.w) (by omega), cond_false, Sum.elim_inr, rowF, List.append_nil]
  | q + 1, n + 1, x, o, h, h0, hn, ho => by
    have e : IntKind.i64.wrap (t.x + t.w) = t.x + t.w := wrap_near (by omega) (by omega)
    have e2 : IntKind.i64.wrap (x + 1) = x + 1 := wrap_near (by omega) (by omega)
    have hl : decide ((o.length + [IntKind.u8.wrap (F179 (F87 v x y))].length) * (1 + 1) ≤ limB) = true := by
      apply decide_eq_true; unfold limB; simp only [List.length_singleton]; omega
    simp only [L104_1, stp104_1, Tr.run, e, e2, dT (p := x < t.x + t.w) (by omega), pre87 hv, pre179, hl, decide_true, Bool.and_self, cond_true, Sum.elim_inl]
    have ih := loop104_1 m K v t hv hx hx' hw hw' y hy hy' q n (x + 1) (o ++ [pixS v x y]) (by omega) (by omega) (by omega) (by rw [List.length_append, List.length_singleton]; omega)
    rw [rowF]
    rw [List.append_assoc, List.singleton_append] at ih
    exact ih

theorem loop104_0 (m : Nat) (hm : 200 < m) (v : Vw) (t : Tl) (hv : okView v = true) (hx : 0 ≤ t.x) (hx' : t.x ≤ 100) (hw : 0 ≤ t.w) (hw' : t.w ≤ 100) (hy : 0 ≤ t.y) (hy' : t.y ≤ 100) (hh : 0 ≤ t.h) (hh' : t.h ≤ 100) : ∀ (q n : Nat) (y : Int) (o : List Int),
    y + q = t.y + t.h → 0 ≤ y → q < n → o.length + 100 * q ≤ 10000 → L104_0 m n (v, t, o.length, y, o) = some (bytesL (o ++ pixF (pixS v) t.x t.w.toNat q y))
  | 0, n + 1, y, o, h, h0, _, _ => by
    have e : IntKind.i64.wrap (t.y + t.h) = t.y + t.h := wrap_near (by omega) (by omega)
    simp only [L104_0, stp104_0, Tr.run, e, dF (p := y < t.y + t.h) (by omega), cond_false, Sum.elim_inr, Sum.elim_inl, pixF, List.append_nil, List.take_length]
  | q + 1, n + 1, y, o, h, h0, hn, ho => by
    have e : IntKind.i64.wrap (t.y + t.h) = t.y + t.h := wrap_near (by omega) (by omega)
    simp only [L104_0, stp104_0, Tr.run, e, dT (p := y < t.y + t.h) (by omega), cond_true, Sum.elim_inr]
    have i1 := loop104_1 m (fun v => L104_0 m n v) v t hv hx hx' hw hw' y h0 (by omega) t.w.toNat m t.x o (by omega) hx (by omega) (by omega)
    refine i1.trans ?_
    have hl : (o ++ rowF (pixS v) y t.w.toNat t.x).length = o.length + t.w.toNat := by rw [List.length_append, rowF_length]
    have i2 := loop104_0 m hm v t hv hx hx' hw hw' hy hy' hh hh' q n (y + 1) (o ++ rowF (pixS v) y t.w.toNat t.x) (by omega) (by omega) (by omega) (by rw [hl]; omega)
    rw [pixF, ← List.append_assoc]
    exact i2

theorem okTile_facts {t : Tl} (h : okTile t = true) : (0 ≤ t.x ∧ t.x ≤ 100) ∧ (0 ≤ t.y ∧ t.y ≤ 100) ∧ (0 ≤ t.w ∧ t.w ≤ 100) ∧ 0 ≤ t.h ∧ t.h ≤ 100 := by
  unfold okTile at h
  simp only [Bool.and_eq_true, decide_eq_true_eq] at h
  omega

theorem val104 (v : Vw) (t : Tl) (h : P104 v t = true) : ∃ m, S104 m v t = some (F104 v t) := by
  unfold P104 at h
  rw [Bool.and_eq_true] at h
  obtain ⟨⟨a1, a2⟩, ⟨b1, b2⟩, ⟨c1, c2⟩, d1, d2⟩ := okTile_facts h.2
  refine ⟨300, ?_⟩
  simp only [S104, seg104, Tr.run, Sum.elim_inr, List.replicate]
  have := loop104_0 300 (by omega) v t h.1 a1 a2 c1 c2 b1 b2 d1 d2 t.h.toNat 300 t.y [] (by omega) b1 (by omega) (by simp only [List.length_nil]; omega)
  exact this

theorem loop107_1 (m : Nat) (K : V107_0 → Option ByteArray) (v : Vw) (t : Tl) (hv : okView v = true) (hx : 0 ≤ t.x) (hx' : t.x ≤ 100) (hw : 0 ≤ t.w) (hw' : t.w ≤ 100) (y : Int) (hy : 0 ≤ y) (hy' : y ≤ 300) : ∀ (q n : Nat) (x : Int) (o : List Int),
    x + q = t.x + t.w → 0 ≤ x → q < n → o.length + q ≤ 20000 → L107_1 m K n (v, o.length, y, x, t.x, t.y, t.w, t.h, o) = K (v, (o ++ rowF (pixI v) y q x).length, y + 1, t.x, t.y, t.w, t.h, o ++ rowF (pixI v) y q x)
  | 0, n + 1, x, o, h, h0, _, _ => by
    have e : IntKind.i64.wrap (t.x + t.w) = t.x + t.w := wrap_near (by omega) (by omega)
    have e2 : IntKind.i64.wrap (y + 1) = y + 1 := wrap_near (by omega) (by omega)
    simp only [L107_1, stp107_1, Tr.run, e, e2, dF (p := x < t.x + t.w) (by omega), cond_false, Sum.elim_inr, rowF, List.append_nil]
  | q + 1, n + 1, x, o, h, h0, hn, ho => by
    have e : IntKind.i64.wrap (t.x + t.w) = t.x + t.w := wrap_near (by omega) (by omega)
    have e2 : IntKind.i64.wrap (x + 1) = x + 1 := wrap_near (by omega) (by omega)
    have hl : decide ((o.length + [IntKind.u8.wrap (F180 (F92 v x y))].length) * (1 + 1) ≤ limB) = true := by
      apply decide_eq_true; unfold limB; simp only [List.length_singleton]; omega
    simp only [L107_1, stp107_1, Tr.run, e, e2, dT (p := x < t.x + t.w) (by omega), pre92 hv, pre180, hl, decide_true, Bool.and_self, cond_true, Sum.elim_inl]
    have ih := loop107_1 m K v t hv hx hx' hw hw' y hy hy' q n (x + 1) (o ++ [pixI v x y]) (by omega) (by omega) (by omega) (by rw [List.length_append, List.length_singleton]; omega)
    rw [rowF]
    rw [List.append_assoc, List.singleton_append] at ih
    exact ih

theorem loop107_0 (m : Nat) (hm : 200 < m) (v : Vw) (t : Tl) (hv : okView v = true) (hx : 0 ≤ t.x) (hx' : t.x ≤ 100) (hw : 0 ≤ t.w) (hw' : t.w ≤ 100) (hy : 0 ≤ t.y) (hy' : t.y ≤ 100) (hh : 0 ≤ t.h) (hh' : t.h ≤ 100) : ∀ (q n : Nat) (y : Int) (o : List Int),
    y + q = t.y + t.h → 0 ≤ y → q < n → o.length + 100 * q ≤ 10000 → L107_0 m n (v, o.length, y, t.x, t.y, t.w, t.h, o) = some (bytesL (o ++ pixF (pixI v) t.x t.w.toNat q y))
  | 0, n + 1, y, o, h, h0, _, _ => by
    have e : IntKind.i64.wrap (t.y + t.h) = t.y + t.h := wrap_near (by omega) (by omega)
    simp only [L107_0, stp107_0, Tr.run, e, dF (p := y < t.y + t.h) (by omega), cond_false, Sum.elim_inr, Sum.elim_inl, pixF, List.append_nil, List.take_length]
  | q + 1, n + 1, y, o, h, h0, hn, ho => by
    have e : IntKind.i64.wrap (t.y + t.h) = t.y + t.h := wrap_near (by omega) (by omega)
    simp only [L107_0, stp107_0, Tr.run, e, dT (p := y < t.y + t.h) (by omega), cond_true, Sum.elim_inr]
    have i1 := loop107_1 m (fun v => L107_0 m n v) v t hv hx hx' hw hw' y h0 (by omega) t.w.toNat m t.x o (by omega) hx (by omega) (by omega)
    refine i1.trans ?_
    have hl : (o ++ rowF (pixI v) y t.w.toNat t.x).length = o.length + t.w.toNat := by rw [List.length_append, rowF_length]
    have i2 := loop107_0 m hm v t hv hx hx' hw hw' hy hy' hh hh' q n (y + 1) (o ++ rowF (pixI v) y t.w.toNat t.x) (by omega) (by omega) (by omega) (by rw [hl]; omega)
    rw [pixF, ← List.append_assoc]
    exact i2

theorem val107 (v : Vw) (t : Tl) (h : P107 v t = true) : ∃ m, S107 m v t = some (F107 v t) := by
  unfold P107 at h
  rw [Bool.and_eq_true] at h
  obtain ⟨⟨a1, a2⟩, ⟨b1, b2⟩, ⟨c1, c2⟩, d1, d2⟩ := okTile_facts h.2
  refine ⟨300, ?_⟩
  simp only [S107, seg107, Tr.run, Sum.elim_inr, List.replicate]
  have := loop107_0 300 (by omega) v t h.1 a1 a2 c1 c2 b1 b2 d1 d2 t.h.toNat 300 t.y [] (by omega) b1 (by omega) (by simp only [List.length_nil]; omega)
  exact this

end Go.Proofs.YtponnbnebjhepaaGreat

namespace Go.Proofs.YtponnbnebjhepaaGreat
open Go Go.Ev Ieee
set_option maxRecDepth 100000

/-! Points whose numbers are equal, or both a zero. -/
def zv (p q : V3) : Prop := zq p.x q.x ∧ zq p.y q.y ∧ zq p.z q.z

theorem min_zq {a a' b b' : Nat} (h1 : zq a a') (h2 : zq b b') : zq (F208 a b) (F226 a' b') := by
  unfold F208 tr208 F226 tr226
  simp only [Tr.val]
  exact zq_bif (zq_cmp _ h2 h1) (fun _ => h2) (fun _ => h1)
theorem max_zq {a a' b b' : Nat} (h1 : zq a a') (h2 : zq b b') : zq (F209 a b) (F227 a' b') := by
  unfold F209 tr209 F227 tr227
  simp only [Tr.val]
  exact zq_bif (zq_cmp _ h2 h1) (fun _ => h2) (fun _ => h1)
theorem dot_sq {p q : V3} (h : zv p q) : F155 p p = F166 q q := by
  unfold F155 tr155 F166 tr166
  simp only [Tr.val]
  rw [square_eq h.1, square_eq h.2.1, square_eq h.2.2]
theorem root_eq (x : Nat) : F266 x = F269 x := by
  have h := narrow_sqrt x
  unfold F266 tr266 F269 tr269 F257 tr257 F278 tr278
  simp only [Tr.val, Tr.pre, h, cond_true]
theorem len_zv {p q : V3} (h : zv p q) : F238 p = F248 q := by
  unfold F238 tr238 F248 tr248
  simp only [Tr.val]
  rw [dot_sq h, root_eq]
theorem root_lt (x : Nat) : F269 x < 4294967296 := by
  have h := narrow_sqrt x
  unfold F269 tr269 F278 tr278
  simp only [Tr.val, h, cond_true]
  exact narrow_lt _
theorem len_lt (p : V3) : F248 p < 4294967296 := by
  unfold F248 tr248
  simp only [Tr.val]
  exact root_lt _
theorem len_zq {p q : V3} (h : zv p q) : zq (F238 p) (F248 q) := by rw [len_zv h]; exact zq.refl (len_lt q)
theorem dot_zq {p q r s : V3} (h : zv p q) (h' : zv r s) : zq (F155 p r) (F166 q s) := by
  unfold F155 tr155 F166 tr166
  simp only [Tr.val]
  exact zq_add (zq_add (zq_mul h.1 h'.1) (zq_mul h.2.1 h'.2.1)) (zq_mul h.2.2 h'.2.2)
theorem dot_zql {p q : V3} (h : zv p q) (r : V3) : zq (F155 p r) (F166 q r) := by
  unfold F155 tr155 F166 tr166
  simp only [Tr.val]
  exact zq_add (zq_add (zq_mull h.1) (zq_mull h.2.1)) (zq_mull h.2.2)
theorem add_zv {p q r s : V3} (h : zv p q) (h' : zv r s) : zv (F234 p r) (F242 q s) := by
  unfold F234 tr234 F242 tr242
  simp only [Tr.val]
  exact ⟨zq_add h.1 h'.1, zq_add h.2.1 h'.2.1, zq_add h.2.2 h'.2.2⟩
theorem add_zvr (p : V3) {r s : V3} (h' : zv r s) : zv (F234 p r) (F242 p s) := by
  unfold F234 tr234 F242 tr242
  simp only [Tr.val]
  exact ⟨zq_addr h'.1, zq_addr h'.2.1, zq_addr h'.2.2⟩
theorem add_zvl {p q : V3} (h : zv p q) (r : V3) : zv (F234 p r) (F242 q r) := by
  unfold F234 tr234 F242 tr242
  simp only [Tr.val]
  exact ⟨zq_addl h.1, zq_addl h.2.1, zq_addl h.2.2⟩
theorem sub_zvl {p q : V3} (h : zv p q) (r : V3) : zv (F157 p r) (F168 q r) := by
  unfold F157 tr157 F168 tr168
  simp only [Tr.val]
  exact ⟨zq_subl h.1, zq_subl h.2.1, zq_subl h.2.2⟩
theorem sub_zvr (r : V3) {p q : V3} (h : zv p q) : zv (F157 r p) (F168 r q) := by
  unfold F157 tr157 F168 tr168
  simp only [Tr.val]
  exact ⟨zq_subr h.1, zq_subr h.2.1, zq_subr h.2.2⟩
theorem scale_zv {p q : V3} (h : zv p q) {a b : Nat} (h' : zq a b) : zv (F235 p a) (F243 q b) := by
  unfold F235 tr235 F243 tr243
  simp only [Tr.val]
  exact ⟨zq_mul h.1 h', zq_mul h.2.1 h', zq_mul h.2.2 h'⟩
theorem scale_zvl {p q : V3} (h : zv p q) (a : Nat) : zv (F235 p a) (F243 q a) := by
  unfold F235 tr235 F243 tr243
  simp only [Tr.val]
  exact ⟨zq_mull h.1, zq_mull h.2.1, zq_mull h.2.2⟩
theorem scale_zvr (p : V3) {a b : Nat} (h' : zq a b) : zv (F235 p a) (F243 p b) := by
  unfold F235 tr235 F243 tr243
  simp only [Tr.val]
  exact ⟨zq_mulr h', zq_mulr h', zq_mulr h'⟩
theorem zv_nought : zv ⟨0, 0, 0⟩ ⟨0, 0, 0⟩ := ⟨zq_nought, zq_nought, zq_nought⟩
theorem zv_bif {b b' : Bool} {x x' y y' : V3} (hb : b = b') (h1 : b = true → zv x x') (h2 : b = false → zv y y') : zv (bif b then x else y) (bif b' then x' else y') := by
  subst hb
  cases b
  · exact h2 rfl
  · exact h1 rfl
theorem fin_all (l : List Nat) (h : l.length ≤ 70368744177664) : F191 l = l.all F121 := (F191_eq l h).2

theorem unit_zv {p q : V3} (h : zv p q) : zv (F156 p) (F167 q) := by
  unfold F156 tr156 F167 tr167
  simp only [Tr.val]
  rw [len_zv h, fin_all _ (by simp)]
  simp only [List.all_cons, List.all_nil, Bool.and_true]
  refine zv_bif rfl (fun _ => zv_nought) (fun _ => ?_)
  cases F121 (F248 q)
  · exact zv_nought
  · cases F121 (fop .quo .f32 1065353216 (F248 q))
    · exact zv_nought
    · exact scale_zvl h _

/-! What a shape's leaves and joints give. -/
theorem cap_zq {y y' v : Nat} (h : zq y y') : zq (fop .sub .f32 y (F208 (F209 0 y) v)) (F224 y' v) := by
  have hm := max_zq zq_nought h
  unfold F224 tr224 F208 tr208 F226 tr226
  simp only [Tr.val]
  have hc : fcmp .lss .f32 v (F209 0 y) = fcmp .lss .f32 v (F227 0 y') := by
    rcases hm with ⟨e, _⟩ | ⟨z1, z2⟩
    · rw [e]
    · rw [fcmp_eq]
      obtain ⟨s, hs⟩ := zw_decode z1; obtain ⟨s', hs'⟩ := zw_decode z2
      have : fordR .f32 v (F209 0 y) = fordR .f32 v (F227 0 y') := by rw [ord_eq, ord_eq, hs, hs']; exact order_right _ _ _ _
      simp only [fcmpR, this]
  rw [hc]
  cases fcmp .lss .f32 v (F227 0 y')
  · exact zq_sub h hm
  · exact zq_subl h

theorem leaf_zq (n : Nd) {p q : V3} (h : zv p q) : zq (F188 n p) (F195 n q) := by
  obtain ⟨hx, hy, hz⟩ := h
  have h : zv p q := ⟨hx, hy, hz⟩
  unfold F188 tr188 F195 tr195
  simp only [Tr.val]
  refine zq_bif rfl (fun _ => zq_bif rfl (fun _ => ?_) (fun _ => zq_nought)) (fun _ => ?_)
  · rw [len_zv h]; exact zq.refl (sub_lt _ _)
  refine zq_bif rfl (fun _ => zq_bif rfl (fun _ => zq_bif rfl (fun _ => zq_bif rfl (fun _ => ?_) (fun _ => zq_nought)) (fun _ => zq_nought)) (fun _ => zq_nought)) (fun _ => ?_)
  · have hX := zq_subl (y := n.v.getD (Int.toNat 0) 0) (abs_zq hx)
    have hY := zq_subl (y := n.v.getD (Int.toNat 1) 0) (abs_zq hy)
    have hZ := zq_subl (y := n.v.getD (Int.toNat 2) 0) (abs_zq hz)
    exact zq_add (len_zq ⟨max_zq zq_nought hX, max_zq zq_nought hY, max_zq zq_nought hZ⟩) (min_zq zq_nought (max_zq (max_zq hX hY) hZ))
  refine zq_bif rfl (fun _ => zq_bif rfl (fun _ => zq_bif rfl (fun _ => ?_) (fun _ => zq_nought)) (fun _ => zq_nought)) (fun _ => ?_)
  · exact zq_subl (len_zq ⟨hx, cap_zq hy, hz⟩)
  refine zq_bif rfl (fun _ => zq_bif rfl (fun _ => zq_bif rfl (fun _ => ?_) (fun _ => zq_nought)) (fun _ => zq_nought)) (fun _ => ?_)
  · exact zq_subl (len_zq ⟨zq_subl (len_zq ⟨hx, zq_nought, hz⟩), hy, zq_nought⟩)
  refine zq_bif rfl (fun _ => zq_bif rfl (fun _ => zq_bif rfl (fun _ => zq_bif rfl (fun _ => ?_) (fun _ => zq_nought)) (fun _ => zq_nought)) (fun _ => zq_nought)) (fun _ => zq_nought)
  exact zq_subl (dot_zql h _)

theorem join_zq (n : Nd) {a a' b b' : Nat} (h1 : zq a a') (h2 : zq b b') : zq (F189 n a b) (F196 n a' b') := by
  unfold F189 tr189 F196 tr196
  simp only [Tr.val]
  refine zq_bif rfl (fun _ => min_zq h1 h2) (fun _ => ?_)
  refine zq_bif rfl (fun _ => max_zq h1 h2) (fun _ => ?_)
  refine zq_bif rfl (fun _ => max_zq h1 (zq_neg h2)) (fun _ => ?_)
  refine zq_bif rfl (fun _ => zq_bif rfl (fun hL => ?_) (fun _ => zq_nought)) (fun _ => ?_)
  · have hh := zq_subr (x := n.v.getD (Int.toNat 0) 0) (abs_zq (zq_sub h1 h2))
    have hg := zq_cmpl (y := 0) .gtr hh
    refine zq_bif hg (fun ht => ?_) (fun _ => min_zq h1 h2)
    rw [hL]
    simp only [cond_true]
    rw [ht] at hg
    unfold F229 tr229
    simp only [Tr.val, ← hg, cond_true]
    refine zq_sub (min_zq h1 h2) (zq_quo ?_ rfl)
    rw [square_eq hh]
    exact zq.refl (mul_lt _ _)
  refine zq_bif rfl (fun _ => zq_bif rfl (fun _ => zq_mull h1) (fun _ => zq_nought)) (fun _ => ?_)
  refine zq_bif rfl (fun _ => zq_bif rfl (fun _ => zq_subl h1) (fun _ => zq_nought)) (fun _ => ?_)
  refine zq_bif rfl (fun _ => zq_bif rfl (fun _ => zq_subl (abs_zq h1)) (fun _ => zq_nought)) (fun _ => ?_)
  exact h1

theorem sin_eq (x : Nat) : F201 x = F217 x := by
  have h := narrow_258 x
  unfold F201 tr201 F257 tr257 F217
  simp only [Tr.val, Tr.pre, h, cond_true]
theorem rnd_eq (x : Nat) : F263 x = rnd32 x := by
  have h := narrow_even x
  unfold F263 tr263 rnd32
  simp only [Tr.val, h, cond_true]
theorem fold_zq {x x' v : Nat} (h : zq x x') : zq (F273 x v) (F68 (fop .sub .f32 x' (F256 x' v))) := by
  have hn := narrow_even (fop .quo .f32 x (fop .mul .f32 1073741824 v))
  have e : F273 x v = F62 (fop .sub .f32 x (fop .mul .f32 (fop .mul .f32 1073741824 v) (rnd32 (fop .quo .f32 x (fop .mul .f32 1073741824 v))))) := by
    unfold F273 tr273 rnd32
    simp only [Tr.val, hn, cond_true]
  rw [e]
  unfold F256 tr256
  simp only [Tr.val, rnd_eq]
  exact abs_zq (zq_sub h (zq_mulr (zq_rnd (zq_quo h rfl))))
theorem get_x (p : V3) : F146 p 0 = p.x := rfl
theorem get_y (p : V3) : F146 p 1 = p.y := rfl
theorem get_z (p : V3) : F146 p 2 = p.z := rfl
theorem set_x (p : V3) (v : Nat) : F147 p 0 v = ⟨v, p.y, p.z⟩ := rfl
theorem set_y (p : V3) (v : Nat) : F147 p 1 v = ⟨p.x, v, p.z⟩ := rfl
theorem set_z (p : V3) (v : Nat) : F147 p 2 v = ⟨p.x, p.y, v⟩ := rfl

theorem turn0 (p : V3) (a : Nat) : F272 p 0 a = ⟨p.x, fop .add .f32 (fop .mul .f32 (F201 (fop .sub .f32 1048576000 a)) p.y) (fop .mul .f32 (F201 a) p.z), fop .sub .f32 (fop .mul .f32 (F201 (fop .sub .f32 1048576000 a)) p.z) (fop .mul .f32 (F201 a) p.y)⟩ := rfl
theorem turn1 (p : V3) (a : Nat) : F272 p 1 a = ⟨fop .sub .f32 (fop .mul .f32 (F201 (fop .sub .f32 1048576000 a)) p.x) (fop .mul .f32 (F201 a) p.z), p.y, fop .add .f32 (fop .mul .f32 (F201 (fop .sub .f32 1048576000 a)) p.z) (fop .mul .f32 (F201 a) p.x)⟩ := rfl
theorem turn2 (p : V3) (a : Nat) : F272 p 2 a = ⟨fop .add .f32 (fop .mul .f32 (F201 (fop .sub .f32 1048576000 a)) p.x) (fop .mul .f32 (F201 a) p.y), fop .sub .f32 (fop .mul .f32 (F201 (fop .sub .f32 1048576000 a)) p.y) (fop .mul .f32 (F201 a) p.x), p.z⟩ := rfl

end Go.Proofs.YtponnbnebjhepaaGreat

namespace Go.Proofs.YtponnbnebjhepaaGreat
open Go Go.Ev Ieee
set_option maxRecDepth 100000

/-! How a joint turns a point. -/
theorem pt0 (p : V3) : F231 (F139 p) = p := rfl
theorem move_zv (n : Nd) (hb : 0 ≤ n.b ∧ n.b ≤ 2) {p q : V3} (h : zv p q) : zv (F253 n p) (F197 n q) := by
  obtain ⟨hx, hy, hz⟩ := h
  have h : zv p q := ⟨hx, hy, hz⟩
  have dz : zv (default : V3) (default : V3) := zv_nought
  unfold F253 tr253 F197
  simp only [Tr.val]
  rcases (by omega : n.b = 0 ∨ n.b = 1 ∨ n.b = 2) with hb0 | hb0 | hb0 <;> rw [hb0]
  · show zv _ (F197b0 n q)
    unfold F197b0 tr197b0
    simp only [Tr.val]
    refine zv_bif rfl (fun _ => zv_bif rfl (fun _ => zv_bif rfl (fun _ => zv_bif rfl (fun _ => sub_zvl h _) (fun _ => dz)) (fun _ => dz)) (fun _ => dz)) (fun _ => ?_)
    refine zv_bif rfl (fun _ => zv_bif rfl (fun _ => zv_bif rfl (fun _ => zv_bif rfl (fun _ => ⟨zq_quo hx rfl, zq_quo hy rfl, zq_quo hz rfl⟩) (fun _ => dz)) (fun _ => dz)) (fun _ => dz)) (fun _ => ?_)
    refine zv_bif rfl (fun _ => zv_bif rfl (fun _ => zv_bif rfl (fun _ => zv_bif rfl (fun _ => ⟨zq_quo hx rfl, zq_quo hy rfl, zq_quo hz rfl⟩) (fun _ => dz)) (fun _ => dz)) (fun _ => dz)) (fun _ => ?_)
    refine zv_bif rfl (fun _ => zv_bif rfl (fun hL => ?_) (fun _ => dz)) (fun _ => ?_)
    · rw [turn0, hL, cond_true]
      simp only [sin_eq]
      exact ⟨hx, zq_add (zq_mulr hy) (zq_mulr hz), zq_sub (zq_mulr hz) (zq_mulr hy)⟩
    refine zv_bif rfl (fun _ => ⟨abs_zq hx, hy, hz⟩) (fun _ => ?_)
    refine zv_bif rfl (fun _ => zv_bif rfl (fun _ => ?_) (fun _ => dz)) (fun _ => h)
    have e : (tr273 (F146 p 0) (n.v.getD (Int.toNat 0) 0)).pre = true := pre273 _ _
    rw [e, cond_true]
    exact ⟨fold_zq hx, hy, hz⟩
  · show zv _ (F197b1 n q)
    unfold F197b1 tr197b1
    simp only [Tr.val]
    refine zv_bif rfl (fun _ => zv_bif rfl (fun _ => zv_bif rfl (fun _ => zv_bif rfl (fun _ => sub_zvl h _) (fun _ => dz)) (fun _ => dz)) (fun _ => dz)) (fun _ => ?_)
    refine zv_bif rfl (fun _ => zv_bif rfl (fun _ => zv_bif rfl (fun _ => zv_bif rfl (fun _ => ⟨zq_quo hx rfl, zq_quo hy rfl, zq_quo hz rfl⟩) (fun _ => dz)) (fun _ => dz)) (fun _ => dz)) (fun _ => ?_)
    refine zv_bif rfl (fun _ => zv_bif rfl (fun _ => zv_bif rfl (fun _ => zv_bif rfl (fun _ => ⟨zq_quo hx rfl, zq_quo hy rfl, zq_quo hz rfl⟩) (fun _ => dz)) (fun _ => dz)) (fun _ => dz)) (fun _ => ?_)
    refine zv_bif rfl (fun _ => zv_bif rfl (fun hL => ?_) (fun _ => dz)) (fun _ => ?_)
    · rw [turn1, hL, cond_true]
      simp only [sin_eq]
      exact ⟨zq_sub (zq_mulr hx) (zq_mulr hz), hy, zq_add (zq_mulr hz) (zq_mulr hx)⟩
    refine zv_bif rfl (fun _ => ⟨hx, abs_zq hy, hz⟩) (fun _ => ?_)
    refine zv_bif rfl (fun _ => zv_bif rfl (fun _ => ?_) (fun _ => dz)) (fun _ => h)
    have e : (tr273 (F146 p 1) (n.v.getD (Int.toNat 0) 0)).pre = true := pre273 _ _
    rw [e, cond_true]
    exact ⟨hx, fold_zq hy, hz⟩
  · show zv _ (F197b2 n q)
    unfold F197b2 tr197b2
    simp only [Tr.val]
    refine zv_bif rfl (fun _ => zv_bif rfl (fun _ => zv_bif rfl (fun _ => zv_bif rfl (fun _ => sub_zvl h _) (fun _ => dz)) (fun _ => dz)) (fun _ => dz)) (fun _ => ?_)
    refine zv_bif rfl (fun _ => zv_bif rfl (fun _ => zv_bif rfl (fun _ => zv_bif rfl (fun _ => ⟨zq_quo hx rfl, zq_quo hy rfl, zq_quo hz rfl⟩) (fun _ => dz)) (fun _ => dz)) (fun _ => dz)) (fun _ => ?_)
    refine zv_bif rfl (fun _ => zv_bif rfl (fun _ => zv_bif rfl (fun _ => zv_bif rfl (fun _ => ⟨zq_quo hx rfl, zq_quo hy rfl, zq_quo hz rfl⟩) (fun _ => dz)) (fun _ => dz)) (fun _ => dz)) (fun _ => ?_)
    refine zv_bif rfl (fun _ => zv_bif rfl (fun hL => ?_) (fun _ => dz)) (fun _ => ?_)
    · rw [turn2, hL, cond_true]
      simp only [sin_eq]
      exact ⟨zq_add (zq_mulr hx) (zq_mulr hy), zq_sub (zq_mulr hy) (zq_mulr hx), hz⟩
    refine zv_bif rfl (fun _ => ⟨hx, hy, abs_zq hz⟩) (fun _ => ?_)
    refine zv_bif rfl (fun _ => zv_bif rfl (fun _ => ?_) (fun _ => dz)) (fun _ => h)
    have e : (tr273 (F146 p 2) (n.v.getD (Int.toNat 0) 0)).pre = true := pre273 _ _
    rw [e, cond_true]
    exact ⟨hx, hy, fold_zq hz⟩

/-! Distances. -/
theorem dist_zq {s : Shp} (hv : F60 s = true) : ∀ (k i : Nat) (p q : V3), i < s.nodes.length → zv p q →
    zq (evF F253 F188 (fun n a => F189 n a 0) F189 0 s.nodes k i p) (evF F197 F195 (fun n a => F196 n a 0) F196 0 s.nodes k i q)
  | 0, _, _, _, _, _ => zq_nought
  | k + 1, i, p, q, hi, h => by
    have hN := F60_len hv
    have hna := node_at hv hi
    have hok := F60_node hv hi
    rw [evF, evF]
    cases hl : F119 (s.nodes.getD i ET.nd.dflt).k
    · obtain ⟨a1, a2, _⟩ := hna.a hl
      simp only [cond_false]
      cases ht : F120 (s.nodes.getD i ET.nd.dflt).k
      · simp only [cond_false]
        have hb := one_axis (by omega) hok hl ht
        exact join_zq _ (dist_zq hv k _ _ _ (by omega) (move_zv _ hb h)) zq_nought
      · obtain ⟨b1, b2, _⟩ := hna.b ht
        simp only [cond_true]
        exact join_zq _ (dist_zq hv k _ _ _ (by omega) h) (dist_zq hv k _ _ _ (by omega) h)
    · simp only [cond_true]
      exact leaf_zq _ h
theorem D_zq {s : Shp} (hv : F60 s = true) {p q : V3} (h : zv p q) : zq (G63 s p) (G69 s q) := by
  have hN := F60_len hv
  exact dist_zq hv 16 _ p q (by omega) h

/-! Marches. -/
/-- What is no NaN. -/
def Num (x : Nat) : Prop := (FloatKind.f32.decode x).isNaN = false
theorem over_eq {m x y : Nat} (hm : Num m) (h : zq x y) : overS m x = overI m y := by
  unfold overS overI
  rw [zq_cmpl .gtr h, zq_cmp .neq h h]
  rw [fcmp_eq]
  have ho : fordR .f32 y m = (FloatKind.f32.decode y).order (FloatKind.f32.decode m) := rfl
  have hy : fordR .f32 y y = (FloatKind.f32.decode y).order (FloatKind.f32.decode y) := rfl
  have self : ∀ d : Datum, d.isNaN = false → d.order d = some .eq := by
    intro d hd
    cases d with
    | nan s t => cases hd
    | infinity s => show some (compare s.toNat s.toNat) = _; cases s <;> rfl
    | number s n e => show some (compare _ _) = _; rw [Int.compare_eq_eq.2 rfl]
  have some_of : ∀ d e : Datum, d.isNaN = false → e.isNaN = false → ∃ c, d.order e = some c := by
    intro d e hd he
    cases d <;> cases e <;> first | (cases hd; done) | (cases he; done) | exact ⟨_, rfl⟩
  cases hn : (FloatKind.f32.decode y).isNaN
  · obtain ⟨c, hc⟩ := some_of _ _ hn hm
    rw [hc] at ho
    rw [self _ hn] at hy
    simp only [fcmpR, ho, hy]
    cases c <;> rfl
  · rw [order_nan_left hn] at ho hy
    simp only [fcmpR, ho, hy]
    rfl

/-- Two outcomes of a march that differ in the signs of zeros at most. -/
def zh (a b : Hit6) : Prop := a.1 = b.1 ∧ a.2.1 = b.2.1 ∧ zq a.2.2.1 b.2.2.1 ∧ zv ⟨a.2.2.2.1, a.2.2.2.2.1, a.2.2.2.2.2⟩ ⟨b.2.2.2.1, b.2.2.2.2.1, b.2.2.2.2.2⟩

theorem march_zh {D E : V3 → Nat} {on on' : Nat → V3} {over over' : Nat → Bool} {near slope : Nat} {steps : Int} (hD : ∀ p q, zv p q → zq (D p) (E q)) (ho : ∀ x y, zq x y → zv (on x) (on' y)) (hv : ∀ x y, zq x y → over x = over' y) :
    ∀ (r : Nat) (far far' : Nat) (k : Int), zq far far' → zh (marchF D on over near slope steps r far k) (marchF E on' over' near slope steps r far' k)
  | 0, far, far', k, h => ⟨rfl, rfl, h, ho _ _ h⟩
  | r + 1, far, far', k, h => by
    rw [marchF, marchF]
    have hd := hD _ _ (ho _ _ h)
    have hn : zq (fop .add .f32 far (fop .quo .f32 (D (on far)) slope)) (fop .add .f32 far' (fop .quo .f32 (E (on' far')) slope)) := zq_add h (zq_quo hd rfl)
    rw [zq_cmpl .lss hd, hv _ _ hn]
    cases fcmp .lss .f32 (E (on' far')) near
    · cases over' (fop .add .f32 far' (fop .quo .f32 (E (on' far')) slope))
      · exact march_zh hD ho hv r _ _ _ hn
      · exact ⟨rfl, rfl, hn, ho _ _ hn⟩
    · exact ⟨rfl, rfl, h, ho _ _ h⟩

theorem slope_eq {s : Shp} (hv : F60 s = true) : F236 s = F245 s := by
  have h1 : P277 s = true := hv
  have h2 : P268 s = true := hv
  have h3 : F268 s = F277 s := rfl
  have h4 : F265 s = (F277 s, true) := by
    unfold F265 tr265
    simp only [Tr.val, hv, h1, Bool.not_true, cond_false, cond_true]
  have h5 : (tr265 s).pre = true := by
    unfold tr265
    simp only [Tr.pre, hv, h1, Bool.not_true, cond_false, cond_true]
  unfold F236 tr236 F245 tr245
  simp only [Tr.val, h2, h3, h4, h5, Bool.not_true, cond_false, cond_true]
  cases fcmp .geq .f32 (F277 s) 1065353216 <;> rfl

theorem unit_eq (p : V3) : F156 p = F167 p := by
  have hl : F238 p = F248 p := by
    unfold F238 tr238 F248 tr248
    simp only [Tr.val]
    rw [root_eq]; rfl
  unfold F156 tr156 F167 tr167
  simp only [Tr.val]
  rw [hl, fin_all _ (by simp)]
  simp only [List.all_cons, List.all_nil, Bool.and_true]
  cases fcmp .eql .f32 (F248 p) 0
  · cases F121 (F248 p)
    · rfl
    · cases F121 (fop .quo .f32 1065353216 (F248 p)) <;> rfl
  · rfl
theorem len_eq' (p : V3) : F238 p = F248 p := by
  unfold F238 tr238 F248 tr248
  simp only [Tr.val]
  rw [root_eq]; rfl

theorem on_zv {r q : Ray} (h1 : zv r.src q.src) (h2 : zv r.way q.way) {x y : Nat} (h : zq x y) : zv (F237 r x) (F246 q y) := by
  have := add_zv h1 (scale_zv (unit_zv h2) h)
  unfold F237 tr237 F246 tr246
  simp only [Tr.val]
  exact this
theorem on_zv1 (r : Ray) {x y : Nat} (h : zq x y) : zv (F237 r x) (F246 r y) := by
  unfold F237 tr237 F246 tr246
  simp only [Tr.val]
  rw [unit_eq]
  exact add_zvr _ (scale_zvr _ h)

theorem march_eq {s : Shp} (hv : F60 s = true) (r : Ray) (m : Mar) (hm : Num m.most) : zh (F153 s r m) (F164 s r m) := by
  unfold F153 F164
  rw [slope_eq hv]
  exact march_zh (fun p q h => D_zq hv h) (fun x y h => on_zv1 r h) (fun x y h => over_eq hm h) _ _ _ _ zq_nought
theorem march_zq {s : Shp} (hv : F60 s = true) {r q : Ray} (h1 : zv r.src q.src) (h2 : zv r.way q.way) (m : Mar) (hm : Num m.most) : zh (F153 s r m) (F164 s q m) := by
  unfold F153 F164
  rw [slope_eq hv]
  exact march_zh (fun p q h => D_zq hv h) (fun x y h => on_zv h1 h2 h) (fun x y h => over_eq hm h) _ _ _ _ zq_nought

/-! Normals. -/
theorem normal_zv {s : Shp} (hv : F60 s = true) {p q : V3} (h : zv p q) (st : Nat) : zv (G154 s p st) (F165 s q st) := by
  have hp : ∀ (v p : V3), P247 v s p = true := fun _ _ => hv
  unfold F165 tr165
  simp only [Tr.val, hp, cond_true]
  unfold G154 G247
  have hd : ∀ v, zq (fop .sub .f32 (G63 s (F234 p v)) (G63 s (F157 p v))) (fop .sub .f32 (G69 s (F242 q v)) (G69 s (F168 q v))) := fun v =>
    zq_sub (D_zq hv (add_zvl h v)) (D_zq hv (sub_zvl h v))
  exact unit_zv ⟨hd _, hd _, hd _⟩

/-! How free a place is. -/
theorem lim_eq (x : Nat) : limS x = limI x := by
  unfold limS limI F226 tr226
  simp only [Tr.val]
  have : fcmp .gtr .f32 x 1065353216 = fcmp .lss .f32 1065353216 x := by
    rw [fcmp_eq]
    have o1 : fordR .f32 x 1065353216 = (FloatKind.f32.decode x).order (FloatKind.f32.decode 1065353216) := rfl
    have o2 : fordR .f32 1065353216 x = (FloatKind.f32.decode 1065353216).order (FloatKind.f32.decode x) := rfl
    have d1 : FloatKind.f32.decode 1065353216 = .number false 8388608 (-23) := by decide +kernel
    rw [d1] at o1 o2
    cases hd : FloatKind.f32.decode x with
    | nan s t => rw [hd] at o1 o2; simp only [fcmpR, o1, o2]; rfl
    | infinity s =>
      rw [hd] at o1 o2
      cases s
      · simp only [fcmpR, o1, o2]; rfl
      · simp only [fcmpR, o1, o2]; rfl
    | number s m e =>
      rw [hd] at o1 o2
      have e1 : fordR .f32 x 1065353216 = some (compare (signed s m (e - min e (-23)).toNat) (signed false 8388608 (-23 - min e (-23)).toNat)) := o1
      have e2 : fordR .f32 1065353216 x = some (compare (signed false 8388608 (-23 - min (-23) e).toNat) (signed s m (e - min (-23) e).toNat)) := o2
      rw [Int.min_comm (-23) e] at e2
      simp only [fcmpR, e1, e2]
      generalize signed s m (e - min e (-23)).toNat = a
      generalize signed false 8388608 (-23 - min e (-23)).toNat = b
      rcases Int.lt_trichotomy a b with h | h | h
      · rw [Int.compare_eq_lt.2 h, Int.compare_eq_gt.2 h]; rfl
      · subst h; rw [Int.compare_eq_eq.2 rfl]; rfl
      · rw [Int.compare_eq_gt.2 h, Int.compare_eq_lt.2 h]; rfl
  rw [this]
theorem lim_zq {x y : Nat} (h : zq x y) : zq (limS x) (limI y) := by
  rw [← lim_eq y]
  unfold limS
  exact zq_bif (zq_cmpl _ h) (fun _ => zq.refl (by decide)) (fun _ => h)
theorem ambX_zq {d d' : Nat} (f : Nat) (h : zq d d') : zq (ambX limS d f) (ambX limI d' f) := by
  unfold ambX
  have hq : zq (fop .quo .f32 (fop .sub .f32 f d) f) (fop .quo .f32 (fop .sub .f32 f d') f) := zq_quo (zq_subr h) rfl
  exact lim_zq (zq_bif (by rw [zq_cmpl .geq hq]) (fun _ => zq_nought) (fun _ => hq))
theorem ambF_zq {D E : Nat → Nat} {step : Nat} (h : ∀ f, zq (D f) (E f)) : ∀ (r : Nat) (a b : Nat) (k : Int), zq a b → zq (ambF D step r a k) (ambF E step r b k)
  | 0, _, _, _, hab => hab
  | r + 1, a, b, k, hab => ambF_zq h r _ _ _ (zq_add hab (h _))
theorem amb_zq {s : Shp} (hv : F60 s = true) {p q n m : V3} (h1 : zv p q) (h2 : zv n m) (step : Nat) (count : Int) : zq (F159 s p n step count) (F170 s q m step count) := by
  unfold F159 F170
  refine zq_subr (zq_quo (ambF_zq (fun f => ambX_zq f (D_zq hv (add_zv h1 (scale_zvl h2 f)))) _ _ _ _ zq_nought) rfl)

end Go.Proofs.YtponnbnebjhepaaGreat

namespace Go.Proofs.YtponnbnebjhepaaGreat
open Go Go.Ev Ieee
set_option maxRecDepth 100000

/-! The same questions of points that differ in the signs of zeros at most. -/
theorem fin_zq {x y : Nat} (h : zq x y) : F121 x = F121 y := by
  unfold F121 tr121
  simp only [Tr.val]
  exact zq_cmpl _ (zq_sub h h)
theorem place_ok {p q : V3} (h : zv p q) : F132 p = F138 q := by
  unfold F132 tr132 F138 tr138
  simp only [Tr.val]
  rw [fin_all _ (by simp), fin_zq h.1, fin_zq h.2.1, fin_zq h.2.2]
  simp only [List.all_cons, List.all_nil, Bool.and_true]
  cases F121 q.x <;> cases F121 q.y <;> cases F121 q.z <;> rfl
theorem place_ok1 (p : V3) : F132 p = F138 p := by
  unfold F132 tr132 F138 tr138
  simp only [Tr.val]
  rw [fin_all _ (by simp)]
  simp only [List.all_cons, List.all_nil, Bool.and_true]
  cases F121 p.x <;> cases F121 p.y <;> cases F121 p.z <;> rfl
theorem self_cmp (x : Nat) : fcmp .eql .f32 x x = !F143 x := by
  unfold F143 tr143
  simp only [Tr.val]
  rw [fcmp_eq]
  simp only [fcmpR, bne, Bool.not_not]
theorem way_ok {p q : V3} (h : zv p q) : F233 p = F244 q := by
  have e := fun {x y : Nat} (h : zq x y) => zq_cmp .eql h h
  unfold F233 tr233 F244 tr244
  simp only [Tr.val]
  rw [e h.1, e h.2.1, e h.2.2, zq_cmpl .neq h.1, zq_cmpl .neq h.2.1, zq_cmpl .neq h.2.2, self_cmp, self_cmp, self_cmp]
theorem ray_ok {r q : Ray} (h1 : zv r.src q.src) (h2 : zv r.way q.way) : F152 r = F163 q := by
  have hw := way_ok (unit_zv h2)
  have hp := place_ok h1
  unfold F233 tr233 at hw
  simp only [Tr.val] at hw
  unfold F152 tr152 F163 tr163
  simp only [Tr.val]
  rw [hp, hw]
theorem ray_ok1 (r : Ray) : F152 r = F163 r := by
  have e : F233 (F156 r.way) = F244 (F167 r.way) := by
    rw [unit_eq]
    unfold F233 tr233 F244 tr244
    simp only [Tr.val]
    rw [self_cmp, self_cmp, self_cmp]
  unfold F233 tr233 at e
  simp only [Tr.val] at e
  unfold F152 tr152 F163 tr163
  simp only [Tr.val]
  rw [place_ok1, e]

theorem sub_nan (x : Nat) (h : (FloatKind.f32.decode x).isNaN = true) : fop .sub .f32 x x = nanB .f32 := by
  rw [sub_res, sum_nan_left h]; rfl
/-- What is finite is a number. -/
theorem fin_num {x : Nat} (h : F121 x = true) : ∃ s m e, FloatKind.f32.decode x = .number s m e := by
  unfold F121 tr121 at h
  simp only [Tr.val] at h
  cases hd : FloatKind.f32.decode x with
  | number s m e => exact ⟨s, m, e, rfl⟩
  | nan s t =>
    rw [sub_nan x (by rw [hd]; rfl)] at h
    rw [fcmp_eq] at h
    exact absurd h (by decide +kernel)
  | infinity s =>
    rw [sub_res, hd] at h
    have : (Datum.infinity s).sum (Datum.infinity s).opposite = none := by cases s <;> rfl
    rw [this] at h
    rw [fcmp_eq] at h
    exact absurd h (by decide +kernel)
theorem fin_Num {x : Nat} (h : F121 x = true) : Num x := by
  obtain ⟨s, m, e, hd⟩ := fin_num h
  unfold Num; rw [hd]; rfl
theorem less_Num {x y : Nat} (h : fcmp .lss .f32 x y = true) : Num x := by
  unfold Num
  cases hn : (FloatKind.f32.decode x).isNaN
  · rfl
  · rw [fcmp_eq] at h
    have : fordR .f32 x y = none := by rw [ord_eq, order_nan_left hn]
    simp only [fcmpR, this] at h
    cases h

/-! Shadows. -/
theorem mar_most {m : Mar} (h : F161 m = true) : Num m.most := by
  unfold F161 tr161 at h
  simp only [Tr.val] at h
  cases h1 : F67 m.near
  · rw [h1] at h; cases h
  · cases h2 : F128 m.most
    · rw [h1, h2] at h; cases h
    · exact fin_Num h2
theorem mar_steps {m : Mar} (h : F161 m = true) : 1 ≤ m.steps ∧ m.steps ≤ 64 := by
  unfold F161 tr161 at h
  simp only [Tr.val] at h
  cases h1 : F67 m.near <;> rw [h1] at h
  · cases h
  · cases h2 : F128 m.most <;> rw [h2] at h
    · cases h
    · cases h3 : fcmp .geq .f32 m.most 0 <;> rw [h3] at h
      · cases h
      · simp only [cond_true] at h
        unfold F81 tr81 at h
        simp only [Tr.val] at h
        cases h4 : decide (m.steps ≥ 1) <;> rw [h4] at h
        · cases h
        · exact ⟨of_decide_eq_true h4, of_decide_eq_true h⟩

theorem shadow_eq {s : Shp} (hv : F60 s = true) {m : Mar} (hm : F161 m = true) {p q n k : V3} (h1 : zv p q) (h2 : zv n k) (l : V3) : F158 s p n l m = F169 s q k l m := by
  obtain ⟨c1, c2⟩ := mar_steps hm
  have hsrc := add_zv h1 (scale_zvl h2 (fop .mul .f32 1073741824 m.near))
  have hway := sub_zvr l hsrc
  have hP : ∀ (r : Ray) (a b : Nat), P153 s r ⟨a, b, m.steps⟩ = true := fun r a b => by
    show (F60 s && decide (1 ≤ m.steps) && decide (m.steps ≤ 64)) = true
    rw [hv, decide_eq_true c1, decide_eq_true c2]; rfl
  have hP' : ∀ r : Ray, P153 s r m = true := fun r => hP r m.near m.most
  have hI : ∀ (r : Ray) (a b : Nat), P164 s r ⟨a, b, m.steps⟩ = true := hP
  have h66 : F66 s = true := hv
  have hr : F152 ⟨F234 p (F235 n (fop .mul .f32 1073741824 m.near)), F157 l (F234 p (F235 n (fop .mul .f32 1073741824 m.near)))⟩ = F163 ⟨F242 q (F243 k (fop .mul .f32 1073741824 m.near)), F168 l (F242 q (F243 k (fop .mul .f32 1073741824 m.near)))⟩ := ray_ok hsrc hway
  have hl : F238 (F157 l (F234 p (F235 n (fop .mul .f32 1073741824 m.near)))) = F248 (F168 l (F242 q (F243 k (fop .mul .f32 1073741824 m.near)))) := len_zv hway
  unfold F158 tr158 F169 tr169
  simp only [Tr.val, hP, hP', hI, h66, hm, Bool.not_true, cond_true, cond_false]
  rw [hr, hl]
  cases F163 ⟨F242 q (F243 k (fop .mul .f32 1073741824 m.near)), F168 l (F242 q (F243 k (fop .mul .f32 1073741824 m.near)))⟩
  · rfl
  · simp only [Bool.not_true, cond_false]
    unfold F226 tr226
    simp only [Tr.val]
    cases hc : fcmp .lss .f32 (F248 (F168 l (F242 q (F243 k (fop .mul .f32 1073741824 m.near))))) m.most
    · simp only [cond_false]
      have := (march_zq hv (r := ⟨F234 p (F235 n (fop .mul .f32 1073741824 m.near)), F157 l (F234 p (F235 n (fop .mul .f32 1073741824 m.near)))⟩) (q := ⟨F242 q (F243 k (fop .mul .f32 1073741824 m.near)), F168 l (F242 q (F243 k (fop .mul .f32 1073741824 m.near)))⟩) hsrc hway m (mar_most hm)).1
      rw [this]
    · simp only [cond_true]
      have := (march_zq hv (r := ⟨F234 p (F235 n (fop .mul .f32 1073741824 m.near)), F157 l (F234 p (F235 n (fop .mul .f32 1073741824 m.near)))⟩) (q := ⟨F242 q (F243 k (fop .mul .f32 1073741824 m.near)), F168 l (F242 q (F243 k (fop .mul .f32 1073741824 m.near)))⟩) hsrc hway ⟨m.near, F248 (F168 l (F242 q (F243 k (fop .mul .f32 1073741824 m.near)))), m.steps⟩ (less_Num hc)).1
      rw [this]

/-! What a place looks like. -/
noncomputable def endS (A d : Nat) : Nat := fop .add .f32 (fop .mul .f32 1048576000 A) (fop .mul .f32 1061158912 d)
noncomputable def litS (d : Nat) (S : Bool × Bool) (A : Nat) : Nat := bif !fcmp .gtr .f32 d 0 then endS A 0 else bif S.2 then bif S.1 then endS A 0 else endS A d else endS A d
noncomputable def sh3S (v : Vw) (p n : V3) : Nat := litS (F155 n (F156 (F157 v.light p))) (F158 v.shape p n v.light v.march) (F159 v.shape p n (fop .mul .f32 1073741824 v.march.near) 4)
noncomputable def sh2S (v : Vw) (p : V3) : Nat := sh3S v p (G154 v.shape p v.march.near)
noncomputable def sh1S (v : Vw) (h : Hit6) : Nat := bif h.1 != 1 then 0 else sh2S v ⟨h.2.2.2.1, h.2.2.2.2.1, h.2.2.2.2.2⟩
noncomputable def sh3I (v : Vw) (p n : V3) : Nat := litS (F166 n (F167 (F168 v.light p))) (F169 v.shape p n v.light v.march) (F170 v.shape p n (fop .mul .f32 1073741824 v.march.near) 4)
noncomputable def sh2I (v : Vw) (p : V3) : Nat := sh3I v p (F165 v.shape p v.march.near)
noncomputable def sh1I (v : Vw) (h : Hit6) : Nat := bif h.1 != 1 then 0 else sh2I v ⟨h.2.2.2.1, h.2.2.2.2.1, h.2.2.2.2.2⟩

theorem F87_eq {v : Vw} (h : okView v = true) (x y : Int) : F87 v x y = bif !F152 (F151 v.cam x y) then 0 else sh1S v (F153 v.shape (F151 v.cam x y) v.march) := by
  unfold okView at h
  simp only [Bool.and_eq_true, decide_eq_true_eq] at h
  obtain ⟨⟨hv, h1⟩, h2⟩ := h
  have hp : ∀ r : Ray, P153 v.shape r v.march = true := fun r => by
    show (F60 v.shape && decide (1 ≤ v.march.steps) && decide (v.march.steps ≤ 64)) = true
    rw [hv, decide_eq_true h1, decide_eq_true h2]; rfl
  have hn : ∀ p st, P154 v.shape p st = true := fun _ _ => hv
  have ha : ∀ p n st, P159 v.shape p n st 4 = true := fun p n st => by
    show (F60 v.shape && decide ((1 : Int) ≤ 4) && decide ((4 : Int) ≤ 8)) = true
    rw [hv]; rfl
  unfold F87 tr87
  simp only [Tr.val, hp, hn, ha, pre158 hv h1 h2, cond_true]
  rfl
theorem F92_eq {v : Vw} (h : okView v = true) (x y : Int) : F92 v x y = bif !F163 (F162 v.cam x y) then 0 else sh1I v (F164 v.shape (F162 v.cam x y) v.march) := by
  unfold okView at h
  simp only [Bool.and_eq_true, decide_eq_true_eq] at h
  obtain ⟨⟨hv, h1⟩, h2⟩ := h
  have hp : ∀ r : Ray, P164 v.shape r v.march = true := fun r => by
    show (F60 v.shape && decide (1 ≤ v.march.steps) && decide (v.march.steps ≤ 64)) = true
    rw [hv, decide_eq_true h1, decide_eq_true h2]; rfl
  have ha : ∀ p n st, P170 v.shape p n st 4 = true := fun p n st => by
    show (F60 v.shape && decide ((1 : Int) ≤ 4) && decide ((4 : Int) ≤ 8)) = true
    rw [hv]; rfl
  unfold F92 tr92
  simp only [Tr.val, hp, ha, pre165 hv, pre169 hv h1 h2, cond_true]
  rfl

theorem neg_free {b : Nat} (hb : b < 2147483648) {m : Nat} {e : Int} {s : Bool} (hd : FloatKind.f32.decode b = .number s m e) : s = false := by
  have := sign_bit hd
  have h0 : b / 2147483648 % 2 = 0 := by omega
  rw [h0] at this
  exact this.symm
theorem add_same {a a' b : Nat} (h : zq a a') (hb : b < 2147483648) : fop .add .f32 a b = fop .add .f32 a' b := by
  rcases h with ⟨rfl, _⟩ | ⟨h1, h2⟩
  · rfl
  · obtain ⟨s, hs⟩ := zw_decode h1; obtain ⟨s', hs'⟩ := zw_decode h2
    rw [add_res, add_res, hs, hs']
    cases hd : FloatKind.f32.decode b with
    | nan _ _ => rfl
    | infinity _ => rfl
    | number t n j =>
      have ht := neg_free hb hd
      subst ht
      unfold Datum.sum
      simp only [signed_nought, Int.zero_add, Bool.and_false]
theorem res_low {o : Option Datum} (h : ∀ d, o = some d → (∃ m e, d = .number false m e) ∨ d = .infinity false) : res32 o < 2147483648 := by
  cases o with
  | none => decide +kernel
  | some d =>
    have key : FloatKind.f32.encode d < 2147483648 := by
      rcases h d rfl with ⟨m, e, rfl⟩ | rfl
      · show Ieee.single.nearest false m e < _
        have hi : Ieee.single.infRung = 2139095040 := by decide
        unfold Format.nearest
        split
        · decide
        · simp only [Format.word, Bool.false_eq_true, if_false]
          rw [hi]
          omega
      · decide +kernel
    show canon .f32 (FloatKind.f32.encode d) < 2147483648
    unfold canon
    split
    · decide +kernel
    · exact key
theorem mul_low {d : Nat} (h : fcmp .gtr .f32 d 0 = true) : fop .mul .f32 1061158912 d < 2147483648 := by
  rw [mul_res]
  refine res_low (fun x hx => ?_)
  have d1 : FloatKind.f32.decode 1061158912 = .number false 12582912 (-24) := by decide +kernel
  have d0 : FloatKind.f32.decode 0 = .number false 0 (-149) := by decide +kernel
  have ho : fordR .f32 d 0 = (FloatKind.f32.decode d).order (FloatKind.f32.decode 0) := rfl
  rw [d0] at ho
  rw [fcmp_eq] at h
  rw [d1] at hx
  cases hd : FloatKind.f32.decode d with
  | nan s t => rw [hd] at hx; cases hx
  | infinity s =>
    rw [hd] at ho hx
    cases s
    · simp only [Datum.product] at hx; cases hx; exact .inr rfl
    · simp only [fcmpR, ho] at h; cases h
  | number s m e =>
    rw [hd] at ho hx
    cases s
    · simp only [Datum.product] at hx; cases hx; exact .inl ⟨_, _, rfl⟩
    · have : ∀ n : Nat, compare (signed true m n) 0 ≠ .gt := by
        intro n hc
        have := Int.compare_eq_gt.1 hc
        unfold signed at this
        rw [if_pos rfl] at this
        generalize m <<< n = z at this
        omega
      have e : fordR .f32 d 0 = some (compare (signed true m (e - min e (-149)).toNat) (signed false 0 (-149 - min e (-149)).toNat)) := ho
      rw [signed_nought] at e
      simp only [fcmpR, e] at h
      exact absurd (by simpa using h) (this _)
theorem mul_zero_low : fop .mul .f32 1061158912 0 < 2147483648 := by rw [fop_eq]; decide +kernel

theorem pos_same {d d' : Nat} (h : zq d d') (hp : fcmp .gtr .f32 d 0 = true) : d = d' := by
  rcases h with ⟨e, _⟩ | ⟨h1, _⟩
  · exact e
  · exfalso
    rw [fcmp_eq] at hp
    rcases h1 with rfl | rfl
    · exact absurd hp (by decide +kernel)
    · exact absurd hp (by decide +kernel)
theorem lit_eq {d d' A A' : Nat} {S S' : Bool × Bool} (hd : zq d d') (hS : S = S') (hA : zq A A') : litS d S A = litS d' S' A' := by
  subst hS
  have e0 : endS A 0 = endS A' 0 := add_same (zq_mulr hA) mul_zero_low
  unfold litS
  rw [← zq_cmpl .gtr hd]
  cases hg : fcmp .gtr .f32 d 0
  · simp only [Bool.not_false, cond_true]; exact e0
  · have := pos_same hd hg
    subst this
    have e1 : endS A d = endS A' d := add_same (zq_mulr hA) (mul_low hg)
    rw [e0, e1]
theorem sh_eq {v : Vw} (hv : F60 v.shape = true) (hm : F161 v.march = true) {h h' : Hit6} (hh : zh h h') : sh1S v h = sh1I v h' := by
  obtain ⟨e1, _, _, hp⟩ := hh
  unfold sh1S sh1I
  rw [e1]
  cases h'.1 != 1
  · simp only [cond_false]
    unfold sh2S sh2I
    have hn := normal_zv hv hp v.march.near
    unfold sh3S sh3I
    exact lit_eq (dot_zq hn (unit_zv (sub_zvr _ hp))) (shadow_eq hv hm hp hn _) (amb_zq hv hp hn _ _)
  · rfl

theorem basis_eq (c : Cam) : F232 c = F239 c := by
  unfold F232 tr232 F239 tr239
  simp only [Tr.val, unit_eq]
  rfl
theorem cam_ray (c : Cam) (x y : Int) : F151 c x y = F162 c x y := by
  unfold F151 tr151 F162 tr162
  simp only [Tr.val, basis_eq]
  rfl
theorem shade_eq {v : Vw} (h : okView v = true) (hm : F161 v.march = true) (x y : Int) : F87 v x y = F92 v x y := by
  rw [F87_eq h, F92_eq h, cam_ray, ray_ok1]
  have hv : F60 v.shape = true := by
    unfold okView at h
    simp only [Bool.and_eq_true] at h
    exact h.1.1
  rw [sh_eq hv hm (march_eq hv _ _ (mar_most hm))]

end Go.Proofs.YtponnbnebjhepaaGreat

namespace Go.Proofs.YtponnbnebjhepaaGreat
open Go Go.Ev
set_option maxRecDepth 100000

noncomputable def ent38 : List PV → Option (Bool × CRes)
  | [.agg [.slice .nd x0_0, .f32 x0_1, .f32 x0_2, .f32 x0_3, .f32 x0_4, .f32 x0_5, .f32 x0_6, .f32 x0_7, .int .i64 x0_8, .int .i64 x0_9, .f32 x0_10, .f32 x0_11, .f32 x0_12, .f32 x0_13, .f32 x0_14, .int .i64 x0_15], .int .i64 x1, .int .i64 x2] => some ((tr38n (⟨⟨x0_0⟩, ⟨⟨x0_1, x0_2, x0_3⟩, ⟨x0_4, x0_5, x0_6⟩, x0_7, x0_8, x0_9⟩, ⟨x0_10, x0_11, x0_12⟩, ⟨x0_13, x0_14, x0_15⟩⟩ : Vw) x1 x2).pre, fw38n (F38n (⟨⟨x0_0⟩, ⟨⟨x0_1, x0_2, x0_3⟩, ⟨x0_4, x0_5, x0_6⟩, x0_7, x0_8, x0_9⟩, ⟨x0_10, x0_11, x0_12⟩, ⟨x0_13, x0_14, x0_15⟩⟩ : Vw) x1 x2))
  | _ => none
theorem ok38 : EntSound Tryz.prog 38 ent38 := by
  refine entryW tab31_ok exts_ok (fun _ => []) (fn := Tryz.f38) (by kernel_rfl) (by kernel_rfl) (fun args c h => ?_)
  unfold ent38 at h
  split at h <;> first | (cases h; done) | skip
  rename_i x0_0 x0_1 x0_2 x0_3 x0_4 x0_5 x0_6 x0_7 x0_8 x0_9 x0_10 x0_11 x0_12 x0_13 x0_14 x0_15 x1 x2
  simp only [Option.some.injEq, Prod.mk.injEq] at h
  obtain ⟨hp, rfl⟩ := h
  exact ⟨0, _, (ev38n (⟨⟨x0_0⟩, ⟨⟨x0_1, x0_2, x0_3⟩, ⟨x0_4, x0_5, x0_6⟩, x0_7, x0_8, x0_9⟩, ⟨x0_10, x0_11, x0_12⟩, ⟨x0_13, x0_14, x0_15⟩⟩ : Vw) x1 x2).trans (Tr.ok _ _ hp), CLe.refl _⟩

noncomputable def ent40 : List PV → Option (Bool × CRes)
  | [.agg [.slice .nd x0_0, .f32 x0_1, .f32 x0_2, .f32 x0_3, .f32 x0_4, .f32 x0_5, .f32 x0_6, .f32 x0_7, .int .i64 x0_8, .int .i64 x0_9, .f32 x0_10, .f32 x0_11, .f32 x0_12, .f32 x0_13, .f32 x0_14, .int .i64 x0_15], .int .i64 x1, .int .i64 x2] => some ((tr40 (⟨⟨x0_0⟩, ⟨⟨x0_1, x0_2, x0_3⟩, ⟨x0_4, x0_5, x0_6⟩, x0_7, x0_8, x0_9⟩, ⟨x0_10, x0_11, x0_12⟩, ⟨x0_13, x0_14, x0_15⟩⟩ : Vw) x1 x2).pre, fw40 (F40 (⟨⟨x0_0⟩, ⟨⟨x0_1, x0_2, x0_3⟩, ⟨x0_4, x0_5, x0_6⟩, x0_7, x0_8, x0_9⟩, ⟨x0_10, x0_11, x0_12⟩, ⟨x0_13, x0_14, x0_15⟩⟩ : Vw) x1 x2))
  | _ => none
theorem ok40 : EntSound Tryz.prog 40 ent40 := by
  refine entryW tab31_ok exts_ok (fun _ => []) (fn := Tryz.f40) (by kernel_rfl) (by kernel_rfl) (fun args c h => ?_)
  unfold ent40 at h
  split at h <;> first | (cases h; done) | skip
  rename_i x0_0 x0_1 x0_2 x0_3 x0_4 x0_5 x0_6 x0_7 x0_8 x0_9 x0_10 x0_11 x0_12 x0_13 x0_14 x0_15 x1 x2
  simp only [Option.some.injEq, Prod.mk.injEq] at h
  obtain ⟨hp, rfl⟩ := h
  exact ⟨0, _, (ev40 (⟨⟨x0_0⟩, ⟨⟨x0_1, x0_2, x0_3⟩, ⟨x0_4, x0_5, x0_6⟩, x0_7, x0_8, x0_9⟩, ⟨x0_10, x0_11, x0_12⟩, ⟨x0_13, x0_14, x0_15⟩⟩ : Vw) x1 x2).trans (Tr.ok _ _ hp), CLe.refl _⟩

noncomputable def ent104 : List PV → Option (Bool × CRes)
  | [.ptr .vw x0 0, .ptr .tl x1 0] => some (P104 x0 x1, fw104 (F104 x0 x1))
  | _ => none
theorem ok104 : EntSound Tryz.prog 104 ent104 := by
  refine entryW tab31_ok exts_ok (fgOf 54 [(3, [0, 1, 5, 6]), (6, [0, 1, 5, 6, 7])]) (fn := Tryz.f104) (by kernel_rfl) (by kernel_rfl) (fun args c h => ?_)
  unfold ent104 at h
  split at h <;> first | (cases h; done) | skip
  rename_i x0 x1
  simp only [Option.some.injEq, Prod.mk.injEq] at h
  obtain ⟨hp, rfl⟩ := h
  obtain ⟨m, hv⟩ := val104 x0 x1 hp
  exact ⟨m, fr104 (F104 x0 x1), (evS104 m x0 x1).trans (by rw [hv]; rfl), CLe.refl _⟩

noncomputable def ent107 : List PV → Option (Bool × CRes)
  | [.ptr .vw x0 0, .agg [.int .i64 x1_0, .int .i64 x1_1, .int .i64 x1_2, .int .i64 x1_3]] => some (P107 x0 (⟨x1_0, x1_1, x1_2, x1_3⟩ : Tl), fw107 (F107 x0 (⟨x1_0, x1_1, x1_2, x1_3⟩ : Tl)))
  | _ => none
theorem ok107 : EntSound Tryz.prog 107 ent107 := by
  refine entryW tab31_ok exts_ok (fgOf 42 [(3, [0, 3, 5, 6]), (6, [0, 3, 5, 6, 7])]) (fn := Tryz.f107) (by kernel_rfl) (by kernel_rfl) (fun args c h => ?_)
  unfold ent107 at h
  split at h <;> first | (cases h; done) | skip
  rename_i x0 x1_0 x1_1 x1_2 x1_3
  simp only [Option.some.injEq, Prod.mk.injEq] at h
  obtain ⟨hp, rfl⟩ := h
  obtain ⟨m, hv⟩ := val107 x0 (⟨x1_0, x1_1, x1_2, x1_3⟩ : Tl) hp
  exact ⟨m, fr107 (F107 x0 (⟨x1_0, x1_1, x1_2, x1_3⟩ : Tl)), (evS107 m x0 (⟨x1_0, x1_1, x1_2, x1_3⟩ : Tl)).trans (by rw [hv]; rfl), CLe.refl _⟩

noncomputable def tab32 : Tab := ((107, ent107) :: ((104, ent104) :: ((40, ent40) :: ((38, ent38) :: tab31))))
theorem tab32_ok : TSound Tryz.prog (tabT tab32) := (tab_cons (tab_cons (tab_cons (tab_cons tab31_ok ok38) ok40) ok104) ok107)

end Go.Proofs.YtponnbnebjhepaaGreat

namespace Go.Proofs.YtponnbnebjhepaaGreat
open Go Go.Ev
set_option maxRecDepth 100000

/-! laws.FnExactShadeAt -/
noncomputable def fr6 : (Bool) → CRes := (fun (x : Bool) => CRes.plain (.bool x))
noncomputable def fw6 : (Bool) → CRes := (fun (x : Bool) => CRes.plain (.bool x))
noncomputable def tr6 (x0 : Vw) (x1 : Int) (x2 : Int) : Tr (Bool) :=
  (.cond ((tr37 x0 1048576).pre)
   (.cond (decide (F37 x0 1048576 < 0))
    (.leaf (true))
    (.cond ((tr39 x0).pre)
     (.cond ((tr38n (F39 x0) x1 x2).pre)
      (.cond ((tr39 x0).pre)
       (.cond ((tr40 (F39 x0) x1 x2).pre)
        (.cond (!F41 (f2f FloatKind.f32 (F40 (F39 x0) x1 x2).fst FloatKind.f64) (f2f FloatKind.f32 (F38n (F39 x0) x1 x2).fst FloatKind.f64))
         (.leaf (false))
         (.cond (!(F40 (F39 x0) x1 x2).snd == (F38n (F39 x0) x1 x2).snd)
          (.leaf (false))
          (.cond ((tr39 x0).pre)
           (.cond ((tr42 (F39 x0) (F39 x0)).pre)
            (.cond (!F42 (F39 x0) (F39 x0))
             (.leaf (false))
             (.leaf (true)))
            .non)
           .non)))
        .non)
       .non)
      .non)
     .non))
   .non)
theorem ev6 (x0 : Vw) (x1 : Int) (x2 : Int) : evalF (env tab32 exts (fun _ => [])) 0 Tryz.f6 [.agg (enc .vw x0), .int .i64 x1, .int .i64 x2] = (tr6 x0 x1 x2).toOpt fr6 := by kernel_rfl
noncomputable def F6 (x0 : Vw) (x1 : Int) (x2 : Int) : Bool := (tr6 x0 x1 x2).val

/-! spec.RenderView -/
noncomputable def fr46 : (ByteArray × Bool) → CRes := (fun (x : ByteArray × Bool) => CRes.plain (.tup [.str x.1, .bool x.2]))
noncomputable def fw46 : (ByteArray × Bool) → CRes := (fun (x : ByteArray × Bool) => CRes.plain (.tup [.str x.1, .bool x.2]))
noncomputable def tr46 (x0 : Vw) : Tr (ByteArray × Bool) :=
  (.cond (!F85 x0)
   (.leaf (({ data := #[] : ByteArray }, false)))
   (.cond (P104 x0 (F103 x0.cam))
    (.leaf ((F104 x0 (F103 x0.cam), true)))
    .non))
theorem ev46 (x0 : Vw) : evalF (env tab32 exts (fun _ => [])) 0 Tryz.f46 [.agg (enc .vw x0)] = (tr46 x0).toOpt fr46 := by kernel_rfl
noncomputable def F46 (x0 : Vw) : ByteArray × Bool := (tr46 x0).val

/-! spec.RenderShared -/
noncomputable def fr48 : (ByteArray × Bool) → CRes := (fun (x : ByteArray × Bool) => CRes.plain (.tup [.str x.1, .bool x.2]))
noncomputable def fw48 : (ByteArray × Bool) → CRes := (fun (x : ByteArray × Bool) => CRes.plain (.tup [.str x.1, .bool x.2]))
noncomputable def tr48 (x0 : Vw) (x1 : Int) (x2 : Int) : Tr (ByteArray × Bool) :=
  (.cond (!F85 x0)
   (.leaf (({ data := #[] : ByteArray }, false)))
   (.cond (!F78 x1 1 12)
    (.leaf (({ data := #[] : ByteArray }, false)))
    (.cond (!F78 x2 1 8)
     (.leaf (({ data := #[] : ByteArray }, false)))
     (.cond (P104 x0 (F103 x0.cam))
      (.leaf ((F104 x0 (F103 x0.cam), true)))
      .non))))
theorem ev48 (x0 : Vw) (x1 : Int) (x2 : Int) : evalF (env tab32 exts (fun _ => [])) 0 Tryz.f48 [.agg (enc .vw x0), .int .i64 x1, .int .i64 x2] = (tr48 x0 x1 x2).toOpt fr48 := by kernel_rfl
noncomputable def F48 (x0 : Vw) (x1 : Int) (x2 : Int) : ByteArray × Bool := (tr48 x0 x1 x2).val

/-! spec.RenderTile -/
noncomputable def fr50 : (ByteArray × Bool) → CRes := (fun (x : ByteArray × Bool) => CRes.plain (.tup [.str x.1, .bool x.2]))
noncomputable def fw50 : (ByteArray × Bool) → CRes := (fun (x : ByteArray × Bool) => CRes.plain (.tup [.str x.1, .bool x.2]))
noncomputable def tr50 (x0 : Vw) (x1 : Tl) : Tr (ByteArray × Bool) :=
  (.cond (!F85 x0)
   (.leaf (({ data := #[] : ByteArray }, false)))
   (.cond (!F105 x0.cam x1)
    (.leaf (({ data := #[] : ByteArray }, false)))
    (.cond (P104 x0 x1)
     (.leaf ((F104 x0 x1, true)))
     .non)))
theorem ev50 (x0 : Vw) (x1 : Tl) : evalF (env tab32 exts (fun _ => [])) 0 Tryz.f50 [.agg (enc .vw x0), .agg (enc .tl x1)] = (tr50 x0 x1).toOpt fr50 := by kernel_rfl
noncomputable def F50 (x0 : Vw) (x1 : Tl) : ByteArray × Bool := (tr50 x0 x1).val

/-! impl.RenderTile -/
noncomputable def fr52 : (ByteArray × Bool) → CRes := (fun (x : ByteArray × Bool) => CRes.plain (.tup [.str x.1, .bool x.2]))
noncomputable def fw52 : (ByteArray × Bool) → CRes := (fun (x : ByteArray × Bool) => CRes.plain (.tup [.str x.1, .bool x.2]))
noncomputable def tr52 (x0 : Vw) (x1 : Tl) : Tr (ByteArray × Bool) :=
  (.cond (!F90 x0)
   (.leaf (({ data := #[] : ByteArray }, false)))
   (.cond (!F106 x0.cam x1)
    (.leaf (({ data := #[] : ByteArray }, false)))
    (.cond (P107 x0 x1)
     (.leaf ((F107 x0 x1, true)))
     .non)))
theorem ev52 (x0 : Vw) (x1 : Tl) : evalF (env tab32 exts (fun _ => [])) 0 Tryz.f52 [.agg (enc .vw x0), .agg (enc .tl x1)] = (tr52 x0 x1).toOpt fr52 := by kernel_rfl
noncomputable def F52 (x0 : Vw) (x1 : Tl) : ByteArray × Bool := (tr52 x0 x1).val

end Go.Proofs.YtponnbnebjhepaaGreat

namespace Go.Proofs.YtponnbnebjhepaaGreat
open Go Go.Ev
set_option maxRecDepth 100000

noncomputable def ent46 : List PV → Option (Bool × CRes)
  | [.agg [.slice .nd x0_0, .f32 x0_1, .f32 x0_2, .f32 x0_3, .f32 x0_4, .f32 x0_5, .f32 x0_6, .f32 x0_7, .int .i64 x0_8, .int .i64 x0_9, .f32 x0_10, .f32 x0_11, .f32 x0_12, .f32 x0_13, .f32 x0_14, .int .i64 x0_15]] => some ((tr46 (⟨⟨x0_0⟩, ⟨⟨x0_1, x0_2, x0_3⟩, ⟨x0_4, x0_5, x0_6⟩, x0_7, x0_8, x0_9⟩, ⟨x0_10, x0_11, x0_12⟩, ⟨x0_13, x0_14, x0_15⟩⟩ : Vw)).pre, fw46 (F46 (⟨⟨x0_0⟩, ⟨⟨x0_1, x0_2, x0_3⟩, ⟨x0_4, x0_5, x0_6⟩, x0_7, x0_8, x0_9⟩, ⟨x0_10, x0_11, x0_12⟩, ⟨x0_13, x0_14, x0_15⟩⟩ : Vw)))
  | _ => none
theorem ok46 : EntSound Tryz.prog 46 ent46 := by
  refine entryW tab32_ok exts_ok (fun _ => []) (fn := Tryz.f46) (by kernel_rfl) (by kernel_rfl) (fun args c h => ?_)
  unfold ent46 at h
  split at h <;> first | (cases h; done) | skip
  rename_i x0_0 x0_1 x0_2 x0_3 x0_4 x0_5 x0_6 x0_7 x0_8 x0_9 x0_10 x0_11 x0_12 x0_13 x0_14 x0_15
  simp only [Option.some.injEq, Prod.mk.injEq] at h
  obtain ⟨hp, rfl⟩ := h
  exact ⟨0, _, (ev46 (⟨⟨x0_0⟩, ⟨⟨x0_1, x0_2, x0_3⟩, ⟨x0_4, x0_5, x0_6⟩, x0_7, x0_8, x0_9⟩, ⟨x0_10, x0_11, x0_12⟩, ⟨x0_13, x0_14, x0_15⟩⟩ : Vw)).trans (Tr.ok _ _ hp), CLe.refl _⟩

noncomputable def ent48 : List PV → Option (Bool × CRes)
  | [.agg [.slice .nd x0_0, .f32 x0_1, .f32 x0_2, .f32 x0_3, .f32 x0_4, .f32 x0_5, .f32 x0_6, .f32 x0_7, .int .i64 x0_8, .int .i64 x0_9, .f32 x0_10, .f32 x0_11, .f32 x0_12, .f32 x0_13, .f32 x0_14, .int .i64 x0_15], .int .i64 x1, .int .i64 x2] => some ((tr48 (⟨⟨x0_0⟩, ⟨⟨x0_1, x0_2, x0_3⟩, ⟨x0_4, x0_5, x0_6⟩, x0_7, x0_8, x0_9⟩, ⟨x0_10, x0_11, x0_12⟩, ⟨x0_13, x0_14, x0_15⟩⟩ : Vw) x1 x2).pre, fw48 (F48 (⟨⟨x0_0⟩, ⟨⟨x0_1, x0_2, x0_3⟩, ⟨x0_4, x0_5, x0_6⟩, x0_7, x0_8, x0_9⟩, ⟨x0_10, x0_11, x0_12⟩, ⟨x0_13, x0_14, x0_15⟩⟩ : Vw) x1 x2))
  | _ => none
theorem ok48 : EntSound Tryz.prog 48 ent48 := by
  refine entryW tab32_ok exts_ok (fun _ => []) (fn := Tryz.f48) (by kernel_rfl) (by kernel_rfl) (fun args c h => ?_)
  unfold ent48 at h
  split at h <;> first | (cases h; done) | skip
  rename_i x0_0 x0_1 x0_2 x0_3 x0_4 x0_5 x0_6 x0_7 x0_8 x0_9 x0_10 x0_11 x0_12 x0_13 x0_14 x0_15 x1 x2
  simp only [Option.some.injEq, Prod.mk.injEq] at h
  obtain ⟨hp, rfl⟩ := h
  exact ⟨0, _, (ev48 (⟨⟨x0_0⟩, ⟨⟨x0_1, x0_2, x0_3⟩, ⟨x0_4, x0_5, x0_6⟩, x0_7, x0_8, x0_9⟩, ⟨x0_10, x0_11, x0_12⟩, ⟨x0_13, x0_14, x0_15⟩⟩ : Vw) x1 x2).trans (Tr.ok _ _ hp), CLe.refl _⟩

noncomputable def ent50 : List PV → Option (Bool × CRes)
  | [.agg [.slice .nd x0_0, .f32 x0_1, .f32 x0_2, .f32 x0_3, .f32 x0_4, .f32 x0_5, .f32 x0_6, .f32 x0_7, .int .i64 x0_8, .int .i64 x0_9, .f32 x0_10, .f32 x0_11, .f32 x0_12, .f32 x0_13, .f32 x0_14, .int .i64 x0_15], .agg [.int .i64 x1_0, .int .i64 x1_1, .int .i64 x1_2, .int .i64 x1_3]] => some ((tr50 (⟨⟨x0_0⟩, ⟨⟨x0_1, x0_2, x0_3⟩, ⟨x0_4, x0_5, x0_6⟩, x0_7, x0_8, x0_9⟩, ⟨x0_10, x0_11, x0_12⟩, ⟨x0_13, x0_14, x0_15⟩⟩ : Vw) (⟨x1_0, x1_1, x1_2, x1_3⟩ : Tl)).pre, fw50 (F50 (⟨⟨x0_0⟩, ⟨⟨x0_1, x0_2, x0_3⟩, ⟨x0_4, x0_5, x0_6⟩, x0_7, x0_8, x0_9⟩, ⟨x0_10, x0_11, x0_12⟩, ⟨x0_13, x0_14, x0_15⟩⟩ : Vw) (⟨x1_0, x1_1, x1_2, x1_3⟩ : Tl)))
  | _ => none
theorem ok50 : EntSound Tryz.prog 50 ent50 := by
  refine entryW tab32_ok exts_ok (fun _ => []) (fn := Tryz.f50) (by kernel_rfl) (by kernel_rfl) (fun args c h => ?_)
  unfold ent50 at h
  split at h <;> first | (cases h; done) | skip
  rename_i x0_0 x0_1 x0_2 x0_3 x0_4 x0_5 x0_6 x0_7 x0_8 x0_9 x0_10 x0_11 x0_12 x0_13 x0_14 x0_15 x1_0 x1_1 x1_2 x1_3
  simp only [Option.some.injEq, Prod.mk.injEq] at h
  obtain ⟨hp, rfl⟩ := h
  exact ⟨0, _, (ev50 (⟨⟨x0_0⟩, ⟨⟨x0_1, x0_2, x0_3⟩, ⟨x0_4, x0_5, x0_6⟩, x0_7, x0_8, x0_9⟩, ⟨x0_10, x0_11, x0_12⟩, ⟨x0_13, x0_14, x0_15⟩⟩ : Vw) (⟨x1_0, x1_1, x1_2, x1_3⟩ : Tl)).trans (Tr.ok _ _ hp), CLe.refl _⟩

noncomputable def ent52 : List PV → Option (Bool × CRes)
  | [.agg [.slice .nd x0_0, .f32 x0_1, .f32 x0_2, .f32 x0_3, .f32 x0_4, .f32 x0_5, .f32 x0_6, .f32 x0_7, .int .i64 x0_8, .int .i64 x0_9, .f32 x0_10, .f32 x0_11, .f32 x0_12, .f32 x0_13, .f32 x0_14, .int .i64 x0_15], .agg [.int .i64 x1_0, .int .i64 x1_1, .int .i64 x1_2, .int .i64 x1_3]] => some ((tr52 (⟨⟨x0_0⟩, ⟨⟨x0_1, x0_2, x0_3⟩, ⟨x0_4, x0_5, x0_6⟩, x0_7, x0_8, x0_9⟩, ⟨x0_10, x0_11, x0_12⟩, ⟨x0_13, x0_14, x0_15⟩⟩ : Vw) (⟨x1_0, x1_1, x1_2, x1_3⟩ : Tl)).pre, fw52 (F52 (⟨⟨x0_0⟩, ⟨⟨x0_1, x0_2, x0_3⟩, ⟨x0_4, x0_5, x0_6⟩, x0_7, x0_8, x0_9⟩, ⟨x0_10, x0_11, x0_12⟩, ⟨x0_13, x0_14, x0_15⟩⟩ : Vw) (⟨x1_0, x1_1, x1_2, x1_3⟩ : Tl)))
  | _ => none
theorem ok52 : EntSound Tryz.prog 52 ent52 := by
  refine entryW tab32_ok exts_ok (fun _ => []) (fn := Tryz.f52) (by kernel_rfl) (by kernel_rfl) (fun args c h => ?_)
  unfold ent52 at h
  split at h <;> first | (cases h; done) | skip
  rename_i x0_0 x0_1 x0_2 x0_3 x0_4 x0_5 x0_6 x0_7 x0_8 x0_9 x0_10 x0_11 x0_12 x0_13 x0_14 x0_15 x1_0 x1_1 x1_2 x1_3
  simp only [Option.some.injEq, Prod.mk.injEq] at h
  obtain ⟨hp, rfl⟩ := h
  exact ⟨0, _, (ev52 (⟨⟨x0_0⟩, ⟨⟨x0_1, x0_2, x0_3⟩, ⟨x0_4, x0_5, x0_6⟩, x0_7, x0_8, x0_9⟩, ⟨x0_10, x0_11, x0_12⟩, ⟨x0_13, x0_14, x0_15⟩⟩ : Vw) (⟨x1_0, x1_1, x1_2, x1_3⟩ : Tl)).trans (Tr.ok _ _ hp), CLe.refl _⟩

noncomputable def tab33 : Tab := ((52, ent52) :: ((50, ent50) :: ((48, ent48) :: ((46, ent46) :: tab32))))
theorem tab33_ok : TSound Tryz.prog (tabT tab33) := (tab_cons (tab_cons (tab_cons (tab_cons tab32_ok ok46) ok48) ok50) ok52)

end Go.Proofs.YtponnbnebjhepaaGreat

namespace Go.Proofs.YtponnbnebjhepaaGreat
open Go Go.Ev
set_option maxRecDepth 100000

/-! impl.RenderView -/
noncomputable def fr47 : (ByteArray × Bool) → CRes := (fun (x : ByteArray × Bool) => CRes.plain (.tup [.str x.1, .bool x.2]))
noncomputable def fw47 : (ByteArray × Bool) → CRes := (fun (x : ByteArray × Bool) => CRes.plain (.tup [.str x.1, .bool x.2]))
noncomputable def tr47 (x0 : Vw) : Tr (ByteArray × Bool) :=
  (.cond ((tr52 x0 { x := 0, y := 0, w := x0.cam.w, h := x0.cam.h : Tl }).pre)
   (.leaf (((F52 x0 { x := 0, y := 0, w := x0.cam.w, h := x0.cam.h : Tl }).fst, (F52 x0 { x := 0, y := 0, w := x0.cam.w, h := x0.cam.h : Tl }).snd)))
   .non)
theorem ev47 (x0 : Vw) : evalF (env tab33 exts (fun _ => [])) 0 Tryz.f47 [.agg (enc .vw x0)] = (tr47 x0).toOpt fr47 := by kernel_rfl
noncomputable def F47 (x0 : Vw) : ByteArray × Bool := (tr47 x0).val

/-! laws.FnExactRenderTile -/
noncomputable def fr10 : (Bool) → CRes := (fun (x : Bool) => CRes.plain (.bool x))
noncomputable def fw10 : (Bool) → CRes := (fun (x : Bool) => CRes.plain (.bool x))
noncomputable def tr10 (x0 : Vw) (x1 : Tl) : Tr (Bool) :=
  (.cond ((tr37 x0 1048576).pre)
   (.cond (decide (F37 x0 1048576 < 0))
    (.leaf (true))
    (.cond ((tr39 x0).pre)
     (.cond ((tr50 (F39 x0) (F51 x1)).pre)
      (.cond ((tr39 x0).pre)
       (.cond ((tr52 (F39 x0) (F51 x1)).pre)
        (.cond (!sameStr (F52 (F39 x0) (F51 x1)).fst (F50 (F39 x0) (F51 x1)).fst)
         (.leaf (false))
         (.cond (!(F52 (F39 x0) (F51 x1)).snd == (F50 (F39 x0) (F51 x1)).snd)
          (.leaf (false))
          (.cond ((tr39 x0).pre)
           (.cond ((tr42 (F39 x0) (F39 x0)).pre)
            (.cond (!F42 (F39 x0) (F39 x0))
             (.leaf (false))
             (.leaf (true)))
            .non)
           .non)))
        .non)
       .non)
      .non)
     .non))
   .non)
theorem ev10 (x0 : Vw) (x1 : Tl) : evalF (env tab33 exts (fun _ => [])) 0 Tryz.f10 [.agg (enc .vw x0), .agg (enc .tl x1)] = (tr10 x0 x1).toOpt fr10 := by kernel_rfl
noncomputable def F10 (x0 : Vw) (x1 : Tl) : Bool := (tr10 x0 x1).val

end Go.Proofs.YtponnbnebjhepaaGreat

namespace Go.Proofs.YtponnbnebjhepaaGreat
open Go Go.Ev
set_option maxRecDepth 100000

noncomputable def ent47 : List PV → Option (Bool × CRes)
  | [.agg [.slice .nd x0_0, .f32 x0_1, .f32 x0_2, .f32 x0_3, .f32 x0_4, .f32 x0_5, .f32 x0_6, .f32 x0_7, .int .i64 x0_8, .int .i64 x0_9, .f32 x0_10, .f32 x0_11, .f32 x0_12, .f32 x0_13, .f32 x0_14, .int .i64 x0_15]] => some ((tr47 (⟨⟨x0_0⟩, ⟨⟨x0_1, x0_2, x0_3⟩, ⟨x0_4, x0_5, x0_6⟩, x0_7, x0_8, x0_9⟩, ⟨x0_10, x0_11, x0_12⟩, ⟨x0_13, x0_14, x0_15⟩⟩ : Vw)).pre, fw47 (F47 (⟨⟨x0_0⟩, ⟨⟨x0_1, x0_2, x0_3⟩, ⟨x0_4, x0_5, x0_6⟩, x0_7, x0_8, x0_9⟩, ⟨x0_10, x0_11, x0_12⟩, ⟨x0_13, x0_14, x0_15⟩⟩ : Vw)))
  | _ => none
theorem ok47 : EntSound Tryz.prog 47 ent47 := by
  refine entryW tab33_ok exts_ok (fun _ => []) (fn := Tryz.f47) (by kernel_rfl) (by kernel_rfl) (fun args c h => ?_)
  unfold ent47 at h
  split at h <;> first | (cases h; done) | skip
  rename_i x0_0 x0_1 x0_2 x0_3 x0_4 x0_5 x0_6 x0_7 x0_8 x0_9 x0_10 x0_11 x0_12 x0_13 x0_14 x0_15
  simp only [Option.some.injEq, Prod.mk.injEq] at h
  obtain ⟨hp, rfl⟩ := h
  exact ⟨0, _, (ev47 (⟨⟨x0_0⟩, ⟨⟨x0_1, x0_2, x0_3⟩, ⟨x0_4, x0_5, x0_6⟩, x0_7, x0_8, x0_9⟩, ⟨x0_10, x0_11, x0_12⟩, ⟨x0_13, x0_14, x0_15⟩⟩ : Vw)).trans (Tr.ok _ _ hp), CLe.refl _⟩

noncomputable def tab34 : Tab := ((47, ent47) :: tab33)
theorem tab34_ok : TSound Tryz.prog (tabT tab34) := (tab_cons tab33_ok ok47)

end Go.Proofs.YtponnbnebjhepaaGreat

namespace Go.Proofs.YtponnbnebjhepaaGreat
open Go Go.Ev
set_option maxRecDepth 100000

/-! laws.FnExactRenderView -/
noncomputable def fr8 : (Bool) → CRes := (fun (x : Bool) => CRes.plain (.bool x))
noncomputable def fw8 : (Bool) → CRes := (fun (x : Bool) => CRes.plain (.bool x))
noncomputable def tr8 (x0 : Vw) : Tr (Bool) :=
  (.cond ((tr37 x0 1048576).pre)
   (.cond (decide (F37 x0 1048576 < 0))
    (.leaf (true))
    (.cond ((tr39 x0).pre)
     (.cond ((tr46 (F39 x0)).pre)
      (.cond ((tr39 x0).pre)
       (.cond ((tr47 (F39 x0)).pre)
        (.cond (!sameStr (F47 (F39 x0)).fst (F46 (F39 x0)).fst)
         (.leaf (false))
         (.cond (!(F47 (F39 x0)).snd == (F46 (F39 x0)).snd)
          (.leaf (false))
          (.cond ((tr39 x0).pre)
           (.cond ((tr42 (F39 x0) (F39 x0)).pre)
            (.cond (!F42 (F39 x0) (F39 x0))
             (.leaf (false))
             (.leaf (true)))
            .non)
           .non)))
        .non)
       .non)
      .non)
     .non))
   .non)
theorem ev8 (x0 : Vw) : evalF (env tab34 exts (fun _ => [])) 0 Tryz.f8 [.agg (enc .vw x0)] = (tr8 x0).toOpt fr8 := by kernel_rfl
noncomputable def F8 (x0 : Vw) : Bool := (tr8 x0).val

/-! impl.RenderShared -/
noncomputable def fr49 : (ByteArray × Bool) → CRes := (fun (x : ByteArray × Bool) => CRes.plain (.tup [.str x.1, .bool x.2]))
noncomputable def fw49 : (ByteArray × Bool) → CRes := (fun (x : ByteArray × Bool) => CRes.plain (.tup [.str x.1, .bool x.2]))
noncomputable def tr49 (x0 : Vw) (x1 : Int) (x2 : Int) : Tr (ByteArray × Bool) :=
  (.cond (!F81 x1 1 12)
   (.leaf (({ data := #[] : ByteArray }, false)))
   (.cond (!F81 x2 1 8)
    (.leaf (({ data := #[] : ByteArray }, false)))
    (.cond ((tr47 x0).pre)
     (.leaf (((F47 x0).fst, (F47 x0).snd)))
     .non)))
theorem ev49 (x0 : Vw) (x1 : Int) (x2 : Int) : evalF (env tab34 exts (fun _ => [])) 0 Tryz.f49 [.agg (enc .vw x0), .int .i64 x1, .int .i64 x2] = (tr49 x0 x1 x2).toOpt fr49 := by kernel_rfl
noncomputable def F49 (x0 : Vw) (x1 : Int) (x2 : Int) : ByteArray × Bool := (tr49 x0 x1 x2).val

end Go.Proofs.YtponnbnebjhepaaGreat

namespace Go.Proofs.YtponnbnebjhepaaGreat
open Go Go.Ev
set_option maxRecDepth 100000

noncomputable def ent49 : List PV → Option (Bool × CRes)
  | [.agg [.slice .nd x0_0, .f32 x0_1, .f32 x0_2, .f32 x0_3, .f32 x0_4, .f32 x0_5, .f32 x0_6, .f32 x0_7, .int .i64 x0_8, .int .i64 x0_9, .f32 x0_10, .f32 x0_11, .f32 x0_12, .f32 x0_13, .f32 x0_14, .int .i64 x0_15], .int .i64 x1, .int .i64 x2] => some ((tr49 (⟨⟨x0_0⟩, ⟨⟨x0_1, x0_2, x0_3⟩, ⟨x0_4, x0_5, x0_6⟩, x0_7, x0_8, x0_9⟩, ⟨x0_10, x0_11, x0_12⟩, ⟨x0_13, x0_14, x0_15⟩⟩ : Vw) x1 x2).pre, fw49 (F49 (⟨⟨x0_0⟩, ⟨⟨x0_1, x0_2, x0_3⟩, ⟨x0_4, x0_5, x0_6⟩, x0_7, x0_8, x0_9⟩, ⟨x0_10, x0_11, x0_12⟩, ⟨x0_13, x0_14, x0_15⟩⟩ : Vw) x1 x2))
  | _ => none
theorem ok49 : EntSound Tryz.prog 49 ent49 := by
  refine entryW tab34_ok exts_ok (fun _ => []) (fn := Tryz.f49) (by kernel_rfl) (by kernel_rfl) (fun args c h => ?_)
  unfold ent49 at h
  split at h <;> first | (cases h; done) | skip
  rename_i x0_0 x0_1 x0_2 x0_3 x0_4 x0_5 x0_6 x0_7 x0_8 x0_9 x0_10 x0_11 x0_12 x0_13 x0_14 x0_15 x1 x2
  simp only [Option.some.injEq, Prod.mk.injEq] at h
  obtain ⟨hp, rfl⟩ := h
  exact ⟨0, _, (ev49 (⟨⟨x0_0⟩, ⟨⟨x0_1, x0_2, x0_3⟩, ⟨x0_4, x0_5, x0_6⟩, x0_7, x0_8, x0_9⟩, ⟨x0_10, x0_11, x0_12⟩, ⟨x0_13, x0_14, x0_15⟩⟩ : Vw) x1 x2).trans (Tr.ok _ _ hp), CLe.refl _⟩

noncomputable def tab35 : Tab := ((49, ent49) :: tab34)
theorem tab35_ok : TSound Tryz.prog (tabT tab35) := (tab_cons tab34_ok ok49)

end Go.Proofs.YtponnbnebjhepaaGreat

namespace Go.Proofs.YtponnbnebjhepaaGreat
open Go Go.Ev
set_option maxRecDepth 100000

/-! laws.FnExactRenderShared -/
noncomputable def fr9 : (Bool) → CRes := (fun (x : Bool) => CRes.plain (.bool x))
noncomputable def fw9 : (Bool) → CRes := (fun (x : Bool) => CRes.plain (.bool x))
noncomputable def tr9 (x0 : Vw) (x1 : Int) (x2 : Int) : Tr (Bool) :=
  (.cond ((tr37 x0 1048576).pre)
   (.cond (decide (F37 x0 1048576 < 0))
    (.leaf (true))
    (.cond ((tr39 x0).pre)
     (.cond ((tr48 (F39 x0) x1 x2).pre)
      (.cond ((tr39 x0).pre)
       (.cond ((tr49 (F39 x0) x1 x2).pre)
        (.cond (!sameStr (F49 (F39 x0) x1 x2).fst (F48 (F39 x0) x1 x2).fst)
         (.leaf (false))
         (.cond (!(F49 (F39 x0) x1 x2).snd == (F48 (F39 x0) x1 x2).snd)
          (.leaf (false))
          (.cond ((tr39 x0).pre)
           (.cond ((tr42 (F39 x0) (F39 x0)).pre)
            (.cond (!F42 (F39 x0) (F39 x0))
             (.leaf (false))
             (.leaf (true)))
            .non)
           .non)))
        .non)
       .non)
      .non)
     .non))
   .non)
theorem ev9 (x0 : Vw) (x1 : Int) (x2 : Int) : evalF (env tab35 exts (fun _ => [])) 0 Tryz.f9 [.agg (enc .vw x0), .int .i64 x1, .int .i64 x2] = (tr9 x0 x1 x2).toOpt fr9 := by kernel_rfl
noncomputable def F9 (x0 : Vw) (x1 : Int) (x2 : Int) : Bool := (tr9 x0 x1 x2).val

end Go.Proofs.YtponnbnebjhepaaGreat

namespace Go.Proofs.YtponnbnebjhepaaGreat
open Go Go.Ev Ieee
set_option maxRecDepth 100000

/-! A direction of length one has no NaN in it. -/
theorem encode_num (s : Bool) (m : Nat) (e : Int) : (FloatKind.f32.decode (FloatKind.f32.encode (.number s m e))).isNaN = false := by
  show (Ieee.single.read (Ieee.single.nearest s m e)).isNaN = false
  have hi : Ieee.single.infRung = 2139095040 := by decide
  have hs : Ieee.single.signWeight = 2147483648 := by decide
  have key : ∃ r, r ≤ 2139095040 ∧ Ieee.single.nearest s m e = Ieee.single.word s r := by
    unfold Format.nearest
    split
    · exact ⟨0, by omega, rfl⟩
    · exact ⟨_, by rw [hi]; exact Nat.min_le_right _ _, rfl⟩
  obtain ⟨r, hr, e⟩ := key
  rw [e]
  unfold Format.read
  simp only [(read_word Ieee.single s r (by rw [hs]; omega)).2]
  split
  · rfl
  · split
    · rfl
    · split
      · rfl
      · rename_i h1 h2 h3; rw [hi] at h2 h3; omega
theorem mul_Num {x y : Nat} (hx : F121 x = true) (hy : F121 y = true) : Num (fop .mul .f32 x y) := by
  obtain ⟨s, m, e, h1⟩ := fin_num hx
  obtain ⟨t, n, j, h2⟩ := fin_num hy
  rw [mul_res, h1, h2]
  show (FloatKind.f32.decode (canon .f32 (FloatKind.f32.encode (.number (s ^^ t) (m * n) (e + j))))).isNaN = false
  rw [isNaN_canon, encode_num]
/-- An infinity above, or no number at all. -/
def Off (x : Nat) : Prop := x = 2139095040 ∨ x = nanB .f32
/-- What is not below nought, or no number at all. -/
def Pos (x : Nat) : Prop := (∃ m e, FloatKind.f32.decode x = .number false m e) ∨ Off x
theorem off_dec {x : Nat} (h : Off x) : FloatKind.f32.decode x = .infinity false ∨ (FloatKind.f32.decode x).isNaN = true := by
  rcases h with rfl | rfl
  · exact .inl (by decide +kernel)
  · exact .inr (decode_nanB _)
theorem res_inf : res32 (some (.infinity false)) = 2139095040 := by decide +kernel
theorem res_none : res32 none = nanB .f32 := rfl
theorem square_off {x : Nat} (h : F121 x = false) : Off (fop .mul .f32 x x) := by
  rw [mul_res]
  cases hd : FloatKind.f32.decode x with
  | nan s t => exact .inr rfl
  | infinity s =>
    refine .inl ?_
    have : (Datum.infinity s).product (Datum.infinity s) = some (.infinity false) := by cases s <;> rfl
    rw [this, res_inf]
  | number s m e =>
    exfalso
    unfold F121 tr121 at h
    simp only [Tr.val] at h
    rw [sub_res, hd] at h
    have hsum : ∃ t, (Datum.number s m e).sum (Datum.number s m e).opposite = some (.number t 0 e) := by
      refine ⟨s && !s, ?_⟩
      unfold Datum.sum Datum.opposite
      have hz : signed s m (e - min e e).toNat + signed (!s) m (e - min e e).toNat = 0 := by
        unfold signed
        cases s
        · simp only [Bool.false_eq_true, if_false, Bool.not_false, if_true]; omega
        · simp only [if_true, Bool.not_true, Bool.false_eq_true, if_false]; omega
      simp only [Int.min_self] at hz ⊢
      rw [hz]
      rfl
    obtain ⟨t, ht⟩ := hsum
    rw [ht] at h
    have hz := zw_encode t e
    rw [show res32 (some (.number t 0 e)) = canon .f32 (FloatKind.f32.encode (.number t 0 e)) from rfl] at h
    rw [fcmp_eq] at h
    rcases hz with hz | hz <;> rw [hz] at h <;> exact absurd h (by decide +kernel)
theorem square_pos (x : Nat) : Pos (fop .mul .f32 x x) := by
  cases h : F121 x
  · exact .inr (square_off h)
  · obtain ⟨s, m, e, hd⟩ := fin_num h
    rw [mul_res, hd]
    have : (Datum.number s m e).product (Datum.number s m e) = some (.number false (m * m) (e + e)) := by
      simp [Datum.product]
    rw [this]
    have hn := encode_num false (m * m) (e + e)
    show Pos (canon .f32 (FloatKind.f32.encode (.number false (m * m) (e + e))))
    rw [canon_of_not hn]
    have hi : Ieee.single.infRung = 2139095040 := by decide
    have key : FloatKind.f32.encode (.number false (m * m) (e + e)) ≤ 2139095040 := by
      show Ieee.single.nearest false (m * m) (e + e) ≤ _
      unfold Format.nearest
      split
      · decide
      · simp only [Format.word, Bool.false_eq_true, if_false]; rw [hi]; exact Nat.min_le_right _ _
    generalize FloatKind.f32.encode (.number false (m * m) (e + e)) = w at hn key
    cases hw : FloatKind.f32.decode w with
    | nan s t => rw [hw] at hn; cases hn
    | infinity s => exact .inr (.inl (by rcases inf_word (by omega) hw with h | h <;> omega))
    | number s n j =>
      have := neg_free (by omega) hw
      subst this
      exact .inl ⟨n, j, hw⟩
theorem off_add {a b : Nat} (ha : Off a) (hb : Pos b) : Off (fop .add .f32 a b) := by
  rw [add_res]
  rcases off_dec ha with h | h
  · rw [h]
    rcases hb with ⟨m, e, hb⟩ | hb
    · rw [hb]; exact .inl res_inf
    · rcases off_dec hb with hb | hb
      · rw [hb]; exact .inl res_inf
      · rw [sum_nan_right hb]; exact .inr rfl
  · rw [sum_nan_left h]; exact .inr rfl
theorem add_off {a b : Nat} (ha : Pos a) (hb : Off b) : Off (fop .add .f32 a b) := by
  rw [add_res]
  rcases off_dec hb with h | h
  · rw [h]
    rcases ha with ⟨m, e, ha⟩ | ha
    · rw [ha]; exact .inl res_inf
    · rcases off_dec ha with ha | ha
      · rw [ha]; exact .inl res_inf
      · rw [sum_nan_left ha]; exact .inr rfl
  · rw [sum_nan_right h]; exact .inr rfl
theorem add_pos {a b : Nat} (ha : Pos a) (hb : Pos b) : Pos (fop .add .f32 a b) := by
  rcases ha with ⟨m, e, ha⟩ | ha
  · rcases hb with ⟨n, j, hb⟩ | hb
    · rw [add_res, ha, hb]
      have : ∃ k i, (Datum.number false m e).sum (Datum.number false n j) = some (.number false k i) := by
        refine ⟨(signed false m (e - min e j).toNat + signed false n (j - min e j).toNat).natAbs, min e j, ?_⟩
        · unfold Datum.sum
          have h0 : 0 ≤ signed false m (e - min e j).toNat + signed false n (j - min e j).toNat := by
            unfold signed; rw [if_neg (by decide), if_neg (by decide)]
            generalize m <<< (e - min e j).toNat = z1
            generalize n <<< (j - min e j).toNat = z2
            omega
          simp only
          split
          · rfl
          · rw [decide_eq_false (by omega)]
      obtain ⟨k, i, hk⟩ := this
      rw [hk]
      have hn := encode_num false k i
      show Pos (canon .f32 (FloatKind.f32.encode (.number false k i)))
      rw [canon_of_not hn]
      have hi : Ieee.single.infRung = 2139095040 := by decide
      have key : FloatKind.f32.encode (.number false k i) ≤ 2139095040 := by
        show Ieee.single.nearest false k i ≤ _
        unfold Format.nearest
        split
        · decide
        · simp only [Format.word, Bool.false_eq_true, if_false]; rw [hi]; exact Nat.min_le_right _ _
      generalize FloatKind.f32.encode (.number false k i) = w at hn key
      cases hw : FloatKind.f32.decode w with
      | nan s t => rw [hw] at hn; cases hn
      | infinity s => exact .inr (.inl (by rcases inf_word (by omega) hw with h | h <;> omega))
      | number s n j =>
        have := neg_free (by omega) hw
        subst this
        exact .inl ⟨n, j, hw⟩
    · exact .inr (add_off (.inl ⟨m, e, ha⟩) hb)
  · exact .inr (off_add ha hb)
theorem root_off {x : Nat} (h : Off x) : F121 (F269 x) = false := by
  unfold F269 tr269 F278 tr278 F121 tr121
  simp only [Tr.val, narrow_sqrt, cond_true]
  rw [f2f_eq, fsqrt_eq, fop_eq, fcmp_eq]
  rcases h with rfl | rfl <;> decide +kernel
theorem len_fin {p : V3} (h : F121 (F248 p) = true) : F121 p.x = true ∧ F121 p.y = true ∧ F121 p.z = true := by
  have key : ∀ {x}, Off x → F166 p p = x → False := by
    intro x hx e
    unfold F248 tr248 at h
    simp only [Tr.val] at h
    rw [e, root_off hx] at h
    cases h
  have e : F166 p p = fop .add .f32 (fop .add .f32 (fop .mul .f32 p.x p.x) (fop .mul .f32 p.y p.y)) (fop .mul .f32 p.z p.z) := rfl
  refine ⟨?_, ?_, ?_⟩
  · cases hx : F121 p.x
    · exact (key (off_add (off_add (square_off hx) (square_pos _)) (square_pos _)) e).elim
    · rfl
  · cases hy : F121 p.y
    · exact (key (off_add (add_off (square_pos _) (square_off hy)) (square_pos _)) e).elim
    · rfl
  · cases hz : F121 p.z
    · exact (key (add_off (add_pos (square_pos _) (square_pos _)) (square_off hz)) e).elim
    · rfl
theorem unit_Num (p : V3) : Num (F167 p).x ∧ Num (F167 p).y ∧ Num (F167 p).z := by
  have n0 : Num 0 := by unfold Num; decide +kernel
  unfold F167 tr167
  simp only [Tr.val]
  rw [fin_all _ (by simp)]
  simp only [List.all_cons, List.all_nil, Bool.and_true]
  cases fcmp .eql .f32 (F248 p) 0
  · cases h1 : F121 (F248 p)
    · exact ⟨n0, n0, n0⟩
    · cases h2 : F121 (fop .quo .f32 1065353216 (F248 p))
      · exact ⟨n0, n0, n0⟩
      · obtain ⟨a, b, c⟩ := len_fin h1
        exact ⟨mul_Num a h2, mul_Num b h2, mul_Num c h2⟩
  · exact ⟨n0, n0, n0⟩
theorem Num_self {x : Nat} (h : Num x) : fcmp .eql .f32 x x = true := by
  have : fordR .f32 x x = some .eq := by
    rw [ord_eq]
    unfold Num at h
    cases hd : FloatKind.f32.decode x with
    | nan s t => rw [hd] at h; cases h
    | infinity s => show some (compare s.toNat s.toNat) = _; cases s <;> rfl
    | number s n e => show some (compare _ _) = _; rw [Int.compare_eq_eq.2 rfl]
  rw [fcmp_eq]
  simp only [fcmpR, this]
  rfl
theorem neq_eql (x y : Nat) : fcmp .neq .f32 x y = !fcmp .eql .f32 x y := by
  rw [fcmp_eq]; simp only [fcmpR]; rfl
theorem some_way {u : V3} (h : Num u.x ∧ Num u.y ∧ Num u.z) : F233 u = !F240 u := by
  unfold F233 tr233 F240 tr240
  simp only [Tr.val, Num_self h.1, Num_self h.2.1, Num_self h.2.2, cond_true, neq_eql]
  cases fcmp .eql .f32 u.x 0 <;> cases fcmp .eql .f32 u.y 0 <;> cases fcmp .eql .f32 u.z 0 <;> rfl

/-! Views that are valid. -/
theorem cam_ok (c : Cam) : F149 c = F160 c := by
  have h1 : F233 (F232 c).2.2 = !F240 (F239 c).2.2 := by
    rw [basis_eq]
    exact some_way (unit_Num _)
  have h2 : F233 (F232 c).1 = !F240 (F239 c).1 := by
    rw [basis_eq]
    exact some_way (unit_Num _)
  have e1 : F78 c.w 1 12 = F81 c.w 1 12 := rfl
  have e2 : F78 c.h 1 12 = F81 c.h 1 12 := rfl
  have e3 : F61 c.wide = F67 c.wide := rfl
  unfold F149 tr149 F160 tr160
  simp only [Tr.val]
  rw [h1, h2, place_ok1, place_ok1, e1, e2, e3]
  generalize F81 c.w 1 12 = b1
  generalize F81 c.h 1 12 = b2
  generalize F67 c.wide = b3
  generalize F138 c.src = b4
  generalize F138 c.to = b5
  generalize F240 (F239 c).2.2 = b6
  generalize F240 (F239 c).1 = b7
  cases b1 <;> cases b2 <;> cases b3 <;> cases b4 <;> cases b5 <;> cases b6 <;> cases b7 <;> rfl
theorem view_ok (v : Vw) : F85 v = F90 v := by
  have e1 : F66 v.shape = F60 v.shape := rfl
  have e2 : F150 v.march = F161 v.march := rfl
  unfold F85 tr85 F90 tr90
  simp only [Tr.val]
  rw [cam_ok, place_ok1, e1, e2]
  generalize F60 v.shape = b1
  generalize F160 v.cam = b2
  generalize F138 v.light = b3
  generalize F161 v.march = b4
  cases b1 <;> cases b2 <;> cases b3 <;> cases b4 <;> rfl
theorem view_facts {v : Vw} (h : F85 v = true) : okView v = true ∧ F161 v.march = true ∧ F160 v.cam = true := by
  rw [view_ok] at h
  unfold F90 tr90 at h
  simp only [Tr.val] at h
  cases h1 : F66 v.shape <;> rw [h1] at h
  · cases h
  · cases h2 : F160 v.cam <;> rw [h2] at h
    · cases h
    · cases h3 : F161 v.march <;> rw [h3] at h
      · cases h
      · obtain ⟨a, b⟩ := mar_steps h3
        refine ⟨?_, rfl, rfl⟩
        unfold okView
        rw [show F60 v.shape = true from h1, decide_eq_true a, decide_eq_true b]; rfl

end Go.Proofs.YtponnbnebjhepaaGreat

namespace Go.Proofs.YtponnbnebjhepaaGreat
open Go Go.Ev Ieee
set_option maxRecDepth 100000

/-! What the laws do beside the two programs. -/
def okLen (s : Shp) : Prop := s.nodes.length ≤ 35184372088832 ∧ ∀ n ∈ s.nodes, n.v.length ≤ 35184372088832

theorem cmp64_self (x : Nat) : fcmp .neq .f64 x x = !fcmp .eql .f64 x x := by rw [fcmp_eq]; simp only [fcmpR]; rfl
theorem F41_refl (x : Nat) : F41 x x = true := by
  unfold F41 tr41
  simp only [Tr.val, cmp64_self]
  cases h : fcmp .eql .f64 x x
  · rfl
  · cases h0 : fcmp .eql .f64 x 0
    · rfl
    · simp only [beq_self_eq_true, Bool.not_true, cond_false, cond_true]
theorem F71_refl (p : V3) : F71 p p = true := by
  unfold F71 tr71
  simp only [Tr.val, F41_refl]; rfl
theorem F93_refl (c : Cam) : F93 c c = true := by
  unfold F93 tr93
  simp only [Tr.val, F41_refl, F71_refl, bne_self_eq_false]; rfl
theorem F94_refl (m : Mar) : F94 m m = true := by
  unfold F94 tr94
  simp only [Tr.val, F41_refl, bne_self_eq_false]; rfl
theorem F198_refl (l : List Nat) : F198 l l = true := by
  unfold F198
  exact eqL_refl (p := fun x y => F41 (f2f .f32 x .f64) (f2f .f32 y .f64)) (fun x => F41_refl _) _ _
theorem P70_ok {s : Shp} (h : okLen s) : P70 s.nodes s.nodes = true := by
  unfold P70
  rw [Bool.and_eq_true, decide_eq_true_eq, List.all_eq_true]
  refine ⟨by have := h.1; omega, fun n hn => decide_eq_true ?_⟩
  have := h.2 n hn
  omega
theorem F70_refl {s : Shp} (h : okLen s) : F70 s.nodes s.nodes = true := by
  unfold F70 eqL
  simp only [decide_true, Bool.true_and, List.all_eq_true, List.mem_range]
  intro j hj
  have hm : s.nodes.getD j ET.nd.dflt ∈ s.nodes := by
    rw [List.getD_eq_getElem?_getD, List.getElem?_eq_getElem hj]
    exact List.getElem_mem hj
  have hp : P198 (s.nodes.getD j ET.nd.dflt).v (s.nodes.getD j ET.nd.dflt).v = true := by
    have := h.2 _ hm
    exact decide_eq_true (by omega)
  unfold F130 tr130
  simp only [Tr.val, bne_self_eq_false, hp, F198_refl, cond_true, cond_false, Bool.not_true]
theorem same_shape {s : Shp} (h : okLen s) : (tr20 s s).pre = true ∧ F20 s s = true := by
  have h1 := P70_ok h
  have h2 := F70_refl h
  unfold F20 tr20
  simp only [Tr.pre, Tr.val, h1, h2, Bool.not_true, cond_true, cond_false]
  exact ⟨trivial, trivial⟩
theorem same_view {v : Vw} (h : okLen v.shape) : (tr42 v v).pre = true ∧ F42 v v = true := by
  obtain ⟨h1, h2⟩ := same_shape h
  unfold F42 tr42
  simp only [Tr.pre, Tr.val, h1, h2, F93_refl, F71_refl, F94_refl, Bool.not_true, cond_true, cond_false]
  exact ⟨trivial, trivial⟩

theorem P59_ok {s : Shp} (h : okLen s) : P59 s.nodes 1048576 = true := by
  unfold P59
  simp only [Bool.and_eq_true, decide_eq_true_eq, List.all_eq_true]
  refine ⟨⟨⟨by have := h.1; omega, fun n hn => ?_⟩, by decide⟩, by decide⟩
  have := h.2 n hn
  omega
theorem size_pre {s : Shp} (h : okLen s) : (tr13 s 1048576).pre = true := by
  have hp := P59_ok h
  unfold tr13
  simp only [Tr.pre, hp, cond_true]
  cases decide (F59 s.nodes 1048576 < 0) <;> rfl
theorem size_val {s : Shp} (h : okLen s) : F13 s 1048576 = if F59 s.nodes 1048576 < 0 then -1 else F59 s.nodes 1048576 := by
  have hp := P59_ok h
  unfold F13 tr13
  simp only [Tr.val, hp, cond_true]
  by_cases hl : F59 s.nodes 1048576 < 0
  · rw [decide_eq_true hl, if_pos hl]; rfl
  · rw [decide_eq_false hl, if_neg hl]; rfl
theorem vsize_pre {v : Vw} (h : okLen v.shape) : (tr37 v 1048576).pre = true := by
  unfold tr37
  simp only [Tr.pre, size_pre h, cond_true]
  cases decide (F13 v.shape 1048576 < 0) <;> rfl
/-- What is small enough: the room that a law leaves. -/
theorem small_of {v : Vw} (h : okLen v.shape) (hs : decide (F37 v 1048576 < 0) = false) : v.shape.nodes.length ≤ 1048576 ∧ ∀ n ∈ v.shape.nodes, n.v.length ≤ 1048576 := by
  have hv : F37 v 1048576 = if F13 v.shape 1048576 < 0 then -1 else F13 v.shape 1048576 := by
    unfold F37 tr37
    simp only [Tr.val, size_pre h, cond_true]
    by_cases hl : F13 v.shape 1048576 < 0
    · rw [decide_eq_true hl, if_pos hl]; rfl
    · rw [decide_eq_false hl, if_neg hl]; rfl
  have h0 : 0 ≤ F59 v.shape.nodes 1048576 := by
    have h1 : ¬ F37 v 1048576 < 0 := of_decide_eq_false hs
    rw [hv, size_val h] at h1
    by_cases hc : F59 v.shape.nodes 1048576 < 0
    · rw [if_pos hc] at h1; exact absurd (by decide) h1
    · omega
  obtain ⟨a, b⟩ := F59_bound (by omega) h0
  refine ⟨by omega, fun n hn => ?_⟩
  have := b n hn
  omega
theorem copy_view {v : Vw} (h : v.shape.nodes.length ≤ 1048576 ∧ ∀ n ∈ v.shape.nodes, n.v.length ≤ 1048576) : (tr39 v).pre = true ∧ F39 v = v := by
  have hp : P64 v.shape.nodes = true := by
    unfold P64 P190
    have hl : limB = 140737488355328 := rfl
    simp only [Bool.and_eq_true, decide_eq_true_eq, List.all_eq_true, hl]
    refine ⟨by have := h.1; omega, fun n hn => ?_⟩
    have := h.2 n hn
    omega
  have h16 : (tr16 v.shape).pre = true ∧ F16 v.shape = v.shape.nodes := by
    unfold F16 tr16
    simp only [Tr.pre, Tr.val, hp, cond_true]
    exact ⟨trivial, List.take_length⟩
  unfold F39 tr39
  simp only [Tr.pre, Tr.val, h16.1, h16.2, cond_true, List.take_length]
  exact ⟨trivial, rfl⟩

/-! The two programs' answers. -/
theorem range_eq (a b c : Int) : F78 a b c = F81 a b c := rfl
theorem range_iff {a b c : Int} : F81 a b c = true ↔ b ≤ a ∧ a ≤ c := by
  unfold F81 tr81
  simp only [Tr.val]
  by_cases h : a ≥ b
  · rw [decide_eq_true h, cond_true, decide_eq_true_eq]; omega
  · rw [decide_eq_false h, cond_false]; constructor
    · intro h; cases h
    · intro h; omega

theorem shadeAt_pre (v : Vw) (x y : Int) : (tr38n v x y).pre = true ∧ (tr40 v x y).pre = true := by
  unfold tr38n tr40
  simp only [Tr.pre]
  rw [← view_ok]
  cases h : F85 v
  · exact ⟨rfl, rfl⟩
  · obtain ⟨h1, h2, h3⟩ := view_facts h
    rw [pre87 h1, pre92 h1]
    cases F86 v.cam x y <;> cases F91 v.cam x y <;> exact ⟨rfl, rfl⟩
theorem pixel_ok {c : Cam} (h : F160 c = true) (x y : Int) : F86 c x y = F91 c x y := by
  unfold F86 tr86 F91 tr91
  simp only [Tr.val, h, cond_true]
  rfl
theorem shadeAt_eq (v : Vw) (x y : Int) : F38n v x y = F40 v x y := by
  unfold F38n tr38n F40 tr40
  simp only [Tr.val]
  rw [← view_ok]
  cases h : F85 v
  · rfl
  · obtain ⟨h1, h2, h3⟩ := view_facts h
    rw [pre87 h1, pre92 h1, pixel_ok h3, shade_eq h1 h2]

theorem F6_ok {v : Vw} (h : okLen v.shape) (x y : Int) : (tr6 v x y).pre = true ∧ F6 v x y = true := by
  unfold F6 tr6
  simp only [Tr.pre, Tr.val, vsize_pre h, cond_true]
  cases hs : decide (F37 v 1048576 < 0)
  · obtain ⟨c1, c2⟩ := copy_view (small_of h hs)
    obtain ⟨d1, d2⟩ := shadeAt_pre v x y
    obtain ⟨s1, s2⟩ := same_view h
    simp only [c1, c2, d1, d2, s1, s2, shadeAt_eq, F41_refl, cond_true, cond_false, Bool.not_true]
    cases (F40 v x y).2 <;> exact ⟨rfl, rfl⟩
  · exact ⟨rfl, rfl⟩

theorem pix_eq {v : Vw} (h : okView v = true) (hm : F161 v.march = true) : pixS v = pixI v := by
  funext x y
  unfold pixS pixI
  rw [shade_eq h hm, F179_180]
theorem pic_eq {v : Vw} (h : okView v = true) (hm : F161 v.march = true) (t : Tl) : F104 v t = F107 v t := by
  unfold F104 F107
  rw [pix_eq h hm]
theorem cam_size {c : Cam} (h : F160 c = true) : (1 ≤ c.w ∧ c.w ≤ 12) ∧ 1 ≤ c.h ∧ c.h ≤ 12 := by
  unfold F160 tr160 at h
  simp only [Tr.val] at h
  cases h1 : F81 c.w 1 12 <;> rw [h1] at h
  · cases h
  · cases h2 : F81 c.h 1 12 <;> rw [h2] at h
    · cases h
    · exact ⟨range_iff.1 h1, range_iff.1 h2⟩
theorem tile_eq {c : Cam} (h : F160 c = true) (t : Tl) : F105 c t = F106 c t := by
  unfold F105 tr105 F106 tr106
  simp only [Tr.val, h, cond_true, range_eq]
  unfold F86 tr86
  simp only [Tr.val, range_eq]
  cases F81 t.x 0 (IntKind.i64.wrap (c.w - 1)) <;> cases F81 t.y 0 (IntKind.i64.wrap (c.h - 1)) <;> cases F81 t.w 1 (IntKind.i64.wrap (c.w - t.x)) <;> cases F81 t.h 1 (IntKind.i64.wrap (c.h - t.y)) <;> rfl
theorem tile_ok {c : Cam} (h : F160 c = true) {t : Tl} (ht : F106 c t = true) : okTile t = true := by
  obtain ⟨⟨w1, w2⟩, h1, h2⟩ := cam_size h
  unfold F106 tr106 at ht
  simp only [Tr.val, h, cond_true] at ht
  cases e1 : F81 t.x 0 (IntKind.i64.wrap (c.w - 1)) <;> rw [e1] at ht
  · cases ht
  · cases e2 : F81 t.y 0 (IntKind.i64.wrap (c.h - 1)) <;> rw [e2] at ht
    · cases ht
    · cases e3 : F81 t.w 1 (IntKind.i64.wrap (c.w - t.x)) <;> rw [e3] at ht
      · cases ht
      · have e4 : F81 t.h 1 (IntKind.i64.wrap (c.h - t.y)) = true := ht
        have k1 := range_iff.1 e1
        have k2 := range_iff.1 e2
        rw [wrap_near (by omega) (by omega)] at k1 k2
        have k3 := range_iff.1 e3
        have k4 := range_iff.1 e4
        rw [wrap_near (by omega) (by omega)] at k3 k4
        unfold okTile
        simp only [Bool.and_eq_true, decide_eq_true_eq]
        omega

theorem tileOf_pre (v : Vw) (t : Tl) : (tr50 v t).pre = true ∧ (tr52 v t).pre = true := by
  unfold tr50 tr52
  simp only [Tr.pre]
  rw [← view_ok]
  cases h : F85 v
  · exact ⟨rfl, rfl⟩
  · obtain ⟨h1, h2, h3⟩ := view_facts h
    rw [tile_eq h3]
    cases ht : F106 v.cam t
    · exact ⟨rfl, rfl⟩
    · have p1 : P104 v t = true := by unfold P104; rw [h1, tile_ok h3 ht]; rfl
      have p2 : P107 v t = true := by unfold P107; rw [h1, tile_ok h3 ht]; rfl
      rw [p1, p2]
      exact ⟨rfl, rfl⟩
theorem tileOf_eq (v : Vw) (t : Tl) : F50 v t = F52 v t := by
  unfold F50 tr50 F52 tr52
  simp only [Tr.val]
  rw [← view_ok]
  cases h : F85 v
  · rfl
  · obtain ⟨h1, h2, h3⟩ := view_facts h
    rw [tile_eq h3]
    cases ht : F106 v.cam t
    · rfl
    · have p1 : P104 v t = true := by unfold P104; rw [h1, tile_ok h3 ht]; rfl
      have p2 : P107 v t = true := by unfold P107; rw [h1, tile_ok h3 ht]; rfl
      rw [p1, p2, pic_eq h1 h2]
theorem whole_tile {c : Cam} (h : F160 c = true) : F106 c ⟨0, 0, c.w, c.h⟩ = true := by
  obtain ⟨⟨w1, w2⟩, h1, h2⟩ := cam_size h
  have e1 : F81 0 0 (IntKind.i64.wrap (c.w - 1)) = true := by rw [wrap_near (by omega) (by omega)]; exact range_iff.2 ⟨by omega, by omega⟩
  have e2 : F81 0 0 (IntKind.i64.wrap (c.h - 1)) = true := by rw [wrap_near (by omega) (by omega)]; exact range_iff.2 ⟨by omega, by omega⟩
  have e3 : F81 c.w 1 (IntKind.i64.wrap (c.w - 0)) = true := by rw [wrap_near (by omega) (by omega)]; exact range_iff.2 ⟨by omega, by omega⟩
  have e4 : F81 c.h 1 (IntKind.i64.wrap (c.h - 0)) = true := by rw [wrap_near (by omega) (by omega)]; exact range_iff.2 ⟨by omega, by omega⟩
  unfold F106 tr106
  simp only [Tr.val, h, e1, e2, e3, e4, cond_true]
theorem view_pre (v : Vw) : (tr46 v).pre = true ∧ (tr47 v).pre = true := by
  refine ⟨?_, ?_⟩
  · unfold tr46
    simp only [Tr.pre]
    cases h : F85 v
    · rfl
    · obtain ⟨h1, h2, h3⟩ := view_facts h
      have p1 : P104 v (F103 v.cam) = true := by unfold P104; rw [h1, show F103 v.cam = ⟨0, 0, v.cam.w, v.cam.h⟩ from rfl, tile_ok h3 (whole_tile h3)]; rfl
      rw [p1]; rfl
  · unfold tr47
    simp only [Tr.pre, (tileOf_pre v _).2, cond_true]
theorem viewOf_eq (v : Vw) : F46 v = F47 v := by
  have e : F47 v = F52 v ⟨0, 0, v.cam.w, v.cam.h⟩ := by
    unfold F47 tr47
    simp only [Tr.val, (tileOf_pre v _).2, cond_true]
  rw [e]
  unfold F46 tr46 F52 tr52
  simp only [Tr.val]
  rw [← view_ok]
  cases h : F85 v
  · rfl
  · obtain ⟨h1, h2, h3⟩ := view_facts h
    have p1 : P104 v (F103 v.cam) = true := by unfold P104; rw [h1, show F103 v.cam = ⟨0, 0, v.cam.w, v.cam.h⟩ from rfl, tile_ok h3 (whole_tile h3)]; rfl
    have p2 : P107 v ⟨0, 0, v.cam.w, v.cam.h⟩ = true := by unfold P107; rw [h1, tile_ok h3 (whole_tile h3)]; rfl
    rw [p1, p2, whole_tile h3, show F103 v.cam = ⟨0, 0, v.cam.w, v.cam.h⟩ from rfl, pic_eq h1 h2]
    rfl
theorem shared_pre (v : Vw) (a b : Int) : (tr48 v a b).pre = true ∧ (tr49 v a b).pre = true := by
  have hv := view_pre v
  refine ⟨?_, ?_⟩
  · have h1 := hv.1
    unfold tr46 at h1
    unfold tr48
    simp only [Tr.pre] at h1 ⊢
    cases h : F85 v
    · rfl
    · rw [h] at h1
      simp only [Bool.not_true, cond_false] at h1 ⊢
      rw [h1]
      cases F78 a 1 12 <;> cases F78 b 1 8 <;> rfl
  · unfold tr49
    simp only [Tr.pre, hv.2, cond_true]
    cases F81 a 1 12 <;> cases F81 b 1 8 <;> rfl
theorem sharedOf_eq (v : Vw) (a b : Int) : F48 v a b = F49 v a b := by
  have hp := view_pre v
  have he := viewOf_eq v
  have e : F49 v a b = bif !F81 a 1 12 then (⟨#[]⟩, false) else bif !F81 b 1 8 then (⟨#[]⟩, false) else F47 v := by
    unfold F49 tr49
    simp only [Tr.val, hp.2, cond_true]
  rw [e, ← he]
  unfold F48 tr48 F46 tr46
  simp only [Tr.val, range_eq]
  cases F81 a 1 12 <;> cases F81 b 1 8 <;> cases F85 v <;> rfl

theorem sameStr_refl (s : ByteArray) : sameStr s s = true := by rw [sameStr_eq]; exact beq_self_eq_true _

theorem F8_ok {v : Vw} (h : okLen v.shape) : (tr8 v).pre = true ∧ F8 v = true := by
  unfold F8 tr8
  simp only [Tr.pre, Tr.val, vsize_pre h, cond_true]
  cases hs : decide (F37 v 1048576 < 0)
  · obtain ⟨c1, c2⟩ := copy_view (small_of h hs)
    obtain ⟨d1, d2⟩ := view_pre v
    obtain ⟨s1, s2⟩ := same_view h
    simp only [c1, c2, d1, d2, s1, s2, viewOf_eq, sameStr_refl, cond_true, cond_false, Bool.not_true]
    cases (F47 v).2 <;> exact ⟨rfl, rfl⟩
  · exact ⟨rfl, rfl⟩
theorem F9_ok {v : Vw} (h : okLen v.shape) (a b : Int) : (tr9 v a b).pre = true ∧ F9 v a b = true := by
  unfold F9 tr9
  simp only [Tr.pre, Tr.val, vsize_pre h, cond_true]
  cases hs : decide (F37 v 1048576 < 0)
  · obtain ⟨c1, c2⟩ := copy_view (small_of h hs)
    obtain ⟨d1, d2⟩ := shared_pre v a b
    obtain ⟨s1, s2⟩ := same_view h
    simp only [c1, c2, d1, d2, s1, s2, sharedOf_eq, sameStr_refl, cond_true, cond_false, Bool.not_true]
    cases (F49 v a b).2 <;> exact ⟨rfl, rfl⟩
  · exact ⟨rfl, rfl⟩
theorem F10_ok {v : Vw} (h : okLen v.shape) (t : Tl) : (tr10 v t).pre = true ∧ F10 v t = true := by
  unfold F10 tr10
  simp only [Tr.pre, Tr.val, vsize_pre h, cond_true]
  cases hs : decide (F37 v 1048576 < 0)
  · obtain ⟨c1, c2⟩ := copy_view (small_of h hs)
    obtain ⟨d1, d2⟩ := tileOf_pre v (F51 t)
    obtain ⟨s1, s2⟩ := same_view h
    simp only [c1, c2, d1, d2, s1, s2, tileOf_eq, sameStr_refl, cond_true, cond_false, Bool.not_true]
    cases (F52 v (F51 t)).2 <;> exact ⟨rfl, rfl⟩
  · exact ⟨rfl, rfl⟩

end Go.Proofs.YtponnbnebjhepaaGreat

namespace Go.Proofs.YtponnbnebjhepaaGreat
open Go Go.Ev
set_option maxRecDepth 100000

noncomputable def ent6 : List PV → Option (Bool × CRes)
  | [.agg [.slice .nd x0_0, .f32 x0_1, .f32 x0_2, .f32 x0_3, .f32 x0_4, .f32 x0_5, .f32 x0_6, .f32 x0_7, .int .i64 x0_8, .int .i64 x0_9, .f32 x0_10, .f32 x0_11, .f32 x0_12, .f32 x0_13, .f32 x0_14, .int .i64 x0_15], .int .i64 x1, .int .i64 x2] => some ((tr6 (⟨⟨x0_0⟩, ⟨⟨x0_1, x0_2, x0_3⟩, ⟨x0_4, x0_5, x0_6⟩, x0_7, x0_8, x0_9⟩, ⟨x0_10, x0_11, x0_12⟩, ⟨x0_13, x0_14, x0_15⟩⟩ : Vw) x1 x2).pre, fw6 (F6 (⟨⟨x0_0⟩, ⟨⟨x0_1, x0_2, x0_3⟩, ⟨x0_4, x0_5, x0_6⟩, x0_7, x0_8, x0_9⟩, ⟨x0_10, x0_11, x0_12⟩, ⟨x0_13, x0_14, x0_15⟩⟩ : Vw) x1 x2))
  | _ => none
theorem ok6 : EntSound Tryz.prog 6 ent6 := by
  refine entryW tab32_ok exts_ok (fun _ => []) (fn := Tryz.f6) (by kernel_rfl) (by kernel_rfl) (fun args c h => ?_)
  unfold ent6 at h
  split at h <;> first | (cases h; done) | skip
  rename_i x0_0 x0_1 x0_2 x0_3 x0_4 x0_5 x0_6 x0_7 x0_8 x0_9 x0_10 x0_11 x0_12 x0_13 x0_14 x0_15 x1 x2
  simp only [Option.some.injEq, Prod.mk.injEq] at h
  obtain ⟨hp, rfl⟩ := h
  exact ⟨0, _, (ev6 (⟨⟨x0_0⟩, ⟨⟨x0_1, x0_2, x0_3⟩, ⟨x0_4, x0_5, x0_6⟩, x0_7, x0_8, x0_9⟩, ⟨x0_10, x0_11, x0_12⟩, ⟨x0_13, x0_14, x0_15⟩⟩ : Vw) x1 x2).trans (Tr.ok _ _ hp), CLe.refl _⟩

noncomputable def ent8 : List PV → Option (Bool × CRes)
  | [.agg [.slice .nd x0_0, .f32 x0_1, .f32 x0_2, .f32 x0_3, .f32 x0_4, .f32 x0_5, .f32 x0_6, .f32 x0_7, .int .i64 x0_8, .int .i64 x0_9, .f32 x0_10, .f32 x0_11, .f32 x0_12, .f32 x0_13, .f32 x0_14, .int .i64 x0_15]] => some ((tr8 (⟨⟨x0_0⟩, ⟨⟨x0_1, x0_2, x0_3⟩, ⟨x0_4, x0_5, x0_6⟩, x0_7, x0_8, x0_9⟩, ⟨x0_10, x0_11, x0_12⟩, ⟨x0_13, x0_14, x0_15⟩⟩ : Vw)).pre, fw8 (F8 (⟨⟨x0_0⟩, ⟨⟨x0_1, x0_2, x0_3⟩, ⟨x0_4, x0_5, x0_6⟩, x0_7, x0_8, x0_9⟩, ⟨x0_10, x0_11, x0_12⟩, ⟨x0_13, x0_14, x0_15⟩⟩ : Vw)))
  | _ => none
theorem ok8 : EntSound Tryz.prog 8 ent8 := by
  refine entryW tab34_ok exts_ok (fun _ => []) (fn := Tryz.f8) (by kernel_rfl) (by kernel_rfl) (fun args c h => ?_)
  unfold ent8 at h
  split at h <;> first | (cases h; done) | skip
  rename_i x0_0 x0_1 x0_2 x0_3 x0_4 x0_5 x0_6 x0_7 x0_8 x0_9 x0_10 x0_11 x0_12 x0_13 x0_14 x0_15
  simp only [Option.some.injEq, Prod.mk.injEq] at h
  obtain ⟨hp, rfl⟩ := h
  exact ⟨0, _, (ev8 (⟨⟨x0_0⟩, ⟨⟨x0_1, x0_2, x0_3⟩, ⟨x0_4, x0_5, x0_6⟩, x0_7, x0_8, x0_9⟩, ⟨x0_10, x0_11, x0_12⟩, ⟨x0_13, x0_14, x0_15⟩⟩ : Vw)).trans (Tr.ok _ _ hp), CLe.refl _⟩

noncomputable def ent9 : List PV → Option (Bool × CRes)
  | [.agg [.slice .nd x0_0, .f32 x0_1, .f32 x0_2, .f32 x0_3, .f32 x0_4, .f32 x0_5, .f32 x0_6, .f32 x0_7, .int .i64 x0_8, .int .i64 x0_9, .f32 x0_10, .f32 x0_11, .f32 x0_12, .f32 x0_13, .f32 x0_14, .int .i64 x0_15], .int .i64 x1, .int .i64 x2] => some ((tr9 (⟨⟨x0_0⟩, ⟨⟨x0_1, x0_2, x0_3⟩, ⟨x0_4, x0_5, x0_6⟩, x0_7, x0_8, x0_9⟩, ⟨x0_10, x0_11, x0_12⟩, ⟨x0_13, x0_14, x0_15⟩⟩ : Vw) x1 x2).pre, fw9 (F9 (⟨⟨x0_0⟩, ⟨⟨x0_1, x0_2, x0_3⟩, ⟨x0_4, x0_5, x0_6⟩, x0_7, x0_8, x0_9⟩, ⟨x0_10, x0_11, x0_12⟩, ⟨x0_13, x0_14, x0_15⟩⟩ : Vw) x1 x2))
  | _ => none
theorem ok9 : EntSound Tryz.prog 9 ent9 := by
  refine entryW tab35_ok exts_ok (fun _ => []) (fn := Tryz.f9) (by kernel_rfl) (by kernel_rfl) (fun args c h => ?_)
  unfold ent9 at h
  split at h <;> first | (cases h; done) | skip
  rename_i x0_0 x0_1 x0_2 x0_3 x0_4 x0_5 x0_6 x0_7 x0_8 x0_9 x0_10 x0_11 x0_12 x0_13 x0_14 x0_15 x1 x2
  simp only [Option.some.injEq, Prod.mk.injEq] at h
  obtain ⟨hp, rfl⟩ := h
  exact ⟨0, _, (ev9 (⟨⟨x0_0⟩, ⟨⟨x0_1, x0_2, x0_3⟩, ⟨x0_4, x0_5, x0_6⟩, x0_7, x0_8, x0_9⟩, ⟨x0_10, x0_11, x0_12⟩, ⟨x0_13, x0_14, x0_15⟩⟩ : Vw) x1 x2).trans (Tr.ok _ _ hp), CLe.refl _⟩

noncomputable def ent10 : List PV → Option (Bool × CRes)
  | [.agg [.slice .nd x0_0, .f32 x0_1, .f32 x0_2, .f32 x0_3, .f32 x0_4, .f32 x0_5, .f32 x0_6, .f32 x0_7, .int .i64 x0_8, .int .i64 x0_9, .f32 x0_10, .f32 x0_11, .f32 x0_12, .f32 x0_13, .f32 x0_14, .int .i64 x0_15], .agg [.int .i64 x1_0, .int .i64 x1_1, .int .i64 x1_2, .int .i64 x1_3]] => some ((tr10 (⟨⟨x0_0⟩, ⟨⟨x0_1, x0_2, x0_3⟩, ⟨x0_4, x0_5, x0_6⟩, x0_7, x0_8, x0_9⟩, ⟨x0_10, x0_11, x0_12⟩, ⟨x0_13, x0_14, x0_15⟩⟩ : Vw) (⟨x1_0, x1_1, x1_2, x1_3⟩ : Tl)).pre, fw10 (F10 (⟨⟨x0_0⟩, ⟨⟨x0_1, x0_2, x0_3⟩, ⟨x0_4, x0_5, x0_6⟩, x0_7, x0_8, x0_9⟩, ⟨x0_10, x0_11, x0_12⟩, ⟨x0_13, x0_14, x0_15⟩⟩ : Vw) (⟨x1_0, x1_1, x1_2, x1_3⟩ : Tl)))
  | _ => none
theorem ok10 : EntSound Tryz.prog 10 ent10 := by
  refine entryW tab33_ok exts_ok (fun _ => []) (fn := Tryz.f10) (by kernel_rfl) (by kernel_rfl) (fun args c h => ?_)
  unfold ent10 at h
  split at h <;> first | (cases h; done) | skip
  rename_i x0_0 x0_1 x0_2 x0_3 x0_4 x0_5 x0_6 x0_7 x0_8 x0_9 x0_10 x0_11 x0_12 x0_13 x0_14 x0_15 x1_0 x1_1 x1_2 x1_3
  simp only [Option.some.injEq, Prod.mk.injEq] at h
  obtain ⟨hp, rfl⟩ := h
  exact ⟨0, _, (ev10 (⟨⟨x0_0⟩, ⟨⟨x0_1, x0_2, x0_3⟩, ⟨x0_4, x0_5, x0_6⟩, x0_7, x0_8, x0_9⟩, ⟨x0_10, x0_11, x0_12⟩, ⟨x0_13, x0_14, x0_15⟩⟩ : Vw) (⟨x1_0, x1_1, x1_2, x1_3⟩ : Tl)).trans (Tr.ok _ _ hp), CLe.refl _⟩

noncomputable def tab36 : Tab := ((10, ent10) :: ((9, ent9) :: ((8, ent8) :: ((6, ent6) :: tab35))))
theorem tab36_ok : TSound Tryz.prog (tabT tab36) := (tab_cons (tab_cons (tab_cons (tab_cons tab35_ok ok6) ok8) ok9) ok10)

end Go.Proofs.YtponnbnebjhepaaGreat

namespace Go.Proofs.YtponnbnebjhepaaGreat
open Go Go.Ev Go.ChangeShapes Go.WideShapes Go.ChangeAt Go.RowKit
set_option maxRecDepth 100000

theorem Tryz.own : ownKnob Tryz.prog.godebug = none := by kernel_rfl
theorem Tryz.laidOut : laidOutB Tryz.prog = true := by kernel_rfl

section
variable {H : Type} {encH : TypeId × Value → H}

theorem Br.weaken {t : TypeId} {n : Nat} {Q R : List PV → Prop} (h : Br (encH := encH) t n Q) (hQ : ∀ ps, Q ps → R ps) : Br (encH := encH) t n R :=
  ⟨h.1, fun w fuel cs x hx hw => by
    obtain ⟨a, ps, hq, hr⟩ := h.2 w fuel cs x hx hw
    exact ⟨a, ps, hQ ps hq, hr⟩⟩

theorem br26 : Br (encH := encH) 26 1 (fun ps => ∃ x, ps = [.f32 x]) := br_f32 Tryz.underlying26 (by kernel_rfl)
theorem br2 : Br (encH := encH) 2 1 (fun ps => ∃ n, ps = [.int .i64 n]) := br_int Tryz.underlying2 (by kernel_rfl)
theorem br46 : Br (encH := encH) 46 3 (fun ps => ∃ d : V3, ps = enc .v3 d) :=
  (br_struct Tryz.underlying46 (by kernel_rfl) (by kernel_rfl) (.cons _ _ _ _ _ _ rfl br26 (.cons _ _ _ _ _ _ rfl br26 (.cons _ _ _ _ _ _ rfl br26 (.nil _))))).weaken (by
    rintro ps ⟨a, b, rfl, ⟨x, rfl⟩, c, d, rfl, ⟨y, rfl⟩, e, f, rfl, ⟨z, rfl⟩, rfl⟩
    exact ⟨⟨x, y, z⟩, rfl⟩)
theorem br68 : Br (encH := encH) 68 3 (fun ps => ∃ d : Mar, ps = enc .mar d) :=
  (br_struct Tryz.underlying68 (by kernel_rfl) (by kernel_rfl) (.cons _ _ _ _ _ _ rfl br26 (.cons _ _ _ _ _ _ rfl br26 (.cons _ _ _ _ _ _ rfl br2 (.nil _))))).weaken (by
    rintro ps ⟨a, b, rfl, ⟨x, rfl⟩, c, d, rfl, ⟨y, rfl⟩, e, f, rfl, ⟨z, rfl⟩, rfl⟩
    exact ⟨⟨x, y, z⟩, rfl⟩)
theorem br66 : Br (encH := encH) 66 9 (fun ps => ∃ d : Cam, ps = enc .cam d) :=
  (br_struct Tryz.underlying66 (by kernel_rfl) (by kernel_rfl) (.cons _ _ _ _ _ _ rfl br46 (.cons _ _ _ _ _ _ rfl br46 (.cons _ _ _ _ _ _ rfl br26 (.cons _ _ _ _ _ _ rfl br2 (.cons _ _ _ _ _ _ rfl br2 (.nil _))))))).weaken (by
    rintro ps ⟨a, b, rfl, ⟨x, rfl⟩, c, d, rfl, ⟨y, rfl⟩, e, f, rfl, ⟨z, rfl⟩, g, h, rfl, ⟨u, rfl⟩, i, j, rfl, ⟨v, rfl⟩, rfl⟩
    exact ⟨⟨x, y, z, u, v⟩, rfl⟩)
theorem br91 : Br (encH := encH) 91 4 (fun ps => ∃ d : Tl, ps = enc .tl d) :=
  (br_struct Tryz.underlying91 (by kernel_rfl) (by kernel_rfl) (.cons _ _ _ _ _ _ rfl br2 (.cons _ _ _ _ _ _ rfl br2 (.cons _ _ _ _ _ _ rfl br2 (.cons _ _ _ _ _ _ rfl br2 (.nil _)))))).weaken (by
    rintro ps ⟨a, b, rfl, ⟨x, rfl⟩, c, d, rfl, ⟨y, rfl⟩, e, f, rfl, ⟨z, rfl⟩, g, h, rfl, ⟨u, rfl⟩, rfl⟩
    exact ⟨⟨x, y, z, u⟩, rfl⟩)
theorem br48 : Br (encH := encH) 48 6 (fun ps => ∃ d : Bx, ps = enc .bx d) :=
  (br_struct Tryz.underlying48 (by kernel_rfl) (by kernel_rfl) (.cons _ _ _ _ _ _ rfl br46 (.cons _ _ _ _ _ _ rfl br46 (.nil _)))).weaken (by
    rintro ps ⟨a, b, rfl, ⟨x, rfl⟩, c, d, rfl, ⟨y, rfl⟩, rfl⟩
    exact ⟨⟨x, y⟩, rfl⟩)
theorem four_bytes : Tryz.prog.bytesOf 26 = 4 := by kernel_rfl
theorem node_bytes : Tryz.prog.bytesOf 175 = 48 := by kernel_rfl

def okNums (l : List Nat) : Prop := l.length ≤ 35184372088832
theorem br147 : Br (encH := encH) 147 1 (fun ps => ∃ l : List Nat, ps = [.slice .f32 l] ∧ okNums l) :=
  (br_slice (et := .f32) (Ok := fun _ => True) Tryz.underlying147 (by kernel_rfl) (br26.weaken (by rintro ps ⟨x, rfl⟩; exact ⟨x, rfl, trivial⟩))).weaken (by
    rintro ps ⟨l, rfl, _, hb⟩
    refine ⟨l, rfl, ?_⟩
    rw [four_bytes] at hb
    have := reachBytes_lt
    unfold okNums
    have e : (2 : Nat) ^ 47 = 140737488355328 := by decide
    have hb' : List.length l * 4 ≤ reachBytes := hb
    omega)
theorem br175 : Br (encH := encH) 175 4 (fun ps => ∃ d : Nd, ps = enc .nd d ∧ d.v.length ≤ 35184372088832) :=
  (br_struct Tryz.underlying175 (by kernel_rfl) (by kernel_rfl) (.cons _ _ _ _ _ _ rfl br2 (.cons _ _ _ _ _ _ rfl br2 (.cons _ _ _ _ _ _ rfl br2 (.cons _ _ _ _ _ _ rfl br147 (.nil _)))))).weaken (by
    rintro ps ⟨a, b, rfl, ⟨x, rfl⟩, c, d, rfl, ⟨y, rfl⟩, e, f, rfl, ⟨z, rfl⟩, g, h, rfl, ⟨u, rfl, hu⟩, rfl⟩
    exact ⟨⟨x, y, z, u⟩, rfl, hu⟩)
theorem br22 : Br (encH := encH) 22 1 (fun ps => ∃ l : List Nd, ps = [.slice .nd l] ∧ l.length ≤ 35184372088832 ∧ ∀ n ∈ l, n.v.length ≤ 35184372088832) :=
  (br_slice (et := .nd) (Ok := fun d : Nd => d.v.length ≤ 35184372088832) Tryz.underlying22 (by kernel_rfl) br175).weaken (by
    rintro ps ⟨l, rfl, ho, hb⟩
    refine ⟨l, rfl, ?_, ho⟩
    rw [node_bytes] at hb
    have := reachBytes_lt
    have e : (2 : Nat) ^ 47 = 140737488355328 := by decide
    have hb' : List.length l * 48 ≤ reachBytes := hb
    omega)
theorem br24 : Br (encH := encH) 24 1 (fun ps => ∃ d : Shp, ps = enc .shp d ∧ okLen d) :=
  (br_struct Tryz.underlying24 (by kernel_rfl) (by kernel_rfl) (.cons _ _ _ _ _ _ rfl br22 (.nil _))).weaken (by
    rintro ps ⟨a, b, rfl, ⟨l, rfl, h1, h2⟩, rfl⟩
    exact ⟨⟨l⟩, rfl, h1, h2⟩)
theorem br70 : Br (encH := encH) 70 16 (fun ps => ∃ d : Vw, ps = enc .vw d ∧ okLen d.shape) :=
  (br_struct Tryz.underlying70 (by kernel_rfl) (by kernel_rfl) (.cons _ _ _ _ _ _ rfl br24 (.cons _ _ _ _ _ _ rfl br66 (.cons _ _ _ _ _ _ rfl br46 (.cons _ _ _ _ _ _ rfl br68 (.nil _)))))).weaken (by
    rintro ps ⟨a, b, rfl, ⟨x, rfl, hx⟩, c, d, rfl, ⟨y, rfl⟩, e, f, rfl, ⟨z, rfl⟩, g, h, rfl, ⟨u, rfl⟩, rfl⟩
    exact ⟨⟨x, y, z, u⟩, rfl, hx⟩)

/-- A struct, handed by value. -/
theorem arg_struct {W : World} {base : Nat} {t n : Nat} {fs : Array Field} {Q : List PV → Prop} {v : Value} {d : DataW H} {p : List MemPlace} (hu : Tryz.prog.underlying t = some (.struct fs)) (hb : Br (encH := encH) t n Q)
    (hval : Value.okWide Tryz.prog W .any base t v) (h : DataW.Trod encH Tryz.prog W 0 (fun _ => true) true t v d p) (hw : ∀ k ∈ d.weights Tryz.prog t, k ≤ reachBytes) :
    ∃ ps, Q ps ∧ PRel W (inW W) v (.agg ps) := by
  unfold Value.okWide at hval
  rw [hu] at hval
  obtain ⟨cs, rfl, _, _⟩ := hval
  obtain ⟨fuel, hf⟩ := h
  obtain ⟨_, ps, hq, hl, hr⟩ := hb.2 W fuel _ _ hf hw
  refine ⟨ps, hq, .agg cs ps ?_ (fun i hi => ?_) (fun i hi => ?_)⟩
  · simpa [Value.cells] using hl
  · have := (hr i hi).1
    simpa [Value.cells, List.getD_eq_getElem?_getD, Array.getD_eq_getD_getElem?] using this
  · have := (hr i hi).2
    simpa [Value.cells, List.getD_eq_getElem?_getD, Array.getD_eq_getD_getElem?] using this
theorem arg_int {W : World} {base : Nat} {t : Nat} {v : Value} {d : DataW H} {p : List MemPlace} (hu : Tryz.prog.underlying t = some (.int .i64))
    (hval : Value.okWide Tryz.prog W .any base t v) (h : DataW.Trod encH Tryz.prog W 0 (fun _ => true) true t v d p) : ∃ n, PRel W (inW W) v (.int .i64 n) := by
  obtain ⟨n, rfl, _, _, _⟩ := open_int hu hval h
  exact ⟨n, .int _ _⟩

theorem all_below {W W' : World} (hB : Below W.heap.size W W') : ∀ (ts : List TypeId) (vs : List Value) (ds : List (DataW H)) (ps : List MemPlace), (∀ t ∈ ts, Tryz.prog.readableRec t = true ∧ t < Tryz.prog.types.size) →
    (∀ x ∈ ps, x.block < W.heap.size) → DataW.TrodAll encH Tryz.prog W 0 (fun _ => true) true ts vs ds ps → DataW.TrodAll encH Tryz.prog W' 0 (fun b => decide (b < W.heap.size)) true ts vs ds ps
  | [], [], [], _, _, _, h => h
  | t :: ts, v :: vs, d :: ds, ps, ht, hlt, h => by
    obtain ⟨p, q, h1, h2, rfl⟩ := h
    exact ⟨p, q, Below.trod Tryz.laidOut (ht t (by simp)).1 (ht t (by simp)).2 h1 hB (fun x hx => hlt x (List.mem_append_left _ hx)), all_below hB ts vs ds q (fun t' h' => ht t' (by simp [h'])) (fun x hx => hlt x (List.mem_append_right _ hx)) h2, rfl⟩
  | [], _ :: _, _, _, _, _, h => h.elim
  | [], [], _ :: _, _, _, _, h => h.elim
  | _ :: _, [], _, _, _, _, h => h.elim
  | _ :: _, _ :: _, [], _, _, _, h => h.elim

/-- A law that answers true and turns nothing that was there before. -/
theorem law_post {fn : Func} {s : ChangeSpec} {f : FuncId} {W : World} {args : Array Value} {ds gs : List (DataW H)} {before : List MemPlace} (hr : fn.resultTypes = #[4]) (hv : s.vars = []) (hs : (s.fn H ds).results = [.lit (.bool true)] ∧ (s.fn H ds).args = ds ∧ (s.fn H ds).vars = [])
    (ht : ∀ t ∈ fn.params.toList, Tryz.prog.readableRec t = true ∧ t < Tryz.prog.types.size) (hW : DataW.Whole encH Tryz.prog fn.params.toList s.vars false W args.toList ds gs before)
    (hc : Calls Tryz.prog f args W fun e W' => ∃ v, e = .returned v ∧ Below W.heap.size W W' ∧ CRel W.heap.size W' (inW W) v (.plain (.bool true))) :
    Calls Tryz.prog f args W fun e W' => ∃ v, e = .returned v ∧ s.post encH Tryz.prog fn false true false false W args v W' := by
  refine hc.mono (fun e W' h => ?_)
  obtain ⟨v, rfl, hB, hcr⟩ := h
  have hvb : v = .bool true := by
    have : PRel W' (fun b => inW W b ∨ (W.heap.size ≤ b ∧ b < W'.heap.size)) v (.bool true) := hcr
    cases this; rfl
  subst hvb
  have hW' := hW
  obtain ⟨p, q, hA, hV, rfl, hfz, hnd⟩ := hW
  rw [hv] at hV
  obtain ⟨rfl, rfl⟩ := trodVars_none hV
  have hlt : ∀ x ∈ p, x.block < W.heap.size := fun x hx => hW'.lt x (by simpa using hx)
  obtain ⟨s1, s2, s3⟩ := hs
  refine ⟨_, rfl, ds, [], p ++ [], [], p, [], hW', ?_, ?_, ?_, hB.frame _, fun h => by cases h⟩
  · rw [List.append_nil, s1, hr]
    exact trodAll_mk1 (shut_bool Tryz.underlying4 true)
  · rw [List.append_nil, s2]
    exact all_below hB _ _ _ _ ht hlt hA
  · rw [List.append_nil, hv, s3]
    exact rfl

/-- What a law's entry says of a call. -/
theorem law_calls {f : FuncId} {ent : List PV → Option (Bool × CRes)} (ok : EntSound Tryz.prog f ent) {W : World} {args : Array Value} {ps : List PV} (he : ent ps = some (true, .plain (.bool true))) (hp : PRels W (inW W) args ps) :
    Calls Tryz.prog f args W fun e W' => ∃ v, e = .returned v ∧ Below W.heap.size W W' ∧ CRel W.heap.size W' (inW W) v (.plain (.bool true)) :=
  (ok ps _ he).2 W (inW W) args hp (fun _ h => h)

theorem prels1 {W : World} {v : Value} {p : PV} (h : PRel W (inW W) v p) : PRels W (inW W) #[v] [p] :=
  ⟨rfl, fun i hi => by
    have : i = 0 := by simpa using hi
    subst this; exact h⟩
theorem prels2 {W : World} {v u : Value} {p q : PV} (h : PRel W (inW W) v p) (h' : PRel W (inW W) u q) : PRels W (inW W) #[v, u] [p, q] :=
  ⟨rfl, fun i hi => by
    rcases (by simp at hi; omega : i = 0 ∨ i = 1) with rfl | rfl
    · exact h
    · exact h'⟩
theorem prels3 {W : World} {v u x : Value} {p q r : PV} (h : PRel W (inW W) v p) (h' : PRel W (inW W) u q) (h'' : PRel W (inW W) x r) : PRels W (inW W) #[v, u, x] [p, q, r] :=
  ⟨rfl, fun i hi => by
    rcases (by simp at hi; omega : i = 0 ∨ i = 1 ∨ i = 2) with rfl | rfl | rfl
    · exact h
    · exact h'
    · exact h''⟩

end

theorem rowed : mapsRowed Tryz.prog = true := by kernel_rfl

end Go.Proofs.YtponnbnebjhepaaGreat

