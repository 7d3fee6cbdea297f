/- Part 1 of the proof: the abstract evaluator and what the functions of the program compute (condition: none). -/
import Derived.WalkKit
import Derived.WalkLawsBesides
import Derived.KernelRfl
import Derived.Deep.Draws
/- Floats whose NaNs are all one, and the values of the abstract evaluator. -/
namespace Go.Ev
open Go

/-! Floats: every NaN is taken for one. -/

def nanB : FloatKind → Nat
  | .f32 => 0x7fc00000
  | .f64 => 0x7ff8000000000000

def canon (k : FloatKind) (b : Nat) : Nat := if (k.decode b).isNaN then nanB k else b

theorem decode_nanB (k : FloatKind) : (k.decode (nanB k)).isNaN = true := by cases k <;> decide +kernel

theorem canon_of_nan {k : FloatKind} {b : Nat} (h : (k.decode b).isNaN = true) : canon k b = nanB k := by simp [canon, h]
theorem canon_of_not {k : FloatKind} {b : Nat} (h : (k.decode b).isNaN = false) : canon k b = b := by simp [canon, h]

theorem isNaN_canon (k : FloatKind) (b : Nat) : (k.decode (canon k b)).isNaN = (k.decode b).isNaN := by
  unfold canon
  split
  · rename_i h; rw [decode_nanB, h]
  · rfl

theorem canon_canon (k : FloatKind) (b : Nat) : canon k (canon k b) = canon k b := by
  cases h : (k.decode b).isNaN
  · rw [canon_of_not h, canon_of_not h]
  · rw [canon_of_nan h, canon_of_nan (decode_nanB k)]

/-- What an operation on the bits gives, NaNs all one. -/
def fopR (op : BinOp) (k : FloatKind) (x y : Nat) : Nat :=
  match floatBits op k x y with
  | some r => canon k r
  | none => nanB k

def fordR (k : FloatKind) (x y : Nat) : Option Ordering := k.format.order x y

def fcmpR (op : BinOp) (k : FloatKind) (x y : Nat) : Bool :=
  match op with
  | .eql => fordR k x y == some .eq
  | .neq => fordR k x y != some .eq
  | .lss => fordR k x y == some .lt
  | .leq => fordR k x y == some .lt || fordR k x y == some .eq
  | .gtr => fordR k x y == some .gt
  | .geq => fordR k x y == some .gt || fordR k x y == some .eq
  | _ => false

def fnegR (k : FloatKind) (x : Nat) : Nat := canon k (Op.negFloat k x)

/-- Is the number of the one kind not too great for the other one (an infinity and a NaN are not)? -/
def narrowOkR (src : FloatKind) (x : Nat) (dst : FloatKind) : Bool :=
  if src = dst then true else
  match src.decode x with
  | .number s m e => !(dst.decode (dst.encode (.number s m e))).isInfinity
  | _ => true

def f2fR (src : FloatKind) (x : Nat) (dst : FloatKind) : Nat :=
  if src = dst then canon dst x else
  match src.decode x with
  | .nan _ _ => nanB dst
  | d => canon dst (dst.encode d)

def i2fR (k : FloatKind) (n : Int) : Nat := canon k (k.nearest n)

def f2iOkR (src : FloatKind) (x : Nat) (dst : IntKind) : Bool := (floatToIntVal src x dst).isSome
def f2iR (src : FloatKind) (x : Nat) (dst : IntKind) : Int := (floatToIntVal src x dst).getD 0

def fsqrtR (x : Nat) : Nat :=
  match FloatKind.f64.format.sqrt x with
  | some r => canon .f64 r
  | none => nanB .f64

def fintR (way : Ieee.Toward) (x : Nat) : Nat :=
  match FloatKind.f64.decode x with
  | .nan _ _ => nanB .f64
  | d => canon .f64 (FloatKind.f64.encode (d.integral way))

/-! The same words, closed: the kernel cannot unfold them. -/

theorem same_ex {α : Type} (a : α) : ∃ b, b = a := ⟨a, rfl⟩
noncomputable def fop : BinOp → FloatKind → Nat → Nat → Nat := Classical.choose (same_ex fopR)
noncomputable def fcmp : BinOp → FloatKind → Nat → Nat → Bool := Classical.choose (same_ex fcmpR)
noncomputable def fneg : FloatKind → Nat → Nat := Classical.choose (same_ex fnegR)
noncomputable def narrowOk : FloatKind → Nat → FloatKind → Bool := Classical.choose (same_ex narrowOkR)
noncomputable def f2f : FloatKind → Nat → FloatKind → Nat := Classical.choose (same_ex f2fR)
noncomputable def i2f : FloatKind → Int → Nat := Classical.choose (same_ex i2fR)
noncomputable def f2iOk : FloatKind → Nat → IntKind → Bool := Classical.choose (same_ex f2iOkR)
noncomputable def f2i : FloatKind → Nat → IntKind → Int := Classical.choose (same_ex f2iR)
noncomputable def fsqrt : Nat → Nat := Classical.choose (same_ex fsqrtR)
noncomputable def fint : Ieee.Toward → Nat → Nat := Classical.choose (same_ex fintR)
theorem fop_eq : fop = fopR := Classical.choose_spec (same_ex fopR)
theorem fcmp_eq : fcmp = fcmpR := Classical.choose_spec (same_ex fcmpR)
theorem fneg_eq : fneg = fnegR := Classical.choose_spec (same_ex fnegR)
theorem narrowOk_eq : narrowOk = narrowOkR := Classical.choose_spec (same_ex narrowOkR)
theorem f2f_eq : f2f = f2fR := Classical.choose_spec (same_ex f2fR)
theorem i2f_eq : i2f = i2fR := Classical.choose_spec (same_ex i2fR)
theorem f2iOk_eq : f2iOk = f2iOkR := Classical.choose_spec (same_ex f2iOkR)
theorem f2i_eq : f2i = f2iR := Classical.choose_spec (same_ex f2iR)
theorem fsqrt_eq : fsqrt = fsqrtR := Classical.choose_spec (same_ex fsqrtR)
theorem fint_eq : fint = fintR := Classical.choose_spec (same_ex fintR)

/-! A word and what it is taken for. -/

def width (k : FloatKind) : Nat := k.format.width

/-- 'b' is a word of the kind that is taken for 'x'. -/
def FRel (k : FloatKind) (b x : Nat) : Prop := b < 2 ^ width k ∧ canon k b = x

theorem FRel.canonical {k : FloatKind} {b x : Nat} (h : FRel k b x) : canon k x = x := by rw [← h.2, canon_canon]

theorem width_f32 : width .f32 = 32 := rfl
theorem width_f64 : width .f64 = 64 := rfl

theorem nanB_lt (k : FloatKind) : nanB k < 2 ^ width k := by cases k <;> decide +kernel

theorem FRel.of_nan {k : FloatKind} {b : Nat} (hb : b < 2 ^ width k) (h : (k.decode b).isNaN = true) : FRel k b (nanB k) := ⟨hb, canon_of_nan h⟩
theorem FRel.of {k : FloatKind} {b : Nat} (hb : b < 2 ^ width k) : FRel k b (canon k b) := ⟨hb, rfl⟩

theorem isNaN_iff {d : Ieee.Datum} : d.isNaN = true ↔ ∃ s t, d = .nan s t := by
  cases d <;> simp [Ieee.Datum.isNaN]

theorem sum_nan_left {d e : Ieee.Datum} (h : d.isNaN = true) : d.sum e = none := by
  obtain ⟨s, t, rfl⟩ := isNaN_iff.1 h; cases e <;> rfl
theorem sum_nan_right {d e : Ieee.Datum} (h : e.isNaN = true) : d.sum e = none := by
  obtain ⟨s, t, rfl⟩ := isNaN_iff.1 h; cases d <;> rfl
theorem product_nan_left {d e : Ieee.Datum} (h : d.isNaN = true) : d.product e = none := by
  obtain ⟨s, t, rfl⟩ := isNaN_iff.1 h; cases e <;> rfl
theorem product_nan_right {d e : Ieee.Datum} (h : e.isNaN = true) : d.product e = none := by
  obtain ⟨s, t, rfl⟩ := isNaN_iff.1 h; cases d <;> rfl
theorem quotient_nan_left {n : Nat} {d e : Ieee.Datum} (h : d.isNaN = true) : d.quotient n e = none := by
  obtain ⟨s, t, rfl⟩ := isNaN_iff.1 h; cases e <;> rfl
theorem quotient_nan_right {n : Nat} {d e : Ieee.Datum} (h : e.isNaN = true) : d.quotient n e = none := by
  obtain ⟨s, t, rfl⟩ := isNaN_iff.1 h; cases d <;> rfl
theorem order_nan_left {d e : Ieee.Datum} (h : d.isNaN = true) : d.order e = none := by
  obtain ⟨s, t, rfl⟩ := isNaN_iff.1 h; cases e <;> rfl
theorem order_nan_right {d e : Ieee.Datum} (h : e.isNaN = true) : d.order e = none := by
  obtain ⟨s, t, rfl⟩ := isNaN_iff.1 h; cases d <;> rfl
theorem root_nan {n : Nat} {d : Ieee.Datum} (h : d.isNaN = true) : d.root n = none := by
  obtain ⟨s, t, rfl⟩ := isNaN_iff.1 h; rfl
theorem opposite_nan {d : Ieee.Datum} : d.opposite.isNaN = d.isNaN := by cases d <;> rfl

theorem floatBits_nan_left {op : BinOp} {k : FloatKind} {x y : Nat} (h : (k.decode x).isNaN = true) : floatBits op k x y = none := by
  unfold FloatKind.decode at h
  cases op <;> simp [floatBits, Ieee.Format.add, Ieee.Format.sub, Ieee.Format.mul, Ieee.Format.div, sum_nan_left h, product_nan_left h, quotient_nan_left h]
theorem floatBits_nan_right {op : BinOp} {k : FloatKind} {x y : Nat} (h : (k.decode y).isNaN = true) : floatBits op k x y = none := by
  unfold FloatKind.decode at h
  have h' := (opposite_nan (d := k.format.read y)).trans h
  cases op <;> simp [floatBits, Ieee.Format.add, Ieee.Format.sub, Ieee.Format.mul, Ieee.Format.div, sum_nan_right h, sum_nan_right h', product_nan_right h, quotient_nan_right h]

/-- An operation does not look at which NaN it is given. -/
theorem floatBits_canon (op : BinOp) (k : FloatKind) (x y : Nat) : floatBits op k (canon k x) (canon k y) = floatBits op k x y := by
  cases hx : (k.decode x).isNaN
  · cases hy : (k.decode y).isNaN
    · rw [canon_of_not hx, canon_of_not hy]
    · rw [floatBits_nan_right hy, floatBits_nan_right (by rw [isNaN_canon]; exact hy)]
  · rw [floatBits_nan_left hx, floatBits_nan_left (by rw [isNaN_canon]; exact hx)]

theorem ford_canon (k : FloatKind) (x y : Nat) : fordR k (canon k x) (canon k y) = fordR k x y := by
  unfold fordR Ieee.Format.order
  cases hx : (k.decode x).isNaN
  · cases hy : (k.decode y).isNaN
    · rw [canon_of_not hx, canon_of_not hy]
    · have hy' := (isNaN_canon k y).trans hy
      unfold FloatKind.decode at hy hy'
      rw [order_nan_right hy, order_nan_right hy']
  · have hx' := (isNaN_canon k x).trans hx
    unfold FloatKind.decode at hx hx'
    rw [order_nan_left hx, order_nan_left hx']

/-- The answer that the model draws for a NaN is one. -/
theorem nan_word (k : FloatKind) (t : Nat) (q : Question) (hq : (∃ x y, q = .nanBits k x y) ∨ (∃ b, q = .nanConv k b)) :
    q.cut t < 2 ^ width k ∧ (k.decode (q.cut t)).isNaN = true := by
  have key32 : ∀ s f : Nat, s < 2 → f < 2 ^ 23 - 1 → s * 2 ^ 31 + 0x7f800000 + 1 + f < 2 ^ 32 ∧ (FloatKind.f32.decode (s * 2 ^ 31 + 0x7f800000 + 1 + f)).isNaN = true := by
    intro s f hs hf
    refine ⟨by omega, ?_⟩
    have hm : (s * 2 ^ 31 + 0x7f800000 + 1 + f) % 2 ^ 31 = 0x7f800000 + 1 + f := by omega
    unfold FloatKind.decode Ieee.Format.read
    have e1 : FloatKind.f32.format.signWeight = 2 ^ 31 := rfl
    have e2 : FloatKind.f32.format.binade = 2 ^ 23 := rfl
    have e3 : FloatKind.f32.format.infRung = 0x7f800000 := rfl
    simp only [e1, e2, e3, hm]
    rw [if_neg (by omega), if_neg (by omega), if_neg (by omega)]
    rfl
  have key64 : ∀ s f : Nat, s < 2 → f < 2 ^ 52 - 1 → s * 2 ^ 63 + 0x7ff0000000000000 + 1 + f < 2 ^ 64 ∧ (FloatKind.f64.decode (s * 2 ^ 63 + 0x7ff0000000000000 + 1 + f)).isNaN = true := by
    intro s f hs hf
    refine ⟨by omega, ?_⟩
    have hm : (s * 2 ^ 63 + 0x7ff0000000000000 + 1 + f) % 2 ^ 63 = 0x7ff0000000000000 + 1 + f := by omega
    unfold FloatKind.decode Ieee.Format.read
    have e1 : FloatKind.f64.format.signWeight = 2 ^ 63 := rfl
    have e2 : FloatKind.f64.format.binade = 2 ^ 52 := rfl
    have e3 : FloatKind.f64.format.infRung = 0x7ff0000000000000 := rfl
    simp only [e1, e2, e3, hm]
    rw [if_neg (by omega), if_neg (by omega), if_neg (by omega)]
    rfl
  rcases hq with ⟨x, y, rfl⟩ | ⟨b, rfl⟩
  · cases k
    · exact key32 _ _ (Nat.mod_lt _ (by omega)) (Nat.mod_lt _ (by omega))
    · exact key64 _ _ (Nat.mod_lt _ (by omega)) (Nat.mod_lt _ (by omega))
  · cases k
    · exact key32 _ _ (Nat.mod_lt _ (by omega)) (Nat.mod_lt _ (by omega))
    · exact key64 _ _ (Nat.mod_lt _ (by omega)) (Nat.mod_lt _ (by omega))

end Go.Ev

/- The abstract values: typed memory that is only read, and places of a call's own; what it means that a value of the model is one of them. -/
namespace Go.Ev
open Go

structure V3 where (x y z : Nat)
structure Rg where (lo hi : Nat)
structure Bx where (lo hi : V3)
structure Sp where (x y z : Rg)
structure Nd where (k a b : Int) (v : List Nat)
structure Tl where (x y w h : Int)
structure Shp where (nodes : List Nd)
structure Cam where (src to : V3) (wide : Nat) (w h : Int)
structure Mar where (near most : Nat) (steps : Int)
structure Ray where (src way : V3)
structure Vw where (shape : Shp) (cam : Cam) (light : V3) (march : Mar)
structure Ru where (numbers children : Int) (axis : Bool) (sign : Int)
instance : Inhabited V3 := ⟨⟨0, 0, 0⟩⟩
instance : Inhabited Rg := ⟨⟨0, 0⟩⟩
instance : Inhabited Bx := ⟨⟨default, default⟩⟩
instance : Inhabited Sp := ⟨⟨default, default, default⟩⟩
instance : Inhabited Nd := ⟨⟨0, 0, 0, []⟩⟩
instance : Inhabited Tl := ⟨⟨0, 0, 0, 0⟩⟩
instance : Inhabited Shp := ⟨⟨[]⟩⟩
instance : Inhabited Cam := ⟨⟨default, default, 0, 0, 0⟩⟩
instance : Inhabited Mar := ⟨⟨0, 0, 0⟩⟩
instance : Inhabited Ray := ⟨⟨default, default⟩⟩
instance : Inhabited Vw := ⟨⟨default, default, default, default⟩⟩
instance : Inhabited Ru := ⟨⟨0, 0, false, 0⟩⟩

/-- The types of elements and of what pointers lead to. -/
inductive ET where
  | f32 | i64 | bool | u8 | v3 | rg | bx | sp | nd | tl | shp | cam | mar | ray | vw | ru | slf32 | slrg | pshp
  deriving DecidableEq

@[reducible] def ET.D : ET → Type
  | .f32 => Nat | .i64 => Int | .bool => Bool | .u8 => Int | .v3 => V3 | .rg => Rg | .bx => Bx | .sp => Sp | .nd => Nd | .tl => Tl
  | .shp => Shp | .cam => Cam | .mar => Mar | .ray => Ray | .vw => Vw | .ru => Ru | .slf32 => List Nat | .slrg => List Rg | .pshp => Shp

/-- What an element is by default. -/
@[reducible] def ET.dflt : (t : ET) → t.D
  | .f32 => (0 : Nat) | .i64 => (0 : Int) | .bool => false | .u8 => (0 : Int) | .v3 => (default : V3) | .rg => (default : Rg) | .bx => (default : Bx) | .sp => (default : Sp)
  | .nd => (default : Nd) | .tl => (default : Tl) | .shp => (default : Shp) | .cam => (default : Cam) | .mar => (default : Mar) | .ray => (default : Ray)
  | .vw => (default : Vw) | .ru => (default : Ru) | .slf32 => ([] : List Nat) | .slrg => ([] : List Rg) | .pshp => (default : Shp)

inductive PV where
  | undef
  | bool (b : Bool)
  | int (k : IntKind) (n : Int)
  | f32 (x : Nat)
  | f64 (x : Nat)
  | str (s : ByteArray)
  | nils
  | agg (cs : List PV)
  | tup (vs : List PV)
  | ptr (t : ET) (x : t.D) (off : Nat)
  | slice (t : ET) (l : List t.D)
  | func (f : FuncId) (cap : List PV)
  | lptr (id ver off : Nat)
  | lelem (id ver : Nat) (t : ET) (i off : Nat)
  | lslice (id ver : Nat) (t : ET) (n : Nat)

def ET.size : ET → Nat
  | .f32 | .i64 | .bool | .u8 => 1 | .v3 => 3 | .rg => 2 | .bx => 6 | .sp => 6 | .nd => 4 | .tl => 4 | .shp => 1 | .cam => 9 | .mar => 3 | .ray => 6 | .vw => 16 | .ru => 4
  | .slf32 | .slrg | .pshp => 1

/-- Has an element no address in it? -/
def ET.flat : ET → Bool
  | .nd | .shp | .vw | .slf32 | .slrg | .pshp => false
  | _ => true

def encV3 (v : V3) : List PV := [.f32 v.x, .f32 v.y, .f32 v.z]
def encRg (r : Rg) : List PV := [.f32 r.lo, .f32 r.hi]
def encCam (c : Cam) : List PV := [.f32 c.src.x, .f32 c.src.y, .f32 c.src.z, .f32 c.to.x, .f32 c.to.y, .f32 c.to.z, .f32 c.wide, .int .i64 c.w, .int .i64 c.h]

/-- The cells of an element. -/
def enc : (t : ET) → t.D → List PV
  | .f32, x => [.f32 x]
  | .i64, n => [.int .i64 n]
  | .bool, b => [.bool b]
  | .u8, n => [.int .u8 n]
  | .v3, v => [.f32 v.x, .f32 v.y, .f32 v.z]
  | .rg, r => [.f32 r.lo, .f32 r.hi]
  | .bx, b => [.f32 b.lo.x, .f32 b.lo.y, .f32 b.lo.z, .f32 b.hi.x, .f32 b.hi.y, .f32 b.hi.z]
  | .sp, s => [.f32 s.x.lo, .f32 s.x.hi, .f32 s.y.lo, .f32 s.y.hi, .f32 s.z.lo, .f32 s.z.hi]
  | .nd, n => [.int .i64 n.k, .int .i64 n.a, .int .i64 n.b, .slice .f32 n.v]
  | .tl, t => [.int .i64 t.x, .int .i64 t.y, .int .i64 t.w, .int .i64 t.h]
  | .shp, s => [.slice .nd s.nodes]
  | .cam, c => [.f32 c.src.x, .f32 c.src.y, .f32 c.src.z, .f32 c.to.x, .f32 c.to.y, .f32 c.to.z, .f32 c.wide, .int .i64 c.w, .int .i64 c.h]
  | .mar, m => [.f32 m.near, .f32 m.most, .int .i64 m.steps]
  | .ray, r => [.f32 r.src.x, .f32 r.src.y, .f32 r.src.z, .f32 r.way.x, .f32 r.way.y, .f32 r.way.z]
  | .vw, v => [.slice .nd v.shape.nodes, .f32 v.cam.src.x, .f32 v.cam.src.y, .f32 v.cam.src.z, .f32 v.cam.to.x, .f32 v.cam.to.y, .f32 v.cam.to.z, .f32 v.cam.wide, .int .i64 v.cam.w, .int .i64 v.cam.h,
      .f32 v.light.x, .f32 v.light.y, .f32 v.light.z, .f32 v.march.near, .f32 v.march.most, .int .i64 v.march.steps]
  | .ru, r => [.int .i64 r.numbers, .int .i64 r.children, .bool r.axis, .int .i64 r.sign]
  | .slf32, l => [.slice .f32 l]
  | .slrg, l => [.slice .rg l]
  | .pshp, s => [.ptr .shp s 0]

def sl32 : PV → Option (List Nat)
  | .slice .f32 l => some l
  | .nils => some []
  | _ => none
def slNd : PV → Option (List Nd)
  | .slice .nd l => some l
  | .nils => some []
  | _ => none
def slRg : PV → Option (List Rg)
  | .slice .rg l => some l
  | .nils => some []
  | _ => none

/-- The element of which these are the cells. -/
def dec : (t : ET) → List PV → Option t.D
  | .f32, [.f32 x] => some x
  | .i64, [.int .i64 n] => some n
  | .bool, [.bool b] => some b
  | .u8, [.int .u8 n] => some n
  | .v3, [.f32 a, .f32 b, .f32 c] => some ⟨a, b, c⟩
  | .rg, [.f32 a, .f32 b] => some ⟨a, b⟩
  | .bx, [.f32 a, .f32 b, .f32 c, .f32 d, .f32 e, .f32 f] => some ⟨⟨a, b, c⟩, ⟨d, e, f⟩⟩
  | .sp, [.f32 a, .f32 b, .f32 c, .f32 d, .f32 e, .f32 f] => some ⟨⟨a, b⟩, ⟨c, d⟩, ⟨e, f⟩⟩
  | .nd, [.int .i64 k, .int .i64 a, .int .i64 b, s] => (sl32 s).map fun l => ⟨k, a, b, l⟩
  | .tl, [.int .i64 a, .int .i64 b, .int .i64 c, .int .i64 d] => some ⟨a, b, c, d⟩
  | .shp, [s] => (slNd s).map fun l => ⟨l⟩
  | .cam, [.f32 a, .f32 b, .f32 c, .f32 d, .f32 e, .f32 f, .f32 g, .int .i64 w, .int .i64 h] => some ⟨⟨a, b, c⟩, ⟨d, e, f⟩, g, w, h⟩
  | .mar, [.f32 a, .f32 b, .int .i64 c] => some ⟨a, b, c⟩
  | .ray, [.f32 a, .f32 b, .f32 c, .f32 d, .f32 e, .f32 f] => some ⟨⟨a, b, c⟩, ⟨d, e, f⟩⟩
  | .vw, [s, .f32 a, .f32 b, .f32 c, .f32 d, .f32 e, .f32 f, .f32 g, .int .i64 w, .int .i64 h, .f32 l, .f32 m, .f32 n, .f32 o, .f32 p, .int .i64 q] =>
      (slNd s).map fun ns => ⟨⟨ns⟩, ⟨⟨a, b, c⟩, ⟨d, e, f⟩, g, w, h⟩, ⟨l, m, n⟩, ⟨o, p, q⟩⟩
  | .ru, [.int .i64 a, .int .i64 b, .bool c, .int .i64 d] => some ⟨a, b, c, d⟩
  | .slf32, [s] => sl32 s
  | .slrg, [s] => slRg s
  | .pshp, [.ptr .shp s 0] => some s
  | _, _ => none

theorem enc_length (t : ET) (x : t.D) : (enc t x).length = t.size := by cases t <;> rfl

/-- The value is one of the abstract value; what it leads to lies in blocks of 'S'. -/
inductive PRel (w : World) (S : Nat → Prop) : Value → PV → Prop
  | undef (v : Value) : PRel w S v .undef
  | bool (b : Bool) : PRel w S (.bool b) (.bool b)
  | int (k : IntKind) (n : Int) : PRel w S (.int k n) (.int k n)
  | f32 (b x : Nat) (h : FRel .f32 b x) : PRel w S (.float .f32 b) (.f32 x)
  | f64 (b x : Nat) (h : FRel .f64 b x) : PRel w S (.float .f64 b) (.f64 x)
  | str (s : ByteArray) : PRel w S (.string s) (.str s)
  | nils : PRel w S (.slice none 0 0) .nils
  | agg (vs : Array Value) (cs : List PV) (hs : vs.size = cs.length) (h1 : ∀ i, i < cs.length → (vs.getD i Go.undef).oneCell' = true) (h : ∀ i, i < cs.length → PRel w S (vs.getD i Go.undef) (cs.getD i .undef)) : PRel w S (.agg vs) (.agg cs)
  | tup (vs : Array Value) (cs : List PV) (hs : vs.size = cs.length) (h : ∀ i, i < cs.length → PRel w S (vs.getD i Go.undef) (cs.getD i .undef)) : PRel w S (.tuple vs) (.tup cs)
  | func (f : FuncId) (vs : Array Value) (cs : List PV) (hs : vs.size = cs.length) (h : ∀ i, i < cs.length → PRel w S (vs.getD i Go.undef) (cs.getD i .undef)) :
      PRel w S (.func (.func f) #[] vs) (.func f cs)
  | ptr (t : ET) (x : t.D) (off b base : Nat) (hb : S b) (us : Nat → Value) (hc : ∀ i, i < t.size → w.cell? ⟨b, base + i, none⟩ = some (us i))
      (h : ∀ i, i < t.size → PRel w S (us i) ((enc t x).getD i .undef)) : PRel w S (.pointer (some ⟨b, base + off, none⟩)) (.ptr t x off)
  | sliceNil (t : ET) (a : Option Addr) (cap : Nat) (ha : a = none → cap = 0) : PRel w S (.slice a 0 cap) (.slice t [])
  | slice (t : ET) (l : List t.D) (b base cap : Nat) (hb : S b) (hcap : l.length ≤ cap) (us : Nat → Nat → Value)
      (hc : ∀ i, i < l.length → ∀ j, j < t.size → w.cell? ⟨b, base + (i * t.size + j), none⟩ = some (us i j))
      (h : ∀ i, (hi : i < l.length) → ∀ j, j < t.size → PRel w S (us i j) ((enc t l[i]).getD j .undef)) :
      PRel w S (.slice (some ⟨b, base, none⟩) l.length cap) (.slice t l)

theorem PRel.mono {w w' : World} {S S' : Nat → Prop} (hS : ∀ b, S b → S' b) (hw : ∀ b, S b → w'.heap[b]? = w.heap[b]?) {v : Value} {p : PV}
    (h : PRel w S v p) : PRel w' S' v p := by
  induction h with
  | undef v => exact .undef v
  | bool b => exact .bool b
  | int k n => exact .int k n
  | f32 b x h => exact .f32 b x h
  | f64 b x h => exact .f64 b x h
  | str s => exact .str s
  | nils => exact .nils
  | agg vs cs hs h1 _ ih => exact .agg vs cs hs h1 ih
  | tup vs cs hs _ ih => exact .tup vs cs hs ih
  | func f vs cs hs _ ih => exact .func f vs cs hs ih
  | ptr t x off b base hb us hc _ ih =>
    exact .ptr t x off b base (hS b hb) us (fun i hi => (World.cell?_of_block (a := ⟨b, base + i, none⟩) (hw b hb)).trans (hc i hi)) ih
  | sliceNil t a cap ha => exact .sliceNil t a cap ha
  | slice t l b base cap hb hcap us hc _ ih =>
    exact .slice t l b base cap (hS b hb) hcap us (fun i hi j hj => (World.cell?_of_block (a := ⟨b, base + (i * t.size + j), none⟩) (hw b hb)).trans (hc i hi j hj)) ih

theorem PRel.slice_of_nils {w : World} {S : Nat → Prop} {v : Value} (h : PRel w S v .nils) (t : ET) : PRel w S v (.slice t []) := by
  cases h; exact .sliceNil t none 0 (fun _ => rfl)

theorem sl32_sound {w : World} {S : Nat → Prop} {v : Value} {p : PV} {l : List Nat} (h : sl32 p = some l) (r : PRel w S v p) : PRel w S v (.slice .f32 l) := by
  unfold sl32 at h
  split at h
  · cases h; exact r
  · cases h; exact r.slice_of_nils _
  · cases h
theorem slNd_sound {w : World} {S : Nat → Prop} {v : Value} {p : PV} {l : List Nd} (h : slNd p = some l) (r : PRel w S v p) : PRel w S v (.slice .nd l) := by
  unfold slNd at h
  split at h
  · cases h; exact r
  · cases h; exact r.slice_of_nils _
  · cases h
theorem slRg_sound {w : World} {S : Nat → Prop} {v : Value} {p : PV} {l : List Rg} (h : slRg p = some l) (r : PRel w S v p) : PRel w S v (.slice .rg l) := by
  unfold slRg at h
  split at h
  · cases h; exact r
  · cases h; exact r.slice_of_nils _
  · cases h

/-- What is decoded has these cells (a nil slice counts as the empty one). -/
theorem dec_sound {w : World} {S : Nat → Prop} {t : ET} {cs : List PV} {x : t.D} (h : dec t cs = some x) :
    cs.length = t.size ∧ ∀ (i : Nat) (v : Value), i < t.size → PRel w S v (cs.getD i .undef) → PRel w S v ((enc t x).getD i .undef) := by
  unfold dec at h
  split at h <;> first | (cases h; done) | skip
  all_goals first
    | (cases h; exact ⟨rfl, fun i v hi r => r⟩)
    | skip
  all_goals try simp only [Option.map_eq_some_iff] at h
  all_goals first
    | (obtain ⟨l, hl, rfl⟩ := h
       refine ⟨rfl, fun i v hi r => ?_⟩
       rcases i with _ | i
       · exact slNd_sound hl r
       · exact r)
    | (obtain ⟨l, hl, rfl⟩ := h
       refine ⟨rfl, fun i v hi r => ?_⟩
       rcases i with _ | _ | _ | _ | i
       · exact r
       · exact r
       · exact r
       · exact sl32_sound hl r
       · exact r)
    | (refine ⟨rfl, fun i v hi r => ?_⟩
       rcases i with _ | i
       · exact sl32_sound h r
       · exact r)
    | (refine ⟨rfl, fun i v hi r => ?_⟩
       rcases i with _ | i
       · exact slRg_sound h r
       · exact r)

end Go.Ev

/- The abstract evaluator: it runs the code of a function over abstract values, and goes on with what is behind; a test splits it by 'cond'. -/
namespace Go.Ev
open Go

noncomputable section

inductive LObj where
  | cells (t : Option ET) (cs : List PV)
  | elems (e : TypeId) (t : ET) (l : List t.D)

/-- The slots, and the objects of the call's own: under each number a version, and what lies there. -/
structure St where
  t : List PV
  o : List (Nat × Option LObj)

def St.look (st : St) (id : Nat) : Nat × Option LObj := st.o.getD id (0, none)

/-- Where in a result a new slice lies. -/
inductive Ctx where
  | hole
  | agg1 (c : Ctx)
  | fst (c : Ctx) (rest : List PV)

def Ctx.fill : Ctx → PV → PV
  | .hole, s => s
  | .agg1 c, s => .agg [c.fill s]
  | .fst c rest, s => .tup (c.fill s :: rest)

/-- What a call gives: a value without places of its own; or a new slice with these elements, in its place. -/
inductive CRes where
  | plain (p : PV)
  | own (e : TypeId) (t : ET) (l : List t.D) (c : Ctx)

structure Env where
  P : Program
  te : TypeId → Option ET
  T : FuncId → List PV → Option (Bool × CRes)

  X : FuncId → Option (List PV → Option (Bool × PV))
  fg : Nat → List Nat

structure Out where
  pre : Bool
  val : PV
  new : Option LObj
  upd : Option (Nat × LObj)
  kill : Option Nat

def Out.of (p : PV) : Out := ⟨true, p, none, none, none⟩
def Out.ofPre (b : Bool) (p : PV) : Out := ⟨b, p, none, none, none⟩

def ofCell : Value → PV
  | .bool b => .bool b
  | .int k n => .int k n
  | .float .f32 b => if (FloatKind.f32.decode b).isNaN then .undef else if b < 4294967296 then .f32 b else .undef
  | .float .f64 b => if (FloatKind.f64.decode b).isNaN then .undef else if b < 18446744073709551616 then .f64 b else .undef
  | .string s => .str s
  | .slice none 0 0 => .nils
  | _ => .undef

def ofConst : Value → PV
  | .agg cs => if cs.toList.all (·.oneCell') then .agg (cs.toList.map ofCell) else .undef
  | v => ofCell v

def evO (t : List PV) : Operand → PV
  | .tmp i => t.getD i .undef
  | .const v => ofConst v
  | .func f => .func f []
  | .global _ => .undef

def cellsOf : PV → Option (List PV)
  | .undef => none
  | .tup _ => none
  | .agg cs => some cs
  | p => some [p]

def szOf (P : Program) (t : TypeId) : Option Nat :=
  match P.info? t with
  | some i => some i.size
  | none => none

def bytesOf (P : Program) (t : TypeId) : Option Nat :=
  match P.info? t with
  | some i => some i.bytes
  | none => none

def zeroOf (P : Program) (t : TypeId) : Option (List PV) :=
  match P.info? t with
  | some i =>
    match i.zero with
    | some v => if v.cells.toList.all (·.oneCell') then some (v.cells.toList.map ofCell) else none
    | none => none
  | none => none

def isAggB (P : Program) (t : TypeId) : Bool :=
  match P.underlying t with
  | some (.struct _) => true
  | some (.array _ _) => true
  | _ => false

def splice (cs : List PV) (off : Nat) (vs : List PV) : List PV := cs.take off ++ vs ++ cs.drop (off + vs.length)

/-- The cells that a pointer leads into, and where in them it points. -/
def cellsAt (look : Nat → Nat × Option LObj) : PV → Option (Bool × List PV × Nat)
  | .lptr id ver off =>
    match look id with
    | (v, some (.cells _ cs)) => if v = ver then some (true, cs, off) else none
    | _ => none
  | .lelem id ver _ i off =>
    match look id with
    | (v, some (.elems _ t l)) => if v = ver then some (decide (i < l.length), enc t (l.getD i t.dflt), off) else none
    | _ => none
  | .ptr t x off => some (true, enc t x, off)
  | _ => none

/-- A slice that is a place of the call's own, or one that is only read: its elements. -/
def elemsAt (look : Nat → Nat × Option LObj) (t : ET) : PV → Option (List t.D)
  | .lslice id ver t' n =>
    match look id with
    | (v, some (.elems _ t'' l)) => if v = ver then (if h : t'' = t then (if t' = t then some ((h ▸ l : List t.D).take n) else none) else none) else none
    | _ => none
  | .slice t' l => if h : t' = t then some (h ▸ l) else none
  | .nils => some []
  | _ => none

def fieldOff (P : Program) (s : TypeId) (f : Nat) : Option (Nat × TypeId) :=
  match P.underlying s with
  | some (.struct fields) =>
    match fields[f]? with
    | some fd => some (fd.offset, fd.type)
    | none => none
  | _ => none

def addOff (d : Nat) : PV → Option PV
  | .lptr id ver off => some (.lptr id ver (off + d))
  | .lelem id ver t i off => some (.lelem id ver t i (off + d))
  | .ptr t x off => some (.ptr t x (off + d))
  | _ => none

noncomputable def sameStr : ByteArray → ByteArray → Bool := Classical.choose (same_ex fun a b : ByteArray => a.toList == b.toList)
theorem sameStr_eq (a b : ByteArray) : sameStr a b = (a.toList == b.toList) := by unfold sameStr; rw [Classical.choose_spec (same_ex fun a b : ByteArray => a.toList == b.toList)]
noncomputable def binSem (op : BinOp) : PV → PV → Option (Bool × PV)
  | .int k a, .int k' b =>
    match op with
    | .shl => some (decide (0 ≤ b), .int k (k.wrap (a * 2 ^ (min b.toNat k.bits))))
    | .shr => some (decide (0 ≤ b), .int k (a.fdiv (2 ^ (min b.toNat k.bits))))
    | _ =>
      if k = k' then
        match op with
        | .add => some (true, .int k (k.wrap (a + b)))
        | .sub => some (true, .int k (k.wrap (a - b)))
        | .mul => some (true, .int k (k.wrap (a * b)))
        | .quo => some (decide (b ≠ 0), .int k (k.wrap (a.tdiv b)))
        | .rem => some (decide (b ≠ 0), .int k (a.tmod b))
        | .and => some (true, .int k (k.wrap ((BitVec.ofInt k.bits a &&& BitVec.ofInt k.bits b).toNat)))
        | .or => some (true, .int k (k.wrap ((BitVec.ofInt k.bits a ||| BitVec.ofInt k.bits b).toNat)))
        | .andNot => some (true, .int k (k.wrap ((BitVec.ofInt k.bits a &&& ~~~ BitVec.ofInt k.bits b).toNat)))
        | .eql => some (true, .bool (a == b))
        | .neq => some (true, .bool (a != b))
        | .lss => some (true, .bool (decide (a < b)))
        | .leq => some (true, .bool (decide (a ≤ b)))
        | .gtr => some (true, .bool (decide (a > b)))
        | .geq => some (true, .bool (decide (a ≥ b)))
        | _ => none
      else none
  | .f32 a, .f32 b =>
    match op with
    | .add | .sub | .mul | .quo => some (true, .f32 (fop op .f32 a b))
    | .eql | .neq | .lss | .leq | .gtr | .geq => some (true, .bool (fcmp op .f32 a b))
    | _ => none
  | .f64 a, .f64 b =>
    match op with
    | .add | .sub | .mul | .quo => some (true, .f64 (fop op .f64 a b))
    | .eql | .neq | .lss | .leq | .gtr | .geq => some (true, .bool (fcmp op .f64 a b))
    | _ => none
  | .str a, .str b =>
    match op with
    | .eql => some (true, .bool (sameStr a b))
    | .neq => some (true, .bool (!sameStr a b))
    | _ => none
  | _, _ => none

/-- '==' and '!=' of bools: the model asks the type. -/
def boolSem (P : Program) (op : BinOp) (t : TypeId) : PV → PV → Option (Bool × PV)
  | .bool a, .bool b =>
    match P.underlying t with
    | some .bool =>
      match op with
      | .eql => some (true, .bool (a == b))
      | .neq => some (true, .bool (!(a == b)))
      | _ => none
    | _ => none
  | _, _ => none

def unSem (op : UnOp) : PV → Option PV
  | .int k n => match op with | .neg => some (.int k (k.wrap (0 - n))) | _ => none
  | .f32 x => match op with | .neg => some (.f32 (fneg .f32 x)) | _ => none
  | .f64 x => match op with | .neg => some (.f64 (fneg .f64 x)) | _ => none
  | .bool b => match op with | .not => some (.bool (!b)) | _ => none
  | _ => none

/-- The bytes of a list of numbers. -/
def bytesL (l : List Int) : ByteArray := ⟨(l.map fun n => UInt8.ofNat n.toNat).toArray⟩

def convSem (P : Program) (look : Nat → Nat × Option LObj) (src dst : TypeId) (x : PV) : Option (Bool × PV) :=
  match P.underlying src with
  | none => none
  | some ds =>
    match P.underlying dst with
    | some (.int k) =>
      match x with
      | .int _ n => some (true, .int k (k.wrap n))
      | .f32 a => some (f2iOk .f32 a k, .int k (f2i .f32 a k))
      | .f64 a => some (f2iOk .f64 a k, .int k (f2i .f64 a k))
      | _ => none
    | some (.float .f32) =>
      match x with
      | .int _ n => some (true, .f32 (i2f .f32 n))
      | .f32 a => some (true, .f32 a)
      | .f64 a => some (narrowOk .f64 a .f32, .f32 (f2f .f64 a .f32))
      | _ => none
    | some (.float .f64) =>
      match x with
      | .int _ n => some (true, .f64 (i2f .f64 n))
      | .f32 a => some (true, .f64 (f2f .f32 a .f64))
      | .f64 a => some (true, .f64 a)
      | _ => none
    | some .string =>
      match ds with
      | .slice e =>
        match P.underlying e with
        | some (.int .u8) =>
          match elemsAt look .u8 x with
          | some l => some (true, .str (bytesL l))
          | none => none
        | _ => none
      | _ => none
    | _ => none

/-- Places filled into a value. -/
def fillP (cells : List PV) : List (Nat × List PV) → Option (List PV)
  | [] => some cells
  | (off, vs) :: rest => if off + vs.length ≤ cells.length then fillP (splice cells off vs) rest else none

def placesOf (P : Program) (t : TypeId) : Option (Nat → Option (Nat × Nat)) :=
  match P.underlying t with
  | some (.struct fields) =>
    match fields.toList.mapM (fun f => (P.info? f.type).map fun i => (f.offset, i.size)) with
    | some pl => some (fun i => pl.toArray[i]?)
    | none => none
  | some (.array _ e) =>
    match P.info? e with
    | some ie => some (fun i => some (i * ie.size, ie.size))
    | none => none
  | _ => none

def buildParts (place : Nat → Option (Nat × Nat)) (ev : Operand → PV) : List (Nat × Operand) → Option (List (Nat × List PV))
  | [] => some []
  | (i, x) :: rest =>
    match place i, cellsOf (ev x), buildParts place ev rest with
    | some (off, size), some vs, some r => if vs.length = size then some ((off, vs) :: r) else none
    | _, _, _ => none

/-- The elements of a slice that is written out. -/
def buildElems (t : ET) (ev : Operand → PV) : List (Nat × Operand) → List t.D → Option (List t.D)
  | [], l => some l
  | (i, x) :: rest, l =>
    match cellsOf (ev x) with
    | some vs =>
      match dec t vs with
      | some d => if i < l.length then buildElems t ev rest (l.set i d) else none
      | none => none
    | none => none

def hasLocal : PV → Bool
  | .lptr .. => true
  | .lelem .. => true
  | .lslice .. => true
  | .agg cs => anyLocal cs
  | .tup cs => anyLocal cs
  | .func _ cs => anyLocal cs
  | _ => false
where
  anyLocal : List PV → Bool
    | [] => false
    | p :: ps => hasLocal p || anyLocal ps

/-- Has a value nothing in it that leads into memory? -/
def flatV : PV → Bool
  | .bool _ => true
  | .int _ _ => true
  | .f32 _ => true
  | .f64 _ => true
  | .str _ => true
  | .nils => true
  | .agg cs => allFlat cs
  | .tup cs => allFlat cs
  | _ => false
where
  allFlat : List PV → Bool
    | [] => true
    | p :: ps => flatV p && allFlat ps

def flatCtx : Ctx → Bool
  | .hole => true
  | .agg1 c => flatCtx c
  | .fst c rest => flatCtx c && flatV.allFlat rest

def flatR : CRes → Bool
  | .plain p => flatV p
  | .own _ t _ c => t.flat && flatCtx c

def mapO {α β : Type} (f : α → Option β) : List α → Option (List β)
  | [] => some []
  | p :: ps =>
    match f p, mapO f ps with
    | some q, some qs => some (q :: qs)
    | _, _ => none

/-- A value as a callee sees it: what is the call's own is told by what lies there. -/
def view (look : Nat → Nat × Option LObj) : Nat → PV → Option PV
  | 0, _ => none
  | n + 1, p =>
    match p with
    | .lptr id ver off =>
      match look id with
      | (v, some (.cells (some t) cs)) =>
        if v = ver then
          match mapO (view look n) cs with
          | some cs' =>
            match dec t cs' with
            | some x => some (.ptr t x off)
            | none => none
          | none => none
        else none
      | _ => none
    | .lelem id ver _ i off =>
      match look id with
      | (v, some (.elems _ t l)) => if v = ver then (if i < l.length then some (.ptr t (l.getD i t.dflt) off) else none) else none
      | _ => none
    | .lslice id ver t m =>
      match elemsAt look t (.lslice id ver t m) with
      | some l => some (.slice t l)
      | none => none
    | .agg cs => match mapO (view look n) cs with | some cs' => some (.agg cs') | none => none
    | .tup cs => match mapO (view look n) cs with | some cs' => some (.tup cs') | none => none
    | .func f cs => match mapO (view look n) cs with | some cs' => some (.func f cs') | none => none
    | p => some p

/-- The same in the form of its type. -/
def asType (E : Env) (tid : TypeId) (p : PV) : Option PV :=
  match E.P.underlying tid, p with
  | some (.pointer e), .ptr t x off =>
    match E.te e with
    | some t' => if off + t'.size ≤ t.size then (match dec t' ((enc t x).drop off |>.take t'.size) with | some x' => some (.ptr t' x' 0) | none => none) else none
    | none => none
  | some (.slice e), .nils =>
    match E.te e with
    | some t => some (.slice t [])
    | none => none
  | some (.struct _), .ptr t x off =>
    match E.te tid with
    | some t' =>
      if t.size ≠ t'.size ∧ off + t'.size ≤ t.size then (match dec t' ((enc t x).drop off |>.take t'.size) with | some x' => some (.ptr t' x' 0) | none => some p) else some p
    | none => some p
  | some (.struct _), .agg cs =>
    match E.te tid with
    | some t => match dec t cs with | some x => some (.agg (enc t x)) | none => none
    | none => some p
  | some (.array _ _), .agg cs =>
    match E.te tid with
    | some t => match dec t cs with | some x => some (.agg (enc t x)) | none => none
    | none => some p
  | _, p => some p

def argsAs (E : Env) (look : Nat → Nat × Option LObj) : List PV → List TypeId → Option (List PV)
  | [], _ => some []
  | p :: ps, ts =>
    match view look 4 p with
    | some q =>
      match (match ts with | t :: _ => asType E t q | [] => some q), argsAs E look ps ts.tail with
      | some r, some rs => some (r :: rs)
      | _, _ => none
    | none => none

def callSem (E : Env) (look : Nat → Nat × Option LObj) (d : Nat) (f : PV) (args : List PV) (types : List TypeId) : Option Out :=
  match f with
  | .func g cap =>
    match argsAs E look (args ++ cap) types with
    | some asv =>
      match E.X g with
      | some s =>
        if !hasLocal.anyLocal (args ++ cap) then
          match s asv with
          | some (b, p) => some (Out.ofPre b p)
          | none => none
        else none
      | none =>
        match E.T g asv with
        | some (b, r) =>
          if !hasLocal.anyLocal (args ++ cap) || flatR r then
            match r with
            | .plain p => some (Out.ofPre b p)
            | .own e t l c => some ⟨b, c.fill (.lslice d ((look d).1 + 1) t l.length), some (.elems e t l), none, none⟩
          else none
        | none => none
    | none => none
  | _ => none

def limB : Nat := 140737488355328

def appendSem (E : Env) (look : Nat → Nat × Option LObj) (d : Nat) (s x : PV) (types : List TypeId) : Option Out :=
  match types with
  | ts :: tx :: _ =>
    if ts = tx then
      match E.P.underlying ts with
      | some (.slice e) =>
        match E.te e, bytesOf E.P e, zeroOf E.P e with
        | some t, some by_, some z =>
          if szOf E.P e = some t.size ∧ z.length = t.size then
            match s with
            | .lslice id ver t' n =>
              match look id with
              | (v, some (.elems e' t'' l)) =>
                if v = ver ∧ e' = e then
                  (if h : t'' = t then (if t' = t then
                    match elemsAt look t x with
                    | some l2 =>
                      some ⟨decide (n = l.length) && decide ((n + l2.length) * (by_ + 1) ≤ limB), .lslice d ((look d).1 + 1) t ((h ▸ l : List t.D) ++ l2).length, some (.elems e t ((h ▸ l : List t.D) ++ l2)), none, if id = d then none else some id⟩
                    | none => none
                  else none) else none)
                else none
              | _ => none
            | .nils =>
              match elemsAt look t x with
              | some l2 => some ⟨decide (l2.length * (by_ + 1) ≤ limB), .lslice d ((look d).1 + 1) t l2.length, some (.elems e t l2), none, none⟩
              | none => none
            | _ => none
          else none
        | _, _, _ => none
      | _ => none
    else none
  | _ => none

def lenSem (P : Program) (types : List TypeId) (x : PV) : Option PV :=
  match types with
  | t :: _ =>
    match P.underlying t, x with
    | some .string, .str s => some (.int .i64 s.size)
    | some (.array n _), _ => some (.int .i64 n)
    | some (.slice _), .slice _ l => some (.int .i64 l.length)
    | some (.slice _), .lslice _ _ _ n => some (.int .i64 n)
    | some (.slice _), .nils => some (.int .i64 0)
    | _, _ => none
  | _ => none

def minSem : PV → PV → Option PV
  | .int k x, .int k' y => if k = k' then some (.int k (if y < x then y else x)) else none
  | _, _ => none

def sliceSem (P : Program) (t : TypeId) (x : PV) (lo hi mx : Option PV) : Option (Bool × PV) :=
  match P.underlying t with
  | some (.slice e) =>
    match szOf P e with
    | some _ =>
      match lo, mx, hi, x with
      | none, none, some (.int _ h), .lslice id ver t' n => some (decide (0 ≤ h) && decide (h ≤ n), .lslice id ver t' h.toNat)
      | none, none, some (.int _ h), .slice t' l => some (decide (0 ≤ h) && decide (h ≤ l.length), .slice t' (l.take h.toNat))
      | _, _, _, _ => none
    | none => none
  | _ => none

def idxSem (P : Program) (t : TypeId) (x i : PV) : Option (Bool × PV) :=
  match i with
  | .int _ n =>
    match P.underlying t with
    | some (.array len e) =>
      match szOf P e with
      | some sz => match addOff (n.toNat * sz) x with | some p => some (decide (0 ≤ n) && decide (n < len), p) | none => none
      | none => none
    | some (.slice e) =>
      match szOf P e with
      | some sz =>
        match x with
        | .lslice id ver t' m => if sz = t'.size then some (decide (0 ≤ n) && decide (n < m), .lelem id ver t' n.toNat 0) else none
        | .slice t' l => if sz = t'.size then some (decide (0 ≤ n) && decide (n < l.length), .ptr t' (l.getD n.toNat t'.dflt) 0) else none
        | _ => none
      | none => none
    | _ => none
  | _ => none

def partP (P : Program) (t : TypeId) (cs : List PV) (off : Nat) : Option PV :=
  match P.underlying t, szOf P t with
  | some _, some n => if off + n ≤ cs.length then (if isAggB P t then some (.agg ((cs.drop off).take n)) else if n = 1 then some (cs.getD off .undef) else none) else none
  | _, _ => none

/-- 'x[i]' of an array that is a value, or of a string. -/
def indexSem (P : Program) (t : TypeId) (x i : PV) : Option (Bool × PV) :=
  match i with
  | .int _ n =>
    match P.underlying t, x with
    | some (.array len e), .agg cs =>
      match szOf P e with
      | some sz => match partP P e cs (n.toNat * sz) with | some p => some (decide (0 ≤ n) && decide (n < len), p) | none => none
      | none => none
    | some .string, .str s => some (decide (0 ≤ n) && decide (n < s.size), .int .u8 (s.data.getD n.toNat 0).toNat)
    | _, _ => none
  | _ => none

def makeSem (E : Env) (d ver : Nat) (t : TypeId) (len cap : PV) : Option Out :=
  match E.P.underlying t, len, cap with
  | some (.slice e), .int .i64 n, .int .i64 m =>
    match E.te e, bytesOf E.P e, zeroOf E.P e with
    | some ty, some by_, some z =>
      if szOf E.P e = some ty.size then
        match dec ty z with
        | some d0 => some ⟨decide (n = m) && decide (0 ≤ n) && decide (n.toNat * (by_ + 1) ≤ limB), .lslice d (ver + 1) ty n.toNat, some (.elems e ty (List.replicate n.toNat d0)), none, none⟩
        | none => none
      else none
    | _, _, _ => none
  | _, _, _ => none

def loadSem (P : Program) (look : Nat → Nat × Option LObj) (t : TypeId) (a : PV) : Option (Bool × PV) :=
  match cellsAt look a with
  | some (b, cs, off) => match partP P t cs off with | some p => some (b, p) | none => none
  | none => none

def storeSem (P : Program) (look : Nat → Nat × Option LObj) (t : TypeId) (a x : PV) : Option Out :=
  match cellsOf x, szOf P t with
  | some vs, some n =>
    if vs.length = n then
      match a with
      | .lptr id ver off =>
        match look id with
        | (v, some (.cells t' cs)) => if v = ver ∧ off + n ≤ cs.length then some ⟨true, .undef, none, some (id, .cells t' (splice cs off vs)), none⟩ else none
        | _ => none
      | .lelem id ver _ i off =>
        match look id with
        | (v, some (.elems e t' l)) =>
          if v = ver ∧ off + n ≤ t'.size then
            match dec t' (splice (enc t' (l.getD i t'.dflt)) off vs) with
            | some d => some ⟨decide (i < l.length), .undef, none, some (id, .elems e t' (l.set i d)), none⟩
            | none => none
          else none
        | _ => none
      | _ => none
    else none
  | _, _ => none

def ofPair : Option (Bool × PV) → Option Out
  | some (b, p) => some (Out.ofPre b p)
  | none => none

def ofVal : Option PV → Option Out
  | some p => some (Out.of p)
  | none => none

/-- One operation; 'd' is the slot that it writes. -/
def opSem (E : Env) (look : Nat → Nat × Option LObj) (ev : Operand → PV) (d : Nat) (o : Oper) : Option Out :=
  match o.op with
  | .move x => some (Out.of (ev x))
  | .assign x => some (Out.of (ev x))
  | .pick c a b =>
    match ev c with
    | .bool q =>
      match ev a, ev b with
      | .bool x, .bool y => some (Out.of (.bool (cond q x y)))
      | x, y => some (Out.of (cond q x y))
    | _ => none
  | .alloc e =>
    match zeroOf E.P e with
    | some z => some ⟨true, .lptr d ((look d).1 + 1) 0, some (.cells (E.te e) z), none, none⟩
    | none => none
  | .box e x =>
    match cellsOf (ev x) with
    | some cs => some ⟨true, .lptr d ((look d).1 + 1) 0, some (.cells (E.te e) cs), none, none⟩
    | none => none
  | .build t parts =>
    match zeroOf E.P t, placesOf E.P t with
    | some z, some place =>
      match buildParts place ev parts.toList with
      | some ps => match fillP z ps with | some cs => some (Out.of (.agg cs)) | none => none
      | none => none
    | _, _ => none
  | .buildSlice t len parts =>
    match E.P.underlying t with
    | some (.slice e) =>
      match E.te e, zeroOf E.P e with
      | some ty, some z =>
        match dec ty z with
        | some d0 =>
          if szOf E.P e = some ty.size ∧ len ≤ 1000 then
            match buildElems ty ev parts.toList (List.replicate len d0) with
            | some l => some ⟨true, .lslice d ((look d).1 + 1) ty len, some (.elems e ty l), none, none⟩
            | none => none
          else none
        | none => none
      | _, _ => none
    | _ => none
  | .load t a => ofPair (loadSem E.P look t (ev a))
  | .store t a x => storeSem E.P look t (ev a) (ev x)
  | .nilCheck x => ofVal (addOff 0 (ev x))
  | .binOp op t x y _ =>
    match binSem op (ev x) (ev y) with
    | some r => ofPair (some r)
    | none => ofPair (boolSem E.P op t (ev x) (ev y))
  | .unOp op _ x => ofVal (unSem op (ev x))
  | .convert src dst x => ofPair (convSem E.P look src dst (ev x))
  | .fieldAddr s x f =>
    match fieldOff E.P s f with
    | some (off, ft) => if szOf E.P ft = some 0 then none else (match szOf E.P ft with | some _ => ofVal (addOff off (ev x)) | none => none)
    | none => none
  | .field s x f =>
    match fieldOff E.P s f, ev x with
    | some (off, ft), .agg cs => ofVal (partP E.P ft cs off)
    | _, _ => none
  | .indexAddr t x i => ofPair (idxSem E.P t (ev x) (ev i))
  | .index t x i => ofPair (indexSem E.P t (ev x) (ev i))
  | .extract x i =>
    match ev x with
    | .tup vs => if i < vs.length then some (Out.of (vs.getD i .undef)) else none
    | _ => none
  | .makeFunc (.func f) first cap => if first.size = 0 then some (Out.of (.func f (cap.toList.map ev))) else none
  | .makeSlice t l c => makeSem E d (look d).1 t (ev l) (ev c)
  | .slice t x lo hi mx => ofPair (sliceSem E.P t (ev x) (lo.map ev) (hi.map ev) (mx.map ev))
  | .call c =>
    match c.callee with
    | .value f => callSem E look d (ev f) (c.args.toList.map ev) c.argTypes.toList
    | .builtin .len => match c.args.toList with | [x] => ofVal (lenSem E.P c.argTypes.toList (ev x)) | _ => none
    | .builtin .append => match c.args.toList with | [s, x] => appendSem E look d (ev s) (ev x) c.argTypes.toList | _ => none
    | .builtin .min => match c.args.toList with | [x, y] => ofVal (minSem (ev x) (ev y)) | _ => none
    | _ => none
  | _ => none

def putSlot (t : List PV) : Option Tmp → PV → List PV
  | some d, v => t.set d v
  | none, _ => t

def putObj (o : List (Nat × Option LObj)) (d : Nat) (out : Out) : List (Nat × Option LObj) :=
  let o1 := match out.upd with | some (id, ob) => o.set id ((o.getD id (0, none)).1, some ob) | none => o
  let o2 := match out.kill with | some id => o1.set id ((o1.getD id (0, none)).1 + 1, none) | none => o1
  match out.new with | some ob => o2.set d ((o.getD d (0, none)).1 + 1, some ob) | none => o2

def dstOf (o : Oper) : Nat := match o.dst with | some d => d | none => 0

/-- May an object be made here: is there a slot for it? -/
def roomFor (st : St) (o : Oper) (out : Out) : Bool :=
  match out.new with
  | some _ => (match o.dst with | some d => decide (d < st.o.length) | none => false)
  | none => true

def St.after (st : St) (o : Oper) (out : Out) : St := ⟨putSlot st.t o.dst out.val, putObj st.o (dstOf o) out⟩

/-- The operations by whose result a guard asks. -/
def guardsOf (ops : List Oper) : List Nat := ops.filterMap fun o => o.guard.map (·.1)

def setBool (st : St) (o : Oper) (b : Bool) : St := ⟨putSlot st.t o.dst (.bool b), st.o⟩

/-- Where the guard of an operation lies. -/
def guardSlot (ops : List Oper) (j : Nat) : Option Tmp := match ops[j]? with | some o => o.dst | none => none

/-- What an operation reads and writes: slots and objects. -/
structure Foot where
  rs : List Nat
  ws : List Nat
  ri : List Nat
  wi : List Nat

def tmpsOf (l : List Operand) : List Nat := l.filterMap fun | .tmp t => some t | _ => none

def refs : PV → List Nat
  | .lptr id _ _ => [id]
  | .lelem id _ _ _ _ => [id]
  | .lslice id _ _ _ => [id]
  | .agg cs => refsL cs
  | .tup cs => refsL cs
  | .func _ cs => refsL cs
  | _ => []
where
  refsL : List PV → List Nat
    | [] => []
    | p :: ps => refs p ++ refsL ps

/-- All objects that a look at a value may meet. -/
def deepRefs (look : Nat → Nat × Option LObj) : Nat → List PV → List Nat
  | 0, _ => []
  | n + 1, ps =>
    let r := refs.refsL ps
    r ++ r.flatMap fun id => match look id with | (_, some (.cells _ cs)) => deepRefs look n cs | _ => []

def looks : Op → Bool
  | .load .. => true
  | .store .. => true
  | .convert .. => true
  | .call _ => true
  | _ => false

def footOf (ops : List Oper) (st : St) (o : Oper) (out : Out) : Foot :=
  ⟨tmpsOf o.op.operands.toList ++ (match o.guard with | some (j, _) => (match guardSlot ops j with | some t => [t] | none => []) | none => []),
   (match o.dst with | some d => [d] | none => []),
   if looks o.op then deepRefs st.look 5 (o.op.operands.toList.map (evO st.t)) else [],
   (match out.new with | some _ => [dstOf o] | none => []) ++ (match out.upd with | some (id, _) => [id] | none => []) ++ (match out.kill with | some id => [id] | none => [])⟩

def disj (a b : List Nat) : Bool := a.all fun x => !b.contains x

def Foot.apart (a b : Foot) : Bool := disj a.ws b.rs && disj a.ws b.ws && disj b.ws a.rs && disj a.wi b.ri && disj a.wi b.wi && disj b.wi a.ri

/-- What stands before an operation, by the edges that bind always. -/
def edgesOf (o : Oper) : List Nat := o.after.toList.filterMap fun e => if Region.binds .any e then some e.on else none

def joinB (f : Nat → Nat) : List Nat → Nat
  | [] => 0
  | j :: l => 2 ^ j ||| f j ||| joinB f l

/-- For each operation a number whose binary digits tell what stands before it. -/
def befores : List Oper → List Nat → List Nat
  | [], acc => acc
  | o :: rest, acc => befores rest (acc ++ [joinB (fun j => acc.getD j 0) (edgesOf o)])

/-- Are any two operations in order, or apart? -/
def okFeet (bs : List Nat) (fs : List Foot) : Bool :=
  (List.range fs.length).all fun j => (List.range j).all fun i =>
    (bs.getD j 0).testBit i || (match fs[i]?, fs[j]? with | some a, some b => a.apart b | _, _ => false)

def okEdges (ops : List Oper) : Bool :=
  (List.range ops.length).all fun j => match ops[j]? with | some o => (edgesOf o).all fun i => decide (i < j) | none => true

/-- One operation that runs, and what goes on behind it. -/
def opGo (E : Env) (all : List Oper) (gs : List Nat) (draw : Bool) (o : Oper) (i : Nat) (st : St) (fs : List Foot) (k : St → List Foot → Option CRes) : Option CRes :=
  match opSem E st.look (evO st.t) (dstOf o) o with
  | none => none
  | some out =>
    if roomFor st o out then
      cond out.pre
        (if gs.contains i then
          match out.val with
          | .bool b =>
            cond b (k (setBool (st.after o out) o true) (if draw then fs ++ [footOf all st o out] else fs))
              (k (setBool (st.after o out) o false) (if draw then fs ++ [footOf all st o out] else fs))
          | _ => none
        else k (st.after o out) (if draw then fs ++ [footOf all st o out] else fs))
        none
    else none

/-- An operation that its guard keeps from running. -/
def skipSt (st : St) (o : Oper) : St := ⟨putSlot st.t o.dst (.tup []), st.o⟩
def skipFoot (o : Oper) (s : Nat) : Foot := ⟨[s], (match o.dst with | some d => [d] | none => []), [], []⟩

/-- The operations one after another; 'i' is the number of the next one, 'fs' what those before have read and written. -/
def runOps (E : Env) (all : List Oper) (gs : List Nat) (draw : Bool) (k : St → List Foot → Option CRes) : List Oper → Nat → St → List Foot → Option CRes
  | [], _, st, fs => k st fs
  | o :: rest, i, st, fs =>
    match o.guard with
    | some (j, want) =>
      match guardSlot all j with
      | none => none
      | some s =>
        match st.t.getD s .undef with
        | .bool b =>
          cond (b == want) (opGo E all gs draw o i st fs (fun st fs => runOps E all gs draw k rest (i + 1) st fs))
            (runOps E all gs draw k rest (i + 1) (skipSt st o) (if draw then fs ++ [skipFoot o s] else fs))
        | .tup [] => runOps E all gs draw k rest (i + 1) (skipSt st o) (if draw then fs ++ [skipFoot o s] else fs)
        | _ => none
    | none => opGo E all gs draw o i st fs (fun st fs => runOps E all gs draw k rest (i + 1) st fs)

/-- A region: where it draws its order, any two operations are in order by an edge, or do not touch one another. -/
def runRegion (E : Env) (ops : List Oper) (draw : Bool) (st : St) (k : St → Option CRes) : Option CRes :=
  if draw then
    if okEdges ops then
      runOps E ops (guardsOf ops) true (fun st' fs => if okFeet (befores ops []) fs then k st' else none) ops 0 st []
    else none
  else runOps E ops (guardsOf ops) false (fun st' _ => k st') ops 0 st []

/-! Loops: at the head of a round the objects get names anew (that of the slot in which they stand), and what no round reads is forgotten. -/

def forget (fl : List Nat) (t : List PV) : List PV := fl.foldl (fun t i => t.set i .undef) t

/-- The live reference in a value, if it is one. -/
def topRef (look : Nat → Nat × Option LObj) : PV → Option Nat
  | .lptr id ver _ => match look id with | (v, some _) => if v = ver then some id else none | _ => none
  | .lelem id ver _ _ _ => match look id with | (v, some _) => if v = ver then some id else none | _ => none
  | .lslice id ver _ _ => match look id with | (v, some _) => if v = ver then some id else none | _ => none
  | .agg [p] => topRef look p
  | _ => none

/-- The names: slot by slot, the object that a slot leads to gets the slot's number, if it has none yet; what lies in an object's only cells gets the number behind all slots. -/
def namesAt (look : Nat → Nat × Option LObj) (n : Nat) : List PV → Nat → List (Nat × Nat) → List (Nat × Nat)
  | [], _, acc => acc
  | p :: ps, i, acc =>
    match topRef look p with
    | some id =>
      if acc.any (·.1 == id) then namesAt look n ps (i + 1) acc
      else
        let acc1 := acc ++ [(id, i)]
        let acc2 := match look id with
          | (_, some (.cells _ cs)) =>
            (match cs with
             | c :: _ => (match topRef look c with | some id2 => if acc1.any (·.1 == id2) then acc1 else acc1 ++ [(id2, n + i)] | none => acc1)
             | [] => acc1)
          | _ => acc1
        namesAt look n ps (i + 1) acc2
    | none => namesAt look n ps (i + 1) acc

def nameOf (ρ : List (Nat × Nat)) (id : Nat) : Option Nat :=
  match ρ with
  | [] => none
  | (a, b) :: r => if a = id then some b else nameOf r id

def ren (look : Nat → Nat × Option LObj) (ρ : List (Nat × Nat)) : PV → PV
  | .lptr id ver off => match nameOf ρ id with | some j => if (look id).1 = ver then .lptr j 0 off else .undef | none => .undef
  | .lelem id ver t i off => match nameOf ρ id with | some j => if (look id).1 = ver then .lelem j 0 t i off else .undef | none => .undef
  | .lslice id ver t n => match nameOf ρ id with | some j => if (look id).1 = ver then .lslice j 0 t n else .undef | none => .undef
  | .agg cs => .agg (renL cs)
  | .tup cs => .tup (renL cs)
  | .func f cs => .func f (renL cs)
  | p => p
where
  renL : List PV → List PV
    | [] => []
    | p :: ps => ren look ρ p :: renL ps

def renObj (look : Nat → Nat × Option LObj) (ρ : List (Nat × Nat)) : LObj → LObj
  | .cells t cs => .cells t (ren.renL look ρ cs)
  | .elems e t l => .elems e t l

def renO (look : Nat → Nat × Option LObj) (ρ : List (Nat × Nat)) : List (Nat × Nat) → List (Nat × Option LObj) → List (Nat × Option LObj)
  | [], o => o
  | (id, j) :: r, o => renO look ρ r (o.set j (0, match (look id).2 with | some ob => some (renObj look ρ ob) | none => none))

/-- No old name twice, no new name twice, all new names have a place. -/
def okNames (n : Nat) (ρ : List (Nat × Nat)) : Bool :=
  match ρ with
  | [] => true
  | (a, b) :: r => decide (b < n) && r.all (fun x => x.1 != a && x.2 != b) && okNames n r

def headSt (fl : List Nat) (st : St) : Option St :=
  let t := forget fl st.t
  let ρ := namesAt st.look t.length t 0 []
  if okNames st.o.length ρ then
    some ⟨ren.renL st.look ρ t, renO st.look ρ ρ (List.replicate st.o.length (0, none))⟩
  else none

inductive Ex where
  | normal
  | exit (id : Nat)
  | ret

def loopN (body : St → (Ex → St → Option CRes) → Option CRes) (fl : List Nat) : Nat → St → (Ex → St → Option CRes) → Option CRes
  | 0, _, _ => none
  | n + 1, st, k => body st (fun ex st2 => match ex with | .normal => (match headSt fl st2 with | some st3 => loopN body fl n st3 k | none => none) | .exit i => k (.exit i) st2 | .ret => k .ret st2)

/-- The number of the first region in a code: a loop goes by it. -/
def firstRegion : Code → Nat
  | .region id _ _ => id
  | .seq a _ => firstRegion a
  | .block _ c => firstRegion c
  | .loop c => firstRegion c
  | .scope c => firstRegion c
  | .cond _ a _ => firstRegion a
  | _ => 0

/-- A test that has come out is known behind it. -/
def fixSlot (st : St) (c : Operand) (q : Bool) : St := match c with | .tmp i => ⟨st.t.set i (.bool q), st.o⟩ | _ => st

def evalC (E : Env) (fuel : Nat) : Code → St → (Ex → St → Option CRes) → Option CRes
  | .skip, st, k => k .normal st
  | .region _ ops draw, st, k => runRegion E ops.toList draw st (fun st' => k .normal st')
  | .seq a b, st, k => evalC E fuel a st (fun ex st' => match ex with | .normal => evalC E fuel b st' k | .exit i => k (.exit i) st' | .ret => k .ret st')
  | .cond c a b, st, k =>
    match evO st.t c with
    | .bool q => cond q (evalC E fuel a (fixSlot st c true) k) (evalC E fuel b (fixSlot st c false) k)
    | _ => none
  | .block id c, st, k =>
    evalC E fuel c st (fun ex st' => match ex with | .normal => k .normal st' | .exit i => if i = id then k .normal st' else k (.exit i) st' | .ret => k .ret st')
  | .loop c, st, k => match headSt (E.fg (firstRegion c)) st with | some st1 => loopN (evalC E fuel c) (E.fg (firstRegion c)) fuel st1 k | none => none
  | .exit id, st, k => k (.exit id) st
  | .ret, st, k => k .ret st
  | _, _, _ => none

/-! The results of a call. -/

/-- A value in which places of the call's own are told by what lies there. -/
def frozen (look : Nat → Nat × Option LObj) (p : PV) : Option CRes :=
  if hasLocal p then (match view look 4 p with | some q => some (.plain q) | none => none) else some (.plain p)

/-- A value without places of its own, or one new slice in it. -/
def wrapOf (look : Nat → Nat × Option LObj) : PV → Option CRes
  | .lslice id ver t n =>
    match look id with
    | (v, some (.elems e t' l)) => if v = ver then (if t' = t then some (.own e t' (l.take n) .hole) else none) else none
    | _ => none
  | .agg [p] =>
    match p with
    | .lslice id ver t n => match wrapOf look (.lslice id ver t n) with | some (.own e t l c) => some (.own e t l (.agg1 c)) | _ => none
    | p => frozen look (.agg [p])
  | p => frozen look p

def tupOf (look : Nat → Nat × Option LObj) : List PV → Option CRes
  | [] => some (.plain (.tup []))
  | [p] => wrapOf look p
  | p :: rest =>
    if hasLocal.anyLocal rest then none else
    match wrapOf look p with
    | some (.plain q) => some (.plain (.tup (q :: rest)))
    | some (.own e t l c) => some (.own e t l (.fst c rest))
    | none => none

def resVars (P : Program) (st : St) : List ResultVar → Option (List PV)
  | [] => some []
  | .tmp t :: r =>
    match resVars P st r with
    | some ps => some (st.t.getD t .undef :: ps)
    | none => none
  | .cell a t :: r =>
    match loadSem P st.look t (st.t.getD a .undef), resVars P st r with
    | some (true, p), some ps => some (p :: ps)
    | _, _ => none

def resultOf (P : Program) (fn : Func) (st : St) : Option CRes :=
  match resVars P st fn.results.toList with
  | some ps => tupOf st.look ps
  | none => none

def startSt (fn : Func) (args : List PV) : St := ⟨args ++ List.replicate (fn.ntmps - args.length) .undef, List.replicate (2 * fn.ntmps) (0, none)⟩

def evalF (E : Env) (fuel : Nat) (fn : Func) (args : List PV) : Option CRes :=
  match fn.body with
  | some c => evalC E fuel c (startSt fn args) (fun ex st => match ex with | .exit _ => none | _ => resultOf E.P fn st)
  | none => none

end

end Go.Ev

/- What it means that a frame and a world are those of an abstract state; how this is kept when the world goes on. -/
namespace Go.Ev
open Go Go.RowKit

def blkOf : Value → Option Nat
  | .pointer (some a) => some a.block
  | .slice (some a) _ _ => some a.block
  | _ => none

abbrev Look := Nat → Nat × Option LObj

/-- A value of the frame is an abstract value: 'm' tells where an object lies. -/
inductive VRel (w : World) (S : Nat → Prop) (look : Look) (m : Nat → Value) : Value → PV → Prop
  | base (v : Value) (p : PV) (h : PRel w S v p) : VRel w S look m v p
  | agg (vs : Array Value) (cs : List PV) (hs : vs.size = cs.length) (h1 : ∀ i, i < cs.length → (vs.getD i Go.undef).oneCell' = true)
      (h : ∀ i, i < cs.length → VRel w S look m (vs.getD i Go.undef) (cs.getD i .undef)) : VRel w S look m (.agg vs) (.agg cs)
  | tup (vs : Array Value) (cs : List PV) (hs : vs.size = cs.length)
      (h : ∀ i, i < cs.length → VRel w S look m (vs.getD i Go.undef) (cs.getD i .undef)) : VRel w S look m (.tuple vs) (.tup cs)
  | func (f : FuncId) (vs : Array Value) (cs : List PV) (hs : vs.size = cs.length)
      (h : ∀ i, i < cs.length → VRel w S look m (vs.getD i Go.undef) (cs.getD i .undef)) : VRel w S look m (.func (.func f) #[] vs) (.func f cs)
  | lptr (id ver off b : Nat) (hv : ver ≤ (look id).1) (h : ∀ t cs, look id = (ver, some (.cells t cs)) → m id = .pointer (some ⟨b, 0, none⟩)) :
      VRel w S look m (.pointer (some ⟨b, off, none⟩)) (.lptr id ver off)
  | lelem (id ver : Nat) (t : ET) (i off b : Nat) (hv : ver ≤ (look id).1)
      (h : ∀ e t' l, look id = (ver, some (.elems e t' l)) → t' = t ∧ (i < l.length → ∃ n cap, m id = .slice (some ⟨b, 0, none⟩) n cap)) :
      VRel w S look m (.pointer (some ⟨b, i * t.size + off, none⟩)) (.lelem id ver t i off)
  | lslice (id ver : Nat) (t : ET) (n : Nat) (a : Option Addr) (cap : Nat) (hv : ver ≤ (look id).1) (ha : 0 < n → ∃ b, a = some ⟨b, 0, none⟩) (hn : n ≤ cap)
      (h : ∀ e t' l, look id = (ver, some (.elems e t' l)) → t' = t ∧ n ≤ l.length ∧ m id = .slice a l.length cap) :
      VRel w S look m (.slice a n cap) (.lslice id ver t n)

/-- How an object table goes on: an entry stays, or gets a new version, or its content is written anew in place. -/
def Step (look : Look) (m : Nat → Value) (look' : Look) (m' : Nat → Value) : Prop :=
  ∀ id, (look' id = look id ∧ m' id = m id) ∨ ((look id).1 < (look' id).1) ∨
    (∃ v t cs cs', look id = (v, some (.cells t cs)) ∧ look' id = (v, some (.cells t cs')) ∧ m' id = m id) ∨
    (∃ v e t, ∃ (l l' : List t.D), look id = (v, some (.elems e t l)) ∧ look' id = (v, some (.elems e t l')) ∧ l'.length = l.length ∧ m' id = m id)

theorem Step.refl (look : Look) (m : Nat → Value) : Step look m look m := fun _ => .inl ⟨rfl, rfl⟩

theorem VRel.step {w w' : World} {S S' : Nat → Prop} {look look' : Look} {m m' : Nat → Value} (hst : Step look m look' m')
    (hS : ∀ b, S b → S' b) (hw : ∀ b, S b → w'.heap[b]? = w.heap[b]?) {v : Value} {p : PV} (h : VRel w S look m v p) : VRel w' S' look' m' v p := by
  induction h with
  | base v p h => exact .base v p (h.mono hS hw)
  | agg vs cs hs h1 _ ih => exact .agg vs cs hs h1 ih
  | tup vs cs hs _ ih => exact .tup vs cs hs ih
  | func f vs cs hs _ ih => exact .func f vs cs hs ih
  | lptr id ver off b hv h =>
    rcases hst id with ⟨e1, e2⟩ | hlt | ⟨ver', t, cs, cs', e1, e2, e3⟩ | ⟨ver', e, t, l, l', e1, e2, _, e3⟩
    · exact .lptr id ver off b (by rw [e1]; exact hv) (fun t cs hl => by rw [e2]; exact h t cs (e1 ▸ hl))
    · exact .lptr id ver off b (by omega) (fun t cs hl => by rw [hl] at hlt; simp at hlt; omega)
    · refine .lptr id ver off b (by rw [e1] at hv; rw [e2]; exact hv) (fun t2 cs2 hl => ?_)
      rw [e2] at hl; cases hl
      rw [e3]; exact h _ _ e1
    · refine .lptr id ver off b (by rw [e1] at hv; rw [e2]; exact hv) (fun t2 cs2 hl => ?_)
      rw [e2] at hl; cases hl
  | lelem id ver t i off b hv h =>
    rcases hst id with ⟨e1, e2⟩ | hlt | ⟨ver', t, cs, cs', e1, e2, e3⟩ | ⟨ver', e, t, l, l', e1, e2, hlen, e3⟩
    · exact .lelem id ver t i off b (by rw [e1]; exact hv) (fun e t' l hl => by rw [e2]; exact h e t' l (e1 ▸ hl))
    · exact .lelem id ver t i off b (by omega) (fun e t' l hl => by rw [hl] at hlt; simp at hlt; omega)
    · refine .lelem id ver _ i off b (by rw [e1] at hv; rw [e2]; exact hv) (fun e2' t2 cs2 hl => ?_)
      rw [e2] at hl; cases hl
    · refine .lelem id ver _ i off b (by rw [e1] at hv; rw [e2]; exact hv) (fun e2' t2 l2 hl => ?_)
      rw [e2] at hl; cases hl
      rw [e3]
      have := h _ _ _ e1
      exact ⟨this.1, fun hi => this.2 (by omega)⟩
  | lslice id ver t n a cap hv ha hn h =>
    rcases hst id with ⟨e1, e2⟩ | hlt | ⟨ver', t, cs, cs', e1, e2, e3⟩ | ⟨ver', e, t, l, l', e1, e2, hlen, e3⟩
    · exact .lslice id ver t n a cap (by rw [e1]; exact hv) ha hn (fun e t' l hl => by rw [e2]; exact h e t' l (e1 ▸ hl))
    · exact .lslice id ver t n a cap (by omega) ha hn (fun e t' l hl => by rw [hl] at hlt; simp at hlt; omega)
    · refine .lslice id ver _ n a cap (by rw [e1] at hv; rw [e2]; exact hv) ha hn (fun e2' t2 cs2 hl => ?_)
      rw [e2] at hl; cases hl
    · refine .lslice id ver _ n a cap (by rw [e1] at hv; rw [e2]; exact hv) ha hn (fun e2' t2 l2 hl => ?_)
      rw [e2] at hl; cases hl
      rw [e3, hlen]
      exact h _ _ _ e1

/-! Inversion. -/

section
variable {w : World} {S : Nat → Prop} {look : Look} {m : Nat → Value} {v : Value}

theorem PRel.agg_inv {cs : List PV} (h : PRel w S v (.agg cs)) : ∃ vs, v = .agg vs ∧ vs.size = cs.length ∧ (∀ i, i < cs.length → (vs.getD i Go.undef).oneCell' = true) ∧
    ∀ i, i < cs.length → PRel w S (vs.getD i Go.undef) (cs.getD i .undef) := by
  cases h with
  | agg vs _ hs h1 h => exact ⟨vs, rfl, hs, h1, h⟩

theorem VRel.agg_inv {cs : List PV} (h : VRel w S look m v (.agg cs)) : ∃ vs, v = .agg vs ∧ vs.size = cs.length ∧ (∀ i, i < cs.length → (vs.getD i Go.undef).oneCell' = true) ∧
    ∀ i, i < cs.length → VRel w S look m (vs.getD i Go.undef) (cs.getD i .undef) := by
  cases h with
  | base _ _ h => obtain ⟨vs, e, hs, h1, h⟩ := h.agg_inv; exact ⟨vs, e, hs, h1, fun i hi => .base _ _ (h i hi)⟩
  | agg vs _ hs h1 h => exact ⟨vs, rfl, hs, h1, h⟩

theorem VRel.tup_inv {cs : List PV} (h : VRel w S look m v (.tup cs)) : ∃ vs, v = .tuple vs ∧ vs.size = cs.length ∧
    ∀ i, i < cs.length → VRel w S look m (vs.getD i Go.undef) (cs.getD i .undef) := by
  cases h with
  | base _ _ h => cases h with | tup vs _ hs h => exact ⟨vs, rfl, hs, fun i hi => .base _ _ (h i hi)⟩
  | tup vs _ hs h => exact ⟨vs, rfl, hs, h⟩

theorem VRel.func_inv {f : FuncId} {cs : List PV} (h : VRel w S look m v (.func f cs)) : ∃ vs, v = .func (.func f) #[] vs ∧ vs.size = cs.length ∧
    ∀ i, i < cs.length → VRel w S look m (vs.getD i Go.undef) (cs.getD i .undef) := by
  cases h with
  | base _ _ h => cases h with | func _ vs _ hs h => exact ⟨vs, rfl, hs, fun i hi => .base _ _ (h i hi)⟩
  | func _ vs _ hs h => exact ⟨vs, rfl, hs, h⟩

theorem VRel.bool_inv {b : Bool} (h : VRel w S look m v (.bool b)) : v = .bool b := by cases h with | base _ _ h => cases h; rfl
theorem VRel.int_inv {k : IntKind} {n : Int} (h : VRel w S look m v (.int k n)) : v = .int k n := by cases h with | base _ _ h => cases h; rfl
theorem VRel.f32_inv {x : Nat} (h : VRel w S look m v (.f32 x)) : ∃ b, v = .float .f32 b ∧ FRel .f32 b x := by cases h with | base _ _ h => cases h with | f32 b _ h => exact ⟨b, rfl, h⟩
theorem VRel.f64_inv {x : Nat} (h : VRel w S look m v (.f64 x)) : ∃ b, v = .float .f64 b ∧ FRel .f64 b x := by cases h with | base _ _ h => cases h with | f64 b _ h => exact ⟨b, rfl, h⟩
theorem VRel.str_inv {s : ByteArray} (h : VRel w S look m v (.str s)) : v = .string s := by cases h with | base _ _ h => cases h; rfl
theorem VRel.nils_inv (h : VRel w S look m v .nils) : v = .slice none 0 0 := by cases h with | base _ _ h => cases h; rfl

theorem VRel.lptr_inv {id ver off : Nat} (h : VRel w S look m v (.lptr id ver off)) :
    ∃ b, v = .pointer (some ⟨b, off, none⟩) ∧ ver ≤ (look id).1 ∧ ∀ t cs, look id = (ver, some (.cells t cs)) → m id = .pointer (some ⟨b, 0, none⟩) := by
  cases h with
  | base _ _ h => cases h
  | lptr _ _ _ b hv h => exact ⟨b, rfl, hv, h⟩

theorem VRel.lelem_inv {id ver i off : Nat} {t : ET} (h : VRel w S look m v (.lelem id ver t i off)) :
    ∃ b, v = .pointer (some ⟨b, i * t.size + off, none⟩) ∧ ver ≤ (look id).1 ∧ ∀ e t' l, look id = (ver, some (.elems e t' l)) → t' = t ∧ (i < l.length → ∃ n cap, m id = .slice (some ⟨b, 0, none⟩) n cap) := by
  cases h with
  | base _ _ h => cases h
  | lelem _ _ _ _ _ b hv h => exact ⟨b, rfl, hv, h⟩

theorem VRel.lslice_inv {id ver n : Nat} {t : ET} (h : VRel w S look m v (.lslice id ver t n)) :
    ∃ a cap, v = .slice a n cap ∧ ver ≤ (look id).1 ∧ (0 < n → ∃ b, a = some ⟨b, 0, none⟩) ∧ n ≤ cap ∧ ∀ e t' l, look id = (ver, some (.elems e t' l)) → t' = t ∧ n ≤ l.length ∧ m id = .slice a l.length cap := by
  cases h with
  | base _ _ h => cases h
  | lslice _ _ _ _ a cap hv ha hn h => exact ⟨a, cap, rfl, hv, ha, hn, h⟩

theorem oneCell_cells {v : Value} (h : v.oneCell' = true) : v.cells = #[v] := by cases v <;> first | rfl | simp [Value.oneCell'] at h

theorem PRel.oneCell {p : PV} (h : PRel w S v p) (hp : ∀ cs, p ≠ .agg cs) (hq : ∀ cs, p ≠ .tup cs) (hu : p ≠ .undef) : v.oneCell' = true := by
  cases h <;> first | rfl | exact absurd rfl (hp _) | exact absurd rfl (hq _) | exact absurd rfl hu

theorem VRel.oneCell {p : PV} (h : VRel w S look m v p) (hp : ∀ cs, p ≠ .agg cs) (hq : ∀ cs, p ≠ .tup cs) (hu : p ≠ .undef) : v.oneCell' = true := by
  cases h with
  | base _ _ h => exact h.oneCell hp hq hu
  | agg _ _ _ _ _ => exact absurd rfl (hp _)
  | tup _ _ _ _ => exact absurd rfl (hq _)
  | func _ _ _ _ _ => rfl
  | lptr _ _ _ _ _ _ => rfl
  | lelem _ _ _ _ _ _ _ _ => rfl
  | lslice _ _ _ _ _ _ _ _ _ _ => rfl

/-- The cells of a value are those of its abstract value. -/
theorem VRel.cells {p : PV} {cs : List PV} (h : VRel w S look m v p) (hc : cellsOf p = some cs) :
    v.cells.size = cs.length ∧ (∀ i, i < cs.length → (v.cells.getD i Go.undef).oneCell' = true) ∧ ∀ i, i < cs.length → VRel w S look m (v.cells.getD i Go.undef) (cs.getD i .undef) := by
  have scalar : (∀ cs, p ≠ .agg cs) → (∀ cs, p ≠ .tup cs) → p ≠ .undef → cs = [p] →
      v.cells.size = cs.length ∧ (∀ i, i < cs.length → (v.cells.getD i Go.undef).oneCell' = true) ∧ ∀ i, i < cs.length → VRel w S look m (v.cells.getD i Go.undef) (cs.getD i .undef) := by
    intro h1 h2 h3 hcs
    have h0 := h.oneCell h1 h2 h3
    subst hcs
    rw [oneCell_cells h0]
    refine ⟨rfl, fun i hi => ?_, fun i hi => ?_⟩
    · have : i = 0 := by simp at hi; omega
      subst this; exact h0
    · have : i = 0 := by simp at hi; omega
      subst this; exact h
  cases p <;> simp only [cellsOf] at hc
  case undef => cases hc
  case tup => cases hc
  case agg => cases hc; obtain ⟨vs, rfl, hs, h1, hh⟩ := h.agg_inv; exact ⟨hs, h1, hh⟩
  all_goals (cases hc; exact scalar (fun _ e => by cases e) (fun _ e => by cases e) (fun e => by cases e) rfl)

end

def scalarB : PV → Bool
  | .agg _ => false
  | .tup _ => false
  | .undef => false
  | _ => true

theorem scalarB_spec {p : PV} (h : scalarB p = true) : (∀ cs, p ≠ .agg cs) ∧ (∀ cs, p ≠ .tup cs) ∧ p ≠ .undef :=
  ⟨fun _ e => (by rw [e] at h; cases h), fun _ e => (by rw [e] at h; cases h), fun e => (by rw [e] at h; cases h)⟩

theorem enc_all (t : ET) (x : t.D) : (enc t x).all scalarB = true := by cases t <;> rfl

theorem enc_scalar (t : ET) (x : t.D) (j : Nat) (hj : j < t.size) : (∀ cs, (enc t x).getD j .undef ≠ .agg cs) ∧ (∀ cs, (enc t x).getD j .undef ≠ .tup cs) ∧ (enc t x).getD j .undef ≠ .undef := by
  have hlen : j < (enc t x).length := by rw [enc_length]; exact hj
  refine scalarB_spec (List.all_eq_true.1 (enc_all t x) _ ?_)
  rw [List.getD_eq_getElem?_getD, List.getElem?_eq_getElem hlen]
  exact List.getElem_mem hlen

end Go.Ev

/- A frame and a world of an abstract state: the whole relation, and how an operation carries it on. -/
namespace Go.Ev
open Go Go.RowKit

def liveIn (look : Look) (id : Nat) : Prop := (look id).2.isSome = true

/-- The blocks that are not turned: none of an object of the call's own; of the old ones only those that 'A' lets in. -/
def stabOf (A : Nat → Prop) (w : World) (look : Look) (m : Nat → Value) (b : Nat) : Prop := b < w.heap.size ∧ (∀ id, liveIn look id → blkOf (m id) ≠ some b) ∧ A b

def ObjRel (B : Nat) (w : World) (S : Nat → Prop) (look : Look) (m : Nat → Value) (id : Nat) : LObj → Prop
  | .cells _ cs => ∃ b e arr, m id = .pointer (some ⟨b, 0, none⟩) ∧ B ≤ b ∧ w.heap[b]? = some (.cells arr e (0, 0)) ∧ arr.size = cs.length ∧
      (∀ i, i < cs.length → (arr.getD i Go.undef).oneCell' = true) ∧ ∀ i, i < cs.length → VRel w S look m (arr.getD i Go.undef) (cs.getD i .undef)
  | .elems e t l => ∃ xs, w.ownsRow B e t.size (m id) l.length xs ∧
      ∀ i, (hi : i < l.length) → ∀ j, j < t.size → PRel w S (xs.getD (i * t.size + j) Go.undef) ((enc t l[i]).getD j .undef)

structure Rel (A : Nat → Prop) (w0 : World) (m : Nat → Value) (st : St) (a : Act) (w : World) : Prop where
  defers : a.defers = []
  size : a.tmps.size = st.t.length
  slots : ∀ i, VRel w (stabOf A w st.look m) st.look m (a.tmps.getD i Go.undef) (st.t.getD i .undef)
  objs : ∀ id ver ob, st.look id = (ver, some ob) → ObjRel w0.heap.size w (stabOf A w st.look m) st.look m id ob
  apart : ∀ id id', liveIn st.look id → liveIn st.look id' → id ≠ id' → ∀ b, blkOf (m id) = some b → blkOf (m id') ≠ some b
  below : Below w0.heap.size w0 w
  fresh : ∀ b, w0.heap.size ≤ b → A b

theorem ownsRow_of_heap {w w' : World} {B : Nat} {e : TypeId} {sz : Nat} {v : Value} {n : Nat} {xs : List Value} (h : w.ownsRow B e sz v n xs)
    (hb : ∀ b, blkOf v = some b → w'.heap[b]? = w.heap[b]?) : w'.ownsRow B e sz v n xs := by
  refine ⟨h.1, ?_⟩
  rcases h.2 with h | ⟨g, cap, cur, rfl, h1, h2, h3⟩
  · exact .inl h
  · exact .inr ⟨g, cap, cur, rfl, h1, (hb g rfl).trans h2, h3⟩

theorem ObjRel.step {B : Nat} {w w' : World} {S S' : Nat → Prop} {look look' : Look} {m m' : Nat → Value} {id : Nat} {ob : LObj} (h : ObjRel B w S look m id ob)
    (hst : Step look m look' m') (hS : ∀ b, S b → S' b) (hw : ∀ b, S b → w'.heap[b]? = w.heap[b]?) (hm : m' id = m id)
    (hb : ∀ b, blkOf (m id) = some b → w'.heap[b]? = w.heap[b]?) : ObjRel B w' S' look' m' id ob := by
  cases ob with
  | cells t cs =>
    obtain ⟨b, e, arr, h1, h2, h3, h4, h5, h6⟩ := h
    exact ⟨b, e, arr, hm.trans h1, h2, (hb b (by rw [h1]; rfl)).trans h3, h4, h5, fun i hi => (h6 i hi).step hst hS hw⟩
  | elems e t l =>
    obtain ⟨xs, h1, h2⟩ := h
    exact ⟨xs, by rw [hm]; exact ownsRow_of_heap h1 hb, fun i hi j hj => (h2 i hi j hj).mono hS hw⟩

theorem ObjRel.blk_lt {B : Nat} {w : World} {S : Nat → Prop} {look : Look} {m : Nat → Value} {id : Nat} {ob : LObj} (h : ObjRel B w S look m id ob) :
    ∀ b, blkOf (m id) = some b → B ≤ b ∧ b < w.heap.size := by
  intro b hb
  cases ob with
  | cells t cs =>
    obtain ⟨b', e, arr, h1, h2, h3, _⟩ := h
    rw [h1] at hb; cases hb
    exact ⟨h2, (Array.getElem?_eq_some_iff.1 h3).1⟩
  | elems e t l =>
    obtain ⟨xs, h1, _⟩ := h
    rcases h1.2 with ⟨hn, _⟩ | ⟨g, cap, cur, hv, h3, h4, _⟩
    · rw [hn] at hb; cases hb
    · rw [hv] at hb; cases hb
      exact ⟨h3, (Array.getElem?_eq_some_iff.1 h4).1⟩

section
variable {A : Nat → Prop} {w0 w : World} {m : Nat → Value} {st : St} {a : Act}

theorem live_some {look : Look} {id : Nat} (h : liveIn look id) : ∃ ver ob, look id = (ver, some ob) := by
  unfold liveIn at h
  obtain ⟨ob, ho⟩ := Option.isSome_iff_exists.1 h
  exact ⟨(look id).1, ob, by rw [← ho]⟩

theorem live_of {look : Look} {id ver : Nat} {ob : LObj} (h : look id = (ver, some ob)) : liveIn look id := by simp [liveIn, h]

theorem Rel.blk_lt (rel : Rel A w0 m st a w) {id : Nat} (h : liveIn st.look id) : ∀ b, blkOf (m id) = some b → w0.heap.size ≤ b ∧ b < w.heap.size := by
  obtain ⟨ver, ob, ho⟩ := live_some h
  exact (rel.objs id ver ob ho).blk_lt

theorem slots_put {R : Value → PV → Prop} {tmps : Array Value} {t : List PV} (hs : tmps.size = t.length) (h : ∀ i, R (tmps.getD i Go.undef) (t.getD i .undef)) {v : Value} {p : PV} (hv : R v p) (d : Nat) :
    ∀ i, R ((tmps.setIfInBounds d v).getD i Go.undef) ((t.set d p).getD i .undef) := by
  intro i
  simp only [Array.getD_eq_getD_getElem?, List.getD_eq_getElem?_getD, Array.getElem?_setIfInBounds, List.getElem?_set]
  by_cases hd : d = i
  · subst hd
    simp only [if_true]
    by_cases hlt : d < tmps.size
    · rw [if_pos hlt, if_pos (by omega)]; exact hv
    · have := h d
      simp only [Array.getD_eq_getD_getElem?, List.getD_eq_getElem?_getD] at this
      rw [if_neg hlt, if_neg (by omega)]
      rw [Array.getElem?_eq_none (by omega), List.getElem?_eq_none (by omega)] at this
      exact this
  · rw [if_neg hd, if_neg hd]
    have := h i
    simpa only [Array.getD_eq_getD_getElem?, List.getD_eq_getElem?_getD] using this

/-- The world goes on without a block turned; a slot is written. -/
theorem Rel.value (rel : Rel A w0 m st a w) {w' : World} (hw : w'.heap = w.heap) (hb : Below w0.heap.size w0 w') (o : Oper) {p : PV} {v : Value}
    (hv : VRel w (stabOf A w st.look m) st.look m v p) (b : Bool) : Rel A w0 m (st.after o (Out.ofPre b p)) (a.put o.dst v) w' := by
  have hS : ∀ b, stabOf A w st.look m b → stabOf A w' st.look m b := fun b h => ⟨by rw [hw]; exact h.1, h.2⟩
  have hW : ∀ b, stabOf A w st.look m b → w'.heap[b]? = w.heap[b]? := fun b _ => by rw [hw]
  have hl : (st.after o (Out.ofPre b p)).look = st.look := rfl
  have key : ∀ i, VRel w' (stabOf A w' st.look m) st.look m (a.tmps.getD i Go.undef) (st.t.getD i .undef) := fun i => (rel.slots i).step (Step.refl _ _) hS hW
  refine ⟨?_, ?_, ?_, ?_, ?_, hb, rel.fresh⟩
  · cases hd : o.dst <;> simpa [Act.put, hd] using rel.defers
  · cases hd : o.dst <;> simp [Act.put, St.after, putSlot, hd, rel.size]
  · rw [hl]
    cases hd : o.dst with
    | none => simpa [Act.put, St.after, putSlot, hd] using key
    | some d =>
      have := slots_put rel.size key (hv.step (Step.refl _ _) hS hW) d
      simpa [Act.put, St.after, putSlot, hd, Out.ofPre] using this
  · rw [hl]
    intro id ver ob h
    exact (rel.objs id ver ob h).step (Step.refl _ _) hS hW rfl (fun b _ => by rw [hw])
  · rw [hl]; exact rel.apart

theorem look_set (o : List (Nat × Option LObj)) (t : List PV) (d : Nat) (x : Nat × Option LObj) (hd : d < o.length) (id : Nat) :
    (St.mk t (o.set d x)).look id = if id = d then x else (St.mk t o).look id := by
  simp only [St.look, List.getD_eq_getElem?_getD, List.getElem?_set]
  by_cases h : d = id
  · subst h; simp [hd]
  · rw [if_neg h, if_neg (fun e => h e.symm)]

/-- A new object in a new block. -/
theorem Rel.newObj (rel : Rel A w0 m st a w) {w' : World} (hblk : ∀ b, b < w.heap.size → w'.heap[b]? = w.heap[b]?) (hsz : w.heap.size ≤ w'.heap.size) (hb : Below w0.heap.size w0 w')
    (o : Oper) (d : Nat) (hd : o.dst = some d) (hroom : d < st.o.length) (ob : LObj) (mv : Value) (hmv : ∀ b, blkOf mv = some b → w.heap.size ≤ b ∧ b < w'.heap.size)
    (p : PV) (v : Value) (pre : Bool)
    (hobj : ∀ look' m' S', look' d = ((st.look d).1 + 1, some ob) → m' d = mv → (∀ b, stabOf A w st.look m b → S' b) → (∀ b, w.heap.size ≤ b → b < w'.heap.size → blkOf mv ≠ some b → S' b) → Step st.look m look' m' →
      ObjRel w0.heap.size w' S' look' m' d ob)
    (hval : ∀ look' m' S', look' d = ((st.look d).1 + 1, some ob) → m' d = mv → (∀ b, stabOf A w st.look m b → S' b) → (∀ b, w.heap.size ≤ b → b < w'.heap.size → blkOf mv ≠ some b → S' b) → Step st.look m look' m' → VRel w' S' look' m' v p) :
    ∃ m', Rel A w0 m' (st.after o ⟨pre, p, some ob, none, none⟩) (a.put o.dst v) w' := by
  let m' : Nat → Value := fun id => if id = d then mv else m id
  let look' : Look := (st.after o ⟨pre, p, some ob, none, none⟩).look
  have hlook : ∀ id, look' id = if id = d then ((st.look d).1 + 1, some ob) else st.look id := by
    intro id
    have := look_set st.o (putSlot st.t o.dst p) d ((st.o.getD d (0, none)).1 + 1, some ob) hroom id
    simp only [look', St.after, putObj, dstOf, hd] at this ⊢
    exact this
  have hld : look' d = ((st.look d).1 + 1, some ob) := by rw [hlook, if_pos rfl]
  have hmd : m' d = mv := if_pos rfl
  have hst : Step st.look m look' m' := by
    intro id
    by_cases h : id = d
    · refine .inr (.inl ?_); rw [hlook, if_pos h, h]; simp
    · refine .inl ⟨by rw [hlook, if_neg h], if_neg h⟩
  have hS : ∀ b, stabOf A w st.look m b → stabOf A w' look' m' b := by
    intro b h
    refine ⟨Nat.lt_of_lt_of_le h.1 hsz, fun id hid he => ?_, h.2.2⟩
    by_cases hidd : id = d
    · rw [hidd, hmd] at he
      have := hmv b he
      have := h.1
      omega
    · have e1 : m' id = m id := if_neg hidd
      rw [e1] at he
      refine h.2.1 id ?_ he
      unfold liveIn at hid ⊢
      rwa [hlook, if_neg hidd] at hid
  have hS2 : ∀ b, w.heap.size ≤ b → b < w'.heap.size → blkOf mv ≠ some b → stabOf A w' look' m' b := by
    intro b h1 h2 h3
    refine ⟨h2, fun id hid he => ?_, rel.fresh b (Nat.le_trans rel.below.size h1)⟩
    by_cases hidd : id = d
    · rw [hidd, hmd] at he; exact h3 he
    · have e1 : m' id = m id := if_neg hidd
      rw [e1] at he
      have hl : liveIn st.look id := by unfold liveIn at hid ⊢; rwa [hlook, if_neg hidd] at hid
      have := rel.blk_lt hl b he
      omega
  have hW : ∀ b, stabOf A w st.look m b → w'.heap[b]? = w.heap[b]? := fun b h => hblk b h.1
  have hv : VRel w' (stabOf A w' look' m') look' m' v p := hval look' m' _ hld hmd hS hS2 hst
  have key : ∀ i, VRel w' (stabOf A w' look' m') look' m' (a.tmps.getD i Go.undef) (st.t.getD i .undef) := fun i => (rel.slots i).step hst hS hW
  refine ⟨m', ?_, ?_, ?_, ?_, ?_, hb, rel.fresh⟩
  · simpa [Act.put, hd] using rel.defers
  · simp [Act.put, St.after, putSlot, hd, rel.size]
  · have e : (st.after o ⟨pre, p, some ob, none, none⟩).t = st.t.set d p := by simp only [St.after, putSlot, hd]
    have e2 : (a.put o.dst v).tmps = a.tmps.setIfInBounds d v := by simp only [Act.put, hd]
    intro i
    show VRel w' (stabOf A w' look' m') look' m' _ _
    rw [e, e2]
    exact slots_put rel.size key hv d i
  · intro id ver ob' h
    by_cases hidd : id = d
    · subst hidd
      have e : look' id = (ver, some ob') := h
      rw [hld] at e
      cases e
      exact hobj look' m' _ hld hmd hS hS2 hst
    · have e : look' id = (ver, some ob') := h
      rw [hlook, if_neg hidd] at e
      exact (rel.objs id ver ob' e).step hst hS hW (if_neg hidd) (fun b hbk => hblk b (rel.blk_lt (live_of e) b hbk).2)
  · intro id id' h1 h2 hne b hbk hbk'
    have l1 : id ≠ d → liveIn st.look id := fun hh => by have : (look' id).2.isSome = true := h1; unfold liveIn; rwa [hlook, if_neg hh] at this
    have l2 : id' ≠ d → liveIn st.look id' := fun hh => by have : (look' id').2.isSome = true := h2; unfold liveIn; rwa [hlook, if_neg hh] at this
    by_cases e1 : id = d
    · have e2 : id' ≠ d := fun h => hne (e1.trans h.symm)
      rw [e1, hmd] at hbk
      have e3 : m' id' = m id' := if_neg e2
      rw [e3] at hbk'
      have := hmv b hbk
      have := rel.blk_lt (l2 e2) b hbk'
      omega
    · have e3 : m' id = m id := if_neg e1
      rw [e3] at hbk
      by_cases e2 : id' = d
      · rw [e2, hmd] at hbk'
        have := hmv b hbk'
        have := rel.blk_lt (l1 e1) b hbk
        omega
      · have e4 : m' id' = m id' := if_neg e2
        rw [e4] at hbk'
        exact rel.apart id id' (l1 e1) (l2 e2) hne b hbk hbk'

end
end Go.Ev

/- Stores into objects of the call's own, and appends to them. -/
namespace Go.Ev
open Go Go.RowKit

theorem ET.size_pos (t : ET) : 0 < t.size := by cases t <;> decide

section
variable {A : Nat → Prop} {w0 w : World} {m : Nat → Value} {st : St} {a : Act}

/-- A row of cells of the call's own is written anew: the object 'id' has a new content. -/
theorem Rel.rewrite (rel : Rel A w0 m st a w) (g : Nat) (cur' : Array Value) (id ver : Nat) (ob ob' : LObj) (hid : st.look id = (ver, some ob)) (hlen : id < st.o.length)
    (hg : blkOf (m id) = some g) (o : Oper) (pre : Bool)
    (hst : ∀ look', (∀ j, look' j = if j = id then (ver, some ob') else st.look j) → Step st.look m look' m)
    (hobj : ∀ look' S', look' id = (ver, some ob') → (∀ b, stabOf A w st.look m b → S' b) → Step st.look m look' m → ObjRel w0.heap.size (w.setRow g cur') S' look' m id ob') :
    Rel A w0 m (st.after o ⟨pre, .undef, none, some (id, ob'), none⟩) (a.put o.dst Go.undef) (w.setRow g cur') := by
  let look' : Look := (st.after o ⟨pre, .undef, none, some (id, ob'), none⟩).look
  have hver : (st.o.getD id (0, none)).1 = ver := by have : st.o.getD id (0, none) = (ver, some ob) := hid; rw [this]
  have hlook : ∀ j, look' j = if j = id then (ver, some ob') else st.look j := by
    intro j
    have := look_set st.o (putSlot st.t o.dst .undef) id (ver, some ob') hlen j
    simp only [look', St.after, putObj, hver]
    exact this
  have hlive : ∀ j, liveIn look' j → liveIn st.look j := by
    intro j h
    by_cases e : j = id
    · rw [e]; exact live_of hid
    · unfold liveIn at h ⊢; rwa [hlook, if_neg e] at h
  have hstp := hst look' hlook
  have hS : ∀ b, stabOf A w st.look m b → stabOf A (w.setRow g cur') look' m b := fun b h => ⟨by simpa using h.1, fun j hj => h.2.1 j (hlive j hj), h.2.2⟩
  have hW : ∀ b, stabOf A w st.look m b → (w.setRow g cur').heap[b]? = w.heap[b]? := fun b h => setRow_other w g b cur' (fun e => h.2.1 id (live_of hid) (e ▸ hg))
  have hB := rel.blk_lt (live_of hid) g hg
  have key : ∀ i, VRel (w.setRow g cur') (stabOf A (w.setRow g cur') look' m) look' m (a.tmps.getD i Go.undef) (st.t.getD i .undef) := fun i => (rel.slots i).step hstp hS hW
  refine ⟨?_, ?_, ?_, ?_, ?_, ?_, rel.fresh⟩
  · cases hd : o.dst <;> simpa [Act.put, hd] using rel.defers
  · cases hd : o.dst <;> simp [Act.put, St.after, putSlot, hd, rel.size]
  · intro i
    show VRel _ (stabOf A _ look' m) look' m _ _
    cases hd : o.dst with
    | none => simpa [Act.put, St.after, putSlot, hd] using key i
    | some d =>
      have := slots_put rel.size key (.base _ _ (.undef Go.undef)) d i
      simpa [Act.put, St.after, putSlot, hd] using this
  · intro j v ob2 h
    have e : look' j = (v, some ob2) := h
    by_cases hj : j = id
    · subst hj
      rw [hlook, if_pos rfl] at e
      cases e
      exact hobj look' _ (by rw [hlook, if_pos rfl]) hS hstp
    · rw [hlook, if_neg hj] at e
      refine (rel.objs j v ob2 e).step hstp hS hW rfl (fun b hb => setRow_other w g b cur' (fun hbg => ?_))
      exact rel.apart j id (live_of e) (live_of hid) hj b hb (hbg ▸ hg)
  · intro i j hi hj hne
    exact rel.apart i j (hlive i hi) (hlive j hj) hne
  · refine rel.below.trans ⟨rfl, rfl, rfl, by simp, fun k hk => setRow_other w g k cur' (by omega)⟩

/-- The object table behind an append, or behind a new slice that takes an old one's place. -/
theorem Rel.replace (rel : Rel A w0 m st a w) {w' : World} (o : Oper) (d : Nat) (hd : o.dst = some d) (hroom : d < st.o.length) (id ver : Nat) (ob0 : LObj) (hid : st.look id = (ver, some ob0)) (hidl : id < st.o.length)
    (hblk : ∀ b, b < w.heap.size → some b ≠ blkOf (m id) → w'.heap[b]? = w.heap[b]?) (hsz : w.heap.size ≤ w'.heap.size) (hb : Below w0.heap.size w0 w')
    (ob : LObj) (mv : Value) (hmv : ∀ b, blkOf mv = some b → blkOf (m id) = some b ∨ (w.heap.size ≤ b ∧ b < w'.heap.size))
    (p : PV) (v : Value) (pre : Bool)
    (hobj : ∀ look' m' S', look' d = ((st.look d).1 + 1, some ob) → m' d = mv → (∀ b, stabOf A w st.look m b → S' b) → Step st.look m look' m' → ObjRel w0.heap.size w' S' look' m' d ob)
    (hval : ∀ look' m' S', look' d = ((st.look d).1 + 1, some ob) → m' d = mv → VRel w' S' look' m' v p) :
    ∃ m', Rel A w0 m' (st.after o ⟨pre, p, some ob, none, if id = d then none else some id⟩) (a.put o.dst v) w' := by
  let m' : Nat → Value := fun j => if j = d then mv else m j
  let look' : Look := (st.after o ⟨pre, p, some ob, none, if id = d then none else some id⟩).look
  have hlook : ∀ j, look' j = if j = d then ((st.look d).1 + 1, some ob) else if j = id then (ver + 1, none) else st.look j := by
    intro j
    by_cases e : id = d
    · have := look_set st.o (putSlot st.t o.dst p) d ((st.o.getD d (0, none)).1 + 1, some ob) hroom j
      simp only [look', St.after, putObj, dstOf, hd, if_pos e] at this ⊢
      rw [this]
      by_cases hj : j = d
      · rw [if_pos hj, if_pos hj]; rfl
      · rw [if_neg hj, if_neg hj, if_neg (by rw [e]; exact hj)]; rfl
    · have hver : (st.o.getD id (0, none)).1 = ver := by have : st.o.getD id (0, none) = (ver, some ob0) := hid; rw [this]
      have h1 := look_set (st.o.set id ((st.o.getD id (0, none)).1 + 1, none)) (putSlot st.t o.dst p) d ((st.o.getD d (0, none)).1 + 1, some ob) (by simpa using hroom) j
      have h2 := look_set st.o (putSlot st.t o.dst p) id ((st.o.getD id (0, none)).1 + 1, none) hidl j
      simp only [look', St.after, putObj, dstOf, hd, if_neg e] at h1 ⊢
      simp only [hd] at h2
      rw [h1]
      by_cases hj : j = d
      · rw [if_pos hj, if_pos hj]; rfl
      · rw [if_neg hj, if_neg hj, h2, hver]; rfl
  have hld : look' d = ((st.look d).1 + 1, some ob) := by rw [hlook, if_pos rfl]
  have hmd : m' d = mv := if_pos rfl
  have hst : Step st.look m look' m' := by
    intro j
    by_cases h : j = d
    · refine .inr (.inl ?_); rw [hlook, if_pos h, h]; simp
    · by_cases h2 : j = id
      · refine .inr (.inl ?_); rw [hlook, if_neg h, if_pos h2, h2, hid]; simp
      · refine .inl ⟨by rw [hlook, if_neg h, if_neg h2], if_neg h⟩
  have hlive : ∀ j, j ≠ d → liveIn look' j → liveIn st.look j ∧ j ≠ id := by
    intro j h hj
    unfold liveIn at hj ⊢
    rw [hlook, if_neg h] at hj
    by_cases e : j = id
    · rw [if_pos e] at hj; simp at hj
    · rw [if_neg e] at hj; exact ⟨hj, e⟩
  have hS : ∀ b, stabOf A w st.look m b → stabOf A w' look' m' b := by
    intro b h
    refine ⟨Nat.lt_of_lt_of_le h.1 hsz, fun j hj he => ?_, h.2.2⟩
    by_cases e : j = d
    · rw [e, hmd] at he
      rcases hmv b he with h1 | h1
      · exact h.2.1 id (live_of hid) h1
      · have := h.1; omega
    · have e1 : m' j = m j := if_neg e
      rw [e1] at he
      exact h.2.1 j (hlive j e hj).1 he
  have hW : ∀ b, stabOf A w st.look m b → w'.heap[b]? = w.heap[b]? := fun b h => hblk b h.1 (fun e => h.2.1 id (live_of hid) e.symm)
  have key : ∀ i, VRel w' (stabOf A w' look' m') look' m' (a.tmps.getD i Go.undef) (st.t.getD i .undef) := fun i => (rel.slots i).step hst hS hW
  refine ⟨m', ?_, ?_, ?_, ?_, ?_, hb, rel.fresh⟩
  · simpa [Act.put, hd] using rel.defers
  · simp [Act.put, St.after, putSlot, hd, rel.size]
  · have e : (st.after o ⟨pre, p, some ob, none, if id = d then none else some id⟩).t = st.t.set d p := by simp only [St.after, putSlot, hd]
    have e2 : (a.put o.dst v).tmps = a.tmps.setIfInBounds d v := by simp only [Act.put, hd]
    intro i
    show VRel w' (stabOf A w' look' m') look' m' _ _
    rw [e, e2]
    exact slots_put rel.size key (hval look' m' _ hld hmd) d i
  · intro j ver' ob' h
    have e : look' j = (ver', some ob') := h
    by_cases hj : j = d
    · subst hj
      rw [hld] at e
      cases e
      exact hobj look' m' _ hld hmd hS hst
    · have hl := hlive j hj (live_of e)
      rw [hlook, if_neg hj, if_neg hl.2] at e
      refine (rel.objs j ver' ob' e).step hst hS hW (if_neg hj) (fun b hbk => hblk b (rel.blk_lt hl.1 b hbk).2 (fun e2 => ?_))
      exact rel.apart j id hl.1 (live_of hid) hl.2 b hbk e2.symm
  · intro i j h1 h2 hne b hbk hbk'
    by_cases e1 : i = d
    · have e2 : j ≠ d := fun h => hne (e1.trans h.symm)
      rw [e1, hmd] at hbk
      have e3 : m' j = m j := if_neg e2
      rw [e3] at hbk'
      have hl := hlive j e2 h2
      rcases hmv b hbk with h | h
      · exact rel.apart j id hl.1 (live_of hid) hl.2 b hbk' h
      · have := rel.blk_lt hl.1 b hbk'; omega
    · have hl := hlive i e1 h1
      have e3 : m' i = m i := if_neg e1
      rw [e3] at hbk
      by_cases e2 : j = d
      · rw [e2, hmd] at hbk'
        rcases hmv b hbk' with h | h
        · exact rel.apart i id hl.1 (live_of hid) hl.2 b hbk h
        · have := rel.blk_lt hl.1 b hbk; omega
      · have hl2 := hlive j e2 h2
        have e4 : m' j = m j := if_neg e2
        rw [e4] at hbk'
        exact rel.apart i j hl.1 hl2.1 hne b hbk hbk'

end

/-- An append to a row of the call's own (or to nil), told with the block in which the result lies. -/
theorem run_append_told {P : Program} (w : World) (B : Nat) (t ty e : TypeId) (i : TypeInfo) (z : Value) (size : Nat) (ht : P.underlying t = some (.slice e)) (hi : P.info? e = some i) (hz : i.zero = some z)
    (hsize : i.size = size) (hzs : z.cells.size = size)
    (v : Value) (n : Nat) (xs : List Value) (hown : w.ownsRow B e size v n xs)
    (ad : Option Addr) (k c : Nat) (news : List Value) (hl : news.length = k * size) (hnil : ad = none → k = 0 ∧ c = 0) (hnews : ∀ x, ad = some x → ∀ j u, news[j]? = some u → w.cell? (x.add j) = some u) (h1 : ∀ u ∈ news, u.oneCell' = true)
    (hb : (n + k) * (i.bytes + 1) ≤ limB) (hbase : B ≤ w.heap.size) :
    ∃ v' w', (Builtin.append_ #[t, t] ty #[v, .slice ad k c]).run P w = .ok v' w' ∧ w'.ownsRow B e size v' (n + k) (xs ++ news) ∧
      (∀ b, b < w.heap.size → some b ≠ blkOf v → w'.heap[b]? = w.heap[b]?) ∧ w.heap.size ≤ w'.heap.size ∧ w'.os = w.os ∧ w'.tape = w.tape ∧ w'.output = w.output ∧
      (∀ b, blkOf v' = some b → blkOf v = some b ∨ (w.heap.size ≤ b ∧ b < w'.heap.size)) := by
  subst hsize
  unfold limB at hb
  have hm1 : (n + k) * (i.bytes + 1) = (n + k) * i.bytes + (n + k) := Nat.mul_succ _ _
  have hsmall : n + k ≤ 140737488355328 := by omega
  have hbytes : (n + k) * i.bytes ≤ 140737488355328 := by omega
  have hmax : n + k ≤ maxLen := by unfold maxLen; omega
  cases ad with
  | none =>
    obtain ⟨rfl, rfl⟩ := hnil rfl
    have hn : news = [] := List.eq_nil_of_length_eq_zero (by simpa using hl)
    subst hn
    exact ⟨v, w, run_append_owned_none (P := P) (w := w) B t ty e i i.size ht hi v n xs hown, by simpa using hown, fun _ _ _ => rfl, Nat.le_refl _, rfl, rfl, rfl, fun b hb => .inl hb⟩
  | some x =>
    have hnews := hnews x rfl
    have hlen : (xs ++ news).length = (n + k) * i.size := by rw [List.length_append, hown.1, hl, Nat.add_mul]
    have grown : ∀ (old : Nat), 
        (w.drew.alloc (.cells (xs.toArray ++ news.toArray ++ Builtin.zeroCells z.cells (grownCap w (n + k) old e - (n + k))) e)).ownsRow B e i.size
          (.slice (some ⟨w.heap.size, 0, none⟩) (n + k) (grownCap w (n + k) old e)) (n + k) (xs ++ news) := by
      intro old
      have hge := grownCap_ge w (n + k) old e
      have hcm : grownCap w (n + k) old e ≤ maxLen := grownCap_le_maxLen w (n + k) old e hmax
      refine ⟨hlen, .inr ⟨w.heap.size, _, _, rfl, hbase, heap_alloc_new w.drew _, hge, hcm, ?_, ?_⟩⟩
      · simp only [Array.size_append, List.size_toArray, size_zeroCells, hzs, hown.1, hl, ← Nat.add_mul]
        congr 1
        omega
      · simp only [Array.toList_append, List.append_assoc]
        rw [← List.append_assoc, ← hlen]
        exact List.take_left
    rcases hown.2 with ⟨rfl, rfl⟩ | ⟨g, cap, cur, rfl, hbg, hg, hnc, hcm, hcs, htake⟩
    · have hx : xs = [] := List.eq_nil_of_length_eq_zero (by simpa using hown.1)
      subst hx
      by_cases hm : k = 0
      · subst hm
        have hn : news = [] := List.eq_nil_of_length_eq_zero (by simpa using hl)
        subst hn
        refine ⟨.slice none 0 0, w, ?_, World.ownsRow_nil w B e i.size, fun _ _ _ => rfl, Nat.le_refl _, rfl, rfl, rfl, fun b hb => .inl hb⟩
        simp [Builtin.append_, run_underlying ht, sizeOf, typeInfo, hi, Builtin.lenOf, Builtin.firstCells, loadCells, loadCellsFrom]
      · have hr := run_append_nil (P := P) w t ty e i z ht hi hz x k c news hl hnews (by omega) (by omega) (by simp only [Nat.zero_add] at hbytes; omega)
        have hgr := grown 0
        simp only [Nat.zero_add, List.nil_append, Array.empty_append] at hgr ⊢
        refine ⟨_, _, hr, hgr, fun b hb _ => Below.heap_alloc w.drew _ b hb, by simp, rfl, rfl, rfl, fun b hb => .inr ?_⟩
        simp only [blkOf, Option.some.injEq] at hb
        subst hb
        simp
    · by_cases hroom : n + k ≤ cap
      · have hfit : n * i.size + news.length ≤ cur.size := by rw [hl, hcs, ← Nat.add_mul]; exact Nat.mul_le_mul_right _ hroom
        have hr := run_append_room (P := P) w t ty e i ht hi g n cap cur hg x k c news hl hnews h1 hroom hfit
        refine ⟨_, _, hr, ⟨hlen, .inr ⟨g, cap, _, rfl, hbg, setRow_heap w g cur _ e _ hg, hroom, hcm, ?_, ?_⟩⟩, fun b _ hb => setRow_other w g b _ (fun e => hb (by simp [blkOf, e])), by simp, rfl, rfl, rfl, fun b hb => .inl hb⟩
        · simp only [List.size_toArray, List.length_append, List.length_take, List.length_drop, Array.length_toList]
          omega
        · rw [htake, ← hlen]
          exact List.take_left
      · have holds : ∀ j u, xs[j]? = some u → w.cell? ((⟨g, 0, none⟩ : Addr).add j) = some u := hown.cells (g := g) rfl
        have hr := run_append_grow (P := P) w t ty e i z ht hi hz ⟨g, 0, none⟩ n cap xs hown.1 holds x k c news hl hnews (by omega) (by omega) (growslice_fits (by omega) hbytes)
        refine ⟨_, _, hr, grown cap, fun b hb _ => Below.heap_alloc w.drew _ b hb, by simp, rfl, rfl, rfl, fun b hb => .inr ?_⟩
        simp only [blkOf, Option.some.injEq] at hb
        subst hb
        simp

end Go.Ev

/- What calls give, and what the parts of an operation are: constants, cells, fields, looks at objects. -/
namespace Go.Ev
open Go Go.RowKit

/-- The result is 'c' filled with the slice 's'. -/
def CtxRel (w : World) (S : Nat → Prop) : Ctx → Value → Value → Prop
  | .hole, v, s => v = s
  | .agg1 c, v, s => ∃ u, v = .agg #[u] ∧ u.oneCell' = true ∧ CtxRel w S c u s
  | .fst c rest, v, s => ∃ u us, v = .tuple (#[u] ++ us) ∧ us.size = rest.length ∧ CtxRel w S c u s ∧ ∀ i, i < rest.length → PRel w S (us.getD i Go.undef) (rest.getD i .undef)

def CRel (B : Nat) (w : World) (S : Nat → Prop) (v : Value) : CRes → Prop
  | .plain p => PRel w (fun b => S b ∨ (B ≤ b ∧ b < w.heap.size)) v p
  | .own e t l c => ∃ s xs, w.ownsRow B e t.size s l.length xs ∧
      (∀ i, (hi : i < l.length) → ∀ j, j < t.size → PRel w (fun b => (S b ∨ (B ≤ b ∧ b < w.heap.size)) ∧ blkOf s ≠ some b) (xs.getD (i * t.size + j) Go.undef) ((enc t l[i]).getD j .undef)) ∧
      CtxRel w (fun b => (S b ∨ (B ≤ b ∧ b < w.heap.size)) ∧ blkOf s ≠ some b) c v s

/-- A function with a body that the table knows. -/
def Known (P : Program) (g : FuncId) : Prop := ∃ fn, P.funcs[g]? = some fn ∧ fn.body.isNone = false ∧ (fn.name == "runtime.NumGoroutine") = false

def PRels (w : World) (S : Nat → Prop) (vs : Array Value) (ps : List PV) : Prop := vs.size = ps.length ∧ ∀ i, i < ps.length → PRel w S (vs.getD i Go.undef) (ps.getD i .undef)

def EntSound (P : Program) (g : FuncId) (ent : List PV → Option (Bool × CRes)) : Prop :=
  ∀ args c, ent args = some (true, c) → Known P g ∧ ∀ (w : World) (S : Nat → Prop) (vs : Array Value), PRels w S vs args → (∀ b, S b → b < w.heap.size) →
    Calls P g vs w fun e w' => ∃ v, e = .returned v ∧ Below w.heap.size w w' ∧ CRel w.heap.size w' S v c

def TSound (P : Program) (T : FuncId → List PV → Option (Bool × CRes)) : Prop := ∀ g, EntSound P g (T g)

def XSound (P : Program) (X : FuncId → Option (List PV → Option (Bool × PV))) : Prop :=
  ∀ g s, X g = some s → ∃ fn ef, P.funcs[g]? = some fn ∧ (fn.name == "runtime.NumGoroutine") = false ∧ fn.body.isNone = true ∧ Extern.findNext fn = none ∧ Extern.find fn = some ef ∧
    ∀ args p, s args = some (true, p) → ∀ (w : World) (S : Nat → Prop) (vs : Array Value), PRels w S vs args → ∃ v n, (ef vs).run P w = .ok v (w.drewN n) ∧ PRel w S v p

structure EnvOk (E : Env) : Prop where
  mixed : E.P.follows .mixedOrders = true
  T : TSound E.P E.T
  X : XSound E.P E.X

/-! Constants and operands. -/

section
variable {w : World} {S : Nat → Prop}

theorem ofCell_sound (v : Value) : PRel w S v (ofCell v) := by
  cases v <;> try exact .undef _
  case bool b => exact .bool b
  case int k n => exact .int k n
  case float k b =>
    cases k
    · simp only [ofCell]
      split
      · exact .undef _
      · rename_i h
        split
        · rename_i h2; exact .f32 _ _ ⟨h2, canon_of_not (by simpa using h)⟩
        · exact .undef _
    · simp only [ofCell]
      split
      · exact .undef _
      · rename_i h
        split
        · rename_i h2; exact .f64 _ _ ⟨h2, canon_of_not (by simpa using h)⟩
        · exact .undef _
  case string s => exact .str s
  case slice a n c =>
    cases a
    · cases n
      · cases c
        · exact .nils
        · exact .undef _
      · exact .undef _
    · exact .undef _

theorem getD_map {α β : Type} (f : α → β) (l : List α) (i : Nat) (x : α) (y : β) (h : i < l.length) : (l.map f).getD i y = f (l.getD i x) := by
  simp [List.getD_eq_getElem?_getD, h]

theorem getD_toList (vs : Array Value) (i : Nat) (x : Value) : vs.toList.getD i x = vs.getD i x := by
  simp [List.getD_eq_getElem?_getD, Array.getD_eq_getD_getElem?]

theorem all_getD {vs : Array Value} (h : vs.toList.all (·.oneCell') = true) (i : Nat) (hi : i < vs.size) : (vs.getD i Go.undef).oneCell' = true := by
  rw [Array.getD_eq_getD_getElem?, Array.getElem?_eq_getElem hi]
  exact List.all_eq_true.1 h _ (by simp)

theorem ofConst_sound (v : Value) : PRel w S v (ofConst v) := by
  cases v <;> try exact ofCell_sound _
  case agg cs =>
    simp only [ofConst]
    split
    · rename_i h
      refine .agg cs _ (by simp) (fun i hi => all_getD h i (by simpa using hi)) (fun i hi => ?_)
      rw [getD_map ofCell cs.toList i Go.undef .undef (by simpa using hi), getD_toList]
      exact ofCell_sound _
    · exact .undef _

/-- The zero of a type: its cells. -/
theorem zeroOf_sound {P : Program} {t : TypeId} {z : List PV} (h : zeroOf P t = some z) :
    ∃ i v, P.info? t = some i ∧ i.zero = some v ∧ v.cells.size = z.length ∧ (∀ j, j < z.length → (v.cells.getD j Go.undef).oneCell' = true) ∧ ∀ j, j < z.length → PRel w S (v.cells.getD j Go.undef) (z.getD j .undef) := by
  unfold zeroOf at h
  split at h
  · rename_i i hi
    split at h
    · rename_i v hv
      split at h
      · rename_i hall
        cases h
        refine ⟨i, v, hi, hv, by simp, fun j hj => all_getD hall j (by simpa using hj), fun j hj => ?_⟩
        rw [getD_map ofCell v.cells.toList j Go.undef .undef (by simpa using hj), getD_toList]
        exact ofCell_sound _
      · cases h
    · cases h
  · cases h

end

theorem szOf_some {P : Program} {t : TypeId} {n : Nat} (h : szOf P t = some n) : ∃ i, P.info? t = some i ∧ i.size = n := by
  unfold szOf at h
  split at h
  · rename_i i hi; cases h; exact ⟨i, hi, rfl⟩
  · cases h

theorem bytesOf_some {P : Program} {t : TypeId} {n : Nat} (h : bytesOf P t = some n) : ∃ i, P.info? t = some i ∧ i.bytes = n := by
  unfold bytesOf at h
  split at h
  · rename_i i hi; cases h; exact ⟨i, hi, rfl⟩
  · cases h

theorem run_sizeOf {P : Program} {t : TypeId} {n : Nat} (h : szOf P t = some n) (w : World) : (sizeOf t).run P w = .ok n w := by
  obtain ⟨i, hi, hn⟩ := szOf_some h
  simp [sizeOf, typeInfo, hi, hn]

theorem run_isAgg {P : Program} {t : TypeId} {d : TypeDesc} (h : P.underlying t = some d) (w : World) : (isAgg t).run P w = .ok (isAggB P t) w := by
  unfold isAgg isAggB
  simp only [Sem.run_bind, run_underlying h, h, Result.andThen_ok]
  cases d <;> rfl

section
variable {A : Nat → Prop} {w0 w : World} {m : Nat → Value} {st : St} {a : Act}

/-- What an operand is. -/
theorem Rel.eval (rel : Rel A w0 m st a w) (x : Operand) : VRel w (stabOf A w st.look m) st.look m (a.eval x) (evO st.t x) := by
  cases x with
  | tmp t => exact rel.slots t
  | const v => exact .base _ _ (ofConst_sound v)
  | global g => exact .base _ _ (.undef _)
  | func f => exact .base _ _ (.func f #[] [] rfl (fun i hi => absurd hi (by simp)))

end

end Go.Ev

/- Operations that only reckon. -/
namespace Go.Ev
open Go Go.RowKit

/-- The operation comes to a frame and a world of what the evaluator says. -/
def Goes (P : Program) (A : Nat → Prop) (w0 : World) (st : St) (a : Act) (w : World) (o : Oper) (out : Out) : Prop :=
  ∀ (K : Act → World → Prop) (Q : Exit → Act → World → Prop), (∀ m' a' w', Rel A w0 m' (st.after o out) a' w' → K a' w') → o.wp P a w K Q

theorem wp_value {P : Program} {o : Oper} {a : Act} {w w' : World} {K : Act → World → Prop} {Q : Exit → Act → World → Prop} {v : Value}
    (h : (execOp a.eval o).run P w = .ok (.value v) w') (hk : K (a.put o.dst v) w') : o.wp P a w K Q := by
  unfold Oper.wp; rw [h]; exact hk

theorem Below.drewN {B : Nat} {a w : World} (h : Below B a w) (n : Nat) : Below B a (w.drewN n) := ⟨h.os, h.tape, h.output, h.size, h.block⟩

section
variable {P : Program} {A : Nat → Prop} {w0 w : World} {m : Nat → Value} {st : St} {a : Act}

theorem goes_value (rel : Rel A w0 m st a w) {o : Oper} {v : Value} {p : PV} (b : Bool) (n : Nat) (hrun : (execOp a.eval o).run P w = .ok (.value v) (w.drewN n))
    (hv : VRel w (stabOf A w st.look m) st.look m v p) : Goes P A w0 st a w o (Out.ofPre b p) :=
  fun _ _ hK => wp_value hrun (hK m _ _ (rel.value (w' := w.drewN n) rfl (Below.drewN rel.below n) o hv b))

theorem drewN_zero (w : World) : w.drewN 0 = w := rfl

/-! Numbers. -/

theorem run_float (op : BinOp) (hop : op = .add ∨ op = .sub ∨ op = .mul ∨ op = .quo) (t : TypeId) (k : FloatKind) {b1 b2 x y : Nat} (h1 : FRel k b1 x) (h2 : FRel k b2 y) (w : World) :
    ∃ r n, (binOp op t (.float k b1) (.float k b2)).run P w = .ok (.float k r) (w.drewN n) ∧ FRel k r (fop op k x y) := by
  rw [fop_eq, fopR, ← h1.2, ← h2.2, floatBits_canon]
  cases hb : floatBits op k b1 b2 with
  | some r =>
    refine ⟨r, 0, run_float_arith w op t k b1 b2 r hb, ?_⟩
    have := floatBits_wf hb
    refine FRel.of ?_
    cases k
    · have h : r < 2 ^ 32 := by simpa [Lit.wf] using this
      exact h
    · have h : r < 2 ^ 64 := by simpa [Lit.wf] using this
      exact h
  | none =>
    have hn := nan_word k (w.tape w.drawn (.nanBits k b1 b2)) (.nanBits k b1 b2) (.inl ⟨_, _, rfl⟩)
    refine ⟨_, 1, ?_, FRel.of_nan hn.1 hn.2⟩
    unfold floatBits at hb
    rcases hop with rfl | rfl | rfl | rfl <;> simp only at hb <;> simp [binOp, Op.floatArith, hb, Question.forced, World.drewN]

theorem run_fcmp (op : BinOp) (hop : op = .eql ∨ op = .neq ∨ op = .lss ∨ op = .leq ∨ op = .gtr ∨ op = .geq) (t : TypeId) (k : FloatKind) {b1 b2 x y : Nat} (h1 : FRel k b1 x) (h2 : FRel k b2 y) (w : World) :
    (binOp op t (.float k b1) (.float k b2)).run P w = .ok (.bool (fcmp op k x y)) w := by
  have e : fordR k x y = k.format.order b1 b2 := by rw [← h1.2, ← h2.2]; exact ford_canon k b1 b2
  rcases hop with rfl | rfl | rfl | rfl | rfl | rfl
  · simp only [fcmp_eq, fcmpR, e, binOp_float_cmp_eql]; rfl
  · simp only [fcmp_eq, fcmpR, e, binOp_float_cmp_neq]; rfl
  · simp only [fcmp_eq, fcmpR, e, binOp_float_cmp_lss]; rfl
  · simp only [fcmp_eq, fcmpR, e, binOp_float_cmp_leq]; rfl
  · simp only [fcmp_eq, fcmpR, e, binOp_float_cmp_gtr]; rfl
  · simp only [fcmp_eq, fcmpR, e, binOp_float_cmp_geq]; rfl

theorem negFloat_frel {k : FloatKind} {b x : Nat} (h : FRel k b x) : FRel k (Op.negFloat k b) (fneg k x) := by
  have key : ∀ (n : Nat) (b : Nat), b < 2 ^ (n + 1) → b ^^^ 2 ^ n < 2 ^ (n + 1) := fun n b hb => Nat.xor_lt_two_pow hb (Nat.pow_lt_pow_right (by omega) (by omega))
  have flip : ∀ (n : Nat) (b : Nat), b < 2 ^ (n + 1) → (b ^^^ 2 ^ n) % 2 ^ n = b % 2 ^ n := by
    intro n b hb
    apply Nat.eq_of_testBit_eq
    intro i
    simp only [Nat.testBit_mod_two_pow, Nat.testBit_xor, Nat.testBit_two_pow]
    by_cases hi : i < n
    · have : ¬ n = i := by omega
      simp [this]
    · simp [hi]
  have hnan : ∀ b, b < 2 ^ width k → (k.decode (Op.negFloat k b)).isNaN = (k.decode b).isNaN := by
    intro b hb
    have e : (Op.negFloat k b) % k.format.signWeight = b % k.format.signWeight := by
      cases k
      · exact flip 31 b hb
      · exact flip 63 b hb
    unfold FloatKind.decode Ieee.Format.read
    simp only [e]
    split
    · rfl
    · split
      · rfl
      · split <;> rfl
  have hlt : Op.negFloat k b < 2 ^ width k := by
    cases k
    · exact key 31 b h.1
    · exact key 63 b h.1
  refine ⟨hlt, ?_⟩
  rw [fneg_eq, fnegR, ← h.2]
  cases hb : (k.decode b).isNaN
  · rw [canon_of_not hb]
  · have hc : (k.decode (canon k b)).isNaN = true := by rw [isNaN_canon]; exact hb
    have hcl : canon k b < 2 ^ width k := by rw [canon_of_nan hb]; exact nanB_lt k
    rw [canon_of_nan ((hnan b h.1).trans hb), canon_of_nan ((hnan _ hcl).trans hc)]

end
end Go.Ev

/- Plain facts on how numbers are rounded. -/
namespace Go.Ev
open Ieee

theorem cut_le (way : Toward) (neg : Bool) (n drop : Nat) : way.cut neg n drop ≤ n / 2 ^ drop + 1 := by
  unfold Toward.cut
  simp only [Nat.one_shiftLeft]
  have hb : ∀ b : Bool, b.toNat ≤ 1 := by intro b; cases b <;> decide
  have hlow : n / 2 ^ min drop (n.log2 + 2) ≤ n / 2 ^ drop := by
    by_cases h : drop ≤ n.log2 + 2
    · rw [Nat.min_eq_left h]; exact Nat.le_refl _
    · rw [Nat.min_eq_right (by omega)]
      have h1 : n < 2 ^ (n.log2 + 2) := Nat.lt_of_lt_of_le Nat.lt_log2_self (Nat.pow_le_pow_right (by omega) (by omega))
      rw [Nat.div_eq_of_lt h1]; exact Nat.zero_le _
  exact Nat.add_le_add hlow (hb _)

/-- A number below the greatest power of two is not rounded to an infinity. -/
theorem nearest_rung (f : Format) (neg : Bool) (mag : Nat) (place : Int) (h : place + mag.log2 + 2 ^ (f.exponentBits - 1) < 2 ^ f.exponentBits - 1) (h1 : 2 ≤ f.exponentBits) :
    ∃ r, r < f.infRung ∧ f.nearest neg mag place = f.word neg r := by
  have hinf : 0 < f.infRung := by
    unfold Format.infRung Format.binade
    have h2 : 2 ^ f.exponentBits ≥ 2 ^ 1 := Nat.pow_le_pow_right (by omega) (by omega)
    exact Nat.mul_pos (by omega) (Nat.two_pow_pos _)
  unfold Format.nearest
  by_cases hm : mag = 0
  · rw [if_pos hm]; exact ⟨0, hinf, rfl⟩
  · rw [if_neg hm]
    dsimp only
    generalize hlast : max (place + (mag.log2 : Int) - f.fractionBits) f.leastPlace = last
    refine ⟨_, ?_, rfl⟩
    refine Nat.lt_of_le_of_lt (Nat.min_le_left _ _) ?_
    have hc := cut_le .even neg (mag <<< (place - last).toNat) (last - place).toNat
    have hlog : mag < 2 ^ (mag.log2 + 1) := Nat.lt_log2_self
    -- what is kept is at most two binades
    have hk : mag <<< (place - last).toNat / 2 ^ (last - place).toNat < 2 ^ (f.fractionBits + 1) := by
      rw [Nat.shiftLeft_eq, Nat.div_lt_iff_lt_mul (Nat.two_pow_pos _), ← Nat.pow_add]
      by_cases hpl : last ≤ place
      · have e1 : (last - place).toNat = 0 := by omega
        rw [e1, Nat.add_zero]
        have e2 : (place - last).toNat + mag.log2 ≤ f.fractionBits := by omega
        calc mag * 2 ^ (place - last).toNat < 2 ^ (mag.log2 + 1) * 2 ^ (place - last).toNat := Nat.mul_lt_mul_of_pos_right hlog (Nat.two_pow_pos _)
          _ = 2 ^ (mag.log2 + 1 + (place - last).toNat) := by rw [← Nat.pow_add]
          _ ≤ 2 ^ (f.fractionBits + 1) := Nat.pow_le_pow_right (by omega) (by omega)
      · have e1 : (place - last).toNat = 0 := by omega
        rw [e1, Nat.pow_zero, Nat.mul_one]
        refine Nat.lt_of_lt_of_le hlog (Nat.pow_le_pow_right (by omega) ?_)
        omega
    have hkept : Toward.even.cut neg (mag <<< (place - last).toNat) (last - place).toNat ≤ 2 ^ (f.fractionBits + 1) := by omega
    -- the place
    have hmul : (last - f.leastPlace).toNat * f.binade + 2 ^ (f.fractionBits + 1) = ((last - f.leastPlace).toNat + 2) * f.binade := by
      unfold Format.binade; rw [Nat.pow_succ, Nat.add_mul]; omega
    have hpow : ((2 ^ f.exponentBits : Nat) : Int) = (2 : Int) ^ f.exponentBits := by simp
    have hpow2 : ((2 ^ (f.exponentBits - 1) : Nat) : Int) = (2 : Int) ^ (f.exponentBits - 1) := by simp
    have hge : 2 ^ f.exponentBits ≥ 2 * 2 ^ (f.exponentBits - 1) := by
      have : f.exponentBits = (f.exponentBits - 1) + 1 := by omega
      rw [this, Nat.pow_succ]; simp only [Nat.add_sub_cancel]; omega
    have hp1 : 1 ≤ 2 ^ (f.exponentBits - 1) := Nat.one_le_two_pow
    have hlt : (last - f.leastPlace).toNat + 2 < 2 ^ f.exponentBits - 1 ∨ last = f.leastPlace := by
      by_cases hl : last = f.leastPlace
      · exact .inr hl
      · left
        have : last = place + (mag.log2 : Int) - f.fractionBits := by omega
        unfold Format.leastPlace at hl hlast ⊢
        omega
    rcases hlt with hlt | hl
    · have : ((last - f.leastPlace).toNat + 2) * f.binade < (2 ^ f.exponentBits - 1) * f.binade := Nat.mul_lt_mul_of_pos_right hlt (Nat.two_pow_pos _)
      unfold Format.infRung
      omega
    · -- a subnormal number: at most one binade is kept
      have e0 : (last - f.leastPlace).toNat = 0 := by omega
      rw [e0, Nat.zero_mul, Nat.zero_add]
      have hk2 : mag <<< (place - last).toNat / 2 ^ (last - place).toNat < 2 ^ (f.fractionBits + 1) := hk
      have h5 : 2 ^ 2 ≤ 2 ^ f.exponentBits := Nat.pow_le_pow_right (by omega) h1
      have h3 : (2 : Nat) * f.binade < (2 ^ f.exponentBits - 1) * f.binade := Nat.mul_lt_mul_of_pos_right (by omega) (Nat.two_pow_pos _)
      have h4 : 2 ^ (f.fractionBits + 1) = 2 * f.binade := by unfold Format.binade; rw [Nat.pow_succ]; omega
      unfold Format.infRung
      omega

theorem read_word (f : Format) (neg : Bool) (r : Nat) (h : r < f.signWeight) : (f.word neg r) / f.signWeight % 2 = neg.toNat ∧ (f.word neg r) % f.signWeight = r := by
  unfold Format.word
  cases neg
  · simp [Nat.div_eq_of_lt h, Nat.mod_eq_of_lt h]
  · simp only [if_true]
    have hp : 0 < f.signWeight := by omega
    rw [Nat.add_div_left _ hp, Nat.div_eq_of_lt h, Nat.add_mod_left, Nat.mod_eq_of_lt h]
    exact ⟨rfl, rfl⟩

theorem nearest_finite (f : Format) (neg : Bool) (mag : Nat) (place : Int) (h : place + mag.log2 + 2 ^ (f.exponentBits - 1) < 2 ^ f.exponentBits - 1) (h1 : 2 ≤ f.exponentBits) :
    (f.read (f.nearest neg mag place)).isInfinity = false := by
  obtain ⟨r, hr, e⟩ := nearest_rung f neg mag place h h1
  have hs : r < f.signWeight := Nat.lt_trans hr f.infRung_lt
  rw [e]
  unfold Format.read
  simp only [(read_word f neg r hs).2]
  split
  · rfl
  · rfl

end Go.Ev

/- Operations that only reckon: comparisons, sums, conversions. -/
namespace Go.Ev
open Go Go.RowKit

section
variable {P : Program} {w : World} {S : Nat → Prop} {look : Look} {m : Nat → Value}

theorem number_of_read (f : Ieee.Format) (b : Nat) (s : Bool) (mg : Nat) (e : Int) (h : f.read b = .number s mg e) (hex : f.exponentBits ≤ 8) :
    mg.log2 ≤ f.fractionBits ∧ e ≤ f.leastPlace + 2 ^ 8 := by
  unfold Ieee.Format.read at h
  simp only at h
  have hb : 0 < f.binade := Nat.two_pow_pos _
  have lg : ∀ n, n < 2 ^ (f.fractionBits + 1) → n.log2 ≤ f.fractionBits := by
    intro n hn
    by_cases h0 : n = 0
    · subst h0; simp [Nat.log2_zero]
    · have := (Nat.log2_lt h0).2 hn; omega
  split at h
  · rename_i hr
    cases h
    exact ⟨lg _ (Nat.lt_trans hr (Nat.pow_lt_pow_right (by omega) (by omega))), by omega⟩
  · split at h
    · rename_i hr1 hr2
      cases h
      refine ⟨lg _ ?_, ?_⟩
      · have : b % f.signWeight % f.binade < f.binade := Nat.mod_lt _ hb
        have e1 : 2 ^ (f.fractionBits + 1) = 2 * f.binade := by unfold Ieee.Format.binade; rw [Nat.pow_succ]; omega
        omega
      · have h1 : b % f.signWeight / f.binade < 2 ^ f.exponentBits - 1 := by
          rw [Nat.div_lt_iff_lt_mul hb]; exact hr2
        have h2 : 2 ^ f.exponentBits ≤ 2 ^ 8 := Nat.pow_le_pow_right (by omega) hex
        omega
    · split at h <;> cases h

theorem widen_ok (b : Nat) (s : Bool) (mg : Nat) (e : Int) (h : FloatKind.f32.decode b = .number s mg e) :
    (FloatKind.f64.decode (FloatKind.f64.encode (.number s mg e))).isInfinity = false := by
  obtain ⟨h1, h2⟩ := number_of_read Ieee.single b s mg e h (by decide)
  refine nearest_finite Ieee.double s mg e ?_ (by decide)
  have e1 : Ieee.single.leastPlace = -149 := by decide
  have e2 : Ieee.single.fractionBits = 23 := rfl
  have e3 : (2 : Int) ^ (Ieee.double.exponentBits - 1) = 1024 := by decide
  have e4 : (2 : Int) ^ Ieee.double.exponentBits = 2048 := by decide
  rw [e1] at h2; rw [e2] at h1; rw [e3, e4]
  omega

theorem encode_lt (k : FloatKind) (d : Ieee.Datum) : k.encode d < 2 ^ width k := k.format.write_lt d

theorem run_f2f (s k : FloatKind) (hk : s ≠ k) {b x : Nat} (h : FRel s b x) (hok : (narrowOkR s x k = true) ∨ (s = .f32 ∧ k = .f64)) (w : World) :
    ∃ r n, (Conv.floatToFloat s b k).run P w = .ok (.float k r) (w.drewN n) ∧ FRel k r (f2f s x k) := by
  rw [f2f_eq, f2fR, if_neg hk]
  unfold Conv.floatToFloat
  rw [if_neg hk]
  obtain ⟨hlt, hx⟩ := h
  cases hn : (s.decode b).isNaN
  · have hxb : x = b := by rw [← hx, canon_of_not hn]
    subst hxb
    cases hd : s.decode x with
    | nan sg t => rw [hd] at hn; cases hn
    | infinity sg => exact ⟨_, 0, by simp [drewN_zero], FRel.of (encode_lt k _)⟩
    | number sg mg e =>
      have hfin : (k.decode (k.encode (.number sg mg e))).isInfinity = false := by
        rcases hok with hok | ⟨rfl, rfl⟩
        · unfold narrowOkR at hok
          rw [if_neg hk, hd] at hok
          simpa using hok
        · exact widen_ok x sg mg e hd
      exact ⟨_, 0, by simp [hfin, drewN_zero], FRel.of (encode_lt k _)⟩
  · have hxn : x = nanB s := by rw [← hx, canon_of_nan hn]
    obtain ⟨sg, t, hd⟩ := isNaN_iff.1 hn
    obtain ⟨sg2, t2, hd2⟩ := isNaN_iff.1 (decode_nanB s)
    rw [hd, hxn, hd2]
    have hnw := nan_word k (w.tape w.drawn (.nanConv k b)) (.nanConv k b) (.inr ⟨_, rfl⟩)
    exact ⟨_, 1, by simp [Question.forced, World.drewN], FRel.of_nan hnw.1 hnw.2⟩

theorem run_i2f (k : FloatKind) (n : Int) (w : World) : ∃ r, (Conv.intToFloat k n).run P w = .ok (.float k r) w ∧ FRel k r (i2f k n) := by
  rw [i2f_eq, i2fR]
  exact ⟨_, by simp [Conv.intToFloat], FRel.of (encode_lt k _)⟩

theorem run_f2i (s : FloatKind) (k : IntKind) {b x : Nat} (h : FRel s b x) (hok : f2iOk s x k = true) (w : World) : (Conv.floatToInt s b k).run P w = .ok (.int k (f2i s x k)) w := by
  have e : floatToIntVal s x k = floatToIntVal s b k := by
    cases hn : (s.decode b).isNaN
    · rw [← h.2, canon_of_not hn]
    · obtain ⟨sg, t, hd⟩ := isNaN_iff.1 hn
      obtain ⟨sg2, t2, hd2⟩ := isNaN_iff.1 (decode_nanB s)
      rw [← h.2, canon_of_nan hn]
      unfold floatToIntVal
      rw [hd, hd2]
      rfl
  rw [f2iOk_eq, f2iOkR, e] at hok
  rw [f2i_eq, f2iR, e]
  unfold floatToIntVal at hok ⊢
  unfold Conv.floatToInt
  cases hv : (s.decode b).toInt .zero with
  | none => rw [hv] at hok; simp at hok
  | some n =>
    rw [hv] at hok
    simp only at hok ⊢
    split at hok
    · rename_i hr; simp [hr.1, hr.2]
    · simp at hok

theorem eqGuard_run {op : BinOp} {t : TypeId} {x y : Operand} {a b : Value} (h : (∀ cs, a ≠ .agg cs) ∧ a ≠ .nilIface) (w : World) : (eqGuard op t x y a b).run P w = .ok () w := by
  cases a <;> first | exact absurd rfl h.2 | exact absurd rfl (h.1 _) | (cases op <;> simp [eqGuard])

/-- The result of a reckoning operation. -/
def Reckons (P : Program) (w : World) (S : Nat → Prop) (look : Look) (m : Nat → Value) (s : Sem Value) (p : PV) : Prop :=
  ∃ v n, s.run P w = .ok v (w.drewN n) ∧ VRel w S look m v p

theorem Reckons.of {s : Sem Value} {v : Value} {p : PV} (h : s.run P w = .ok v w) (hv : PRel w S v p) : Reckons P w S look m s p := ⟨v, 0, h, .base _ _ hv⟩

theorem binInt_sound {op : BinOp} {t : TypeId} {k k' : IntKind} {x y : Int} {b : Bool} {p : PV} (h : binSem op (.int k x) (.int k' y) = some (b, p)) (hb : b = true) :
    Reckons P w S look m (binOp op t (.int k x) (.int k' y)) p := by
  subst hb
  unfold binSem at h
  cases op <;> simp only at h
  case shl =>
    simp only [Option.some.injEq, Prod.mk.injEq, decide_eq_true_eq] at h
    obtain ⟨h0, rfl⟩ := h
    refine .of ?_ (.int k _)
    simp [binOp, Op.shift, Int.not_lt.2 h0]
  case shr =>
    simp only [Option.some.injEq, Prod.mk.injEq, decide_eq_true_eq] at h
    obtain ⟨h0, rfl⟩ := h
    refine .of ?_ (.int k _)
    simp [binOp, Op.shift, Int.not_lt.2 h0]
  all_goals first
    | (split at h
       · rename_i hk
         subst hk
         cases h <;> first
           | (refine .of ?_ (.int k _); simp [binOp, Op.intArith, Op.intBits]; done)
           | (refine .of ?_ (.bool _); simp [binOp, Op.intCmp]; done)
       · cases h)
    | skip
  case quo =>
    split at h
    · rename_i hk
      subst hk
      simp only [Option.some.injEq, Prod.mk.injEq, decide_eq_true_eq] at h
      obtain ⟨h0, rfl⟩ := h
      refine .of ?_ (.int k _)
      simp [binOp, Op.intDiv, h0]
    · cases h
  case rem =>
    split at h
    · rename_i hk
      subst hk
      simp only [Option.some.injEq, Prod.mk.injEq, decide_eq_true_eq] at h
      obtain ⟨h0, rfl⟩ := h
      refine .of ?_ (.int k _)
      simp [binOp, Op.intDiv, h0]
    · cases h

theorem binSem_sound {op : BinOp} {t : TypeId} {v1 v2 : Value} {p1 p2 p : PV} {b : Bool} (h : binSem op p1 p2 = some (b, p)) (hb : b = true) (r1 : VRel w S look m v1 p1) (r2 : VRel w S look m v2 p2) :
    Reckons P w S look m (binOp op t v1 v2) p ∧ (∀ cs, v1 ≠ .agg cs) ∧ v1 ≠ .nilIface := by
  cases p1 <;> cases p2 <;> first | (unfold binSem at h; cases h; done) | skip
  case int.int k x k' y =>
    rw [r1.int_inv, r2.int_inv]
    exact ⟨binInt_sound h hb, (fun _ e => by cases e), (fun e => by cases e)⟩
  case f32.f32 x y =>
    obtain ⟨b1, rfl, f1⟩ := r1.f32_inv
    obtain ⟨b2, rfl, f2⟩ := r2.f32_inv
    refine ⟨?_, (fun _ e => by cases e), (fun e => by cases e)⟩
    unfold binSem at h
    cases op <;> simp only at h <;> first | (cases h; done) | skip
    case add => cases h; obtain ⟨r, n, hr, hf⟩ := run_float (P := P) .add (by simp) t .f32 f1 f2 w; exact ⟨_, n, hr, .base _ _ (.f32 _ _ hf)⟩
    case sub => cases h; obtain ⟨r, n, hr, hf⟩ := run_float (P := P) .sub (by simp) t .f32 f1 f2 w; exact ⟨_, n, hr, .base _ _ (.f32 _ _ hf)⟩
    case mul => cases h; obtain ⟨r, n, hr, hf⟩ := run_float (P := P) .mul (by simp) t .f32 f1 f2 w; exact ⟨_, n, hr, .base _ _ (.f32 _ _ hf)⟩
    case quo => cases h; obtain ⟨r, n, hr, hf⟩ := run_float (P := P) .quo (by simp) t .f32 f1 f2 w; exact ⟨_, n, hr, .base _ _ (.f32 _ _ hf)⟩
    all_goals (cases h; exact .of (run_fcmp (P := P) _ (by simp) t .f32 f1 f2 w) (.bool _))
  case f64.f64 x y =>
    obtain ⟨b1, rfl, f1⟩ := r1.f64_inv
    obtain ⟨b2, rfl, f2⟩ := r2.f64_inv
    refine ⟨?_, (fun _ e => by cases e), (fun e => by cases e)⟩
    unfold binSem at h
    cases op <;> simp only at h <;> first | (cases h; done) | skip
    case add => cases h; obtain ⟨r, n, hr, hf⟩ := run_float (P := P) .add (by simp) t .f64 f1 f2 w; exact ⟨_, n, hr, .base _ _ (.f64 _ _ hf)⟩
    case sub => cases h; obtain ⟨r, n, hr, hf⟩ := run_float (P := P) .sub (by simp) t .f64 f1 f2 w; exact ⟨_, n, hr, .base _ _ (.f64 _ _ hf)⟩
    case mul => cases h; obtain ⟨r, n, hr, hf⟩ := run_float (P := P) .mul (by simp) t .f64 f1 f2 w; exact ⟨_, n, hr, .base _ _ (.f64 _ _ hf)⟩
    case quo => cases h; obtain ⟨r, n, hr, hf⟩ := run_float (P := P) .quo (by simp) t .f64 f1 f2 w; exact ⟨_, n, hr, .base _ _ (.f64 _ _ hf)⟩
    all_goals (cases h; exact .of (run_fcmp (P := P) _ (by simp) t .f64 f1 f2 w) (.bool _))
  case str.str x y =>
    rw [r1.str_inv, r2.str_inv]
    refine ⟨?_, (fun _ e => by cases e), (fun e => by cases e)⟩
    unfold binSem at h
    cases op <;> simp only at h <;> first | (cases h; done) | skip
    case eql => cases h; rw [sameStr_eq]; exact .of rfl (.bool _)
    case neq => cases h; rw [sameStr_eq]; exact .of rfl (.bool _)

theorem boolSem_sound {op : BinOp} {t : TypeId} {v1 v2 : Value} {p1 p2 p : PV} {b : Bool} (h : boolSem P op t p1 p2 = some (b, p)) (r1 : VRel w S look m v1 p1) (r2 : VRel w S look m v2 p2) :
    Reckons P w S look m (binOp op t v1 v2) p ∧ (∀ cs, v1 ≠ .agg cs) ∧ v1 ≠ .nilIface := by
  cases p1 <;> cases p2 <;> first | (unfold boolSem at h; cases h; done) | skip
  case bool.bool x y =>
    rw [r1.bool_inv, r2.bool_inv]
    refine ⟨?_, (fun _ e => by cases e), (fun e => by cases e)⟩
    unfold boolSem at h
    simp only at h
    split at h
    · rename_i hu
      cases op <;> simp only at h <;> first | (cases h; done) | skip
      case eql => cases h; exact .of (by simp [binOp, run_equal_bool w t x y hu]) (.bool _)
      case neq => cases h; exact .of (by simp [binOp, run_equal_bool w t x y hu]) (.bool _)
    · cases h

theorem unSem_sound {op : UnOp} {v1 : Value} {p1 p : PV} (h : unSem op p1 = some p) (r1 : VRel w S look m v1 p1) : Reckons P w S look m (Op.unary op v1) p := by
  cases p1 <;> first | (unfold unSem at h; cases h; done) | skip
  case int k n =>
    rw [r1.int_inv]
    cases op <;> simp only [unSem] at h <;> first | (cases h; done) | skip
    cases h
    exact .of (by simp [Op.unary, Op.intArith]) (.int k _)
  case f32 x =>
    obtain ⟨b1, rfl, f1⟩ := r1.f32_inv
    cases op <;> simp only [unSem] at h <;> first | (cases h; done) | skip
    cases h
    exact .of (by simp [Op.unary]) (.f32 _ _ (negFloat_frel f1))
  case f64 x =>
    obtain ⟨b1, rfl, f1⟩ := r1.f64_inv
    cases op <;> simp only [unSem] at h <;> first | (cases h; done) | skip
    cases h
    exact .of (by simp [Op.unary]) (.f64 _ _ (negFloat_frel f1))
  case bool x =>
    rw [r1.bool_inv]
    cases op <;> simp only [unSem] at h <;> first | (cases h; done) | skip
    cases h
    exact .of (by simp [Op.unary]) (.bool _)

end
end Go.Ev

/- Looks at memory: loads, fields, indexes, lengths. -/
namespace Go.Ev
open Go Go.RowKit

theorem addr_add (b o j : Nat) : (⟨b, o, none⟩ : Addr).add j = ⟨b, o + j, none⟩ := by
  unfold Addr.add; split <;> simp_all

theorem cell_of_heap {w : World} {b i : Nat} {arr : Array Value} {e : TypeId} (h : w.heap[b]? = some (.cells arr e (0, 0))) (hi : i < arr.size) :
    w.cell? ⟨b, i, none⟩ = some (arr.getD i Go.undef) := by
  simp [World.cell?, h, Array.getD_eq_getD_getElem?, hi]

/-- The objects of the call's own are as they are told. -/
def ObjsOk (B : Nat) (w : World) (S : Nat → Prop) (look : Look) (m : Nat → Value) : Prop := ∀ id ver ob, look id = (ver, some ob) → ObjRel B w S look m id ob

section
variable {P : Program} {B : Nat} {w : World} {S : Nat → Prop} {look : Look} {m : Nat → Value} {v : Value}

/-- A row of the call's own: its cells. -/
theorem ownsRow_cell {e : TypeId} {sz n : Nat} {s : Value} {xs : List Value} (h : w.ownsRow B e sz s n xs) {b : Nat} (hb : blkOf s = some b) (j : Nat) (hj : j < n * sz) :
    w.cell? ⟨b, j, none⟩ = some (xs.getD j Go.undef) := by
  obtain ⟨h1, h2⟩ := h
  rcases h2 with ⟨rfl, _⟩ | ⟨g, cap, cur, rfl, _, hg, hn, _, hs, ht⟩
  · cases hb
  · cases hb
    have hj2 : j < cur.size := by rw [hs]; exact Nat.lt_of_lt_of_le hj (Nat.mul_le_mul_right _ hn)
    rw [cell_of_heap hg hj2, ← ht]
    simp only [List.getD_eq_getElem?_getD, List.getElem?_take, Array.getD_eq_getD_getElem?, if_pos hj]
    simp

theorem flat_lt {i n j sz : Nat} (hi : i < n) (hj : j < sz) : i * sz + j < n * sz := by
  calc i * sz + j < i * sz + sz := by omega
    _ = (i + 1) * sz := by rw [Nat.succ_mul]
    _ ≤ n * sz := Nat.mul_le_mul_right _ hi

theorem getD_lt {α : Type} (l : List α) (i : Nat) (d : α) (h : i < l.length) : l.getD i d = l[i] := by simp [List.getD_eq_getElem?_getD, h]

theorem cellsAt_sound (hobj : ObjsOk B w S look m) {p : PV} {cs : List PV} {off : Nat} (h : cellsAt look p = some (true, cs, off)) (r : VRel w S look m v p) :
    ∃ b base, v = .pointer (some ⟨b, base + off, none⟩) ∧ ∀ i, i < cs.length → ∃ u, w.cell? ⟨b, base + i, none⟩ = some u ∧ u.oneCell' = true ∧ VRel w S look m u (cs.getD i .undef) := by
  unfold cellsAt at h
  split at h
  · rename_i id ver off'
    split at h
    · rename_i ver' t cs' hl
      split at h
      · rename_i hv
        subst hv
        cases h
        obtain ⟨b, hvv, _, hm⟩ := r.lptr_inv
        have hm := hm _ _ hl
        obtain ⟨b', e, arr, hm', _, hh, hs, h1, h2⟩ := hobj id _ _ hl
        rw [hm] at hm'
        cases hm'
        refine ⟨b, 0, by rw [hvv, Nat.zero_add], fun i hi => ⟨_, ?_, h1 i hi, h2 i hi⟩⟩
        rw [Nat.zero_add]
        exact cell_of_heap hh (by omega)
      · cases h
    · cases h
  · rename_i id ver t i off'
    split at h
    · rename_i ver' e t' l hl
      split at h
      · rename_i hv
        subst hv
        simp only [Option.some.injEq, Prod.mk.injEq, decide_eq_true_eq] at h
        obtain ⟨hi, rfl, rfl⟩ := h
        obtain ⟨b, hvv, _, hp⟩ := r.lelem_inv
        obtain ⟨ht, hp2⟩ := hp _ _ _ hl
        subst ht
        obtain ⟨n, cap, hm⟩ := hp2 hi
        obtain ⟨xs, ho, hx⟩ := hobj id _ _ hl
        refine ⟨b, i * t'.size, hvv, fun j hj => ?_⟩
        rw [enc_length] at hj
        have hr := hx i hi j hj
        rw [getD_lt l i _ hi]
        refine ⟨_, ownsRow_cell ho (by rw [hm]; rfl) _ (flat_lt hi hj), ?_, .base _ _ hr⟩
        have := enc_scalar t' l[i] j hj
        exact hr.oneCell this.1 this.2.1 this.2.2
      · cases h
    · cases h
  · rename_i t x off'
    cases h
    cases r with
    | base _ _ r =>
      cases r with
      | ptr _ _ _ b base hb us hc hr =>
        refine ⟨b, base, rfl, fun i hi => ?_⟩
        rw [enc_length] at hi
        have := enc_scalar t x i hi
        exact ⟨us i, hc i hi, (hr i hi).oneCell this.1 this.2.1 this.2.2, .base _ _ (hr i hi)⟩
  · cases h

theorem getD_take_drop (cs : List PV) (off n i : Nat) (hi : i < n) : ((cs.drop off).take n).getD i .undef = cs.getD (off + i) .undef := by
  simp [List.getD_eq_getElem?_getD, hi]

/-- A part of cells that lie in memory. -/
theorem part_load {cs : List PV} {off : Nat} {t : TypeId} {p : PV} (h : partP P t cs off = some p) {b base : Nat}
    (hc : ∀ i, i < cs.length → ∃ u, w.cell? ⟨b, base + i, none⟩ = some u ∧ u.oneCell' = true ∧ VRel w S look m u (cs.getD i .undef)) :
    ∃ u, (loadVar t ⟨b, base + off, none⟩).run P w = .ok u w ∧ VRel w S look m u p := by
  unfold partP at h
  split at h
  · rename_i d n hd hn
    split at h
    · rename_i hle
      have hs := run_sizeOf hn w
      have ha := run_isAgg hd w
      split at h
      · rename_i hagg
        cases h
        rw [hagg] at ha
        have hex : ∀ j, ∃ u, j < n → w.cell? ⟨b, base + (off + j), none⟩ = some u ∧ u.oneCell' = true ∧ VRel w S look m u (cs.getD (off + j) .undef) := by
          intro j
          by_cases hj : j < n
          · obtain ⟨u, hu⟩ := hc (off + j) (by omega)
            exact ⟨u, fun _ => hu⟩
          · exact ⟨Go.undef, fun h => absurd h hj⟩
        let f : Nat → Value := fun j => Classical.choose (hex j)
        have hf : ∀ j, j < n → w.cell? ⟨b, base + (off + j), none⟩ = some (f j) ∧ (f j).oneCell' = true ∧ VRel w S look m (f j) (cs.getD (off + j) .undef) := fun j hj => Classical.choose_spec (hex j) hj
        have hl := run_loadCells (P := P) w ⟨b, base + off, none⟩ n f (fun j hj => by rw [addr_add, Nat.add_assoc]; exact (hf j hj).1)
        refine ⟨.agg ((List.range n).map f).toArray, ?_, ?_⟩
        · simp only [loadVar, Sem.run_bind, ha, Result.andThen_ok, if_true, hs, hl]
          rfl
        · have hlen : ((cs.drop off).take n).length = n := by simp; omega
          refine .agg _ _ (by simp [hlen] <;> omega) (fun i hi => ?_) (fun i hi => ?_)
          · rw [hlen] at hi
            have : ((List.range n).map f).toArray.getD i Go.undef = f i := by simp [Array.getD_eq_getD_getElem?, hi]
            rw [this]; exact (hf i hi).2.1
          · rw [hlen] at hi
            have : ((List.range n).map f).toArray.getD i Go.undef = f i := by simp [Array.getD_eq_getD_getElem?, hi]
            rw [this, getD_take_drop cs off n i hi]; exact (hf i hi).2.2
      · rename_i hagg
        split at h
        · rename_i h1
          cases h
          obtain ⟨u, hu, _, hv⟩ := hc off (by omega)
          refine ⟨u, ?_, hv⟩
          have hagg' : isAggB P t = false := by simpa using hagg
          rw [hagg'] at ha
          simp only [loadVar, Sem.run_bind, ha, Result.andThen_ok]
          simp [load, Sem.run, hu]
        · cases h
    · cases h
  · cases h

/-- A part of a value. -/
theorem part_val {cs : List PV} {vs : Array Value} {off : Nat} {t : TypeId} {p : PV} (h : partP P t cs off = some p) (hs : vs.size = cs.length)
    (h1 : ∀ i, i < cs.length → (vs.getD i Go.undef).oneCell' = true) (hc : ∀ i, i < cs.length → VRel w S look m (vs.getD i Go.undef) (cs.getD i .undef)) :
    ∃ u, (part t vs off).run P w = .ok u w ∧ VRel w S look m u p := by
  unfold partP at h
  split at h
  · rename_i d n hd hn
    split at h
    · rename_i hle
      have hz := run_sizeOf hn w
      have ha := run_isAgg hd w
      split at h
      · rename_i hagg
        cases h
        rw [hagg] at ha
        refine ⟨.agg (vs.extract off (off + n)), ?_, ?_⟩
        · simp only [part, Sem.run_bind, ha, Result.andThen_ok, if_true, hz]
          rfl
        · have hlen : ((cs.drop off).take n).length = n := by simp; omega
          have hg : ∀ i, i < n → (vs.extract off (off + n)).getD i Go.undef = vs.getD (off + i) Go.undef := by
            intro i hi
            simp only [Array.getD_eq_getD_getElem?, Array.getElem?_extract]
            rw [if_pos (by omega)]
          refine .agg _ _ (by simp [hlen] <;> omega) (fun i hi => ?_) (fun i hi => ?_)
          · rw [hlen] at hi; rw [hg i hi]; exact h1 _ (by omega)
          · rw [hlen] at hi; rw [hg i hi, getD_take_drop cs off n i hi]; exact hc _ (by omega)
      · rename_i hagg
        split at h
        · rename_i hn1
          cases h
          refine ⟨vs.getD off Go.undef, ?_, hc off (by omega)⟩
          have hagg' : isAggB P t = false := by simpa using hagg
          rw [hagg'] at ha
          have hlt : off < vs.size := by omega
          simp only [part, Sem.run_bind, ha, Result.andThen_ok]
          simp [hlt, Array.getD_eq_getD_getElem?]
        · cases h
    · cases h
  · cases h

theorem loadSem_sound (hobj : ObjsOk B w S look m) {t : TypeId} {a p : PV} (h : loadSem P look t a = some (true, p)) (r : VRel w S look m v a) :
    ∃ u, (Instr.loadAt t v).run P w = .ok u w ∧ VRel w S look m u p := by
  unfold loadSem at h
  split at h
  · rename_i b cs off hc
    split at h
    · rename_i q hq
      simp only [Option.some.injEq, Prod.mk.injEq] at h
      obtain ⟨rfl, rfl⟩ := h
      obtain ⟨bl, base, rfl, hcs⟩ := cellsAt_sound hobj hc r
      obtain ⟨u, hu, hv⟩ := part_load (P := P) hq hcs
      exact ⟨u, by simp [Instr.loadAt, Instr.sureAddr, hu], hv⟩
    · cases h
  · cases h

/-- A pointer moved on by some cells. -/
theorem addOff_sound {d : Nat} {p q : PV} (h : addOff d p = some q) (r : VRel w S look m v p) :
    ∃ b o, v = .pointer (some ⟨b, o, none⟩) ∧ VRel w S look m (.pointer (some ⟨b, o + d, none⟩)) q := by
  unfold addOff at h
  split at h
  · cases h
    obtain ⟨b, rfl, hv, hm⟩ := r.lptr_inv
    exact ⟨b, _, rfl, .lptr _ _ _ b hv hm⟩
  · cases h
    obtain ⟨b, rfl, hv, hm⟩ := r.lelem_inv
    refine ⟨b, _, rfl, ?_⟩
    rw [Nat.add_assoc]
    exact .lelem _ _ _ _ _ b hv hm
  · rename_i t x off
    cases h
    cases r with
    | base _ _ r =>
      cases r with
      | ptr _ _ _ b base hb us hc hr =>
        refine ⟨b, _, rfl, ?_⟩
        rw [Nat.add_assoc]
        exact .base _ _ (.ptr t x _ b base hb us hc hr)
  · cases h

theorem fieldOff_some {s : TypeId} {f off : Nat} {ft : TypeId} (h : fieldOff P s f = some (off, ft)) : ∃ fields fd, P.underlying s = some (.struct fields) ∧ fields[f]? = some fd ∧ fd.offset = off ∧ fd.type = ft := by
  unfold fieldOff at h
  split at h
  · rename_i fields hu
    split at h
    · rename_i fd hf
      cases h
      exact ⟨fields, fd, hu, hf, rfl, rfl⟩
    · cases h
  · cases h

theorem fieldAt_sound {s : TypeId} {f off n : Nat} {ft : TypeId} (hf : fieldOff P s f = some (off, ft)) (hn : szOf P ft = some n) (h0 : n ≠ 0) {p q : PV} (h : addOff off p = some q) (r : VRel w S look m v p) :
    ∃ u, (Instr.fieldAt s v f).run P w = .ok u w ∧ VRel w S look m u q := by
  obtain ⟨fields, fd, hu, hfd, rfl, rfl⟩ := fieldOff_some hf
  obtain ⟨b, o, rfl, hq⟩ := addOff_sound h r
  refine ⟨_, ?_, hq⟩
  have hs := run_sizeOf hn w
  simp [Instr.fieldAt, run_underlying hu, hfd, Instr.sureAddr, fieldPlace, hs, h0, addr_add]

theorem field_sound {s : TypeId} {f off : Nat} {ft : TypeId} (hf : fieldOff P s f = some (off, ft)) {cs : List PV} {q : PV} (h : partP P ft cs off = some q) (r : VRel w S look m v (.agg cs)) :
    ∃ u, (Instr.field s v f).run P w = .ok u w ∧ VRel w S look m u q := by
  obtain ⟨fields, fd, hu, hfd, rfl, rfl⟩ := fieldOff_some hf
  obtain ⟨vs, rfl, hs, h1, hc⟩ := r.agg_inv
  obtain ⟨u, hr, hv⟩ := part_val (P := P) (w := w) h hs h1 hc
  exact ⟨u, by simp [Instr.field, run_underlying hu, hfd, asAgg, hr], hv⟩

theorem idxSem_sound {t : TypeId} {x i q : PV} {v2 : Value} (h : idxSem P t x i = some (true, q)) (r : VRel w S look m v x) (r2 : VRel w S look m v2 i) :
    ∃ u, (Instr.indexAt t v v2).run P w = .ok u w ∧ VRel w S look m u q := by
  unfold idxSem at h
  split at h
  · rename_i k n
    rw [r2.int_inv]
    split at h
    · rename_i len e hu
      split at h
      · rename_i sz hsz
        split at h
        · rename_i p hp
          simp only [Option.some.injEq, Prod.mk.injEq, Bool.and_eq_true, decide_eq_true_eq] at h
          obtain ⟨⟨h0, h1⟩, rfl⟩ := h
          obtain ⟨b, o, rfl, hq⟩ := addOff_sound hp r
          refine ⟨_, ?_, hq⟩
          have hs := run_sizeOf hsz w
          simp [Instr.indexAt, asIntOf, run_underlying hu, Instr.sureAddr, h0, h1, hs, addr_add]
        · cases h
      · cases h
    · rename_i e hu
      split at h
      · rename_i sz hsz
        have hs := run_sizeOf hsz w
        split at h
        · rename_i id ver t' mm
          split at h
          · rename_i hsize
            simp only [Option.some.injEq, Prod.mk.injEq, Bool.and_eq_true, decide_eq_true_eq] at h
            obtain ⟨⟨h0, h1⟩, rfl⟩ := h
            obtain ⟨a, cap, rfl, hv, ha, hcap, hm⟩ := r.lslice_inv
            obtain ⟨b, rfl⟩ := ha (by omega)
            refine ⟨.pointer (some ⟨b, n.toNat * t'.size + 0, none⟩), ?_, .lelem _ _ _ _ _ b hv (fun e' t2 l hl => ?_)⟩
            · simp [Instr.indexAt, asIntOf, run_underlying hu, h0, h1, hs, addr_add, hsize]
            · obtain ⟨g1, g2, g3⟩ := hm e' t2 l hl
              exact ⟨g1, fun _ => ⟨_, _, g3⟩⟩
          · cases h
        · rename_i t' l
          split at h
          · rename_i hsize
            simp only [Option.some.injEq, Prod.mk.injEq, Bool.and_eq_true, decide_eq_true_eq] at h
            obtain ⟨⟨h0, h1⟩, rfl⟩ := h
            cases r with
            | base _ _ r =>
              cases r with
              | sliceNil _ a cap _ => simp at h1; omega
              | slice _ _ b base cap hb hcap us hc hr =>
                have hi : n.toNat < l.length := by omega
                refine ⟨.pointer (some ⟨b, base + n.toNat * t'.size + 0, none⟩), ?_, .base _ _ (.ptr t' _ 0 b (base + n.toNat * t'.size) hb (us n.toNat) (fun j hj => ?_) (fun j hj => ?_))⟩
                · simp [Instr.indexAt, asIntOf, run_underlying hu, h0, h1, hs, addr_add, hsize]
                · rw [Nat.add_assoc]; exact hc _ hi j hj
                · rw [getD_lt l _ _ hi]; exact hr _ hi j hj
          · cases h
        · cases h
      · cases h
    · cases h
  · cases h

theorem indexSem_sound {t : TypeId} {x i q : PV} {v2 : Value} (h : indexSem P t x i = some (true, q)) (r : VRel w S look m v x) (r2 : VRel w S look m v2 i) :
    ∃ u, (Instr.index t v v2).run P w = .ok u w ∧ VRel w S look m u q := by
  unfold indexSem at h
  split at h
  · rename_i k n
    rw [r2.int_inv]
    split at h
    · rename_i len e cs hu
      split at h
      · rename_i sz hsz
        split at h
        · rename_i p hp
          simp only [Option.some.injEq, Prod.mk.injEq, Bool.and_eq_true, decide_eq_true_eq] at h
          obtain ⟨⟨h0, h1⟩, rfl⟩ := h
          obtain ⟨vs, rfl, hs, h1', hc⟩ := r.agg_inv
          obtain ⟨u, hr, hv⟩ := part_val (P := P) (w := w) hp hs h1' hc
          have hss := run_sizeOf hsz w
          exact ⟨u, by simp [Instr.index, asIntOf, run_underlying hu, h0, h1, hss, hr], hv⟩
        · cases h
      · cases h
    · rename_i s hu
      simp only [Option.some.injEq, Prod.mk.injEq, Bool.and_eq_true, decide_eq_true_eq] at h
      obtain ⟨⟨h0, h1⟩, rfl⟩ := h
      rw [r.str_inv]
      have hi : n.toNat < s.size := by omega
      refine ⟨_, ?_, .base _ _ (.int .u8 _)⟩
      have hg : s[n.toNat]? = some s[n.toNat] := getElem?_pos s n.toNat hi
      have hd : s.data.getD n.toNat 0 = s[n.toNat] := by
        rw [Array.getD_eq_getD_getElem?, Array.getElem?_eq_getElem (by exact hi)]; rfl
      simp [Instr.index, asIntOf, run_underlying hu, h0, hg, hd]
    · cases h
  · cases h

theorem lenSem_sound {ts : Array TypeId} {ty : TypeId} {x q : PV} (h : lenSem P ts.toList x = some q) (r : VRel w S look m v x) :
    ∃ u, (Builtin.len_ ts ty #[v]).run P w = .ok u w ∧ VRel w S look m u q := by
  unfold lenSem at h
  split at h
  · rename_i t rest hts
    have h0 : ts[0]? = some t := by rw [← Array.getElem?_toList, hts]; rfl
    split at h <;> first | (cases h; done) | skip
    · rename_i s hu
      cases h
      rw [r.str_inv]
      exact ⟨_, by simp [Builtin.len_, h0, run_underlying hu, goInt], .base _ _ (.int .i64 _)⟩
    · rename_i n e hu
      cases h
      refine ⟨_, ?_, .base _ _ (.int .i64 _)⟩
      cases v <;> simp [Builtin.len_, h0, run_underlying hu, goInt]
    · rename_i e t' l hu
      cases h
      refine ⟨.int .i64 l.length, ?_, .base _ _ (.int .i64 _)⟩
      cases r with
      | base _ _ r =>
        cases r with
        | sliceNil _ a cap _ => simp [Builtin.len_, h0, run_underlying hu, goInt]
        | slice _ _ b base cap hb hcap us hc hr => simp [Builtin.len_, h0, run_underlying hu, goInt]
    · rename_i e id ver t' n hu
      cases h
      obtain ⟨a, cap, rfl, _⟩ := r.lslice_inv
      exact ⟨_, by simp [Builtin.len_, h0, run_underlying hu, goInt], .base _ _ (.int .i64 _)⟩
    · rename_i e hu
      cases h
      rw [r.nils_inv]
      exact ⟨_, by simp [Builtin.len_, h0, run_underlying hu, goInt], .base _ _ (.int .i64 _)⟩
  · cases h

theorem sliceSem_sound {t : TypeId} {x q : PV} {lo hi mx : Option PV} {lo' hi' mx' : Option Value} (h : sliceSem P t x lo hi mx = some (true, q)) (r : VRel w S look m v x)
    (hlo : lo = none → lo' = none) (hmx : mx = none → mx' = none) (hhi : ∀ p, hi = some p → ∃ u, hi' = some u ∧ VRel w S look m u p) :
    ∃ u, (Instr.sliceAt t v lo' hi' mx').run P w = .ok u w ∧ VRel w S look m u q := by
  unfold sliceSem at h
  split at h
  · rename_i e hu
    split at h
    · rename_i sz hsz
      have hs := run_sizeOf hsz w
      split at h <;> first | (cases h; done) | skip
      · rename_i k n id ver t' n0
        simp only [Option.some.injEq, Prod.mk.injEq, Bool.and_eq_true, decide_eq_true_eq] at h
        obtain ⟨⟨h0, h1⟩, rfl⟩ := h
        rw [hlo rfl, hmx rfl]
        obtain ⟨u, rfl, ru⟩ := hhi _ rfl
        rw [ru.int_inv]
        obtain ⟨a, cap, rfl, hv, ha, hcap, hm⟩ := r.lslice_inv
        refine ⟨.slice a n.toNat cap, ?_, .lslice _ _ _ _ a cap hv (fun hp => ha (by omega)) (by omega) (fun e' t2 l hl => ?_)⟩
        · have hle : n ≤ cap := by omega
          by_cases hc0 : cap = 0
          · subst hc0
            have hn0 : n = 0 := by omega
            subst hn0
            simp [Instr.sliceAt, Instr.slice, run_underlying hu, Instr.sliceBounds, Instr.sliceBound, asIntOf, hs]
          · have hadd : ∀ x : Addr, x.add 0 = x := fun x => by simp [Addr.add]
            cases a <;> simp [Instr.sliceAt, Instr.slice, run_underlying hu, Instr.sliceBounds, Instr.sliceBound, asIntOf, h0, hle, hs, hadd]
        · obtain ⟨g1, g2, g3⟩ := hm e' t2 l hl
          exact ⟨g1, by omega, g3⟩
      · rename_i k n t' l
        simp only [Option.some.injEq, Prod.mk.injEq, Bool.and_eq_true, decide_eq_true_eq] at h
        obtain ⟨⟨h0, h1⟩, rfl⟩ := h
        rw [hlo rfl, hmx rfl]
        obtain ⟨u, rfl, ru⟩ := hhi _ rfl
        rw [ru.int_inv]
        have hadd : ∀ x : Addr, x.add 0 = x := fun x => by simp [Addr.add]
        cases r with
        | base _ _ r =>
          cases r with
          | sliceNil _ a cap ha =>
            have hn : n = 0 := by simp at h1; omega
            subst hn
            refine ⟨.slice a 0 cap, ?_, .base _ _ (.sliceNil _ a cap ha)⟩
            by_cases hc0 : cap = 0
            · subst hc0
              simp [Instr.sliceAt, Instr.slice, run_underlying hu, Instr.sliceBounds, Instr.sliceBound, asIntOf, hs]
            · cases a <;> simp [Instr.sliceAt, Instr.slice, run_underlying hu, Instr.sliceBounds, Instr.sliceBound, asIntOf, hs, hadd]
          | slice _ _ b base cap hb hcap us hc hr =>
            have hlt : (l.take n.toNat).length = n.toNat := by simp; omega
            have key : PRel w S (.slice (some ⟨b, base, none⟩) (l.take n.toNat).length cap) (.slice t' (l.take n.toNat)) := by
              refine .slice t' _ b base cap hb (by omega) us (fun i hi j hj => hc i (by omega) j hj) (fun i hi j hj => ?_)
              have := hr i (by omega) j hj
              simpa using this
            rw [hlt] at key
            refine ⟨_, ?_, .base _ _ key⟩
            have hle : n ≤ cap := by omega
            by_cases hc0 : cap = 0
            · subst hc0
              have hn0 : n = 0 := by omega
              subst hn0
              simp [Instr.sliceAt, Instr.slice, run_underlying hu, Instr.sliceBounds, Instr.sliceBound, asIntOf, hs]
            · simp [Instr.sliceAt, Instr.slice, run_underlying hu, Instr.sliceBounds, Instr.sliceBound, asIntOf, h0, hle, hs, hadd]
    · cases h
  · cases h

end
end Go.Ev

/- Slices as lists of elements; conversions; stores. -/
namespace Go.Ev
open Go Go.RowKit

section
variable {P : Program} {B : Nat} {w : World} {S : Nat → Prop} {look : Look} {m : Nat → Value} {v : Value}

/-- The cells of the elements of a slice. -/
def Elems (w : World) (S : Nat → Prop) (t : ET) (l : List t.D) (news : List Value) : Prop :=
  news.length = l.length * t.size ∧ ∀ i, (hi : i < l.length) → ∀ j, j < t.size → PRel w S (news.getD (i * t.size + j) Go.undef) ((enc t l[i]).getD j .undef)

theorem Elems.oneCell {t : ET} {l : List t.D} {news : List Value} (h : Elems w S t l news) : ∀ u ∈ news, u.oneCell' = true := by
  intro u hu
  obtain ⟨k, hk, rfl⟩ := List.mem_iff_getElem.1 hu
  have hp := t.size_pos
  have hi : k / t.size < l.length := by rw [Nat.div_lt_iff_lt_mul hp, ← h.1]; exact hk
  have hj : k % t.size < t.size := Nat.mod_lt _ hp
  have hr := h.2 _ hi _ hj
  have e : k / t.size * t.size + k % t.size = k := by rw [Nat.mul_comm]; exact Nat.div_add_mod k t.size
  rw [e, getD_lt news k _ hk] at hr
  have := enc_scalar t l[k / t.size] (k % t.size) hj
  exact hr.oneCell this.1 this.2.1 this.2.2

theorem Elems.take {t : ET} {l : List t.D} {news : List Value} (h : Elems w S t l news) (n : Nat) (hn : n ≤ l.length) : Elems w S t (l.take n) (news.take (n * t.size)) := by
  refine ⟨?_, fun i hi j hj => ?_⟩
  · have : n * t.size ≤ l.length * t.size := Nat.mul_le_mul_right _ hn
    have h1 := h.1
    simp only [List.length_take, Nat.min_eq_left hn]
    omega
  · have hi' : i < n := by simp at hi; omega
    have hf := flat_lt hi' hj
    have e1 : (news.take (n * t.size)).getD (i * t.size + j) Go.undef = news.getD (i * t.size + j) Go.undef := by
      simp [List.getD_eq_getElem?_getD, hf]
    rw [e1, List.getElem_take]
    exact h.2 i (by omega) j hj

theorem Elems.append {t : ET} {l l2 : List t.D} {xs news : List Value} (h : Elems w S t l xs) (h2 : Elems w S t l2 news) : Elems w S t (l ++ l2) (xs ++ news) := by
  refine ⟨by rw [List.length_append, List.length_append, h.1, h2.1, Nat.add_mul], fun i hi j hj => ?_⟩
  by_cases hlt : i < l.length
  · have hf := flat_lt hlt hj
    have e1 : (xs ++ news).getD (i * t.size + j) Go.undef = xs.getD (i * t.size + j) Go.undef := by
      simp only [List.getD_eq_getElem?_getD]; rw [List.getElem?_append_left (by rw [h.1]; exact hf)]
    rw [e1, List.getElem_append_left hlt]
    exact h.2 i hlt j hj
  · have hle : l.length ≤ i := by omega
    have hi2 : i - l.length < l2.length := by simp at hi; omega
    have e0 : i * t.size + j = xs.length + ((i - l.length) * t.size + j) := by
      rw [h.1, ← Nat.add_assoc, ← Nat.add_mul]; congr 2; omega
    have e1 : (xs ++ news).getD (i * t.size + j) Go.undef = news.getD ((i - l.length) * t.size + j) Go.undef := by
      rw [e0]; simp only [List.getD_eq_getElem?_getD]; rw [List.getElem?_append_right (by omega), Nat.add_sub_cancel_left]
    rw [e1, List.getElem_append_right hle]
    exact h2.2 _ hi2 j hj

theorem Elems.mono {w' : World} {S' : Nat → Prop} {t : ET} {l : List t.D} {news : List Value} (h : Elems w S t l news) (hS : ∀ b, S b → S' b) (hw : ∀ b, S b → w'.heap[b]? = w.heap[b]?) : Elems w' S' t l news :=
  ⟨h.1, fun i hi j hj => (h.2 i hi j hj).mono hS hw⟩

theorem elemsAt_sound (hobj : ObjsOk B w S look m) {t : ET} {p : PV} {l : List t.D} (h : elemsAt look t p = some l) (r : VRel w S look m v p) :
    ∃ ad c news, v = .slice ad l.length c ∧ (ad = none → l.length = 0 ∧ c = 0) ∧ (∀ x, ad = some x → ∀ j u, news[j]? = some u → w.cell? (x.add j) = some u) ∧ Elems w S t l news := by
  unfold elemsAt at h
  split at h
  · rename_i id ver t' n
    split at h
    · rename_i ver' e t'' l0 hl
      split at h
      · rename_i hv
        subst hv
        split at h
        · rename_i ht
          subst ht
          split at h
          · simp only [Option.some.injEq] at h
            subst h
            obtain ⟨a, cap, rfl, _, ha, hcap, hm⟩ := r.lslice_inv
            obtain ⟨_, hn, hmid⟩ := hm _ _ _ hl
            obtain ⟨xs, ho, hx⟩ := hobj id _ _ hl
            have hE : Elems w S t'' l0 xs := ⟨ho.1, hx⟩
            have hlen : (l0.take n).length = n := by simp; omega
            refine ⟨a, cap, xs.take (n * t''.size), by rw [hlen], ?_, ?_, hE.take n hn⟩
            · intro hnone
              subst hnone
              rw [hmid] at ho
              rcases ho.2 with ⟨h1, h2⟩ | ⟨g, _, _, h1, _⟩
              · have h3 : cap = 0 := (Value.slice.inj h1).2.2
                rw [hlen]; exact ⟨by omega, h3⟩
              · cases h1
            · intro x hx' j u hu
              subst hx'
              rw [hmid] at ho
              rcases ho.2 with ⟨h1, _⟩ | ⟨g, cap', cur, h1, _, hg, _⟩
              · cases h1
              · cases h1
                have hj : j < n * t''.size := by
                  have := (List.getElem?_eq_some_iff.1 hu).1; simp at this; omega
                have hj2 : j < l0.length * t''.size := Nat.lt_of_lt_of_le hj (Nat.mul_le_mul_right _ hn)
                rw [addr_add, Nat.zero_add, ownsRow_cell ho rfl j hj2]
                simp only [List.getElem?_take, if_pos hj] at hu
                simp [List.getD_eq_getElem?_getD, hu]
          · cases h
        · cases h
      · cases h
    · cases h
  · rename_i t' l0
    split at h
    · rename_i ht
      subst ht
      simp only [Option.some.injEq] at h
      subst h
      cases r with
      | base _ _ r =>
        cases r with
        | sliceNil _ a cap ha => exact ⟨a, cap, [], rfl, fun h => ⟨rfl, ha h⟩, fun _ _ j u hu => by simp at hu, ⟨by simp, fun i hi => absurd hi (by simp)⟩⟩
        | slice _ _ b base cap hb hcap us hc hr =>
          have hp := t'.size_pos
          refine ⟨some ⟨b, base, none⟩, cap, (List.range (l0.length * t'.size)).map (fun k => us (k / t'.size) (k % t'.size)), rfl, (fun h => by cases h), ?_, ⟨by simp, fun i hi j hj => ?_⟩⟩
          · intro x hx j u hu
            cases hx
            have hj : j < l0.length * t'.size := by have := (List.getElem?_eq_some_iff.1 hu).1; simpa using this
            have e : j / t'.size * t'.size + j % t'.size = j := by rw [Nat.mul_comm]; exact Nat.div_add_mod j t'.size
            have := hc (j / t'.size) (by rw [Nat.div_lt_iff_lt_mul hp]; exact hj) (j % t'.size) (Nat.mod_lt _ hp)
            rw [e] at this
            rw [addr_add, this]
            simpa [hj] using hu
          · have hf := flat_lt hi hj
            have e1 : (i * t'.size + j) / t'.size = i := by rw [Nat.mul_comm, Nat.mul_add_div hp, Nat.div_eq_of_lt hj, Nat.add_zero]
            have e2 : (i * t'.size + j) % t'.size = j := by rw [Nat.mul_comm, Nat.mul_add_mod, Nat.mod_eq_of_lt hj]
            have : ((List.range (l0.length * t'.size)).map (fun k => us (k / t'.size) (k % t'.size))).getD (i * t'.size + j) Go.undef = us i j := by
              simp [List.getD_eq_getElem?_getD, hf, e1, e2]
            rw [this]
            exact hr i hi j hj
    · cases h
  · simp only [Option.some.injEq] at h
    subst h
    rw [r.nils_inv]
    exact ⟨none, 0, [], rfl, fun _ => ⟨rfl, rfl⟩, (fun _ h => by cases h), ⟨by simp, fun i hi => absurd hi (by simp)⟩⟩
  · cases h

/-- Bytes in memory as a string. -/
theorem run_bytes {ad : Option Addr} {c : Nat} {l : List Int} {news : List Value} (hE : Elems w S .u8 l news) (h0 : ad = none → l.length = 0)
    (hc : ∀ x, ad = some x → ∀ j u, news[j]? = some u → w.cell? (x.add j) = some u) :
    (Conv.bytesToString (.slice ad l.length c)).run P w = .ok (.string (bytesL l)) w := by
  cases ad with
  | none =>
    have : l = [] := List.eq_nil_of_length_eq_zero (h0 rfl)
    subst this
    rfl
  | some a =>
    have hlen : news.length = l.length := by have := hE.1; simpa [ET.size] using this
    have hload := run_loadCells_list (P := P) w a news (hc a rfl)
    have hnews : news = l.map (Value.int .u8) := by
      apply List.ext_getElem
      · simp [hlen]
      · intro i h1 h2
        have hi : i < l.length := by simpa using h2
        have h3 : (0 : Nat) < ET.size .u8 := by decide
        have := hE.2 i hi 0 h3
        have e : i * ET.size .u8 + 0 = i := by simp [ET.size]
        rw [e, getD_lt news i _ h1] at this
        have h4 : (enc .u8 l[i]).getD 0 .undef = .int .u8 l[i] := rfl
        rw [h4] at this
        generalize news[i] = u at this ⊢
        cases this
        simp
    rw [hlen, hnews] at hload
    rw [run_bytesToString w a l.length c l hload, foldl_push_bytes]
    have e : ByteArray.empty.data = #[] := rfl
    rw [e]; simp [bytesL]

theorem run_convert_fi {src dst : TypeId} {ds : TypeDesc} {k : IntKind} {s : FloatKind} {b : Nat} (hs : P.underlying src = some ds) (hd : P.underlying dst = some (.int k)) :
    (convert src dst (.float s b)).run P w = (Conv.floatToInt s b k).run P w := by
  cases ds <;> simp [convert, run_underlying hs, run_underlying hd]
theorem run_convert_ff {src dst : TypeId} {ds : TypeDesc} {k : FloatKind} {s : FloatKind} {b : Nat} (hs : P.underlying src = some ds) (hd : P.underlying dst = some (.float k)) :
    (convert src dst (.float s b)).run P w = (Conv.floatToFloat s b k).run P w := by
  cases ds <;> simp [convert, run_underlying hs, run_underlying hd]
theorem run_convert_if {src dst : TypeId} {ds : TypeDesc} {k : FloatKind} {s : IntKind} {n : Int} (hs : P.underlying src = some ds) (hd : P.underlying dst = some (.float k)) :
    (convert src dst (.int s n)).run P w = (Conv.intToFloat k n).run P w := by
  cases ds <;> simp [convert, run_underlying hs, run_underlying hd]

theorem convSem_sound (hobj : ObjsOk B w S look m) {src dst : TypeId} {x q : PV} (h : convSem P look src dst x = some (true, q)) (r : VRel w S look m v x) :
    Reckons P w S look m (convert src dst v) q := by
  unfold convSem at h
  split at h
  · cases h
  · rename_i ds hds
    split at h
    · rename_i k hk
      split at h <;> first | (cases h; done) | skip
      · cases h
        rw [r.int_inv]
        exact .of (by simp [convert, run_underlying hds, run_underlying hk, Conv.intToInt]) (.int k _)
      · rename_i a
        simp only [Option.some.injEq, Prod.mk.injEq] at h
        obtain ⟨hok, rfl⟩ := h
        obtain ⟨b, rfl, f⟩ := r.f32_inv
        have hr := run_f2i (P := P) .f32 k f hok w
        exact .of ((run_convert_fi hds hk).trans hr) (.int k _)
      · rename_i a
        simp only [Option.some.injEq, Prod.mk.injEq] at h
        obtain ⟨hok, rfl⟩ := h
        obtain ⟨b, rfl, f⟩ := r.f64_inv
        have hr := run_f2i (P := P) .f64 k f hok w
        exact .of ((run_convert_fi hds hk).trans hr) (.int k _)
    · rename_i hk
      split at h <;> first | (cases h; done) | skip
      · cases h
        rw [r.int_inv]
        rename_i kk n
        obtain ⟨rr, hr, hf⟩ := run_i2f (P := P) .f32 n w
        exact .of ((run_convert_if hds hk).trans hr) (.f32 _ _ hf)
      · cases h
        obtain ⟨b, rfl, f⟩ := r.f32_inv
        exact .of (v := .float .f32 b) ((run_convert_ff hds hk).trans (by simp [Conv.floatToFloat])) (.f32 _ _ f)
      · rename_i a
        simp only [Option.some.injEq, Prod.mk.injEq] at h
        obtain ⟨hok, rfl⟩ := h
        obtain ⟨b, rfl, f⟩ := r.f64_inv
        rw [narrowOk_eq] at hok
        obtain ⟨rr, n, hr, hf⟩ := run_f2f (P := P) .f64 .f32 (by decide) f (.inl hok) w
        exact ⟨.float .f32 rr, n, (run_convert_ff hds hk).trans hr, .base _ _ (.f32 _ _ hf)⟩
    · rename_i hk
      split at h <;> first | (cases h; done) | skip
      · cases h
        rw [r.int_inv]
        rename_i kk n
        obtain ⟨rr, hr, hf⟩ := run_i2f (P := P) .f64 n w
        exact .of ((run_convert_if hds hk).trans hr) (.f64 _ _ hf)
      · cases h
        obtain ⟨b, rfl, f⟩ := r.f32_inv
        obtain ⟨rr, n, hr, hf⟩ := run_f2f (P := P) .f32 .f64 (by decide) f (.inr ⟨rfl, rfl⟩) w
        exact ⟨.float .f64 rr, n, (run_convert_ff hds hk).trans hr, .base _ _ (.f64 _ _ hf)⟩
      · cases h
        obtain ⟨b, rfl, f⟩ := r.f64_inv
        exact .of (v := .float .f64 b) ((run_convert_ff hds hk).trans (by simp [Conv.floatToFloat])) (.f64 _ _ f)
    · rename_i hk
      split at h <;> first | (cases h; done) | skip
      rename_i e
      split at h <;> first | (cases h; done) | skip
      rename_i he
      split at h <;> first | (cases h; done) | skip
      rename_i l hl
      cases h
      obtain ⟨ad, c, news, rfl, h0, hc, hE⟩ := elemsAt_sound hobj hl r
      refine .of ?_ (.str _)
      rw [run_convert_bytes_string w src dst e ad l.length c hds he hk]
      exact run_bytes hE (fun hn => (h0 hn).1) hc
    · cases h

end

/-! Stores. -/

theorem splice_getD (cs : List PV) (off : Nat) (vs : List PV) (h : off + vs.length ≤ cs.length) (i : Nat) (d : PV) :
    (splice cs off vs).getD i d = if off ≤ i ∧ i < off + vs.length then vs.getD (i - off) d else cs.getD i d := by
  unfold splice
  simp only [List.getD_eq_getElem?_getD]
  by_cases h1 : i < off
  · rw [if_neg (by omega), List.append_assoc, List.getElem?_append_left (by simp; omega), List.getElem?_take, if_pos h1]
  · by_cases h2 : i < off + vs.length
    · rw [if_pos ⟨by omega, h2⟩, List.getElem?_append_left (by simp; omega), List.getElem?_append_right (by simp; omega)]
      simp only [List.length_take]
      congr 3; omega
    · rw [if_neg (by omega), List.getElem?_append_right (by simp; omega), List.getElem?_drop]
      simp only [List.length_append, List.length_take]
      congr 2; omega

theorem splice_length (cs : List PV) (off : Nat) (vs : List PV) (h : off + vs.length ≤ cs.length) : (splice cs off vs).length = cs.length := by
  unfold splice; simp; omega

/-- The same of an array of values. -/
theorem spliceV_getD (arr : Array Value) (off : Nat) (vs : List Value) (h : off + vs.length ≤ arr.size) (i : Nat) :
    ((arr.toList.take off ++ vs ++ arr.toList.drop (off + vs.length)).toArray).getD i Go.undef = if off ≤ i ∧ i < off + vs.length then vs.getD (i - off) Go.undef else arr.getD i Go.undef := by
  simp only [Array.getD_eq_getD_getElem?, List.getD_eq_getElem?_getD, List.getElem?_toArray]
  have hl : arr.toList.length = arr.size := by simp
  by_cases h1 : i < off
  · rw [if_neg (by omega), List.append_assoc, List.getElem?_append_left (by simp; omega), List.getElem?_take, if_pos h1]; simp
  · by_cases h2 : i < off + vs.length
    · rw [if_pos ⟨by omega, h2⟩, List.getElem?_append_left (by simp; omega), List.getElem?_append_right (by simp; omega)]
      simp only [List.length_take]
      congr 2; omega
    · rw [if_neg (by omega), List.getElem?_append_right (by simp; omega), List.getElem?_drop]
      simp only [List.length_append, List.length_take]
      rw [← Array.getElem?_toList]
      congr 2; omega

end Go.Ev

/- Operations that write into objects of the call's own, or make them. -/
namespace Go.Ev
open Go Go.RowKit

/-- A single cell in which no place of the call's own stands. -/
def pureB : PV → Bool
  | .bool _ => true
  | .int _ _ => true
  | .f32 _ => true
  | .f64 _ => true
  | .str _ => true
  | .nils => true
  | .ptr _ _ _ => true
  | .slice _ _ => true
  | _ => false

theorem VRel.pure {w : World} {S : Nat → Prop} {look : Look} {m : Nat → Value} {v : Value} {p : PV} (h : VRel w S look m v p) (hp : pureB p = true) : PRel w S v p := by
  cases h <;> first | assumption | (cases hp)

theorem sl32_pure {p : PV} {l : List Nat} (h : sl32 p = some l) : pureB p = true := by
  unfold sl32 at h; split at h <;> first | rfl | cases h
theorem slNd_pure {p : PV} {l : List Nd} (h : slNd p = some l) : pureB p = true := by
  unfold slNd at h; split at h <;> first | rfl | cases h
theorem slRg_pure {p : PV} {l : List Rg} (h : slRg p = some l) : pureB p = true := by
  unfold slRg at h; split at h <;> first | rfl | cases h

theorem dec_pure {t : ET} {cs : List PV} {x : t.D} (h : dec t cs = some x) : cs.all pureB = true := by
  unfold dec at h
  split at h <;> first | (cases h; done) | skip
  all_goals first
    | rfl
    | (simp only [Option.map_eq_some_iff] at h
       obtain ⟨l, hl, rfl⟩ := h
       first
         | (have := sl32_pure hl; simp only [List.all_cons, List.all_nil, this, Bool.and_true] <;> rfl)
         | (have := slNd_pure hl; simp only [List.all_cons, List.all_nil, this, Bool.and_true, Bool.true_and] <;> rfl))
    | (have := sl32_pure h; simp [this]; done)
    | (have := slRg_pure h; simp [this]; done)

theorem getD_mem {α : Type} (l : List α) (i : Nat) (d : α) (h : i < l.length) : l.getD i d ∈ l := by
  rw [getD_lt l i d h]; exact List.getElem_mem h

/-- The cells that are decoded are those of the element. -/
theorem dec_cells {w : World} {S : Nat → Prop} {look : Look} {m : Nat → Value} {t : ET} {cs : List PV} {x : t.D} (h : dec t cs = some x) {f : Nat → Value}
    (hf : ∀ i, i < cs.length → VRel w S look m (f i) (cs.getD i .undef)) : cs.length = t.size ∧ ∀ i, i < t.size → PRel w S (f i) ((enc t x).getD i .undef) := by
  have hs := dec_sound (w := w) (S := S) h
  refine ⟨hs.1, fun i hi => hs.2 i (f i) hi ?_⟩
  have hi' : i < cs.length := by rw [hs.1]; exact hi
  exact (hf i hi').pure (List.all_eq_true.1 (dec_pure h) _ (getD_mem cs i .undef hi'))

section
variable {P : Program} {A : Nat → Prop} {w0 w : World} {m : Nat → Value} {st : St} {a : Act}

theorem Rel.objsOk (rel : Rel A w0 m st a w) : ObjsOk w0.heap.size w (stabOf A w st.look m) st.look m := rel.objs

theorem wp_skip' {o : Oper} {w' : World} {K : Act → World → Prop} {Q : Exit → Act → World → Prop}
    (h : (execOp a.eval o).run P w = .ok .skip w') (hk : K (a.put o.dst Go.undef) w') : o.wp P a w K Q := by
  unfold Oper.wp; rw [h]; exact hk

theorem id_lt {id ver : Nat} {ob : LObj} (h : st.look id = (ver, some ob)) : id < st.o.length := by
  by_cases hlt : id < st.o.length
  · exact hlt
  · simp [St.look, List.getD_eq_getElem?_getD, List.getElem?_eq_none (Nat.le_of_not_lt hlt)] at h

theorem run_storeAt {t : TypeId} {n b off : Nat} {v2 : Value} {cur : Array Value} {e : TypeId} (hn : szOf P t = some n) (hs : v2.cells.size = n) (hg : w.heap[b]? = some (.cells cur e (0, 0)))
    (hfit : off + n ≤ cur.size) (h1 : ∀ i, i < n → (v2.cells.getD i Go.undef).oneCell' = true) :
    (Instr.storeAt t (.pointer (some ⟨b, off, none⟩)) v2).run P w = .ok () (w.setRow b (cur.toList.take off ++ v2.cells.toList ++ cur.toList.drop (off + n)).toArray) := by
  have hz := run_sizeOf hn w
  have hl : v2.cells.toList.length = n := by simpa using hs
  have h1' : ∀ v ∈ v2.cells.toList, v.oneCell' = true := by
    intro v hv
    obtain ⟨k, hk, rfl⟩ := List.mem_iff_getElem.1 hv
    have := h1 k (by omega)
    rw [Array.getD_eq_getD_getElem?, Array.getElem?_eq_getElem (by omega)] at this
    simpa using this
  have hst := run_storeCells_at P b off e v2.cells.toList 0 cur w hg (by omega) h1'
  rw [hl, Nat.add_zero] at hst
  simp [Instr.storeAt, Instr.sureAddr, storeVar, hz, hs, hst]

theorem goes_store (rel : Rel A w0 m st a w) {o : Oper} {t : TypeId} {ad x : Operand} (ho : o.op = .store t ad x) {out : Out} (h : storeSem P st.look t (evO st.t ad) (evO st.t x) = some out) (hpre : out.pre = true) :
    Goes P A w0 st a w o out := by
  intro K Q hK
  have r1 := rel.eval ad
  have r2 := rel.eval x
  unfold storeSem at h
  split at h <;> first | (cases h; done) | skip
  rename_i vs n hvs hn
  split at h <;> first | (cases h; done) | skip
  rename_i hlen
  obtain ⟨hcs, hc1, hcr⟩ := r2.cells hvs
  split at h <;> first | (cases h; done) | skip
  · rename_i id ver off he
    rw [he] at r1
    split at h <;> first | (cases h; done) | skip
    rename_i ver' t' cs hl
    split at h <;> first | (cases h; done) | skip
    rename_i hcond
    obtain ⟨rfl, hfit⟩ := hcond
    cases h
    obtain ⟨b, hv1, _, hm⟩ := r1.lptr_inv
    have hm := hm _ _ hl
    obtain ⟨b', e, arr, hm', hB, hh, hsz, h1, h2⟩ := rel.objs id _ _ hl
    rw [hm] at hm'
    cases hm'
    have hrun := run_storeAt (P := P) (w := w) (v2 := a.eval x) hn (by rw [hcs, hlen]) hh (by omega) (fun i hi => hc1 i (by omega)) (off := off)
    refine wp_skip' (w' := _) ?_ (hK m _ _ (rel.rewrite b ((arr.toList.take off ++ (a.eval x).cells.toList ++ arr.toList.drop (off + n)).toArray) id ver' (.cells t' cs) _ hl (id_lt hl) (by rw [hm]; rfl) o true ?_ ?_))
    · simp only [execOp, ho, hv1, Sem.run_bind, hrun, Result.andThen_ok]; rfl
    · intro look' hlook j
      by_cases hj : j = id
      · refine .inr (.inr (.inl ⟨ver', t', cs, _, by rw [hj]; exact hl, by rw [hlook, if_pos hj], rfl⟩))
      · exact .inl ⟨by rw [hlook, if_neg hj], rfl⟩
    · intro look' S' hld hS hst
      have hW : ∀ k, stabOf A w st.look m k → (w.setRow b ((arr.toList.take off ++ (a.eval x).cells.toList ++ arr.toList.drop (off + n)).toArray)).heap[k]? = w.heap[k]? :=
        fun k hk => setRow_other w b k _ (fun hkb => hk.2.1 id (live_of hl) (by rw [hm, hkb]; rfl))
      have hll : (a.eval x).cells.toList.length = vs.length := by simpa using hcs
      have hn' : n = (a.eval x).cells.toList.length := by omega
      have hget : ∀ i, ((arr.toList.take off ++ (a.eval x).cells.toList ++ arr.toList.drop (off + n)).toArray).getD i Go.undef = if off ≤ i ∧ i < off + vs.length then (a.eval x).cells.getD (i - off) Go.undef else arr.getD i Go.undef := by
        intro i
        rw [hn', spliceV_getD arr off _ (by omega) i, hll, getD_toList]
      have hspl : ∀ i, (splice cs off vs).getD i .undef = if off ≤ i ∧ i < off + vs.length then vs.getD (i - off) .undef else cs.getD i .undef := fun i => splice_getD cs off vs (by omega) i .undef
      have hsl := splice_length cs off vs (by omega)
      refine ⟨b, e, _, hm, hB, setRow_heap w b arr _ e (0, 0) hh, ?_, fun i hi => ?_, fun i hi => ?_⟩
      · rw [hsl]
        simp only [List.size_toArray, List.length_append, List.length_take, List.length_drop, Array.length_toList]
        simp only [Array.length_toList] at hll
        omega
      · rw [hget]
        split
        · rename_i hr; exact hc1 _ (by omega)
        · exact h1 i (by omega)
      · rw [hget, hspl]
        split
        · rename_i hr; exact (hcr _ (by omega)).step hst hS hW
        · exact (h2 i (by omega)).step hst hS hW
  · rename_i id ver t0 i off he
    rw [he] at r1
    split at h <;> first | (cases h; done) | skip
    rename_i ver' e t' l hl
    split at h <;> first | (cases h; done) | skip
    rename_i hcond
    obtain ⟨rfl, hfit⟩ := hcond
    split at h <;> first | (cases h; done) | skip
    rename_i d hd
    cases h
    have hi : i < l.length := by simpa using hpre
    obtain ⟨b, hv1, _, hm⟩ := r1.lelem_inv
    obtain ⟨ht, hm2⟩ := hm _ _ _ hl
    subst ht
    obtain ⟨n0, cap0, hm⟩ := hm2 hi
    obtain ⟨xs, ho', hx⟩ := rel.objs id _ _ hl
    rw [hm] at ho'
    rcases ho'.2 with ⟨h1, _⟩ | ⟨g, cap, cur, h1, hB, hh, hcap, hmax, hcur, htake⟩
    · cases h1
    cases h1
    have hflat := flat_lt (sz := t'.size) hi (show t'.size - 1 < t'.size from by have := t'.size_pos; omega)
    have hrow : i * t'.size + t'.size ≤ l.length * t'.size := by have := t'.size_pos; omega
    have hrow2 : l.length * t'.size ≤ cur.size := by rw [hcur]; exact Nat.mul_le_mul_right _ hcap
    have hrun := run_storeAt (P := P) (w := w) (v2 := a.eval x) hn (by rw [hcs, hlen]) hh (by omega) (fun i hi => hc1 i (by omega)) (off := i * t'.size + off)
    refine wp_skip' (w' := _) ?_ (hK m _ _ (rel.rewrite b ((cur.toList.take (i * t'.size + off) ++ (a.eval x).cells.toList ++ cur.toList.drop (i * t'.size + off + n)).toArray) id ver' (.elems e t' l) _ hl (id_lt hl) (by rw [hm]; rfl) o _ ?_ ?_))
    · simp only [execOp, ho, hv1, Sem.run_bind, hrun, Result.andThen_ok]; rfl
    · intro look' hlook j
      by_cases hj : j = id
      · refine .inr (.inr (.inr ⟨ver', e, t', l, l.set i d, by rw [hj]; exact hl, by rw [hlook, if_pos hj], by simp, rfl⟩))
      · exact .inl ⟨by rw [hlook, if_neg hj], rfl⟩
    · intro look' S' hld hS hst
      have hW : ∀ k, stabOf A w st.look m k → (w.setRow b ((cur.toList.take (i * t'.size + off) ++ (a.eval x).cells.toList ++ cur.toList.drop (i * t'.size + off + n)).toArray)).heap[k]? = w.heap[k]? :=
        fun k hk => setRow_other w b k _ (fun hkb => hk.2.1 id (live_of hl) (by rw [hm, hkb]; rfl))
      have hll : (a.eval x).cells.toList.length = vs.length := by simpa using hcs
      have hn' : n = (a.eval x).cells.toList.length := by omega
      have hget : ∀ k, ((cur.toList.take (i * t'.size + off) ++ (a.eval x).cells.toList ++ cur.toList.drop (i * t'.size + off + n)).toArray).getD k Go.undef =
          if i * t'.size + off ≤ k ∧ k < i * t'.size + off + vs.length then (a.eval x).cells.getD (k - (i * t'.size + off)) Go.undef else cur.getD k Go.undef := by
        intro k
        rw [hn', spliceV_getD cur (i * t'.size + off) _ (by omega) k, hll, getD_toList]
      have hxs : ∀ k, k < l.length * t'.size → xs.getD k Go.undef = cur.getD k Go.undef := by
        intro k hk
        rw [← htake]
        simp only [List.getD_eq_getElem?_getD, List.getElem?_take, if_pos hk, Array.getD_eq_getD_getElem?]
        simp
      -- the new cells
      generalize hcur' : (cur.toList.take (i * t'.size + off) ++ (a.eval x).cells.toList ++ cur.toList.drop (i * t'.size + off + n)).toArray = cur' at *
      have hcs' : cur'.size = cur.size := by
        rw [← hcur']
        simp only [List.size_toArray, List.length_append, List.length_take, List.length_drop, Array.length_toList]
        simp only [Array.length_toList] at hll
        omega
      refine ⟨cur'.toList.take (l.length * t'.size), ⟨by simp; omega, .inr ⟨b, cap0, cur', by rw [hm]; simp, hB, setRow_heap w b cur _ e (0, 0) hh, by simpa using hcap, hmax, by omega, by simp⟩⟩, fun i' hi' j hj => ?_⟩
      have hi'' : i' < l.length := by simpa using hi'
      have hf := flat_lt hi'' hj
      have e1 : (cur'.toList.take (l.length * t'.size)).getD (i' * t'.size + j) Go.undef = cur'.getD (i' * t'.size + j) Go.undef := by
        simp only [List.getD_eq_getElem?_getD, List.getElem?_take, if_pos hf, Array.getD_eq_getD_getElem?]
        simp
      rw [e1, hget]
      by_cases hii : i' = i
      · subst hii
        have hdc := dec_cells (w := w) (S := stabOf A w st.look m) (look := st.look) (m := m) hd (f := fun j => if i' * t'.size + off ≤ i' * t'.size + j ∧ i' * t'.size + j < i' * t'.size + off + vs.length then (a.eval x).cells.getD (i' * t'.size + j - (i' * t'.size + off)) Go.undef else cur.getD (i' * t'.size + j) Go.undef) (by
          intro j hj
          rw [splice_length _ _ _ (by rw [enc_length]; omega), enc_length] at hj
          rw [splice_getD _ _ _ (by rw [enc_length]; omega)]
          by_cases hr : off ≤ j ∧ j < off + vs.length
          · rw [if_pos hr, if_pos (by omega)]
            have e2 : i' * t'.size + j - (i' * t'.size + off) = j - off := by omega
            rw [e2]
            exact hcr _ (by omega)
          · rw [if_neg hr, if_neg (by omega)]
            have := hx i' hi'' j hj
            rw [hxs _ (flat_lt hi'' hj)] at this
            rw [getD_lt l i' _ hi'']
            exact .base _ _ this)
        have := hdc.2 j hj
        have e3 : (l.set i' d)[i'] = d := by simp
        rw [e3]
        exact this.mono hS hW
      · rw [if_neg (by
          intro hr
          rcases Nat.lt_or_gt_of_ne hii with hlt | hgt
          · have := flat_lt (sz := t'.size) hlt hj; omega
          · have : i * t'.size + t'.size ≤ i' * t'.size := by
              calc i * t'.size + t'.size = (i + 1) * t'.size := by rw [Nat.succ_mul]
                _ ≤ i' * t'.size := Nat.mul_le_mul_right _ hgt
            omega)]
        have e3 : (l.set i d)[i'] = l[i'] := by rw [List.getElem_set_ne (fun h => hii h.symm)]
        rw [e3, ← hxs _ hf]
        exact (hx i' hi'' j hj).mono hS hW

end
end Go.Ev

/- New objects: boxes, zero values, slices that are written out or made, appends; and structs that are put together. -/
namespace Go.Ev
open Go Go.RowKit

section
variable {P : Program} {A : Nat → Prop} {w0 w : World} {m : Nat → Value} {st : St} {a : Act}

theorem room_dst {o : Oper} {out : Out} {ob : LObj} (h : roomFor st o out = true) (hn : out.new = some ob) : ∃ d, o.dst = some d ∧ d < st.o.length ∧ dstOf o = d := by
  unfold roomFor at h
  rw [hn] at h
  simp only at h
  split at h
  · rename_i d hd; exact ⟨d, hd, by simpa using h, by simp [dstOf, hd]⟩
  · cases h

/-- A new block of cells. -/
theorem goes_newCells (rel : Rel A w0 m st a w) {o : Oper} {d : Nat} (hd : o.dst = some d) (hroom : d < st.o.length) (e : TypeId) (arr : Array Value) (cs : List PV) (tt : Option ET)
    (hs : arr.size = cs.length) (h1 : ∀ i, i < cs.length → (arr.getD i Go.undef).oneCell' = true) (hc : ∀ i, i < cs.length → VRel w (stabOf A w st.look m) st.look m (arr.getD i Go.undef) (cs.getD i .undef))
    (hrun : (execOp a.eval o).run P w = .ok (.value (.pointer (some ⟨w.heap.size, 0, none⟩))) (w.alloc (.cells arr e))) :
    Goes P A w0 st a w o ⟨true, .lptr d ((st.look d).1 + 1) 0, some (.cells tt cs), none, none⟩ := by
  intro K Q hK
  have hblk : ∀ b, b < w.heap.size → (w.alloc (.cells arr e)).heap[b]? = w.heap[b]? := fun b hb => Below.heap_alloc w _ b hb
  obtain ⟨m', hr⟩ := rel.newObj (w' := w.alloc (.cells arr e)) hblk (by simp) (rel.below.alloc rel.below.size _) o d hd hroom (.cells tt cs) (.pointer (some ⟨w.heap.size, 0, none⟩))
    (fun b hb => by simp only [blkOf, Option.some.injEq] at hb; subst hb; simp) (.lptr d ((st.look d).1 + 1) 0) (.pointer (some ⟨w.heap.size, 0, none⟩)) true
    (fun look' m' S' hl hm hS _ hst => ⟨w.heap.size, e, arr, hm, rel.below.size, heap_alloc_new w _, hs, h1, fun i hi => (hc i hi).step hst hS (fun b hb => hblk b hb.1)⟩)
    (fun look' m' S' hl hm _ _ _ => .lptr _ _ _ _ (by rw [hl]; exact Nat.le_refl _) (fun _ _ _ => hm))
  exact wp_value hrun (hK m' _ _ hr)

/-- A new block of elements. -/
theorem goes_newElems (rel : Rel A w0 m st a w) {o : Oper} {d : Nat} (hd : o.dst = some d) (hroom : d < st.o.length) (e : TypeId) (t : ET) (l : List t.D) (news : List Value) (pre : Bool)
    (hE : Elems w (stabOf A w st.look m) t l news) (hmax : l.length ≤ maxLen) (n : Nat) (hn : n = l.length)
    (hrun : (execOp a.eval o).run P w = .ok (.value (.slice (some ⟨w.heap.size, 0, none⟩) l.length l.length)) (w.alloc (.cells news.toArray e))) :
    Goes P A w0 st a w o ⟨pre, .lslice d ((st.look d).1 + 1) t n, some (.elems e t l), none, none⟩ := by
  subst hn
  intro K Q hK
  have hblk : ∀ b, b < w.heap.size → (w.alloc (.cells news.toArray e)).heap[b]? = w.heap[b]? := fun b hb => Below.heap_alloc w _ b hb
  obtain ⟨m', hr⟩ := rel.newObj (w' := w.alloc (.cells news.toArray e)) hblk (by simp) (rel.below.alloc rel.below.size _) o d hd hroom (.elems e t l) (.slice (some ⟨w.heap.size, 0, none⟩) l.length l.length)
    (fun b hb => by simp only [blkOf, Option.some.injEq] at hb; subst hb; simp) (.lslice d ((st.look d).1 + 1) t l.length) (.slice (some ⟨w.heap.size, 0, none⟩) l.length l.length) pre
    (fun look' m' S' hl hm hS _ hst => ⟨news, ⟨hE.1, .inr ⟨w.heap.size, l.length, news.toArray, hm, rel.below.size, heap_alloc_new w _, Nat.le_refl _, hmax, by simpa using hE.1, by rw [List.toList_toArray, ← hE.1, List.take_length]⟩⟩, fun i hi j hj => (hE.2 i hi j hj).mono hS (fun b hb => hblk b hb.1)⟩)
    (fun look' m' S' hl hm _ _ _ => .lslice _ _ _ _ _ _ (by rw [hl]; exact Nat.le_refl _) (fun _ => ⟨_, rfl⟩) (Nat.le_refl _) (fun e' t' l' h => by rw [hl] at h; cases h; exact ⟨rfl, Nat.le_refl _, hm⟩))
  exact wp_value hrun (hK m' _ _ hr)

theorem goes_alloc (rel : Rel A w0 m st a w) {o : Oper} {d : Nat} (hd : o.dst = some d) (hroom : d < st.o.length) {e : TypeId} (ho : o.op = .alloc e) {z : List PV} (hz : zeroOf P e = some z) (tt : Option ET) :
    Goes P A w0 st a w o ⟨true, .lptr d ((st.look d).1 + 1) 0, some (.cells tt z), none, none⟩ := by
  obtain ⟨i, v, hi, hv, hs, h1, hc⟩ := zeroOf_sound (w := w) (S := stabOf A w st.look m) hz
  refine goes_newCells rel hd hroom e v.cells z tt hs h1 (fun i hi => .base _ _ (hc i hi)) ?_
  simp [execOp, ho, Instr.alloc, zeroValue, typeInfo, hi, hv, newVar, newRow]

theorem goes_box (rel : Rel A w0 m st a w) {o : Oper} {d : Nat} (hd : o.dst = some d) (hroom : d < st.o.length) {e : TypeId} {x : Operand} (ho : o.op = .box e x) {cs : List PV} (hx : cellsOf (evO st.t x) = some cs) (tt : Option ET) :
    Goes P A w0 st a w o ⟨true, .lptr d ((st.look d).1 + 1) 0, some (.cells tt cs), none, none⟩ := by
  obtain ⟨hs, h1, hc⟩ := (rel.eval x).cells hx
  refine goes_newCells rel hd hroom e (a.eval x).cells cs tt hs h1 hc ?_
  simp [execOp, ho, Instr.box, newVar, newRow]

/-! Parts filled into a row of cells. -/

def fillOne (cells : Array Value) (off : Nat) (vs : Array Value) : Array Value := vs.zipIdx.foldl (fun cs (c, j) => cs.setIfInBounds (off + j) c) cells

theorem fillOne_aux (off : Nat) : ∀ (l : List Value) (k : Nat) (cells : Array Value), off + k + l.length ≤ cells.size →
    ((l.zipIdx k).foldl (fun cs (x : Value × Nat) => cs.setIfInBounds (off + x.2) x.1) cells).size = cells.size ∧
    ∀ i, ((l.zipIdx k).foldl (fun cs (x : Value × Nat) => cs.setIfInBounds (off + x.2) x.1) cells).getD i Go.undef =
      if off + k ≤ i ∧ i < off + k + l.length then l.getD (i - (off + k)) Go.undef else cells.getD i Go.undef
  | [], k, cells, _ => ⟨rfl, fun i => by rw [if_neg (by simp <;> omega)]; rfl⟩
  | x :: rest, k, cells, h => by
    simp only [List.length_cons] at h
    obtain ⟨h1, h2⟩ := fillOne_aux off rest (k + 1) (cells.setIfInBounds (off + k) x) (by simp; omega)
    refine ⟨by simpa using h1, fun i => ?_⟩
    have := h2 i
    simp only [List.zipIdx_cons, List.foldl_cons] at this ⊢
    rw [this]
    simp only [List.length_cons]
    by_cases hr : off + (k + 1) ≤ i ∧ i < off + (k + 1) + rest.length
    · rw [if_pos hr, if_pos (by omega)]
      have e : i - (off + k) = (i - (off + (k + 1))) + 1 := by omega
      rw [e]; rfl
    · rw [if_neg hr]
      by_cases hk : i = off + k
      · subst hk
        rw [if_pos (by omega), Nat.sub_self]
        have : off + k < cells.size := by omega
        simp [Array.getD_eq_getD_getElem?, this]
      · rw [if_neg (by omega)]
        simp only [Array.getD_eq_getD_getElem?, Array.getElem?_setIfInBounds]
        rw [if_neg (fun h => hk h.symm)]

theorem fillOne_spec (cells : Array Value) (off : Nat) (vs : Array Value) (h : off + vs.size ≤ cells.size) :
    (fillOne cells off vs).size = cells.size ∧ ∀ i, (fillOne cells off vs).getD i Go.undef = if off ≤ i ∧ i < off + vs.size then vs.getD (i - off) Go.undef else cells.getD i Go.undef := by
  have key := fillOne_aux off vs.toList 0 cells (by simpa using h)
  have e : fillOne cells off vs = (vs.toList.zipIdx 0).foldl (fun cs (x : Value × Nat) => cs.setIfInBounds (off + x.2) x.1) cells := by
    unfold fillOne
    rw [← Array.foldl_toList]
    congr 1
    simp
  rw [e]
  simp only [Nat.add_zero, Array.length_toList] at key
  refine ⟨key.1, fun i => ?_⟩
  rw [key.2 i, getD_toList]

/-- The parts of a struct or an array put into its cells. -/
theorem fill_parts {w : World} {S : Nat → Prop} {look : Look} {m : Nat → Value} (place : Nat → Option (Nat × Nat)) :
    ∀ (ps : List (Nat × Value)) (qs : List (Nat × List PV)) (cells : Array Value) (cs : List PV) (out : List PV), ps.length = qs.length →
      (∀ k, (hk : k < ps.length) → (hq : k < qs.length) → place ps[k].1 = some (qs[k].1, qs[k].2.length) ∧ ps[k].2.cells.size = qs[k].2.length ∧
        (∀ i, i < qs[k].2.length → (ps[k].2.cells.getD i Go.undef).oneCell' = true) ∧ ∀ i, i < qs[k].2.length → VRel w S look m (ps[k].2.cells.getD i Go.undef) (qs[k].2.getD i .undef)) →
      cells.size = cs.length → (∀ i, i < cs.length → (cells.getD i Go.undef).oneCell' = true) → (∀ i, i < cs.length → VRel w S look m (cells.getD i Go.undef) (cs.getD i .undef)) →
      fillP cs qs = some out →
      ∃ arr, Instr.fill place cells ps = some arr ∧ arr.size = out.length ∧ (∀ i, i < out.length → (arr.getD i Go.undef).oneCell' = true) ∧ ∀ i, i < out.length → VRel w S look m (arr.getD i Go.undef) (out.getD i .undef)
  | [], [], cells, cs, out, _, _, hs, h1, hc, h => by
    simp only [fillP, Option.some.injEq] at h
    subst h
    exact ⟨cells, rfl, hs, h1, hc⟩
  | [], _ :: _, _, _, _, hl, _, _, _, _, _ => by simp at hl
  | _ :: _, [], _, _, _, hl, _, _, _, _, _ => by simp at hl
  | (i0, v) :: ps, (off, vs) :: qs, cells, cs, out, hl, hk, hs, h1, hc, h => by
    obtain ⟨g1, g2, g3, g4⟩ := hk 0 (by simp) (by simp)
    simp only [List.getElem_cons_zero] at g1 g2 g3 g4
    simp only [fillP] at h
    split at h
    · rename_i hfit
      obtain ⟨f1, f2⟩ := fillOne_spec cells off v.cells (by omega)
      have hsl := splice_length cs off vs hfit
      have := fill_parts place ps qs (fillOne cells off v.cells) (splice cs off vs) out (by simpa using hl) (fun k hk1 hk2 => by
          have := hk (k + 1) (by simpa using hk1) (by simpa using hk2)
          simpa only [List.getElem_cons_succ] using this) (by rw [f1, hsl, hs]) (fun i hi => by
          rw [f2 i, g2]
          split
          · rename_i hr; exact g3 _ (by omega)
          · exact h1 i (by omega)) (fun i hi => by
          rw [f2 i, g2, splice_getD cs off vs hfit i]
          split
          · rename_i hr; exact g4 _ (by omega)
          · exact hc i (by omega)) h
      obtain ⟨arr, ha, hrest⟩ := this
      refine ⟨arr, ?_, hrest⟩
      simp only [Instr.fill, g1, g2]
      have hc0 : ¬ (off + vs.length > cells.size) := by omega
      simp only [ne_eq, not_true_eq_false, decide_false, Bool.false_or, hc0, Bool.false_eq_true, if_false]
      exact ha
    · cases h

theorem buildParts_spec (rel : Rel A w0 m st a w) (place : Nat → Option (Nat × Nat)) : ∀ (parts : List (Nat × Operand)) (qs : List (Nat × List PV)), buildParts place (evO st.t) parts = some qs →
    parts.length = qs.length ∧ ∀ k, (hk : k < parts.length) → (hq : k < qs.length) → place parts[k].1 = some (qs[k].1, qs[k].2.length) ∧ (a.eval parts[k].2).cells.size = qs[k].2.length ∧
        (∀ i, i < qs[k].2.length → ((a.eval parts[k].2).cells.getD i Go.undef).oneCell' = true) ∧ ∀ i, i < qs[k].2.length → VRel w (stabOf A w st.look m) st.look m ((a.eval parts[k].2).cells.getD i Go.undef) (qs[k].2.getD i .undef)
  | [], qs, h => by
    simp only [buildParts, Option.some.injEq] at h
    subst h
    exact ⟨rfl, fun k hk => absurd hk (by simp)⟩
  | (i, x) :: rest, qs, h => by
    simp only [buildParts] at h
    split at h <;> first | (cases h; done) | skip
    rename_i off size vs r hp hx hr
    split at h <;> first | (cases h; done) | skip
    rename_i hlen
    cases h
    obtain ⟨ih1, ih2⟩ := buildParts_spec rel place rest r hr
    obtain ⟨c1, c2, c3⟩ := (rel.eval x).cells hx
    refine ⟨by simp [ih1], fun k hk hq => ?_⟩
    cases k with
    | zero => simp only [List.getElem_cons_zero]; exact ⟨by rw [hp, hlen], c1, c2, c3⟩
    | succ k =>
      simp only [List.getElem_cons_succ]
      exact ih2 k (by simpa using hk) (by simpa using hq)

theorem goes_build (rel : Rel A w0 m st a w) {o : Oper} {t : TypeId} {parts : Array (Nat × Operand)} (ho : o.op = .build t parts) {z : List PV} {place : Nat → Option (Nat × Nat)} {ps : List (Nat × List PV)} {cs : List PV}
    (hz : zeroOf P t = some z) (hpl : placesOf P t = some place) (hps : buildParts place (evO st.t) parts.toList = some ps) (hf : fillP z ps = some cs) : Goes P A w0 st a w o (Out.of (.agg cs)) := by
  obtain ⟨it, v, hi, hv, hs, h1, hc⟩ := zeroOf_sound (w := w) (S := stabOf A w st.look m) hz
  obtain ⟨hl, hk⟩ := buildParts_spec rel place parts.toList ps hps
  have hpl2 : (parts.map fun (i, x) => (i, a.eval x)).toList = parts.toList.map fun (i, x) => (i, a.eval x) := by simp
  obtain ⟨arr, ha, hs2, h12, hc2⟩ := fill_parts (w := w) (S := stabOf A w st.look m) (look := st.look) (m := m) place (parts.map fun (i, x) => (i, a.eval x)).toList ps v.cells z cs (by rw [hpl2]; simpa using hl)
    (fun k hk1 hk2 => by
      have hk1' : k < parts.toList.length := by rw [hl]; exact hk2
      have := hk k hk1' hk2
      simpa [hpl2] using this) hs h1 (fun i hi => .base _ _ (hc i hi)) hf
  have hb : P.built t (parts.map fun (i, x) => (i, a.eval x)).toList = some arr := by
    unfold placesOf at hpl
    unfold Program.built
    cases hu : P.underlying t with
    | none => rw [hu] at hpl; cases hpl
    | some d =>
      rw [hu] at hpl
      cases d <;> simp only at hpl <;> first | (cases hpl; done) | skip
      case array n e =>
        split at hpl
        · rename_i ie hie
          cases hpl
          simp only [hi, hv, hie]
          exact ha
        · cases hpl
      case struct fields =>
        split at hpl
        · rename_i pl hpp
          cases hpl
          simp only [hi, hv, hpp]
          exact ha
        · cases hpl
  refine goes_value rel true 0 (v := .agg arr) ?_ (.agg arr cs hs2 h12 hc2)
  have := run_build (P := P) w t (parts.map fun (i, x) => (i, a.eval x)) arr hb
  simp only [execOp, ho, Sem.run_bind, this, Result.andThen_ok]
  rfl

/-! Slices that are written out. -/

theorem Elems.set {w : World} {S : Nat → Prop} {t : ET} {l : List t.D} {arr : Array Value} (h : Elems w S t l arr.toList) {i : Nat} (hi : i < l.length) {d : t.D} {vs : Array Value}
    (hs : vs.size = t.size) (hd : ∀ j, j < t.size → PRel w S (vs.getD j Go.undef) ((enc t d).getD j .undef)) : Elems w S t (l.set i d) (fillOne arr (i * t.size) vs).toList := by
  have hrow : i * t.size + t.size ≤ l.length * t.size := by
    calc i * t.size + t.size = (i + 1) * t.size := by rw [Nat.succ_mul]
      _ ≤ l.length * t.size := Nat.mul_le_mul_right _ hi
  have hsz : arr.size = l.length * t.size := by have := h.1; simpa using this
  obtain ⟨f1, f2⟩ := fillOne_spec arr (i * t.size) vs (by omega)
  refine ⟨by simp [f1, hsz], fun i' hi' j hj => ?_⟩
  have hi'' : i' < l.length := by simpa using hi'
  rw [getD_toList, f2, hs]
  by_cases hii : i' = i
  · subst hii
    rw [if_pos (by omega)]
    have e : i' * t.size + j - i' * t.size = j := by omega
    rw [e]
    simpa using hd j hj
  · rw [if_neg (by
      intro hr
      rcases Nat.lt_or_gt_of_ne hii with hlt | hgt
      · have := flat_lt (sz := t.size) hlt hj; omega
      · have : i * t.size + t.size ≤ i' * t.size := by
          calc i * t.size + t.size = (i + 1) * t.size := by rw [Nat.succ_mul]
            _ ≤ i' * t.size := Nat.mul_le_mul_right _ hgt
        omega)]
    rw [List.getElem_set_ne (fun h => hii h.symm), ← getD_toList]
    exact h.2 i' hi'' j hj

/-- A row of zero elements. -/
theorem zero_elems {w : World} {S : Nat → Prop} {t : ET} {zc : Array Value} {d0 : t.D} (hs : zc.size = t.size) (hz : ∀ j, j < t.size → PRel w S (zc.getD j Go.undef) ((enc t d0).getD j .undef)) (n : Nat) :
    Elems w S t (List.replicate n d0) ((Array.range (n * t.size)).map (fun k => zc[k % zc.size]!)).toList := by
  refine ⟨by simp, fun i hi j hj => ?_⟩
  have hi' : i < n := by simpa using hi
  have hf := flat_lt hi' hj
  have e2 : (i * t.size + j) % t.size = j := by rw [Nat.mul_comm, Nat.mul_add_mod, Nat.mod_eq_of_lt hj]
  have : ((Array.range (n * t.size)).map (fun k => zc[k % zc.size]!)).toList.getD (i * t.size + j) Go.undef = zc.getD j Go.undef := by
    rw [getD_toList]
    simp only [Array.getD_eq_getD_getElem?, Array.getElem?_map, Array.getElem?_range, if_pos hf, Option.map_some, Option.getD_some, hs, e2]
    rw [getElem!_pos zc j (by omega)]
    simp [hs, hj]
  rw [this]
  simpa using hz j hj

theorem buildElems_spec (rel : Rel A w0 m st a w) {t : ET} : ∀ (parts : List (Nat × Operand)) (l out : List t.D) (arr : Array Value), buildElems t (evO st.t) parts l = some out →
    Elems w (stabOf A w st.look m) t l arr.toList →
    ∃ arr', Instr.fill (fun i => some (i * t.size, t.size)) arr (parts.map fun (i, x) => (i, a.eval x)) = some arr' ∧ Elems w (stabOf A w st.look m) t out arr'.toList ∧ out.length = l.length
  | [], l, out, arr, h, hE => by
    simp only [buildElems, Option.some.injEq] at h
    subst h
    exact ⟨arr, rfl, hE, rfl⟩
  | (i, x) :: rest, l, out, arr, h, hE => by
    simp only [buildElems] at h
    split at h <;> first | (cases h; done) | skip
    rename_i vs hvs
    split at h <;> first | (cases h; done) | skip
    rename_i d hd
    split at h <;> first | (cases h; done) | skip
    rename_i hi
    obtain ⟨c1, c2, c3⟩ := (rel.eval x).cells hvs
    obtain ⟨d1, d2⟩ := dec_cells (w := w) (S := stabOf A w st.look m) hd c3
    have hsz : (a.eval x).cells.size = t.size := by omega
    obtain ⟨arr', ha, hE', hl⟩ := buildElems_spec rel rest (l.set i d) out _ h (hE.set hi hsz d2)
    refine ⟨arr', ?_, hE', by simpa using hl⟩
    have hrow : i * t.size + t.size ≤ l.length * t.size := by
      calc i * t.size + t.size = (i + 1) * t.size := by rw [Nat.succ_mul]
        _ ≤ l.length * t.size := Nat.mul_le_mul_right _ hi
    have hasz : arr.size = l.length * t.size := by have := hE.1; simpa using this
    have hc0 : ¬ (i * t.size + t.size > arr.size) := by omega
    simp only [List.map_cons, Instr.fill, hsz, ne_eq, not_true_eq_false, decide_false, Bool.false_or, hc0, Bool.false_eq_true, if_false]
    exact ha

theorem goes_buildSlice (rel : Rel A w0 m st a w) {o : Oper} {d : Nat} (hd : o.dst = some d) (hroom : d < st.o.length) {t e : TypeId} {len : Nat} {parts : Array (Nat × Operand)} (ho : o.op = .buildSlice t len parts)
    {ty : ET} {z : List PV} {d0 : ty.D} {l : List ty.D} (hu : P.underlying t = some (.slice e)) (hz : zeroOf P e = some z) (hd0 : dec ty z = some d0) (hsz : szOf P e = some ty.size) (hlen : len ≤ 1000)
    (hl : buildElems ty (evO st.t) parts.toList (List.replicate len d0) = some l) :
    Goes P A w0 st a w o ⟨true, .lslice d ((st.look d).1 + 1) ty len, some (.elems e ty l), none, none⟩ := by
  obtain ⟨it, v, hi, hv, hs, h1, hc⟩ := zeroOf_sound (w := w) (S := stabOf A w st.look m) hz
  have hdc := dec_cells (w := w) (S := stabOf A w st.look m) (look := st.look) (m := m) hd0 (f := fun j => v.cells.getD j Go.undef) (fun i hi => .base _ _ (hc i hi))
  have hvs : v.cells.size = ty.size := by omega
  have hE0 := zero_elems (w := w) (S := stabOf A w st.look m) hvs hdc.2 len
  obtain ⟨arr', ha, hE', hl'⟩ := buildElems_spec rel parts.toList (List.replicate len d0) l _ hl hE0
  simp only [List.length_replicate] at hl'
  have hsz16 : ty.size ≤ 16 := by cases ty <;> decide
  refine goes_newElems rel hd hroom e ty l arr'.toList true hE' (by unfold maxLen; omega) len hl'.symm ?_
  have hz' := run_sizeOf hsz w
  have hbig : ¬ (len * ty.size > 2 ^ 24) := by
    have : len * ty.size ≤ 1000 * 16 := Nat.mul_le_mul hlen hsz16
    omega
  have hpl2 : (parts.map fun (i, x) => (i, a.eval x)).toList = parts.toList.map fun (i, x) => (i, a.eval x) := by simp
  have ha' : Instr.fill (fun i => some (i * ty.size, ty.size)) ((Array.range (len * ty.size)).map (fun k => v.cells[k % v.cells.size]!)) (parts.map fun (i, x) => (i, a.eval x)).toList = some arr' := by rw [hpl2]; exact ha
  have hpos := ty.size_pos
  by_cases h0 : len = 0
  · subst h0
    have e0 : (Array.range (0 * ty.size)).map (fun k => v.cells[k % v.cells.size]!) = #[] := by simp
    rw [e0] at ha'
    have e1 : ∀ f : Nat → Value, (Array.range (0 * ty.size)).map f = #[] := by intro f; simp
    simp only [execOp, ho, Instr.buildSlice, Sem.run_bind, run_underlying hu, Result.andThen_ok, hz', if_neg hbig, Nat.zero_mul, if_true, Sem.run_pure]
    simp only [Nat.zero_mul] at e1
    simp only [e1, ha', Sem.run_bind, newRow, hl']
    rfl
  · have hne : ¬ (len * ty.size = 0) := by
      intro h; rcases Nat.mul_eq_zero.1 h with h | h <;> omega
    have hzv : (zeroValue e).run P w = .ok v w := by simp [zeroValue, typeInfo, hi, hv]
    simp only [execOp, ho, Instr.buildSlice, Sem.run_bind, run_underlying hu, Result.andThen_ok, hz', if_neg hbig, if_neg hne, hzv, Sem.run_pure]
    simp only [ha', Sem.run_bind, newRow, hl']
    rfl

end
end Go.Ev

/- Slices that are made, and appends. -/
namespace Go.Ev
open Go Go.RowKit

section
variable {P : Program} {A : Nat → Prop} {w0 w : World} {m : Nat → Value} {st : St} {a : Act}

theorem wrap_small {n : Int} (h0 : 0 ≤ n) (h1 : n ≤ 140737488355328) : IntKind.i64.wrap n = n := by
  unfold IntKind.wrap
  have e : n % (2 ^ IntKind.i64.bits : Int) = n := by
    have : (2 ^ IntKind.i64.bits : Int) = 18446744073709551616 := by decide
    rw [this]; omega
  have e2 : ¬ (n ≥ (2 ^ (IntKind.i64.bits - 1) : Int)) := by
    have : (2 ^ (IntKind.i64.bits - 1) : Int) = 9223372036854775808 := by decide
    rw [this]; omega
  simp only [e, e2, decide_false, Bool.and_false, Bool.false_eq_true, if_false]

theorem goes_makeSlice (rel : Rel A w0 m st a w) {o : Oper} {d : Nat} (hd : o.dst = some d) (hroom : d < st.o.length) {E : Env} (hP : E.P = P) {t : TypeId} {l c : Operand} (ho : o.op = .makeSlice t l c)
    {out : Out} (h : makeSem E d (st.look d).1 t (evO st.t l) (evO st.t c) = some out) (hpre : out.pre = true) : Goes P A w0 st a w o out := by
  subst hP
  unfold makeSem at h
  split at h <;> first | (cases h; done) | skip
  rename_i e n mm hu he1 he2
  split at h <;> first | (cases h; done) | skip
  rename_i ty by_ z hte hby hz
  split at h <;> first | (cases h; done) | skip
  rename_i hsz
  split at h <;> first | (cases h; done) | skip
  rename_i d0 hd0
  cases h
  simp only [Bool.and_eq_true, decide_eq_true_eq] at hpre
  obtain ⟨⟨rfl, h0⟩, hlim⟩ := hpre
  have r1 := rel.eval l
  have r2 := rel.eval c
  rw [he1] at r1
  rw [he2] at r2
  obtain ⟨it, v, hi, hv, hs, h1, hc⟩ := zeroOf_sound (w := w) (S := stabOf A w st.look m) hz
  obtain ⟨it2, hi2, hb2⟩ := bytesOf_some hby
  rw [hi] at hi2
  cases hi2
  have hdc := dec_cells (w := w) (S := stabOf A w st.look m) (look := st.look) (m := m) hd0 (f := fun j => v.cells.getD j Go.undef) (fun i hi => .base _ _ (hc i hi))
  have hvs : v.cells.size = ty.size := by omega
  unfold limB at hlim
  have hm1 : n.toNat * (by_ + 1) = n.toNat * by_ + n.toNat := Nat.mul_succ _ _
  have hE0 := zero_elems (w := w) (S := stabOf A w st.look m) hvs hdc.2 n.toNat
  refine goes_newElems rel hd hroom e ty (List.replicate n.toNat d0) _ _ hE0 (by simp only [List.length_replicate]; unfold maxLen; omega) n.toNat (by simp) ?_
  have hw : IntKind.i64.wrap n = n := wrap_small h0 (by omega)
  have hz' := run_sizeOf hsz w
  have hbn : (by_ : Int) * n ≤ 2 ^ 48 := by
    have : (by_ : Int) * n = ((n.toNat * by_ : Nat) : Int) := by rw [Nat.mul_comm]; simp [Int.toNat_of_nonneg h0]
    rw [this]; omega
  have hn0 : ¬ n < 0 := by omega
  have hbn' : ¬ ((by_ : Int) * n > 2 ^ 48) := by omega
  have hroomB : ¬ (n.toNat * by_ > roomBytes) := by unfold roomBytes; omega
  have hpos := ty.size_pos
  have harr : (Array.map (fun k => v.cells[k % v.cells.size]!) (Array.range (n.toNat * ty.size))).toList.toArray = Array.map (fun k => v.cells[k % v.cells.size]!) (Array.range (n.toNat * ty.size)) := Array.toArray_toList
  have hti : (typeInfo e).run E.P w = .ok it w := by simp [typeInfo, hi]
  simp only [List.length_replicate, harr]
  simp only [execOp, ho, r1.int_inv, r2.int_inv, Instr.makeSlice, Sem.run_bind, run_underlying hu, Result.andThen_ok, asInt, asIntOf, Sem.run_pure, hti, hb2, hw]
  have hcond : ((decide (n < 0) || decide ((by_ : Int) * n > 2 ^ 48)) || decide (n < 0) || decide (n > n)) = false := by simp [hn0]; omega
  rw [hcond]
  have hask : (askRoom (n.toNat * by_)).run E.P w = .ok () w := by unfold askRoom; rw [if_neg hroomB]; rfl
  simp only [Bool.false_eq_true, if_false, Sem.run_bind, hask, Result.andThen_ok, hz']
  by_cases hne : n.toNat * ty.size = 0
  · have hn00 : n.toNat = 0 := by rcases Nat.mul_eq_zero.1 hne with h | h <;> omega
    have e1 : ∀ f : Nat → Value, (Array.range (n.toNat * ty.size)).map f = #[] := by intro f; rw [hne]; simp
    simp only [e1, if_pos hne, Sem.run_pure, Result.andThen_ok, newRow, Sem.run_bind]
    rfl
  · have hzv : (zeroValue e).run E.P w = .ok v w := by simp [zeroValue, typeInfo, hi, hv]
    simp only [if_neg hne, Sem.run_bind, hzv, Sem.run_pure, Result.andThen_ok, newRow]
    rfl

theorem goes_append (rel : Rel A w0 m st a w) {o : Oper} {d : Nat} (hd : o.dst = some d) (hroom : d < st.o.length) {E : Env} (hP : E.P = P) {c : Call} {s x : Operand} (ho : o.op = .call c) (hcal : c.callee = .builtin .append) (hargs : c.args.toList = [s, x])
    {out : Out} (h : appendSem E st.look d (evO st.t s) (evO st.t x) c.argTypes.toList = some out) (hpre : out.pre = true) : Goes P A w0 st a w o out := by
  subst hP
  unfold appendSem at h
  split at h <;> first | (cases h; done) | skip
  rename_i ts tx rest htypes
  split at h <;> first | (cases h; done) | skip
  rename_i htt
  subst htt
  split at h <;> first | (cases h; done) | skip
  rename_i e hu
  split at h <;> first | (cases h; done) | skip
  rename_i t by_ z hte hby hz
  split at h <;> first | (cases h; done) | skip
  rename_i hszz
  obtain ⟨hsz, hzl⟩ := hszz
  obtain ⟨it, zv, hi, hv, hs, _, _⟩ := zeroOf_sound (w := w) (S := stabOf A w st.look m) hz
  obtain ⟨it2, hi2, hb2⟩ := bytesOf_some hby
  rw [hi] at hi2
  cases hi2
  obtain ⟨it3, hi3, hs3⟩ := szOf_some hsz
  rw [hi] at hi3
  cases hi3
  have r1 := rel.eval s
  have r2 := rel.eval x
  have hargs' : c.args = #[s, x] := by
    apply Array.ext'; rw [hargs]
  -- the run of the whole operation, out of that of the append
  have hrunAll : ∀ v' w', (Builtin.append_ #[ts, ts] o.type #[a.eval s, a.eval x]).run E.P w = .ok v' w' → (execOp a.eval o).run E.P w = .ok (.value v') w' := by
    intro v' w' hr
    have hr2 : (Builtin.append_ c.argTypes o.type #[a.eval s, a.eval x]).run E.P w = .ok v' w' := by
      have h0 : c.argTypes[0]? = some ts := by rw [← Array.getElem?_toList, htypes]; rfl
      have h1 : c.argTypes[1]? = some ts := by rw [← Array.getElem?_toList, htypes]; rfl
      have g0 : (#[ts, ts] : Array TypeId)[0]? = some ts := rfl
      have g1 : (#[ts, ts] : Array TypeId)[1]? = some ts := rfl
      unfold Builtin.append_ at hr ⊢
      rw [h0, h1]
      rw [g0, g1] at hr
      exact hr
    simp only [execOp, ho, resolve, hcal, hargs', invoke, builtin, Sem.run_bind, Sem.run_pure, Result.andThen_ok]
    simp [hr2]
  split at h <;> first | (cases h; done) | skip
  · rename_i id ver t' n he
    rw [he] at r1
    split at h <;> first | (cases h; done) | skip
    rename_i ver' e' t'' l hl
    split at h <;> first | (cases h; done) | skip
    rename_i hcond
    obtain ⟨rfl, rfl⟩ := hcond
    split at h <;> first | (cases h; done) | skip
    rename_i ht1
    subst ht1
    split at h <;> first | (cases h; done) | skip
    rename_i ht2
    subst ht2
    split at h <;> first | (cases h; done) | skip
    rename_i l2 hl2
    cases h
    simp only [Bool.and_eq_true, decide_eq_true_eq] at hpre
    obtain ⟨hn, hlim⟩ := hpre
    obtain ⟨aa, cap, hv1, _, _, _, hm⟩ := r1.lslice_inv
    obtain ⟨_, _, hmid⟩ := hm _ _ _ hl
    subst hn
    obtain ⟨xs, hown, hx⟩ := rel.objs id _ _ hl
    obtain ⟨ad, cc, news, hv2, hnil, hnews, hE⟩ := elemsAt_sound rel.objsOk hl2 r2
    have hEx : Elems w (stabOf A w st.look m) t' l xs := ⟨hown.1, hx⟩
    obtain ⟨v', w', hrun, hown', hblk, hsize, hos, htape, hout, hnewb⟩ := run_append_told (P := E.P) w w0.heap.size ts o.type e' it zv t'.size hu hi hv hs3 (by omega) (m id) l.length xs hown ad l2.length cc news hE.1 hnil hnews hE.oneCell (by rw [hb2]; exact hlim) rel.below.size
    intro K Q hK
    have hbelow : Below w0.heap.size w0 w' := rel.below.trans ⟨hos, htape, hout, hsize, fun k hk => hblk k (Nat.lt_of_lt_of_le hk rel.below.size) (fun hkb => by
      have := rel.blk_lt (live_of hl) k hkb.symm; omega)⟩
    have hvv : m id = a.eval s := by rw [hmid, hv1]
    obtain ⟨m', hr⟩ := rel.replace (w' := w') o d hd hroom id ver' (.elems e' t' l) hl (id_lt hl) hblk hsize hbelow (.elems e' t' (l ++ l2)) v' hnewb (.lslice d ((st.look d).1 + 1) t' (l ++ l2).length) v' (decide (l.length = l.length) && decide ((l.length + l2.length) * (by_ + 1) ≤ limB))
      (fun look' m' S' hld hmd hS hst => by
        have hW : ∀ k, stabOf A w st.look m k → w'.heap[k]? = w.heap[k]? := fun k hk => hblk k hk.1 (fun hkb => hk.2.1 id (live_of hl) hkb.symm)
        have hEa := (hEx.append hE).mono hS hW
        refine ⟨xs ++ news, ?_, hEa.2⟩
        rw [hmd, List.length_append]
        exact hown')
      (fun look' m' S' hld hmd => by
        rcases hown'.2 with ⟨h1, h2⟩ | ⟨g, cap', cur, h1, _, _, h3, _⟩
        · rw [h1] at hmd ⊢
          have e0 : (l ++ l2).length = 0 := by rw [List.length_append]; exact h2
          rw [e0]
          refine .lslice _ _ _ _ none 0 (by rw [hld]; exact Nat.le_refl _) (fun h => absurd h (by omega)) (Nat.le_refl _) (fun e2 t2 l3 h => ?_)
          rw [hld] at h; cases h
          exact ⟨rfl, Nat.zero_le _, by rw [hmd, e0]⟩
        · rw [h1] at hmd ⊢
          rw [List.length_append]
          refine .lslice _ _ _ _ _ _ (by rw [hld]; exact Nat.le_refl _) (fun _ => ⟨g, rfl⟩) h3 (fun e2 t2 l3 h => ?_)
          rw [hld] at h; cases h
          exact ⟨rfl, by rw [List.length_append]; exact Nat.le_refl _, by rw [hmd, List.length_append]⟩)
    rw [hvv, hv2.symm] at hrun
    exact wp_value (hrunAll v' w' hrun) (hK m' _ _ hr)
  · rename_i he
    rw [he] at r1
    split at h <;> first | (cases h; done) | skip
    rename_i l2 hl2
    cases h
    have hlim : l2.length * (by_ + 1) ≤ limB := by simpa using hpre
    obtain ⟨ad, cc, news, hv2, hnil, hnews, hE⟩ := elemsAt_sound rel.objsOk hl2 r2
    obtain ⟨v', w', hrun, hown', hblk, hsize, hos, htape, hout, hnewb⟩ := run_append_told (P := E.P) w w0.heap.size ts o.type e it zv t.size hu hi hv hs3 (by omega) (.slice none 0 0) 0 [] (World.ownsRow_nil w _ e t.size) ad l2.length cc news hE.1 hnil hnews hE.oneCell (by rw [hb2, Nat.zero_add]; exact hlim) rel.below.size
    have hblk' : ∀ b, b < w.heap.size → w'.heap[b]? = w.heap[b]? := fun b hb => hblk b hb (fun h => by cases h)
    have hnewb' : ∀ b, blkOf v' = some b → w.heap.size ≤ b ∧ b < w'.heap.size := fun b hb => by
      rcases hnewb b hb with h | h
      · cases h
      · exact h
    intro K Q hK
    have hbelow : Below w0.heap.size w0 w' := rel.below.trans ⟨hos, htape, hout, hsize, fun k hk => hblk' k (Nat.lt_of_lt_of_le hk rel.below.size)⟩
    rw [Nat.zero_add, List.nil_append] at hown'
    obtain ⟨m', hr⟩ := rel.newObj (w' := w') hblk' hsize hbelow o d hd hroom (.elems e t l2) v' hnewb' (.lslice d ((st.look d).1 + 1) t l2.length) v' (decide (l2.length * (by_ + 1) ≤ limB))
      (fun look' m' S' hld hmd hS _ hst => ⟨news, by rw [hmd]; exact hown', fun i hi j hj => (hE.2 i hi j hj).mono hS (fun b hb => hblk' b hb.1)⟩)
      (fun look' m' S' hld hmd _ _ _ => by
        rcases hown'.2 with ⟨h1, h2⟩ | ⟨g, cap', cur, h1, _, _, h3, _⟩
        · rw [h1] at hmd ⊢
          rw [h2]
          refine .lslice _ _ _ _ none 0 (by rw [hld]; exact Nat.le_refl _) (fun h => absurd h (by omega)) (Nat.le_refl _) (fun e2 t2 l3 h => ?_)
          rw [hld] at h; cases h
          exact ⟨rfl, Nat.zero_le _, by rw [hmd, h2]⟩
        · rw [h1] at hmd ⊢
          refine .lslice _ _ _ _ _ _ (by rw [hld]; exact Nat.le_refl _) (fun _ => ⟨g, rfl⟩) h3 (fun e2 t2 l3 h => ?_)
          rw [hld] at h; cases h
          exact ⟨rfl, Nat.le_refl _, hmd⟩)
    rw [← r1.nils_inv, hv2.symm] at hrun
    exact wp_value (hrunAll v' w' hrun) (hK m' _ _ hr)

end
end Go.Ev

/- Calls: what a callee sees of the arguments, and what its result is in the caller's frame. -/
namespace Go.Ev
open Go Go.RowKit

theorem mapO_spec {α β : Type} {f : α → Option β} : ∀ {l : List α} {r : List β}, mapO f l = some r → r.length = l.length ∧ ∀ i, (hi : i < l.length) → (hr : i < r.length) → f l[i] = some r[i]
  | [], r, h => by simp only [mapO, Option.some.injEq] at h; subst h; exact ⟨rfl, fun i hi => absurd hi (by simp)⟩
  | p :: ps, r, h => by
    simp only [mapO] at h
    split at h <;> first | (cases h; done) | skip
    rename_i q qs hq hqs
    cases h
    obtain ⟨h1, h2⟩ := mapO_spec hqs
    refine ⟨by simp [h1], fun i hi hr => ?_⟩
    cases i with
    | zero => exact hq
    | succ i => exact h2 i (by simpa using hi) (by simpa using hr)

theorem anyLocal_of {cs : List PV} {i : Nat} (hi : i < cs.length) (h : hasLocal cs[i] = true) : hasLocal.anyLocal cs = true := by
  induction cs generalizing i with
  | nil => simp at hi
  | cons p ps ih =>
    cases i with
    | zero => simp only [hasLocal.anyLocal, Bool.or_eq_true]; exact .inl h
    | succ i => simp only [hasLocal.anyLocal, Bool.or_eq_true]; exact .inr (ih (by simpa using hi) h)

section
variable {P : Program} {B : Nat} {w : World} {S : Nat → Prop} {look : Look} {m : Nat → Value}

theorem Elems.toSlice {t : ET} {l : List t.D} {news : List Value} {b base cap : Nat} (hE : Elems w S t l news) (hb : S b) (hcap : l.length ≤ cap)
    (hc : ∀ j u, news[j]? = some u → w.cell? ⟨b, base + j, none⟩ = some u) : PRel w S (.slice (some ⟨b, base, none⟩) l.length cap) (.slice t l) := by
  refine .slice t l b base cap hb hcap (fun i j => news.getD (i * t.size + j) Go.undef) (fun i hi j hj => ?_) (fun i hi j hj => hE.2 i hi j hj)
  have hf := flat_lt hi hj
  refine hc _ _ ?_
  rw [getD_lt news _ _ (by rw [hE.1]; exact hf), List.getElem?_eq_getElem]

theorem view_sound (hobj : ObjsOk B w S look m) (hS : ∀ b, S b → b < w.heap.size) {S' : Nat → Prop} (hSS : ∀ b, S b → S' b) :
    ∀ (n : Nat) (p q : PV) (v : Value), view look n p = some q → VRel w S look m v p → (hasLocal p = true → ∀ id b, liveIn look id → blkOf (m id) = some b → S' b) → PRel w S' v q := by
  intro n
  induction n with
  | zero => intro p q v h; cases h
  | succ n ih =>
    intro p q v h r hl
    have list : ∀ (cs cs' : List PV) (vs : Array Value), mapO (view look n) cs = some cs' → (∀ i, i < cs.length → VRel w S look m (vs.getD i Go.undef) (cs.getD i .undef)) →
        (hasLocal.anyLocal cs = true → ∀ id b, liveIn look id → blkOf (m id) = some b → S' b) → cs'.length = cs.length ∧ ∀ i, i < cs'.length → PRel w S' (vs.getD i Go.undef) (cs'.getD i .undef) := by
      intro cs cs' vs hm hv hloc
      obtain ⟨h1, h2⟩ := mapO_spec hm
      refine ⟨h1, fun i hi => ?_⟩
      have hi' : i < cs.length := by omega
      have e := h2 i hi' hi
      have := hv i hi'
      rw [getD_lt cs i _ hi'] at this
      rw [getD_lt cs' i _ hi]
      exact ih _ _ _ e this (fun hh => hloc (anyLocal_of hi' hh))
    have same : pureB p = true → q = p → PRel w S' v q := fun hp hq => by rw [hq]; exact (r.pure hp).mono hSS (fun _ _ => rfl)
    unfold view at h
    split at h
    · rename_i id ver off
      have hall : ∀ id b, liveIn look id → blkOf (m id) = some b → S' b := hl rfl
      split at h <;> first | (cases h; done) | skip
      rename_i ver' t cs hlk
      split at h <;> first | (cases h; done) | skip
      rename_i hv
      subst hv
      split at h <;> first | (cases h; done) | skip
      rename_i cs' hcs'
      split at h <;> first | (cases h; done) | skip
      rename_i x hx
      cases h
      obtain ⟨b, rfl, _, hm⟩ := r.lptr_inv
      have hm := hm _ _ hlk
      obtain ⟨b', e, arr, hm', _, hh, hsz, h1, h2⟩ := hobj id _ _ hlk
      rw [hm] at hm'
      cases hm'
      obtain ⟨l1, l2⟩ := list cs cs' arr hcs' h2 (fun _ => hall)
      obtain ⟨d1, d2⟩ := dec_sound (w := w) (S := S') hx
      have hbl : b < w.heap.size := (Array.getElem?_eq_some_iff.1 hh).1
      have key : PRel w S' (.pointer (some ⟨b, 0 + off, none⟩)) (.ptr t x off) :=
        .ptr t x off b 0 (hall id b (live_of hlk) (by rw [hm]; rfl)) (fun i => arr.getD i Go.undef) (fun i hi => by rw [Nat.zero_add]; exact cell_of_heap hh (by omega)) (fun i hi => d2 i _ hi (l2 i (by omega)))
      rwa [Nat.zero_add] at key
    · rename_i id ver t0 i off
      have hall : ∀ id b, liveIn look id → blkOf (m id) = some b → S' b := hl rfl
      split at h <;> first | (cases h; done) | skip
      rename_i ver' e t l hlk
      split at h <;> first | (cases h; done) | skip
      rename_i hv
      subst hv
      split at h <;> first | (cases h; done) | skip
      rename_i hi
      cases h
      obtain ⟨b, rfl, _, hm⟩ := r.lelem_inv
      obtain ⟨ht, hm2⟩ := hm _ _ _ hlk
      subst ht
      obtain ⟨n0, cap0, hm3⟩ := hm2 hi
      obtain ⟨xs, ho, hx⟩ := hobj id _ _ hlk
      have hbl : b < w.heap.size := by
        rcases ho.2 with ⟨h1, _⟩ | ⟨g, cap, cur, h1, _, hh, _⟩
        · rw [hm3] at h1; cases h1
        · rw [hm3] at h1; cases h1; exact (Array.getElem?_eq_some_iff.1 hh).1
      refine .ptr t _ off b (i * t.size) (hall id b (live_of hlk) (by rw [hm3]; rfl)) (fun j => xs.getD (i * t.size + j) Go.undef) (fun j hj => ownsRow_cell ho (by rw [hm3]; rfl) _ (flat_lt hi hj)) (fun j hj => ?_)
      rw [getD_lt l i _ hi]
      exact (hx i hi j hj).mono hSS (fun _ _ => rfl)
    · rename_i id ver t mm
      have hall : ∀ id b, liveIn look id → blkOf (m id) = some b → S' b := hl rfl
      split at h <;> first | (cases h; done) | skip
      rename_i l hlist
      cases h
      obtain ⟨ad, c, news, hv, hnil, hnews, hE⟩ := elemsAt_sound hobj hlist r
      obtain ⟨aa, cap, hv2, _, ha, hcap, hm⟩ := r.lslice_inv
      rw [hv] at hv2
      cases hv2
      rw [hv]
      by_cases h0 : l.length = 0
      · have : l = [] := List.eq_nil_of_length_eq_zero h0
        subst this
        exact .sliceNil t _ _ (fun hn => (hnil hn).2)
      · obtain ⟨b, rfl⟩ := ha (by omega)
        have hc : ∀ j u, news[j]? = some u → w.cell? ⟨b, 0 + j, none⟩ = some u := fun j u hu => by
          have := hnews _ rfl j u hu
          rwa [addr_add] at this
        have hbl : b < w.heap.size := by
          have hp := t.size_pos
          have hlen : 0 < news.length := by rw [hE.1]; exact Nat.mul_pos (by omega) hp
          have := hc 0 _ (List.getElem?_eq_getElem hlen)
          exact World.block_lt_of_cell? w _ this
        obtain ⟨e', t', l', hlk⟩ : ∃ e t' l', look id = (ver, some (.elems e t' l')) := by
          simp only [elemsAt] at hlist
          split at hlist <;> first | (cases hlist; done) | skip
          rename_i ver' e' t'' l'' hl
          split at hlist <;> first | (cases hlist; done) | skip
          rename_i hver
          exact ⟨e', t'', l'', by rw [← hver]; exact hl⟩
        exact (hE.mono hSS (fun _ _ => rfl)).toSlice (hall id b (live_of hlk) (by rw [(hm _ _ _ hlk).2.2]; rfl)) hcap hc
    · rename_i cs
      split at h <;> first | (cases h; done) | skip
      rename_i cs' hcs'
      cases h
      obtain ⟨vs, rfl, hs, h1, hc⟩ := r.agg_inv
      obtain ⟨l1, l2⟩ := list cs cs' vs hcs' hc hl
      exact .agg vs cs' (by omega) (fun i hi => h1 i (by omega)) l2
    · rename_i cs
      split at h <;> first | (cases h; done) | skip
      rename_i cs' hcs'
      cases h
      obtain ⟨vs, rfl, hs, hc⟩ := r.tup_inv
      obtain ⟨l1, l2⟩ := list cs cs' vs hcs' hc hl
      exact .tup vs cs' (by omega) l2
    · rename_i f cs
      split at h <;> first | (cases h; done) | skip
      rename_i cs' hcs'
      cases h
      obtain ⟨vs, rfl, hs, hc⟩ := r.func_inv
      obtain ⟨l1, l2⟩ := list cs cs' vs hcs' hc hl
      exact .func f vs cs' (by omega) l2
    · cases h
      cases p with
      | undef => exact .undef v
      | agg cs => rename_i hx _ _; exact absurd rfl (hx cs)
      | tup cs => rename_i hx _; exact absurd rfl (hx cs)
      | func f cs => rename_i hx; exact absurd rfl (hx f cs)
      | lptr id ver off => rename_i hx _ _ _ _ _; exact absurd rfl (hx id ver off)
      | lelem id ver t i off => rename_i hx _ _ _ _; exact absurd rfl (hx id ver t i off)
      | lslice id ver t n => rename_i hx _ _ _; exact absurd rfl (hx id ver t n)
      | _ => exact same rfl rfl

theorem asType_sound {E : Env} {tid : TypeId} {p q : PV} {v : Value} (h : asType E tid p = some q) (r : PRel w S v p) : PRel w S v q := by
  have aggCase : ∀ (t : ET) (cs : List PV) (x : t.D), dec t cs = some x → PRel w S v (.agg cs) → PRel w S v (.agg (enc t x)) := by
    intro t cs x hx r
    obtain ⟨vs, rfl, hs, h1, hc⟩ := r.agg_inv
    obtain ⟨d1, d2⟩ := dec_sound (w := w) (S := S) hx
    exact .agg vs _ (by rw [enc_length]; omega) (fun i hi => h1 i (by rw [enc_length] at hi; omega)) (fun i hi => d2 i _ (by rwa [enc_length] at hi) (hc i (by rw [enc_length] at hi; omega)))
  have ptrCase : ∀ (t : ET) (x : t.D) (off : Nat) (t' : ET) (x' : t'.D), off + t'.size ≤ t.size → dec t' ((enc t x).drop off |>.take t'.size) = some x' → PRel w S v (.ptr t x off) → PRel w S v (.ptr t' x' 0) := by
    intro t x off t' x' hfit hx' r
    cases r with
    | ptr _ _ _ b base hb us hc hr =>
      obtain ⟨d1, d2⟩ := dec_sound (w := w) (S := S) hx'
      have key : PRel w S (.pointer (some ⟨b, base + off + 0, none⟩)) (.ptr t' x' 0) :=
        .ptr t' x' 0 b (base + off) hb (fun i => us (off + i)) (fun i hi => by rw [Nat.add_assoc]; exact hc (off + i) (by omega)) (fun i hi => by
          refine d2 i _ hi ?_
          rw [getD_take_drop _ _ _ _ hi]
          exact hr (off + i) (by omega))
      exact key
  unfold asType at h
  split at h
  · rename_i e t x off hu
    split at h <;> first | (cases h; done) | skip
    rename_i t' hte
    split at h <;> first | (cases h; done) | skip
    rename_i hfit
    split at h <;> first | (cases h; done) | skip
    rename_i x' hx'
    cases h
    exact ptrCase t x off t' x' hfit hx' r
  · rename_i e hu
    split at h <;> first | (cases h; done) | skip
    cases h
    exact r.slice_of_nils _
  · rename_i fs t x off hu
    split at h
    · rename_i t' hte
      split at h
      · rename_i hfit
        split at h
        · rename_i x' hx'
          cases h
          exact ptrCase t x off t' x' hfit.2 hx' r
        · cases h; exact r
      · cases h; exact r
    · cases h; exact r
  · rename_i fs cs hu
    split at h
    · rename_i t hte
      split at h <;> first | (cases h; done) | skip
      rename_i x hx
      cases h
      exact aggCase t cs x hx r
    · cases h; exact r
  · rename_i n e cs hu
    split at h
    · rename_i t hte
      split at h <;> first | (cases h; done) | skip
      rename_i x hx
      cases h
      exact aggCase t cs x hx r
    · cases h; exact r
  · cases h; exact r

theorem argsAs_sound {E : Env} (hobj : ObjsOk B w S look m) (hS : ∀ b, S b → b < w.heap.size) {S' : Nat → Prop} (hSS : ∀ b, S b → S' b) :
    ∀ (ps : List PV) (ts : List TypeId) (qs : List PV) (vs : Nat → Value), argsAs E look ps ts = some qs → (∀ i, i < ps.length → VRel w S look m (vs i) (ps.getD i .undef)) →
      (hasLocal.anyLocal ps = true → ∀ id b, liveIn look id → blkOf (m id) = some b → S' b) → qs.length = ps.length ∧ ∀ i, i < ps.length → PRel w S' (vs i) (qs.getD i .undef)
  | [], ts, qs, vs, h, _, _ => by simp only [argsAs, Option.some.injEq] at h; subst h; exact ⟨rfl, fun i hi => absurd hi (by simp)⟩
  | p :: ps, ts, qs, vs, h, hv, hl => by
    simp only [argsAs] at h
    split at h <;> first | (cases h; done) | skip
    rename_i q hq
    split at h <;> first | (cases h; done) | skip
    rename_i r rs hr hrs
    cases h
    have r0 := view_sound hobj hS hSS 4 p q (vs 0) hq (hv 0 (by simp)) (fun hh => hl (by simp [hasLocal.anyLocal, hh]))
    have r1 : PRel w S' (vs 0) r := by
      split at hr
      · exact asType_sound hr r0
      · cases hr; exact r0
    obtain ⟨i1, i2⟩ := argsAs_sound hobj hS hSS ps ts.tail rs (fun i => vs (i + 1)) hrs (fun i hi => by simpa using hv (i + 1) (by simpa using hi)) (fun hh => hl (by simp [hasLocal.anyLocal, hh]))
    refine ⟨by simp [i1], fun i hi => ?_⟩
    cases i with
    | zero => exact r1
    | succ i => simpa using i2 i (by simpa using hi)

end
end Go.Ev

