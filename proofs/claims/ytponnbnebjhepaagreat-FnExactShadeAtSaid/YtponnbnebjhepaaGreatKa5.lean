/- Part 5 of the proof: the abstract evaluator and what the functions of the program compute (condition: none). -/
import Derived.Test.YtponnbnebjhepaaGreatKa4
namespace Go.Proofs.YtponnbnebjhepaaGreat
open Go Go.Ev
set_option maxRecDepth 100000

/-! spec.l02Turned -/
noncomputable def fr272 : (V3) → CRes := (fun (x : V3) => CRes.plain (.agg (enc .v3 x)))
noncomputable def fw272 : (V3) → CRes := (fun (x : V3) => CRes.plain (.agg (enc .v3 x)))
noncomputable def tr272 (x0 : V3) (x1 : Int) (x2 : Nat) : Tr (V3) :=
  (.leaf ((⟨((F147 (F147 x0 ((IntKind.i64.wrap (x1 + 1)).tmod 3) (fop BinOp.add FloatKind.f32 (fop BinOp.mul FloatKind.f32 (F201 (fop BinOp.sub FloatKind.f32 1048576000 x2)) (F146 x0 ((IntKind.i64.wrap (x1 + 1)).tmod 3))) (fop BinOp.mul FloatKind.f32 (F201 x2) (F146 x0 ((IntKind.i64.wrap (x1 + 2)).tmod 3))))) ((IntKind.i64.wrap (x1 + 2)).tmod 3) (fop BinOp.sub FloatKind.f32 (fop BinOp.mul FloatKind.f32 (F201 (fop BinOp.sub FloatKind.f32 1048576000 x2)) (F146 x0 ((IntKind.i64.wrap (x1 + 2)).tmod 3))) (fop BinOp.mul FloatKind.f32 (F201 x2) (F146 x0 ((IntKind.i64.wrap (x1 + 1)).tmod 3))))).x), ((F147 (F147 x0 ((IntKind.i64.wrap (x1 + 1)).tmod 3) (fop BinOp.add FloatKind.f32 (fop BinOp.mul FloatKind.f32 (F201 (fop BinOp.sub FloatKind.f32 1048576000 x2)) (F146 x0 ((IntKind.i64.wrap (x1 + 1)).tmod 3))) (fop BinOp.mul FloatKind.f32 (F201 x2) (F146 x0 ((IntKind.i64.wrap (x1 + 2)).tmod 3))))) ((IntKind.i64.wrap (x1 + 2)).tmod 3) (fop BinOp.sub FloatKind.f32 (fop BinOp.mul FloatKind.f32 (F201 (fop BinOp.sub FloatKind.f32 1048576000 x2)) (F146 x0 ((IntKind.i64.wrap (x1 + 2)).tmod 3))) (fop BinOp.mul FloatKind.f32 (F201 x2) (F146 x0 ((IntKind.i64.wrap (x1 + 1)).tmod 3))))).y), ((F147 (F147 x0 ((IntKind.i64.wrap (x1 + 1)).tmod 3) (fop BinOp.add FloatKind.f32 (fop BinOp.mul FloatKind.f32 (F201 (fop BinOp.sub FloatKind.f32 1048576000 x2)) (F146 x0 ((IntKind.i64.wrap (x1 + 1)).tmod 3))) (fop BinOp.mul FloatKind.f32 (F201 x2) (F146 x0 ((IntKind.i64.wrap (x1 + 2)).tmod 3))))) ((IntKind.i64.wrap (x1 + 2)).tmod 3) (fop BinOp.sub FloatKind.f32 (fop BinOp.mul FloatKind.f32 (F201 (fop BinOp.sub FloatKind.f32 1048576000 x2)) (F146 x0 ((IntKind.i64.wrap (x1 + 2)).tmod 3))) (fop BinOp.mul FloatKind.f32 (F201 x2) (F146 x0 ((IntKind.i64.wrap (x1 + 1)).tmod 3))))).z)⟩ : V3)))
theorem ev272 (x0 : V3) (x1 : Int) (x2 : Nat) : evalF (env tab22 exts (fun _ => [])) 0 Tryz.f272 [.agg (enc .v3 x0), .int .i64 x1, .f32 x2] = (tr272 x0 x1 x2).toOpt fr272 := by kernel_rfl
noncomputable def F272 (x0 : V3) (x1 : Int) (x2 : Nat) : V3 := (tr272 x0 x1 x2).val
theorem pre272 (x0 : V3) (x1 : Int) (x2 : Nat) : (tr272 x0 x1 x2).pre = true := by simp [tr272, Tr.pre]

/-! (*impl.Node).point -/
noncomputable def fr197b0 : (V3) → CRes := (fun (x : V3) => CRes.plain (.agg (enc .v3 x)))
noncomputable def fw197b0 : (V3) → CRes := (fun (x : V3) => CRes.plain (.agg (enc .v3 x)))
noncomputable def tr197b0 (x0 : Nd) (x1 : V3) : Tr (V3) :=
  (.cond (x0.k == 9)
   (.cond (decide (0 ≤ 0) && decide (0 < (↑x0.v.length : Int)))
    (.cond (decide (0 ≤ 1) && decide (1 < (↑x0.v.length : Int)))
     (.cond (decide (0 ≤ 2) && decide (2 < (↑x0.v.length : Int)))
      (.leaf ((⟨((F168 x1 { x := x0.v.getD (Int.toNat 0) 0, y := x0.v.getD (Int.toNat 1) 0, z := x0.v.getD (Int.toNat 2) 0 : V3 }).x), ((F168 x1 { x := x0.v.getD (Int.toNat 0) 0, y := x0.v.getD (Int.toNat 1) 0, z := x0.v.getD (Int.toNat 2) 0 : V3 }).y), ((F168 x1 { x := x0.v.getD (Int.toNat 0) 0, y := x0.v.getD (Int.toNat 1) 0, z := x0.v.getD (Int.toNat 2) 0 : V3 }).z)⟩ : V3)))
      .non)
     .non)
    .non)
   (.cond (x0.k == 10)
    (.cond (decide (0 ≤ 0) && decide (0 < (↑x0.v.length : Int)))
     (.cond (decide (0 ≤ 0) && decide (0 < (↑x0.v.length : Int)))
      (.cond (decide (0 ≤ 0) && decide (0 < (↑x0.v.length : Int)))
       (.leaf ((⟨(fop BinOp.quo FloatKind.f32 x1.x (x0.v.getD (Int.toNat 0) 0)), (fop BinOp.quo FloatKind.f32 x1.y (x0.v.getD (Int.toNat 0) 0)), (fop BinOp.quo FloatKind.f32 x1.z (x0.v.getD (Int.toNat 0) 0))⟩ : V3)))
       .non)
      .non)
     .non)
    (.cond (x0.k == 11)
     (.cond (decide (0 ≤ 0) && decide (0 < (↑x0.v.length : Int)))
      (.cond (decide (0 ≤ 1) && decide (1 < (↑x0.v.length : Int)))
       (.cond (decide (0 ≤ 2) && decide (2 < (↑x0.v.length : Int)))
        (.leaf ((⟨(fop BinOp.quo FloatKind.f32 x1.x (x0.v.getD (Int.toNat 0) 0)), (fop BinOp.quo FloatKind.f32 x1.y (x0.v.getD (Int.toNat 1) 0)), (fop BinOp.quo FloatKind.f32 x1.z (x0.v.getD (Int.toNat 2) 0))⟩ : V3)))
        .non)
       .non)
      .non)
     (.cond (x0.k == 12)
      (.cond (decide (0 ≤ 0) && decide (0 < (↑x0.v.length : Int)))
       (.cond (decide (0 ≤ 0) && decide (0 < (↑x0.v.length : Int)))
        (.leaf ((⟨((F231 { x := (F139 x1).x, y := fop BinOp.add FloatKind.f32 (fop BinOp.mul FloatKind.f32 (F217 (fop BinOp.sub FloatKind.f32 1048576000 (x0.v.getD (Int.toNat 0) 0))) (F139 x1).y) (fop BinOp.mul FloatKind.f32 (F217 (x0.v.getD (Int.toNat 0) 0)) (F139 x1).z), z := fop BinOp.sub FloatKind.f32 (fop BinOp.mul FloatKind.f32 (F217 (fop BinOp.sub FloatKind.f32 1048576000 (x0.v.getD (Int.toNat 0) 0))) (F139 x1).z) (fop BinOp.mul FloatKind.f32 (F217 (x0.v.getD (Int.toNat 0) 0)) (F139 x1).y) : V3 }).x), ((F231 { x := (F139 x1).x, y := fop BinOp.add FloatKind.f32 (fop BinOp.mul FloatKind.f32 (F217 (fop BinOp.sub FloatKind.f32 1048576000 (x0.v.getD (Int.toNat 0) 0))) (F139 x1).y) (fop BinOp.mul FloatKind.f32 (F217 (x0.v.getD (Int.toNat 0) 0)) (F139 x1).z), z := fop BinOp.sub FloatKind.f32 (fop BinOp.mul FloatKind.f32 (F217 (fop BinOp.sub FloatKind.f32 1048576000 (x0.v.getD (Int.toNat 0) 0))) (F139 x1).z) (fop BinOp.mul FloatKind.f32 (F217 (x0.v.getD (Int.toNat 0) 0)) (F139 x1).y) : V3 }).y), ((F231 { x := (F139 x1).x, y := fop BinOp.add FloatKind.f32 (fop BinOp.mul FloatKind.f32 (F217 (fop BinOp.sub FloatKind.f32 1048576000 (x0.v.getD (Int.toNat 0) 0))) (F139 x1).y) (fop BinOp.mul FloatKind.f32 (F217 (x0.v.getD (Int.toNat 0) 0)) (F139 x1).z), z := fop BinOp.sub FloatKind.f32 (fop BinOp.mul FloatKind.f32 (F217 (fop BinOp.sub FloatKind.f32 1048576000 (x0.v.getD (Int.toNat 0) 0))) (F139 x1).z) (fop BinOp.mul FloatKind.f32 (F217 (x0.v.getD (Int.toNat 0) 0)) (F139 x1).y) : V3 }).z)⟩ : V3)))
        .non)
       .non)
      (.cond (x0.k == 13)
       (.leaf ((⟨((F231 { x := F68 (F139 x1).x, y := (F139 x1).y, z := (F139 x1).z : V3 }).x), ((F231 { x := F68 (F139 x1).x, y := (F139 x1).y, z := (F139 x1).z : V3 }).y), ((F231 { x := F68 (F139 x1).x, y := (F139 x1).y, z := (F139 x1).z : V3 }).z)⟩ : V3)))
       (.cond (x0.k == 14)
        (.cond (decide (0 ≤ 0) && decide (0 < (↑x0.v.length : Int)))
         (.leaf ((⟨((F231 { x := F68 (fop BinOp.sub FloatKind.f32 (F139 x1).x (F256 (F139 x1).x (x0.v.getD (Int.toNat 0) 0))), y := (F139 x1).y, z := (F139 x1).z : V3 }).x), ((F231 { x := F68 (fop BinOp.sub FloatKind.f32 (F139 x1).x (F256 (F139 x1).x (x0.v.getD (Int.toNat 0) 0))), y := (F139 x1).y, z := (F139 x1).z : V3 }).y), ((F231 { x := F68 (fop BinOp.sub FloatKind.f32 (F139 x1).x (F256 (F139 x1).x (x0.v.getD (Int.toNat 0) 0))), y := (F139 x1).y, z := (F139 x1).z : V3 }).z)⟩ : V3)))
         .non)
        (.leaf ((⟨((F231 (F139 x1)).x), ((F231 (F139 x1)).y), ((F231 (F139 x1)).z)⟩ : V3)))))))))
theorem ev197b0 (x0 : Nd) (x1 : V3) : evalF (env tab22 exts (fun _ => [])) 0 Tryz.f197 [.ptr .nd (⟨x0.k, x0.a, 0, x0.v⟩) 0, .agg (enc .v3 x1)] = (tr197b0 x0 x1).toOpt fr197b0 := by kernel_rfl
noncomputable def F197b0 (x0 : Nd) (x1 : V3) : V3 := (tr197b0 x0 x1).val

/-! (*impl.Node).point -/
noncomputable def fr197b1 : (V3) → CRes := (fun (x : V3) => CRes.plain (.agg (enc .v3 x)))
noncomputable def fw197b1 : (V3) → CRes := (fun (x : V3) => CRes.plain (.agg (enc .v3 x)))
noncomputable def tr197b1 (x0 : Nd) (x1 : V3) : Tr (V3) :=
  (.cond (x0.k == 9)
   (.cond (decide (0 ≤ 0) && decide (0 < (↑x0.v.length : Int)))
    (.cond (decide (0 ≤ 1) && decide (1 < (↑x0.v.length : Int)))
     (.cond (decide (0 ≤ 2) && decide (2 < (↑x0.v.length : Int)))
      (.leaf ((⟨((F168 x1 { x := x0.v.getD (Int.toNat 0) 0, y := x0.v.getD (Int.toNat 1) 0, z := x0.v.getD (Int.toNat 2) 0 : V3 }).x), ((F168 x1 { x := x0.v.getD (Int.toNat 0) 0, y := x0.v.getD (Int.toNat 1) 0, z := x0.v.getD (Int.toNat 2) 0 : V3 }).y), ((F168 x1 { x := x0.v.getD (Int.toNat 0) 0, y := x0.v.getD (Int.toNat 1) 0, z := x0.v.getD (Int.toNat 2) 0 : V3 }).z)⟩ : V3)))
      .non)
     .non)
    .non)
   (.cond (x0.k == 10)
    (.cond (decide (0 ≤ 0) && decide (0 < (↑x0.v.length : Int)))
     (.cond (decide (0 ≤ 0) && decide (0 < (↑x0.v.length : Int)))
      (.cond (decide (0 ≤ 0) && decide (0 < (↑x0.v.length : Int)))
       (.leaf ((⟨(fop BinOp.quo FloatKind.f32 x1.x (x0.v.getD (Int.toNat 0) 0)), (fop BinOp.quo FloatKind.f32 x1.y (x0.v.getD (Int.toNat 0) 0)), (fop BinOp.quo FloatKind.f32 x1.z (x0.v.getD (Int.toNat 0) 0))⟩ : V3)))
       .non)
      .non)
     .non)
    (.cond (x0.k == 11)
     (.cond (decide (0 ≤ 0) && decide (0 < (↑x0.v.length : Int)))
      (.cond (decide (0 ≤ 1) && decide (1 < (↑x0.v.length : Int)))
       (.cond (decide (0 ≤ 2) && decide (2 < (↑x0.v.length : Int)))
        (.leaf ((⟨(fop BinOp.quo FloatKind.f32 x1.x (x0.v.getD (Int.toNat 0) 0)), (fop BinOp.quo FloatKind.f32 x1.y (x0.v.getD (Int.toNat 1) 0)), (fop BinOp.quo FloatKind.f32 x1.z (x0.v.getD (Int.toNat 2) 0))⟩ : V3)))
        .non)
       .non)
      .non)
     (.cond (x0.k == 12)
      (.cond (decide (0 ≤ 0) && decide (0 < (↑x0.v.length : Int)))
       (.cond (decide (0 ≤ 0) && decide (0 < (↑x0.v.length : Int)))
        (.leaf ((⟨((F231 { x := fop BinOp.sub FloatKind.f32 (fop BinOp.mul FloatKind.f32 (F217 (fop BinOp.sub FloatKind.f32 1048576000 (x0.v.getD (Int.toNat 0) 0))) (F139 x1).x) (fop BinOp.mul FloatKind.f32 (F217 (x0.v.getD (Int.toNat 0) 0)) (F139 x1).z), y := (F139 x1).y, z := fop BinOp.add FloatKind.f32 (fop BinOp.mul FloatKind.f32 (F217 (fop BinOp.sub FloatKind.f32 1048576000 (x0.v.getD (Int.toNat 0) 0))) (F139 x1).z) (fop BinOp.mul FloatKind.f32 (F217 (x0.v.getD (Int.toNat 0) 0)) (F139 x1).x) : V3 }).x), ((F231 { x := fop BinOp.sub FloatKind.f32 (fop BinOp.mul FloatKind.f32 (F217 (fop BinOp.sub FloatKind.f32 1048576000 (x0.v.getD (Int.toNat 0) 0))) (F139 x1).x) (fop BinOp.mul FloatKind.f32 (F217 (x0.v.getD (Int.toNat 0) 0)) (F139 x1).z), y := (F139 x1).y, z := fop BinOp.add FloatKind.f32 (fop BinOp.mul FloatKind.f32 (F217 (fop BinOp.sub FloatKind.f32 1048576000 (x0.v.getD (Int.toNat 0) 0))) (F139 x1).z) (fop BinOp.mul FloatKind.f32 (F217 (x0.v.getD (Int.toNat 0) 0)) (F139 x1).x) : V3 }).y), ((F231 { x := fop BinOp.sub FloatKind.f32 (fop BinOp.mul FloatKind.f32 (F217 (fop BinOp.sub FloatKind.f32 1048576000 (x0.v.getD (Int.toNat 0) 0))) (F139 x1).x) (fop BinOp.mul FloatKind.f32 (F217 (x0.v.getD (Int.toNat 0) 0)) (F139 x1).z), y := (F139 x1).y, z := fop BinOp.add FloatKind.f32 (fop BinOp.mul FloatKind.f32 (F217 (fop BinOp.sub FloatKind.f32 1048576000 (x0.v.getD (Int.toNat 0) 0))) (F139 x1).z) (fop BinOp.mul FloatKind.f32 (F217 (x0.v.getD (Int.toNat 0) 0)) (F139 x1).x) : V3 }).z)⟩ : V3)))
        .non)
       .non)
      (.cond (x0.k == 13)
       (.leaf ((⟨((F231 { x := (F139 x1).x, y := F68 (F139 x1).y, z := (F139 x1).z : V3 }).x), ((F231 { x := (F139 x1).x, y := F68 (F139 x1).y, z := (F139 x1).z : V3 }).y), ((F231 { x := (F139 x1).x, y := F68 (F139 x1).y, z := (F139 x1).z : V3 }).z)⟩ : V3)))
       (.cond (x0.k == 14)
        (.cond (decide (0 ≤ 0) && decide (0 < (↑x0.v.length : Int)))
         (.leaf ((⟨((F231 { x := (F139 x1).x, y := F68 (fop BinOp.sub FloatKind.f32 (F139 x1).y (F256 (F139 x1).y (x0.v.getD (Int.toNat 0) 0))), z := (F139 x1).z : V3 }).x), ((F231 { x := (F139 x1).x, y := F68 (fop BinOp.sub FloatKind.f32 (F139 x1).y (F256 (F139 x1).y (x0.v.getD (Int.toNat 0) 0))), z := (F139 x1).z : V3 }).y), ((F231 { x := (F139 x1).x, y := F68 (fop BinOp.sub FloatKind.f32 (F139 x1).y (F256 (F139 x1).y (x0.v.getD (Int.toNat 0) 0))), z := (F139 x1).z : V3 }).z)⟩ : V3)))
         .non)
        (.leaf ((⟨((F231 (F139 x1)).x), ((F231 (F139 x1)).y), ((F231 (F139 x1)).z)⟩ : V3)))))))))
theorem ev197b1 (x0 : Nd) (x1 : V3) : evalF (env tab22 exts (fun _ => [])) 0 Tryz.f197 [.ptr .nd (⟨x0.k, x0.a, 1, x0.v⟩) 0, .agg (enc .v3 x1)] = (tr197b1 x0 x1).toOpt fr197b1 := by kernel_rfl
noncomputable def F197b1 (x0 : Nd) (x1 : V3) : V3 := (tr197b1 x0 x1).val

/-! (*impl.Node).point -/
noncomputable def fr197b2 : (V3) → CRes := (fun (x : V3) => CRes.plain (.agg (enc .v3 x)))
noncomputable def fw197b2 : (V3) → CRes := (fun (x : V3) => CRes.plain (.agg (enc .v3 x)))
noncomputable def tr197b2 (x0 : Nd) (x1 : V3) : Tr (V3) :=
  (.cond (x0.k == 9)
   (.cond (decide (0 ≤ 0) && decide (0 < (↑x0.v.length : Int)))
    (.cond (decide (0 ≤ 1) && decide (1 < (↑x0.v.length : Int)))
     (.cond (decide (0 ≤ 2) && decide (2 < (↑x0.v.length : Int)))
      (.leaf ((⟨((F168 x1 { x := x0.v.getD (Int.toNat 0) 0, y := x0.v.getD (Int.toNat 1) 0, z := x0.v.getD (Int.toNat 2) 0 : V3 }).x), ((F168 x1 { x := x0.v.getD (Int.toNat 0) 0, y := x0.v.getD (Int.toNat 1) 0, z := x0.v.getD (Int.toNat 2) 0 : V3 }).y), ((F168 x1 { x := x0.v.getD (Int.toNat 0) 0, y := x0.v.getD (Int.toNat 1) 0, z := x0.v.getD (Int.toNat 2) 0 : V3 }).z)⟩ : V3)))
      .non)
     .non)
    .non)
   (.cond (x0.k == 10)
    (.cond (decide (0 ≤ 0) && decide (0 < (↑x0.v.length : Int)))
     (.cond (decide (0 ≤ 0) && decide (0 < (↑x0.v.length : Int)))
      (.cond (decide (0 ≤ 0) && decide (0 < (↑x0.v.length : Int)))
       (.leaf ((⟨(fop BinOp.quo FloatKind.f32 x1.x (x0.v.getD (Int.toNat 0) 0)), (fop BinOp.quo FloatKind.f32 x1.y (x0.v.getD (Int.toNat 0) 0)), (fop BinOp.quo FloatKind.f32 x1.z (x0.v.getD (Int.toNat 0) 0))⟩ : V3)))
       .non)
      .non)
     .non)
    (.cond (x0.k == 11)
     (.cond (decide (0 ≤ 0) && decide (0 < (↑x0.v.length : Int)))
      (.cond (decide (0 ≤ 1) && decide (1 < (↑x0.v.length : Int)))
       (.cond (decide (0 ≤ 2) && decide (2 < (↑x0.v.length : Int)))
        (.leaf ((⟨(fop BinOp.quo FloatKind.f32 x1.x (x0.v.getD (Int.toNat 0) 0)), (fop BinOp.quo FloatKind.f32 x1.y (x0.v.getD (Int.toNat 1) 0)), (fop BinOp.quo FloatKind.f32 x1.z (x0.v.getD (Int.toNat 2) 0))⟩ : V3)))
        .non)
       .non)
      .non)
     (.cond (x0.k == 12)
      (.cond (decide (0 ≤ 0) && decide (0 < (↑x0.v.length : Int)))
       (.cond (decide (0 ≤ 0) && decide (0 < (↑x0.v.length : Int)))
        (.leaf ((⟨((F231 { x := fop BinOp.add FloatKind.f32 (fop BinOp.mul FloatKind.f32 (F217 (fop BinOp.sub FloatKind.f32 1048576000 (x0.v.getD (Int.toNat 0) 0))) (F139 x1).x) (fop BinOp.mul FloatKind.f32 (F217 (x0.v.getD (Int.toNat 0) 0)) (F139 x1).y), y := fop BinOp.sub FloatKind.f32 (fop BinOp.mul FloatKind.f32 (F217 (fop BinOp.sub FloatKind.f32 1048576000 (x0.v.getD (Int.toNat 0) 0))) (F139 x1).y) (fop BinOp.mul FloatKind.f32 (F217 (x0.v.getD (Int.toNat 0) 0)) (F139 x1).x), z := (F139 x1).z : V3 }).x), ((F231 { x := fop BinOp.add FloatKind.f32 (fop BinOp.mul FloatKind.f32 (F217 (fop BinOp.sub FloatKind.f32 1048576000 (x0.v.getD (Int.toNat 0) 0))) (F139 x1).x) (fop BinOp.mul FloatKind.f32 (F217 (x0.v.getD (Int.toNat 0) 0)) (F139 x1).y), y := fop BinOp.sub FloatKind.f32 (fop BinOp.mul FloatKind.f32 (F217 (fop BinOp.sub FloatKind.f32 1048576000 (x0.v.getD (Int.toNat 0) 0))) (F139 x1).y) (fop BinOp.mul FloatKind.f32 (F217 (x0.v.getD (Int.toNat 0) 0)) (F139 x1).x), z := (F139 x1).z : V3 }).y), ((F231 { x := fop BinOp.add FloatKind.f32 (fop BinOp.mul FloatKind.f32 (F217 (fop BinOp.sub FloatKind.f32 1048576000 (x0.v.getD (Int.toNat 0) 0))) (F139 x1).x) (fop BinOp.mul FloatKind.f32 (F217 (x0.v.getD (Int.toNat 0) 0)) (F139 x1).y), y := fop BinOp.sub FloatKind.f32 (fop BinOp.mul FloatKind.f32 (F217 (fop BinOp.sub FloatKind.f32 1048576000 (x0.v.getD (Int.toNat 0) 0))) (F139 x1).y) (fop BinOp.mul FloatKind.f32 (F217 (x0.v.getD (Int.toNat 0) 0)) (F139 x1).x), z := (F139 x1).z : V3 }).z)⟩ : V3)))
        .non)
       .non)
      (.cond (x0.k == 13)
       (.leaf ((⟨((F231 { x := (F139 x1).x, y := (F139 x1).y, z := F68 (F139 x1).z : V3 }).x), ((F231 { x := (F139 x1).x, y := (F139 x1).y, z := F68 (F139 x1).z : V3 }).y), ((F231 { x := (F139 x1).x, y := (F139 x1).y, z := F68 (F139 x1).z : V3 }).z)⟩ : V3)))
       (.cond (x0.k == 14)
        (.cond (decide (0 ≤ 0) && decide (0 < (↑x0.v.length : Int)))
         (.leaf ((⟨((F231 { x := (F139 x1).x, y := (F139 x1).y, z := F68 (fop BinOp.sub FloatKind.f32 (F139 x1).z (F256 (F139 x1).z (x0.v.getD (Int.toNat 0) 0))) : V3 }).x), ((F231 { x := (F139 x1).x, y := (F139 x1).y, z := F68 (fop BinOp.sub FloatKind.f32 (F139 x1).z (F256 (F139 x1).z (x0.v.getD (Int.toNat 0) 0))) : V3 }).y), ((F231 { x := (F139 x1).x, y := (F139 x1).y, z := F68 (fop BinOp.sub FloatKind.f32 (F139 x1).z (F256 (F139 x1).z (x0.v.getD (Int.toNat 0) 0))) : V3 }).z)⟩ : V3)))
         .non)
        (.leaf ((⟨((F231 (F139 x1)).x), ((F231 (F139 x1)).y), ((F231 (F139 x1)).z)⟩ : V3)))))))))
theorem ev197b2 (x0 : Nd) (x1 : V3) : evalF (env tab22 exts (fun _ => [])) 0 Tryz.f197 [.ptr .nd (⟨x0.k, x0.a, 2, x0.v⟩) 0, .agg (enc .v3 x1)] = (tr197b2 x0 x1).toOpt fr197b2 := by kernel_rfl
noncomputable def F197b2 (x0 : Nd) (x1 : V3) : V3 := (tr197b2 x0 x1).val

end Go.Proofs.YtponnbnebjhepaaGreat

namespace Go.Proofs.YtponnbnebjhepaaGreat
open Go Go.Ev
set_option maxRecDepth 100000

noncomputable def ent272 : List PV → Option (Bool × CRes)
  | [.agg [.f32 x0_0, .f32 x0_1, .f32 x0_2], .int .i64 x1, .f32 x2] => some (true, fw272 (F272 (⟨x0_0, x0_1, x0_2⟩ : V3) x1 x2))
  | _ => none
theorem ok272 : EntSound Tryz.prog 272 ent272 := by
  refine entryW tab22_ok exts_ok (fun _ => []) (fn := Tryz.f272) (by kernel_rfl) (by kernel_rfl) (fun args c h => ?_)
  unfold ent272 at h
  split at h <;> first | (cases h; done) | skip
  rename_i x0_0 x0_1 x0_2 x1 x2
  simp only [Option.some.injEq, Prod.mk.injEq] at h
  obtain ⟨hp, rfl⟩ := h
  exact ⟨0, _, (ev272 (⟨x0_0, x0_1, x0_2⟩ : V3) x1 x2).trans (Tr.ok _ _ (pre272 (⟨x0_0, x0_1, x0_2⟩ : V3) x1 x2)), CLe.refl _⟩

noncomputable def F197 (x0 : Nd) (x1 : V3) : V3 := bif x0.b == 0 then F197b0 x0 x1 else bif x0.b == 1 then F197b1 x0 x1 else F197b2 x0 x1
noncomputable def P197 (x0 : Nd) (x1 : V3) : Bool := bif x0.b == 0 then (tr197b0 x0 x1).pre else bif x0.b == 1 then (tr197b1 x0 x1).pre else bif x0.b == 2 then (tr197b2 x0 x1).pre else false
noncomputable def ent197 : List PV → Option (Bool × CRes)
  | [.ptr .nd x0 0, .agg [.f32 x1_0, .f32 x1_1, .f32 x1_2]] => some (P197 x0 (⟨x1_0, x1_1, x1_2⟩ : V3), fw197b0 (F197 x0 (⟨x1_0, x1_1, x1_2⟩ : V3)))
  | _ => none
theorem ok197 : EntSound Tryz.prog 197 ent197 := by
  refine entryW tab22_ok exts_ok (fun _ => []) (fn := Tryz.f197) (by kernel_rfl) (by kernel_rfl) (fun args c h => ?_)
  unfold ent197 at h
  split at h <;> first | (cases h; done) | skip
  rename_i x0 x1_0 x1_1 x1_2
  simp only [Option.some.injEq, Prod.mk.injEq] at h
  obtain ⟨hp, rfl⟩ := h
  unfold P197 at hp
  have e : ∀ b, x0.b = b → (⟨x0.k, x0.a, b, x0.v⟩ : Nd) = x0 := fun b h => by subst h; rfl
  cases h0 : x0.b == 0
  rotate_left
  · rw [h0] at hp
    have ev := ev197b0 x0 (⟨x1_0, x1_1, x1_2⟩ : V3)
    rw [e 0 (by simpa using h0)] at ev
    refine ⟨0, _, ev.trans (Tr.ok _ _ hp), ?_⟩
    have hF : F197 x0 (⟨x1_0, x1_1, x1_2⟩ : V3) = F197b0 x0 (⟨x1_0, x1_1, x1_2⟩ : V3) := by unfold F197; rw [h0]; rfl
    rw [hF]; exact CLe.refl _
  cases h1 : x0.b == 1
  rotate_left
  · rw [h0, h1] at hp
    have ev := ev197b1 x0 (⟨x1_0, x1_1, x1_2⟩ : V3)
    rw [e 1 (by simpa using h1)] at ev
    refine ⟨0, _, ev.trans (Tr.ok _ _ hp), ?_⟩
    have hF : F197 x0 (⟨x1_0, x1_1, x1_2⟩ : V3) = F197b1 x0 (⟨x1_0, x1_1, x1_2⟩ : V3) := by unfold F197; rw [h0, h1]; rfl
    rw [hF]; exact CLe.refl _
  cases h2 : x0.b == 2
  rotate_left
  · rw [h0, h1, h2] at hp
    have ev := ev197b2 x0 (⟨x1_0, x1_1, x1_2⟩ : V3)
    rw [e 2 (by simpa using h2)] at ev
    refine ⟨0, _, ev.trans (Tr.ok _ _ hp), ?_⟩
    have hF : F197 x0 (⟨x1_0, x1_1, x1_2⟩ : V3) = F197b2 x0 (⟨x1_0, x1_1, x1_2⟩ : V3) := by unfold F197; rw [h0, h1]; rfl
    rw [hF]; exact CLe.refl _
  · rw [h0, h1, h2] at hp; cases hp

noncomputable def tab23 : Tab := ((197, ent197) :: ((272, ent272) :: tab22))
theorem tab23_ok : TSound Tryz.prog (tabT tab23) := (tab_cons (tab_cons tab22_ok ok272) ok197)

end Go.Proofs.YtponnbnebjhepaaGreat

namespace Go.Proofs.YtponnbnebjhepaaGreat
open Go Go.Ev
set_option maxRecDepth 100000

/-! spec.l02Point -/
noncomputable def fr253 : (V3) → CRes := (fun (x : V3) => CRes.plain (.agg (enc .v3 x)))
noncomputable def fw253 : (V3) → CRes := (fun (x : V3) => CRes.plain (.agg (enc .v3 x)))
noncomputable def tr253 (x0 : Nd) (x1 : V3) : Tr (V3) :=
  (.cond (x0.k == 9)
   (.cond (decide (0 ≤ 0) && decide (0 < (↑x0.v.length : Int)))
    (.cond (decide (0 ≤ 1) && decide (1 < (↑x0.v.length : Int)))
     (.cond (decide (0 ≤ 2) && decide (2 < (↑x0.v.length : Int)))
      (.leaf ((⟨((F157 x1 { x := x0.v.getD (Int.toNat 0) 0, y := x0.v.getD (Int.toNat 1) 0, z := x0.v.getD (Int.toNat 2) 0 : V3 }).x), ((F157 x1 { x := x0.v.getD (Int.toNat 0) 0, y := x0.v.getD (Int.toNat 1) 0, z := x0.v.getD (Int.toNat 2) 0 : V3 }).y), ((F157 x1 { x := x0.v.getD (Int.toNat 0) 0, y := x0.v.getD (Int.toNat 1) 0, z := x0.v.getD (Int.toNat 2) 0 : V3 }).z)⟩ : V3)))
      .non)
     .non)
    .non)
   (.cond (x0.k == 10)
    (.cond (decide (0 ≤ 0) && decide (0 < (↑x0.v.length : Int)))
     (.cond (decide (0 ≤ 0) && decide (0 < (↑x0.v.length : Int)))
      (.cond (decide (0 ≤ 0) && decide (0 < (↑x0.v.length : Int)))
       (.leaf ((⟨(fop BinOp.quo FloatKind.f32 x1.x (x0.v.getD (Int.toNat 0) 0)), (fop BinOp.quo FloatKind.f32 x1.y (x0.v.getD (Int.toNat 0) 0)), (fop BinOp.quo FloatKind.f32 x1.z (x0.v.getD (Int.toNat 0) 0))⟩ : V3)))
       .non)
      .non)
     .non)
    (.cond (x0.k == 11)
     (.cond (decide (0 ≤ 0) && decide (0 < (↑x0.v.length : Int)))
      (.cond (decide (0 ≤ 1) && decide (1 < (↑x0.v.length : Int)))
       (.cond (decide (0 ≤ 2) && decide (2 < (↑x0.v.length : Int)))
        (.leaf ((⟨(fop BinOp.quo FloatKind.f32 x1.x (x0.v.getD (Int.toNat 0) 0)), (fop BinOp.quo FloatKind.f32 x1.y (x0.v.getD (Int.toNat 1) 0)), (fop BinOp.quo FloatKind.f32 x1.z (x0.v.getD (Int.toNat 2) 0))⟩ : V3)))
        .non)
       .non)
      .non)
     (.cond (x0.k == 12)
      (.cond (decide (0 ≤ 0) && decide (0 < (↑x0.v.length : Int)))
       (.leaf ((⟨((F272 x1 x0.b (x0.v.getD (Int.toNat 0) 0)).x), ((F272 x1 x0.b (x0.v.getD (Int.toNat 0) 0)).y), ((F272 x1 x0.b (x0.v.getD (Int.toNat 0) 0)).z)⟩ : V3)))
       .non)
      (.cond (x0.k == 13)
       (.leaf ((⟨((F147 x1 x0.b (F62 (F146 x1 x0.b))).x), ((F147 x1 x0.b (F62 (F146 x1 x0.b))).y), ((F147 x1 x0.b (F62 (F146 x1 x0.b))).z)⟩ : V3)))
       (.cond (x0.k == 14)
        (.cond (decide (0 ≤ 0) && decide (0 < (↑x0.v.length : Int)))
         (.cond ((tr273 (F146 x1 x0.b) (x0.v.getD (Int.toNat 0) 0)).pre)
          (.leaf ((⟨((F147 x1 x0.b (F273 (F146 x1 x0.b) (x0.v.getD (Int.toNat 0) 0))).x), ((F147 x1 x0.b (F273 (F146 x1 x0.b) (x0.v.getD (Int.toNat 0) 0))).y), ((F147 x1 x0.b (F273 (F146 x1 x0.b) (x0.v.getD (Int.toNat 0) 0))).z)⟩ : V3)))
          .non)
         .non)
        (.leaf ((⟨(x1.x), (x1.y), (x1.z)⟩ : V3)))))))))
theorem ev253 (x0 : Nd) (x1 : V3) : evalF (env tab23 exts (fun _ => [])) 0 Tryz.f253 [.ptr .nd x0 0, .agg (enc .v3 x1)] = (tr253 x0 x1).toOpt fr253 := by kernel_rfl
noncomputable def F253 (x0 : Nd) (x1 : V3) : V3 := (tr253 x0 x1).val

/-! impl.ValidShape -/
noncomputable def fr66 : (Bool) → CRes := (fun (x : Bool) => CRes.plain (.bool x))
noncomputable def fw66 : (Bool) → CRes := (fun (x : Bool) => CRes.plain (.bool x))
noncomputable abbrev En66 : Env := env tab23 exts (fgOf 78 [(5, [1, 3, 20, 21]), (11, [1, 3, 4, 20, 21, 44, 45, 46])])
abbrev V66_1 := Nat × Int × Int × Int × Nat × Int × Int × (List Nd) × (List Int) × (List Int)
noncomputable def st66_1 (ns3 : Nat) (s4 : Int) (s20 : Int) (s21 : Int) (ns44 : Nat) (s45 : Int) (s46 : Int) (o1_0 : List Nd) (o3 : List Int) (o44 : List Int) : St := mkSt 78 [(1, .lptr 1 0 0), (3, .lslice 3 0 .i64 ns3), (4, .int .i64 s4), (20, .int .i64 s20), (21, .int .i64 s21), (44, .lslice 44 0 .i64 ns44), (45, .int .i64 s45), (46, .int .i64 s46)] [(1, .cells (some .shp) [.slice .nd o1_0]), (3, .elems 3 .i64 o3), (44, .elems 2 .i64 o44)]
noncomputable def Lp66_1 (m n0 n : Nat) (v : V66_1) : Option CRes := loopN (evalC En66 m (cAt [1, 1, 1, 0, 1, 0, 0, 1, 1, 0, 0, 1, 1, 1, 1, 0, 0] (bodyOf Tryz.f66))) (allBut 78 [1, 3, 4, 20, 21, 44, 45, 46]) n (st66_1 v.1 v.2.1 v.2.2.1 v.2.2.2.1 v.2.2.2.2.1 v.2.2.2.2.2.1 v.2.2.2.2.2.2.1 v.2.2.2.2.2.2.2.1 v.2.2.2.2.2.2.2.2.1 v.2.2.2.2.2.2.2.2.2) (runK En66 m (finF Tryz.prog Tryz.f66) [.bk 2, .bk 1, .sq (cAt [1, 1, 1, 0, 1, 0, 0, 1, 1, 1] (bodyOf Tryz.f66)), .lp (cAt [1, 1, 1, 0, 1, 0, 0] (bodyOf Tryz.f66)) n0, .bk 0, .sq (cAt [1, 1, 1, 1] (bodyOf Tryz.f66))])
abbrev V66_0 := Nat × Int × Int × (List Nd) × (List Int)
noncomputable def st66_0 (ns3 : Nat) (s20 : Int) (s21 : Int) (o1_0 : List Nd) (o3 : List Int) : St := mkSt 78 [(1, .lptr 1 0 0), (3, .lslice 3 0 .i64 ns3), (20, .int .i64 s20), (21, .int .i64 s21)] [(1, .cells (some .shp) [.slice .nd o1_0]), (3, .elems 3 .i64 o3)]
noncomputable def Lp66_0 (m n : Nat) (v : V66_0) : Option CRes := loopN (evalC En66 m (cAt [1, 1, 1, 0, 1, 0, 0] (bodyOf Tryz.f66))) (allBut 78 [1, 3, 20, 21]) n (st66_0 v.1 v.2.1 v.2.2.1 v.2.2.2.1 v.2.2.2.2) (runK En66 m (finF Tryz.prog Tryz.f66) [.bk 0, .sq (cAt [1, 1, 1, 1] (bodyOf Tryz.f66))])
noncomputable def stp66_1 (ns3 : Nat) (s4 : Int) (s20 : Int) (s21 : Int) (ns44 : Nat) (s45 : Int) (s46 : Int) (o1_0 : List Nd) (o3 : List Int) (o44 : List Int) : Tr ((V66_1) ⊕ ((Bool) ⊕ V66_0)) :=
  (.cond (decide (s46 < s45))
   (.cond (decide (0 ≤ s46) && decide (s46 < (↑ns44 : Int)))
    (.cond (decide (s46.toNat < o44.length))
     (.cond (!F81 (o44.getD s46.toNat 0) 0 (IntKind.i64.wrap (s4 - 1)))
      (.leaf ((.inr (.inl (false)))))
      (.cond (decide (0 ≤ o44.getD s46.toNat 0) && decide (o44.getD s46.toNat 0 < (↑ns3 : Int)))
       (.cond (decide (Int.toNat (o44.getD s46.toNat 0) < o3.length))
        (.cond (decide (0 ≤ o44.getD s46.toNat 0) && decide (o44.getD s46.toNat 0 < (↑ns3 : Int)))
         (.cond (decide (Int.toNat (o44.getD s46.toNat 0) < o3.length))
          (.leaf ((.inl ((ns3), (s4), (s20), (s21), (ns44), (s45), (IntKind.i64.wrap (s46 + 1)), (o1_0), (o3.set (Int.toNat (o44.getD s46.toNat 0)) (IntKind.i64.wrap (o3.getD (Int.toNat (o44.getD s46.toNat 0)) 0 + 1))), (o44)))))
          .non)
         .non)
        .non)
       .non))
     .non)
    .non)
   (.leaf ((.inr (.inr (((ns3), (s20), (IntKind.i64.wrap (s21 + 1)), (o1_0), (o3))))))))
theorem step66_1 (m n0 n : Nat) (ns3 : Nat) (s4 : Int) (s20 : Int) (s21 : Int) (ns44 : Nat) (s45 : Int) (s46 : Int) (o1_0 : List Nd) (o3 : List Int) (o44 : List Int) : Lp66_1 m n0 (n + 1) (ns3, s4, s20, s21, ns44, s45, s46, o1_0, o3, o44) = (stp66_1 ns3 s4 s20 s21 ns44 s45 s46 o1_0 o3 o44).run (Sum.elim (Lp66_1 m n0 n) (Sum.elim (fun r => some (fr66 r)) (Lp66_0 m n0))) := by kernel_rfl
noncomputable def L66_1 (m : Nat) (K66_0 : V66_0 → Option (Bool)) : Nat → V66_1 → Option (Bool)
  | 0, _ => none
  | n + 1, v => (stp66_1 v.1 v.2.1 v.2.2.1 v.2.2.2.1 v.2.2.2.2.1 v.2.2.2.2.2.1 v.2.2.2.2.2.2.1 v.2.2.2.2.2.2.2.1 v.2.2.2.2.2.2.2.2.1 v.2.2.2.2.2.2.2.2.2).run (Sum.elim (fun v => L66_1 m K66_0 n v) (Sum.elim (fun r => some r) K66_0))
theorem lem66_1 (m n0 : Nat) (K66_0 : V66_0 → Option (Bool)) (h66_0 : ∀ v, Lp66_0 m n0 v = (K66_0 v).map fr66) : ∀ (n : Nat) (v : V66_1), Lp66_1 m n0 n v = (L66_1 m K66_0 n v).map fr66
  | 0, _ => rfl
  | n + 1, v => (step66_1 m n0 n v.1 v.2.1 v.2.2.1 v.2.2.2.1 v.2.2.2.2.1 v.2.2.2.2.2.1 v.2.2.2.2.2.2.1 v.2.2.2.2.2.2.2.1 v.2.2.2.2.2.2.2.2.1 v.2.2.2.2.2.2.2.2.2).trans (Tr.run_map (fun x => by
      rcases x with v | v | v
      · exact lem66_1 m n0 K66_0 h66_0 n v
      · exact rfl
      · exact h66_0 v) _)
noncomputable def stp66_0 (ns3 : Nat) (s20 : Int) (s21 : Int) (o1_0 : List Nd) (o3 : List Int) : Tr ((V66_0) ⊕ ((Bool) ⊕ V66_1)) :=
  (.cond (decide (s21 < s20))
   (.cond (decide (0 ≤ s21) && decide (s21 < (↑o1_0.length : Int)))
    (.cond ((tr124 (o1_0.getD s21.toNat ET.nd.dflt).k (o1_0.getD s21.toNat ET.nd.dflt).v).pre)
     (.cond (!F124 (o1_0.getD s21.toNat ET.nd.dflt).k (o1_0.getD s21.toNat ET.nd.dflt).v)
      (.leaf ((.inr (.inl (false)))))
      (.cond (!F125 (o1_0.getD s21.toNat ET.nd.dflt))
       (.leaf ((.inr (.inl (false)))))
       (.leaf ((.inr (.inr (((ns3), (s21), (s20), (s21), ((F97 (o1_0.getD s21.toNat ET.nd.dflt)).length), ((↑(F97 (o1_0.getD s21.toNat ET.nd.dflt)).length : Int)), (Int.ofNat 0), (o1_0), (o3), (F97 (o1_0.getD s21.toNat ET.nd.dflt))))))))))
     .non)
    .non)
   (.cond (decide (0 ≤ IntKind.i64.wrap ((↑ns3 : Int) - 1)) && decide (IntKind.i64.wrap ((↑ns3 : Int) - 1) < (↑ns3 : Int)))
    (.cond (decide ((IntKind.i64.wrap ((↑ns3 : Int) - 1)).toNat < o3.length))
     (.cond (o3.getD (IntKind.i64.wrap ((↑ns3 : Int) - 1)).toNat 0 == 0)
      (.cond (decide (0 ≤ IntKind.i64.wrap ((↑ns3 : Int) - 1)) && decide (IntKind.i64.wrap ((↑ns3 : Int) - 1) ≤ (↑ns3 : Int)))
       (.cond ((tr126_127 (List.take (IntKind.i64.wrap ((↑ns3 : Int) - 1)).toNat o3)).pre)
        (.leaf ((.inr (.inl (!F126_127 (List.take (IntKind.i64.wrap ((↑ns3 : Int) - 1)).toNat o3))))))
        .non)
       .non)
      (.leaf ((.inr (.inl (false))))))
     .non)
    .non))
theorem step66_0 (m n : Nat) (ns3 : Nat) (s20 : Int) (s21 : Int) (o1_0 : List Nd) (o3 : List Int) : Lp66_0 m (n + 1) (ns3, s20, s21, o1_0, o3) = (stp66_0 ns3 s20 s21 o1_0 o3).run (Sum.elim (Lp66_0 m n) (Sum.elim (fun r => some (fr66 r)) (Lp66_1 m n m))) := by kernel_rfl
noncomputable def L66_0 (m : Nat)  : Nat → V66_0 → Option (Bool)
  | 0, _ => none
  | n + 1, v => (stp66_0 v.1 v.2.1 v.2.2.1 v.2.2.2.1 v.2.2.2.2).run (Sum.elim (fun v => L66_0 m n v) (Sum.elim (fun r => some r) (L66_1 m (fun v => L66_0 m n v) m)))
theorem lem66_0 (m : Nat)   : ∀ (n : Nat) (v : V66_0), Lp66_0 m n v = (L66_0 m n v).map fr66
  | 0, _ => rfl
  | n + 1, v => (step66_0 m n v.1 v.2.1 v.2.2.1 v.2.2.2.1 v.2.2.2.2).trans (Tr.run_map (fun x => by
      rcases x with v | v | v
      · exact lem66_0 m n v
      · exact rfl
      · exact lem66_1 m n (fun v => L66_0 m n v) (fun v => lem66_0 m n v) m v) _)
noncomputable def seg66 (x0 : Shp) : Tr ((Bool) ⊕ V66_0) :=
  (.cond (!F81 (↑x0.nodes.length : Int) 1 16)
   (.leaf ((.inl (false))))
   (.cond (decide ((↑x0.nodes.length : Int) = (↑x0.nodes.length : Int)) && decide (0 ≤ (↑x0.nodes.length : Int)) && decide (x0.nodes.length * (8 + 1) ≤ limB))
    (.leaf ((.inr (((x0.nodes.length), ((↑x0.nodes.length : Int)), (Int.ofNat 0), (x0.nodes), (List.replicate x0.nodes.length 0))))))
    .non))
theorem evseg66 (m : Nat) (x0 : Shp) : evalF En66 m Tryz.f66 [.agg (enc .shp x0)] = (seg66 x0).run (Sum.elim (fun r => some (fr66 r)) (Lp66_0 m m)) := by kernel_rfl
noncomputable def S66 (m : Nat) (x0 : Shp) : Option (Bool) := (seg66 x0).run (Sum.elim (fun r => some r) (L66_0 m m))
theorem evS66 (m : Nat) (x0 : Shp) : evalF En66 m Tryz.f66 [.agg (enc .shp x0)] = (S66 m x0).map fr66 :=
  (evseg66 m x0).trans (Tr.run_map (fun x => by
    rcases x with v | v
    · exact rfl
    · exact lem66_0 m m v) _)

end Go.Proofs.YtponnbnebjhepaaGreat

namespace Go.Proofs.YtponnbnebjhepaaGreat
open Go Go.Ev
set_option maxRecDepth 100000

/-! Both programs mean the same by a valid shape. -/

theorem F81_eq (n a b : Int) : F81 n a b = decide (a ≤ n ∧ n ≤ b) := by
  unfold F81 tr81
  simp only [Tr.val, cond_true]
  by_cases h : n ≥ a
  · have h' : a ≤ n := h
    rw [dT h]; simp [h']
  · have h' : ¬ a ≤ n := h
    rw [dF h]; simp [h']

theorem all_and_all {α : Type} (l : List α) (p q : α → Bool) : (l.all p && l.all q) = l.all (fun x => p x && q x) := by
  induction l with
  | nil => rfl
  | cons x t ih =>
    simp only [List.all_cons]
    rw [← ih]
    cases p x <;> cases q x <;> cases t.all p <;> rfl

theorem F191_eq (l : List Nat) (h : l.length ≤ 70368744177664) : (tr191 l).pre = true ∧ F191 l = l.all F121 := by
  have hp : (tr192_254 l).pre = true := by
    unfold tr192_254
    simp only [Tr.pre]
    have : decide (l.length ≤ limB) = true := dT (by unfold limB; omega)
    rw [this]; rfl
  constructor
  · unfold tr191; simp only [Tr.pre, hp, cond_true]
  · unfold F191 tr191
    simp only [Tr.val, hp, cond_true]
    have e : F192_254 l = l.any F254 := by
      unfold F192_254 tr192_254
      have : decide (l.length ≤ limB) = true := dT (by unfold limB; omega)
      simp only [Tr.val, this, cond_true]
      have hf : ∀ k j, findN l k j = findI F254 0 l k j := by
        intro k
        induction k with
        | zero => intro j; rfl
        | succ k ih => intro j; simp only [findN, findI, ih]
      rw [hf]
      exact findI_all F254 0 l
    rw [e, List.not_any_eq_all_not]
    congr 1
    funext x
    show (!!F128 x) = F121 x
    rw [Bool.not_not]; rfl

theorem F192_193_eq (l : List Nat) (r : Ru) (h : l.length ≤ 70368744177664) : (tr192_193 l r).pre = true ∧ F192_193 l r = l.any (fun x => F193 x r) := by
  have hp : P255_193 l r = true := dT h
  constructor
  · unfold tr192_193; simp only [Tr.pre, hp, cond_true]
  · unfold F192_193 tr192_193
    simp only [Tr.val, hp, cond_true]
    exact findI_all _ 0 l

theorem kind_cases {k : Int} (h : 0 ≤ k ∧ k ≤ 16) : k = 0 ∨ k = 1 ∨ k = 2 ∨ k = 3 ∨ k = 4 ∨ k = 5 ∨ k = 6 ∨ k = 7 ∨ k = 8 ∨ k = 9 ∨ k = 10 ∨ k = 11 ∨ k = 12 ∨ k = 13 ∨ k = 14 ∨ k = 15 ∨ k = 16 := by omega

theorem kind_ne {k c : Int} (h : ¬ (0 ≤ k ∧ k ≤ 16)) (hc : 0 ≤ c ∧ c ≤ 16) : (k == c) = false := by
  rw [beq_eq_false_iff_ne]; intro e; subst e; exact h hc

theorem F175_out {k : Int} (h : ¬ (0 ≤ k ∧ k ≤ 16)) : F175 k = (⟨0, 0, false, 0⟩, false) := by
  unfold F175 tr175
  simp only [Tr.val, kind_ne h (c := 0) (by decide), kind_ne h (c := 1) (by decide), kind_ne h (c := 2) (by decide), kind_ne h (c := 3) (by decide), kind_ne h (c := 4) (by decide), kind_ne h (c := 5) (by decide),
    kind_ne h (c := 6) (by decide), kind_ne h (c := 7) (by decide), kind_ne h (c := 8) (by decide), kind_ne h (c := 9) (by decide), kind_ne h (c := 10) (by decide), kind_ne h (c := 11) (by decide),
    kind_ne h (c := 12) (by decide), kind_ne h (c := 13) (by decide), kind_ne h (c := 14) (by decide), kind_ne h (c := 15) (by decide), kind_ne h (c := 16) (by decide), cond_false]

/-- The rules of a kind. -/
theorem rule_of {k : Int} (h : 0 ≤ k ∧ k ≤ 16) : (F175 k).2 = true ∧ (F175 k).1.numbers = F252 k ∧ ∀ x, okNum k x = (F121 x && !F193 x (F175 k).1) := by
  rcases kind_cases h with rfl | rfl | rfl | rfl | rfl | rfl | rfl | rfl | rfl | rfl | rfl | rfl | rfl | rfl | rfl | rfl | rfl <;>
    exact ⟨rfl, rfl, fun x => by
      have e : ∀ a : Bool, (a && true) = a := fun a => by cases a <;> rfl
      first
        | (show (bif !F121 x then false else !fcmp .lss .f32 x 0) = (F121 x && !(bif fcmp .lss .f32 x 0 then true else false)); cases F121 x <;> cases fcmp .lss .f32 x 0 <;> rfl)
        | (show (bif !F121 x then false else !fcmp .leq .f32 x 0) = (F121 x && !fcmp .leq .f32 x 0); cases F121 x <;> rfl)
        | (show (bif !F121 x then false else true) = (F121 x && !false); cases F121 x <;> rfl)⟩

theorem F124_eq (k : Int) (l : List Nat) : (tr124 k l).pre = true ∧ F124 k l = (F78 k 0 16 && F185 k l) := by
  by_cases h : 0 ≤ k ∧ k ≤ 16
  · obtain ⟨h1, h2, h3⟩ := rule_of h
    have hk : F78 k 0 16 = true := by rw [F78_eq]; exact dT h
    rw [hk]
    unfold F124 tr124 F185
    simp only [Tr.pre, Tr.val, h1, h2, Bool.not_true, cond_false, Bool.true_and]
    by_cases hl : (l.length : Int) = F252 k
    · have hlen : l.length ≤ 70368744177664 := by have := (F252_le k).2; omega
      have hne : ((l.length : Int) != F252 k) = false := by simp [hl]
      obtain ⟨a1, a2⟩ := F191_eq l hlen
      obtain ⟨b1, b2⟩ := F192_193_eq l (F175 k).1 hlen
      rw [hne, dT hl, a1, a2, b1, b2]
      simp only [cond_false, cond_true, Bool.true_and]
      have key : l.all (okNum k) = (l.all F121 && !l.any (fun x => F193 x (F175 k).1)) := by
        rw [List.not_any_eq_all_not, all_and_all]
        congr 1
        funext x
        exact h3 x
      rw [key]
      cases l.all F121
      · exact ⟨rfl, rfl⟩
      · exact ⟨rfl, rfl⟩
    · have hne : ((l.length : Int) != F252 k) = true := by simp [hl]
      rw [hne, dF hl]
      exact ⟨rfl, rfl⟩
  · have hk : F78 k 0 16 = false := by rw [F78_eq]; exact dF h
    rw [hk]
    unfold F124 tr124
    simp only [Tr.pre, Tr.val, F175_out h, Bool.not_false, cond_true, Bool.false_and, and_self]

/-- The children of a node, by both programs. -/
theorem F97_eq {n : Nd} (h : 0 ≤ n.k ∧ n.k ≤ 16) : F97 n = if F119 n.k then [] else if F120 n.k then [n.a, n.b] else [n.a] := by
  unfold F97 tr97
  simp only [Tr.val, F175_ch, cond_true]
  obtain ⟨k, a, b, v⟩ := n
  simp only at h ⊢
  rcases kind_cases h with rfl | rfl | rfl | rfl | rfl | rfl | rfl | rfl | rfl | rfl | rfl | rfl | rfl | rfl | rfl | rfl | rfl <;> rfl

theorem node_eq (n : Nd) (i : Int) : (F124 n.k n.v && F125 n && (F97 n).all (fun c => F81 c 0 i)) = (F78 n.k 0 16 && F185 n.k n.v && (bif F119 n.k then (bif n.a == 0 then n.b == 0 else false) else bif !F78 n.a 0 i then false else bif F120 n.k then F78 n.b 0 i else bif F186 n.k then F78 n.b 0 2 else n.b == 0)) := by
  rw [(F124_eq n.k n.v).2]
  by_cases h : 0 ≤ n.k ∧ n.k ≤ 16
  · rw [F97_eq h]
    have hk : F78 n.k 0 16 = true := by rw [F78_eq]; exact dT h
    rw [hk, Bool.true_and]
    rw [Bool.and_assoc]
    congr 1
    obtain ⟨k, a, b, v⟩ := n
    simp only at h ⊢
    have e78 : ∀ x y z, F81 x y z = F78 x y z := fun x y z => by rw [F81_eq, F78_eq]
    simp only [e78]
    rcases kind_cases h with rfl | rfl | rfl | rfl | rfl | rfl | rfl | rfl | rfl | rfl | rfl | rfl | rfl | rfl | rfl | rfl | rfl <;>
      first
        | (show ((bif a == 0 then (bif b == 0 then true else false) else false) && true) = (bif a == 0 then b == 0 else false)
           cases a == 0 <;> cases b == 0 <;> rfl)
        | (show (true && (F78 a 0 i && (F78 b 0 i && true))) = (bif !F78 a 0 i then false else F78 b 0 i)
           cases F78 a 0 i <;> cases F78 b 0 i <;> rfl)
        | (show ((bif b == 0 then true else false) && (F78 a 0 i && true)) = (bif !F78 a 0 i then false else b == 0)
           cases F78 a 0 i <;> cases b == 0 <;> rfl)
        | (show ((bif b == 0 then true else F81 b 0 2) && (F78 a 0 i && true)) = (bif !F78 a 0 i then false else F78 b 0 2)
           rw [e78]
           cases hb : b == 0
           · cases F78 a 0 i <;> cases F78 b 0 2 <;> rfl
           · have : b = 0 := by simpa using hb
             subst this
             cases F78 a 0 i <;> rfl)
  · have hk : F78 n.k 0 16 = false := by rw [F78_eq]; exact dF h
    rw [hk]; rfl

theorem F118_eq (n : Nd) (i : Nat) (hi : i ≤ 16) : F118 n (i : Int) = (F124 n.k n.v && F125 n && (F97 n).all (fun c => F81 c 0 (IntKind.i64.wrap ((i : Int) - 1)))) := by
  rw [node_eq]
  unfold F118 tr118
  simp only [Tr.val]
  cases F78 n.k 0 16
  · rfl
  · cases F185 n.k n.v
    · rfl
    · cases F119 n.k
      · simp only [Bool.not_true, cond_false, Bool.true_and]
      · rfl

theorem foldl_bump {n : Nd} (h : 0 ≤ n.k ∧ n.k ≤ 16) (u : List Int) : (F97 n).foldl bump1 u = bump u n := by
  rw [F97_eq h]
  unfold bump
  by_cases h1 : F119 n.k = true
  · have h2 : F120 n.k = false := by
      rw [F119_eq] at h1; rw [F120_eq]
      have := of_decide_eq_true h1
      exact decide_eq_false (by omega)
    rw [if_pos h1, h1, h2]; rfl
  · rw [if_neg h1]
    have h1' : F119 n.k = false := by simpa using h1
    rw [h1']
    by_cases h2 : F120 n.k = true
    · rw [if_pos h2, h2]; rfl
    · have h2' : F120 n.k = false := by simpa using h2
      rw [if_neg h2, h2']; rfl

/-- The children in a row. -/
theorem loop66_1 (m : Nat) (K : V66_0 → Option Bool) (nodes : List Nd) (cs : List Int) (i : Nat) (hi : i < nodes.length) (hN : nodes.length ≤ 16) (hcs : cs.length ≤ 2) :
    ∀ (k j n : Nat) (u : List Int), j + k = cs.length → k < n → u.length = nodes.length →
      L66_1 m K n (nodes.length, (i : Int), (nodes.length : Int), (i : Int), cs.length, (cs.length : Int), (j : Int), nodes, u, cs) =
        bif (cs.drop j).all (fun c => F81 c 0 (IntKind.i64.wrap ((i : Int) - 1))) then K (nodes.length, (nodes.length : Int), ((i + 1 : Nat) : Int), nodes, (cs.drop j).foldl bump1 u) else some false
  | 0, j, n + 1, u, hj, _, _ => by
    rw [List.drop_eq_nil_of_le (by omega)]
    simp only [L66_1, stp66_1, Tr.run, dF (p := (j : Int) < cs.length) (by omega), cond_false, Sum.elim_inr, wrap_succ (n := i) (by omega), List.foldl_nil, List.all_nil, cond_true]
  | k + 1, j, n + 1, u, hj, hn, hu => by
    have hlt : j < cs.length := by omega
    have hd : cs.drop j = cs.getD j 0 :: cs.drop (j + 1) := by rw [List.drop_eq_getElem_cons hlt, getD_lt _ j _ hlt]
    rw [hd, List.foldl_cons, List.all_cons]
    simp only [L66_1, stp66_1, Tr.run, dT (p := (j : Int) < cs.length) (by omega), dT (p := (0 : Int) ≤ j) (by omega), Int.toNat_natCast, dT hlt, Bool.and_self, cond_true, wrap_succ (n := j) (by omega)]
    cases hc : F81 (cs.getD j 0) 0 (IntKind.i64.wrap ((i : Int) - 1))
    · rfl
    · rw [F81_eq, wrap_mid (by omega) (by omega)] at hc
      have hc := of_decide_eq_true hc
      have c1 := dT (p := (0 : Int) ≤ cs.getD j 0) hc.1
      have c2 := dT (p := cs.getD j 0 < (nodes.length : Int)) (by omega)
      have c3 := dT (p := (cs.getD j 0).toNat < u.length) (by omega)
      simp only [Bool.not_true, cond_false, c1, c2, c3, Bool.and_self, cond_true, Sum.elim_inl, Bool.true_and]
      exact loop66_1 m K nodes cs i hi hN hcs k (j + 1) n (bump1 u (cs.getD j 0)) (by omega) (by omega) (by rw [bump1_length, hu])

theorem F97_len (n : Nd) : (F97 n).length ≤ 2 := by
  unfold F97 tr97
  simp only [Tr.val, F175_ch2, cond_true]
  rw [List.length_take]
  exact Nat.min_le_right _ _

theorem bump1_getD {u : List Int} {c : Int} {j : Nat} (h : c.toNat ≠ j) : (bump1 u c).getD j 0 = u.getD j 0 := by
  unfold bump1
  simp only [List.getD_eq_getElem?_getD, List.getElem?_set]
  rw [if_neg h]

theorem foldl_bump1_high (i : Int) : ∀ (cs : List Int) (u : List Int) (j : Nat), cs.all (fun c => F81 c 0 i) = true → i < (j : Int) → (cs.foldl bump1 u).getD j 0 = u.getD j 0
  | [], _, _, _, _ => rfl
  | c :: t, u, j, h, hi => by
    rw [List.all_cons, Bool.and_eq_true, F81_eq] at h
    have hc := of_decide_eq_true h.1
    rw [List.foldl_cons, foldl_bump1_high i t _ j h.2 hi, bump1_getD (by omega)]

theorem kind_of_118 {n : Nd} {i : Nat} (hi : i ≤ 16) (h : F118 n (i : Int) = true) : 0 ≤ n.k ∧ n.k ≤ 16 := by
  have := F118_facts hi h
  exact ⟨this.1, this.2.1⟩

/-- The nodes in a row: what the program tells is what the reference tells. -/
theorem loop66_0 (m : Nat) (hm : 17 ≤ m) (nodes : List Nd) (hN : 1 ≤ nodes.length ∧ nodes.length ≤ 16) : ∀ (k j n : Nat) (u : List Int), j + k = nodes.length → k < n → u.length = nodes.length → (∀ p, j ≤ p + 1 → u.getD p 0 = 0) →
    L66_0 m n (nodes.length, (nodes.length : Int), (j : Int), nodes, u) = some (nodesOk nodes j k && usesOk ((nodes.drop j).foldl bump u) nodes.length)
  | 0, j, n + 1, u, hj, _, hu, hz => by
    rw [List.drop_eq_nil_of_le (by omega)]
    have hw : IntKind.i64.wrap ((nodes.length : Int) - 1) = ((nodes.length - 1 : Nat) : Int) := by rw [wrap_mid (by omega) (by omega)]; omega
    have c1 := dT (p := (0 : Int) ≤ ((nodes.length - 1 : Nat) : Int)) (by omega)
    have c2 := dT (p := ((nodes.length - 1 : Nat) : Int) < (nodes.length : Int)) (by omega)
    have c3 := dT (p := nodes.length - 1 < u.length) (by omega)
    have c4 := dT (p := ((nodes.length - 1 : Nat) : Int) ≤ (nodes.length : Int)) (by omega)
    simp only [L66_0, stp66_0, Tr.run, dF (p := (j : Int) < nodes.length) (by omega), cond_false, hw, c1, c2, c3, c4, Bool.and_self, cond_true, Int.toNat_natCast, List.foldl_nil]
    rw [hz (nodes.length - 1) (by omega)]
    have hlen : (u.take (nodes.length - 1)).length = nodes.length - 1 := by simp; omega
    have hp : P194_127 (u.take (nodes.length - 1)) = true := dT (by omega)
    have hpre : (tr126_127 (u.take (nodes.length - 1))).pre = true := by unfold tr126_127; simp only [Tr.pre, hp, cond_true]
    have hF : F126_127 (u.take (nodes.length - 1)) = (u.take (nodes.length - 1)).any F127 := by
      unfold F126_127 tr126_127
      simp only [Tr.val, hp, cond_true]
      exact findI_all F127 0 _
    rw [hpre, hF, List.not_any_eq_all_not]
    simp only [beq_self_eq_true, cond_true, Sum.elim_inr, Sum.elim_inl]
    have h0 : nodesOk nodes j 0 = true := rfl
    rw [h0, Bool.true_and]
    congr 1
    unfold usesOk
    rw [← all_range_getD (u.take (nodes.length - 1)) 0, hlen]
    rw [Bool.eq_iff_iff, List.all_eq_true, List.all_eq_true]
    have hg : ∀ x, x ∈ List.range (nodes.length - 1) → (!F127 ((u.take (nodes.length - 1)).getD x 0)) = (u.getD x 0 == 1) := by
      intro x hx
      have hx := List.mem_range.1 hx
      have e : (u.take (nodes.length - 1)).getD x 0 = u.getD x 0 := by simp [List.getD_eq_getElem?_getD, hx]
      rw [e]
      show (!(u.getD x 0 != 1)) = _
      unfold bne
      rw [Bool.not_not]
    exact ⟨fun h x hx => by rw [← hg x hx]; exact h x hx, fun h x hx => by rw [hg x hx]; exact h x hx⟩
  | k + 1, j, n + 1, u, hj, hn, hu, hz => by
    have hlt : j < nodes.length := by omega
    have hd : nodes.drop j = nodes.getD j ET.nd.dflt :: nodes.drop (j + 1) := by rw [List.drop_eq_getElem_cons hlt, getD_lt _ j _ hlt]
    rw [hd, List.foldl_cons]
    unfold nodesOk
    rw [List.range'_succ, List.all_cons]
    have hp := (F124_eq (nodes.getD j ET.nd.dflt).k (nodes.getD j ET.nd.dflt).v).1
    simp only [L66_0, stp66_0, Tr.run, dT (p := (j : Int) < nodes.length) (by omega), dT (p := (0 : Int) ≤ j) (by omega), Int.toNat_natCast, hp, Bool.and_self, cond_true]
    have hF := F118_eq (nodes.getD j ET.nd.dflt) j (by omega)
    cases h1 : F124 (nodes.getD j ET.nd.dflt).k (nodes.getD j ET.nd.dflt).v
    · rw [h1] at hF
      rw [hF]; rfl
    · rw [h1] at hF
      cases h2 : F125 (nodes.getD j ET.nd.dflt)
      · rw [h2] at hF
        rw [hF]; rfl
      · rw [h2] at hF
        simp only [Bool.not_true, cond_false, Sum.elim_inr]
        have hl2 := F97_len (nodes.getD j ET.nd.dflt)
        have key := loop66_1 m (fun v => L66_0 m n v) nodes (F97 (nodes.getD j ET.nd.dflt)) j hlt hN.2 hl2 (F97 (nodes.getD j ET.nd.dflt)).length 0 m u (by omega) (by omega) hu
        rw [List.drop_zero] at key
        rw [Int.ofNat_eq_natCast, key]
        rw [hF]
        cases h3 : (F97 (nodes.getD j ET.nd.dflt)).all (fun c => F81 c 0 (IntKind.i64.wrap ((j : Int) - 1)))
        · rfl
        · simp only [cond_true, Bool.and_self, Bool.true_and]
          have hk := kind_of_118 (i := j) (by omega) (by rw [hF, h3]; rfl)
          rw [foldl_bump hk]
          refine loop66_0 m hm nodes hN k (j + 1) n (bump u (nodes.getD j ET.nd.dflt)) (by omega) (by omega) (by rw [bump_length, hu]) (fun p hp => ?_)
          rw [← foldl_bump hk, foldl_bump1_high _ _ _ _ h3 (by rw [wrap_mid (by omega) (by omega)]; omega)]
          exact hz p (by omega)

noncomputable def F66 (s : Shp) : Bool := F60 s
theorem val66 (s : Shp) : ∃ m, S66 m s = some (F66 s) := by
  refine ⟨17, ?_⟩
  unfold F66 F60
  by_cases h : 1 ≤ s.nodes.length ∧ s.nodes.length ≤ 16
  · have h81 : F81 (s.nodes.length : Int) 1 16 = true := by rw [F81_eq]; exact dT (by omega)
    simp only [S66, seg66, Tr.run, h81, Bool.not_true, cond_false, dT (p := (s.nodes.length : Int) = s.nodes.length) rfl, dT (Int.natCast_nonneg _), dT (p := s.nodes.length * (8 + 1) ≤ limB) (by unfold limB; omega), Bool.and_self, cond_true, Sum.elim_inr,
      dT h.1, dT h.2, Bool.true_and]
    have := loop66_0 17 (by omega) s.nodes h s.nodes.length 0 17 (List.replicate s.nodes.length 0) (by omega) (by omega) (by simp) (fun p _ => by simp [List.getD_eq_getElem?_getD, List.getElem?_replicate]; split <;> rfl)
    simpa [uses] using this
  · have h81 : F81 (s.nodes.length : Int) 1 16 = false := by rw [F81_eq]; exact dF (by omega)
    simp only [S66, seg66, Tr.run, h81, Bool.not_false, cond_true, Sum.elim_inl]
    by_cases h1 : 1 ≤ s.nodes.length
    · have h2 : ¬ s.nodes.length ≤ 16 := fun h2 => h ⟨h1, h2⟩
      rw [dF h2]; simp
    · rw [dF h1]; simp

end Go.Proofs.YtponnbnebjhepaaGreat

namespace Go.Proofs.YtponnbnebjhepaaGreat
open Go Go.Ev
set_option maxRecDepth 100000

/-! What a valid shape is. -/
theorem F60_len {s : Shp} (h : F60 s = true) : 1 ≤ s.nodes.length ∧ s.nodes.length ≤ 16 := by
  unfold F60 at h
  simp only [Bool.and_eq_true, decide_eq_true_eq] at h
  exact ⟨h.1.1.1, h.1.1.2⟩
theorem F60_node {s : Shp} (h : F60 s = true) {j : Nat} (hj : j < s.nodes.length) : F118 (s.nodes.getD j ET.nd.dflt) (j : Int) = true := by
  unfold F60 nodesOk at h
  simp only [Bool.and_eq_true, List.all_eq_true] at h
  exact h.1.2 j (by rw [List.mem_range']; exact ⟨j, hj, by omega⟩)

theorem v_len {n : Nd} (h : F185 n.k n.v = true) : (n.v.length : Int) = F252 n.k := by
  unfold F185 at h
  simp only [Bool.and_eq_true, decide_eq_true_eq] at h
  exact h.1

/-! How much a distance can change. -/
noncomputable def facN (n : Nd) (o : List Nat) : Nat :=
  bif n.k == 4 then F238 ⟨n.v.getD 0 0, n.v.getD 1 0, n.v.getD 2 0⟩ else bif F120 n.k then F209 (o.getD n.a.toNat 0) (o.getD n.b.toNat 0) else
  bif n.k == 11 then fop .mul .f32 (o.getD n.a.toNat 0) (F209 (F209 (fop .quo .f32 1065353216 (n.v.getD 0 0)) (fop .quo .f32 1065353216 (n.v.getD 1 0))) (fop .quo .f32 1065353216 (n.v.getD 2 0))) else
  bif !F119 n.k then o.getD n.a.toNat 0 else 1065353216
noncomputable def facStep (o : List Nat) (n : Nd) : List Nat := o ++ [facN n o]
noncomputable def facs (l : List Nd) : List Nat := l.foldl facStep []
noncomputable def F277 (s : Shp) : Nat := (facs s.nodes).getD (s.nodes.length - 1) 0
noncomputable def P277 (s : Shp) : Bool := F60 s

theorem app_len {o : List Nat} {x : Nat} (h : o.length ≤ 15) : (decide True && decide ((o.length + [x].length) * (4 + 1) ≤ limB)) = true := by
  rw [dT trivial, dT (by simp only [List.length_cons, List.length_nil]; unfold limB; omega)]; rfl

theorem loop277 (m : Nat) (s : Shp) (hv : F60 s = true) : ∀ (k j n : Nat) (o : List Nat), j + k = s.nodes.length → k < n → o.length = j →
    L277_0 m n (s, o.length, (j : Int), o) = some (((s.nodes.drop j).foldl facStep o).getD (s.nodes.length - 1) 0)
  | 0, j, n + 1, o, hj, _, ho => by
    obtain ⟨h1, h2⟩ := F60_len hv
    rw [List.drop_eq_nil_of_le (by omega)]
    have hw : IntKind.i64.wrap ((o.length : Int) - 1) = ((o.length - 1 : Nat) : Int) := by rw [wrap_mid (by omega) (by omega)]; omega
    simp only [L277_0, stp277_0, Tr.run, dF (p := (j : Int) < s.nodes.length) (by omega), cond_false, hw, dT (p := (0 : Int) ≤ ((o.length - 1 : Nat) : Int)) (by omega), dT (p := ((o.length - 1 : Nat) : Int) < (o.length : Int)) (by omega),
      Int.toNat_natCast, dT (p := o.length - 1 < o.length) (by omega), Bool.and_self, cond_true, Sum.elim_inr, List.foldl_nil]
    rw [show o.length - 1 = s.nodes.length - 1 by omega]
  | k + 1, j, n + 1, o, hj, hn, ho => by
    obtain ⟨h1, h2⟩ := F60_len hv
    have hlt : j < s.nodes.length := by omega
    have hd : s.nodes.drop j = s.nodes.getD j ET.nd.dflt :: s.nodes.drop (j + 1) := by rw [List.drop_eq_getElem_cons hlt, getD_lt _ j _ hlt]
    rw [hd, List.foldl_cons]
    obtain ⟨f1, f2, f3, f4, f5, f6, f7⟩ := F118_facts (by omega) (F60_node hv hlt)
    have hlen := v_len f3
    have happ : ∀ x : Nat, (decide True && decide ((o.length + [x].length) * (4 + 1) ≤ limB)) = true := fun x => app_len (by omega)
    have ih := fun x => loop277 m s hv k (j + 1) n (o ++ [x]) (by omega) (by omega) (by simp [ho])
    simp only [L277_0, stp277_0, Tr.run, dT (p := (j : Int) < s.nodes.length) (by omega), dT (p := (0 : Int) ≤ j) (by omega), Int.toNat_natCast, Bool.and_self, cond_true, wrap_succ (n := j) (by omega)]
    rw [show facStep o (s.nodes.getD j ET.nd.dflt) = o ++ [facN (s.nodes.getD j ET.nd.dflt) o] from rfl]
    unfold facN
    cases c1 : (s.nodes.getD j ET.nd.dflt).k == 4
    · simp only [cond_false]
      cases c2 : F120 (s.nodes.getD j ET.nd.dflt).k
      · simp only [cond_false]
        cases c3 : (s.nodes.getD j ET.nd.dflt).k == 11
        · simp only [cond_false]
          cases c4 : F119 (s.nodes.getD j ET.nd.dflt).k
          · obtain ⟨a1, a2⟩ := f5 c4
            simp only [Bool.not_false, cond_true, dT a1, dT (p := (s.nodes.getD j ET.nd.dflt).a < (o.length : Int)) (by omega), dT (p := (s.nodes.getD j ET.nd.dflt).a.toNat < o.length) (by omega), Bool.and_self, happ, Sum.elim_inl]
            exact ih _
          · simp only [Bool.not_true, cond_false, cond_true, happ, Sum.elim_inl]
            exact ih _
        · have hk : (s.nodes.getD j ET.nd.dflt).k = 11 := by simpa using c3
          have hl3 : (s.nodes.getD j ET.nd.dflt).v.length = 3 := by
            rw [hk] at hlen
            have : F252 11 = 3 := rfl
            omega
          have c4 : F119 (s.nodes.getD j ET.nd.dflt).k = false := by rw [F119_eq, hk]; decide
          obtain ⟨a1, a2⟩ := f5 c4
          simp only [cond_true, dT a1, dT (p := (s.nodes.getD j ET.nd.dflt).a < (o.length : Int)) (by omega), dT (p := (s.nodes.getD j ET.nd.dflt).a.toNat < o.length) (by omega), Bool.and_self, happ, Sum.elim_inl, hl3,
            show (decide ((0 : Int) ≤ 0) && decide ((0 : Int) < ((3 : Nat) : Int))) = true from rfl, show (decide ((0 : Int) ≤ 1) && decide ((1 : Int) < ((3 : Nat) : Int))) = true from rfl, show (decide ((0 : Int) ≤ 2) && decide ((2 : Int) < ((3 : Nat) : Int))) = true from rfl]
          exact ih _
      · obtain ⟨b1, b2⟩ := f6 c2
        have c4 : F119 (s.nodes.getD j ET.nd.dflt).k = false := by
          rw [F120_eq] at c2; rw [F119_eq]
          have := of_decide_eq_true c2
          exact decide_eq_false (by omega)
        obtain ⟨a1, a2⟩ := f5 c4
        simp only [cond_true, dT a1, dT (p := (s.nodes.getD j ET.nd.dflt).a < (o.length : Int)) (by omega), dT (p := (s.nodes.getD j ET.nd.dflt).a.toNat < o.length) (by omega), dT b1, dT (p := (s.nodes.getD j ET.nd.dflt).b < (o.length : Int)) (by omega), dT (p := (s.nodes.getD j ET.nd.dflt).b.toNat < o.length) (by omega), Bool.and_self, happ, Sum.elim_inl]
        exact ih _
    · have hk : (s.nodes.getD j ET.nd.dflt).k = 4 := by simpa using c1
      have hl3 : (s.nodes.getD j ET.nd.dflt).v.length = 4 := by
        rw [hk] at hlen
        have : F252 4 = 4 := rfl
        omega
      simp only [cond_true, hl3, happ, Sum.elim_inl,
        show (decide ((0 : Int) ≤ 0) && decide ((0 : Int) < ((4 : Nat) : Int))) = true from rfl, show (decide ((0 : Int) ≤ 1) && decide ((1 : Int) < ((4 : Nat) : Int))) = true from rfl, show (decide ((0 : Int) ≤ 2) && decide ((2 : Int) < ((4 : Nat) : Int))) = true from rfl]
      exact ih _

theorem val277 (s : Shp) (h : P277 s = true) : ∃ m, S277 m s = some (F277 s) := by
  obtain ⟨h1, h2⟩ := F60_len h
  refine ⟨17, ?_⟩
  have := loop277 17 s h s.nodes.length 0 17 [] (by omega) (by omega) rfl
  simpa [S277, seg277, Tr.run, F277, facs] using this

end Go.Proofs.YtponnbnebjhepaaGreat

namespace Go.Proofs.YtponnbnebjhepaaGreat
open Go Go.Ev
set_option maxRecDepth 100000

/-! Words that both programs have alike. -/
noncomputable def rootF (x : Nat) : Nat := f2f .f64 (fsqrt (f2f .f32 x .f64)) .f32
theorem F269_eq (x : Nat) : F269 x = rootF x := by
  unfold F269 tr269
  have h : F278 (f2f .f32 x .f64) = fsqrt (f2f .f32 x .f64) := rfl
  simp only [Tr.val, h, narrow_sqrt, cond_true]; rfl
theorem F266_eq (x : Nat) : F266 x = rootF x := by
  unfold F266 tr266 F257 tr257
  have h : F278 (f2f .f32 x .f64) = fsqrt (f2f .f32 x .f64) := rfl
  simp only [Tr.val, Tr.pre, h, narrow_sqrt, cond_true]; rfl
theorem F248_eq (v : V3) : F248 v = F238 v := by
  show F269 (F155 v v) = F266 (F155 v v)
  rw [F269_eq, F266_eq]
theorem F227_eq (x y : Nat) : F227 x y = F209 x y := rfl
theorem F226_eq (x y : Nat) : F226 x y = F208 x y := rfl

theorem kids_len {n : Nd} (h : 0 ≤ n.k ∧ n.k ≤ 16) : (((F97 n).length : Int) == 1) = (!F119 n.k && !F120 n.k) ∧ (((F97 n).length : Int) == 2) = (!F119 n.k && F120 n.k) ∧ (((F97 n).length : Int) == 0) = F119 n.k := by
  rw [F97_eq h]
  cases F119 n.k <;> cases F120 n.k <;> exact ⟨rfl, rfl, rfl⟩

theorem kinds_apart {k c : Int} (hk : k = c) (h : ¬ (5 ≤ c ∧ c ≤ 8)) : F120 k = false := by rw [F120_eq, hk]; exact decide_eq_false h

theorem loop268 (m : Nat) (s : Shp) (hv : F60 s = true) : ∀ (k j n : Nat) (o : List Nat), j + k = s.nodes.length → k < n → o.length = j →
    L268_0 m n (s, o.length, (s.nodes.length : Int), (j : Int), o) = some (((s.nodes.drop j).foldl facStep o).getD (s.nodes.length - 1) 0)
  | 0, j, n + 1, o, hj, _, ho => by
    obtain ⟨h1, h2⟩ := F60_len hv
    rw [List.drop_eq_nil_of_le (by omega)]
    have hw : F101 ⟨s.nodes⟩ = ((o.length - 1 : Nat) : Int) := by
      show IntKind.i64.wrap ((s.nodes.length : Int) - 1) = _
      rw [wrap_mid (by omega) (by omega)]; omega
    simp only [L268_0, stp268_0, Tr.run, dF (p := (j : Int) < s.nodes.length) (by omega), cond_false, hw, dT (p := (0 : Int) ≤ ((o.length - 1 : Nat) : Int)) (by omega), dT (p := ((o.length - 1 : Nat) : Int) < (o.length : Int)) (by omega),
      Int.toNat_natCast, dT (p := o.length - 1 < o.length) (by omega), Bool.and_self, cond_true, Sum.elim_inr, List.foldl_nil]
    rw [show o.length - 1 = s.nodes.length - 1 by omega]
  | k + 1, j, n + 1, o, hj, hn, ho => by
    obtain ⟨h1, h2⟩ := F60_len hv
    have hlt : j < s.nodes.length := by omega
    have hd : s.nodes.drop j = s.nodes.getD j ET.nd.dflt :: s.nodes.drop (j + 1) := by rw [List.drop_eq_getElem_cons hlt, getD_lt _ j _ hlt]
    rw [hd, List.foldl_cons]
    obtain ⟨f1, f2, f3, f4, f5, f6, f7⟩ := F118_facts (by omega) (F60_node hv hlt)
    have hlen := v_len f3
    obtain ⟨g1, g2, g3⟩ := kids_len ⟨f1, f2⟩
    have happ : ∀ x : Nat, (decide True && decide ((o.length + [x].length) * (4 + 1) ≤ limB)) = true := fun x => app_len (by omega)
    have ih := fun x => loop268 m s hv k (j + 1) n (o ++ [x]) (by omega) (by omega) (by simp [ho])
    simp only [L268_0, stp268_0, Tr.run, dT (p := (j : Int) < s.nodes.length) (by omega), dT (p := (0 : Int) ≤ j) (by omega), Int.toNat_natCast, Bool.and_self, cond_true, wrap_succ (n := j) (by omega), F248_eq, F227_eq, g1, g2]
    rw [show facStep o (s.nodes.getD j ET.nd.dflt) = o ++ [facN (s.nodes.getD j ET.nd.dflt) o] from rfl]
    unfold facN
    cases c1 : (s.nodes.getD j ET.nd.dflt).k == 4
    · simp only [cond_false]
      cases c3 : (s.nodes.getD j ET.nd.dflt).k == 11
      · simp only [cond_false]
        cases c4 : F119 (s.nodes.getD j ET.nd.dflt).k
        · obtain ⟨a1, a2⟩ := f5 c4
          cases c2 : F120 (s.nodes.getD j ET.nd.dflt).k
          · simp only [Bool.not_false, Bool.and_self, cond_true, cond_false, dT a1, dT (p := (s.nodes.getD j ET.nd.dflt).a < (o.length : Int)) (by omega), dT (p := (s.nodes.getD j ET.nd.dflt).a.toNat < o.length) (by omega), happ, Sum.elim_inl]
            exact ih _
          · obtain ⟨b1, b2⟩ := f6 c2
            simp only [Bool.not_true, Bool.not_false, Bool.and_false, Bool.and_self, cond_true, cond_false, dT a1, dT (p := (s.nodes.getD j ET.nd.dflt).a < (o.length : Int)) (by omega), dT (p := (s.nodes.getD j ET.nd.dflt).a.toNat < o.length) (by omega), dT b1, dT (p := (s.nodes.getD j ET.nd.dflt).b < (o.length : Int)) (by omega), dT (p := (s.nodes.getD j ET.nd.dflt).b.toNat < o.length) (by omega), happ, Sum.elim_inl]
            exact ih _
        · have c2 : F120 (s.nodes.getD j ET.nd.dflt).k = false := by
            rw [F119_eq] at c4; rw [F120_eq]
            have := of_decide_eq_true c4
            exact decide_eq_false (by omega)
          simp only [c2, Bool.not_true, Bool.false_and, cond_false, happ, cond_true, Sum.elim_inl]
          exact ih _
      · have hk : (s.nodes.getD j ET.nd.dflt).k = 11 := by simpa using c3
        have hl3 : (s.nodes.getD j ET.nd.dflt).v.length = 3 := by
          rw [hk] at hlen
          have : F252 11 = 3 := rfl
          omega
        have c4 : F119 (s.nodes.getD j ET.nd.dflt).k = false := by rw [F119_eq, hk]; decide
        have c2 := kinds_apart hk (by decide)
        obtain ⟨a1, a2⟩ := f5 c4
        simp only [c2, cond_false, cond_true, dT a1, dT (p := (s.nodes.getD j ET.nd.dflt).a < (o.length : Int)) (by omega), dT (p := (s.nodes.getD j ET.nd.dflt).a.toNat < o.length) (by omega), Bool.and_self, happ, Sum.elim_inl, hl3,
          show (decide ((0 : Int) ≤ 0) && decide ((0 : Int) < ((3 : Nat) : Int))) = true from rfl, show (decide ((0 : Int) ≤ 1) && decide ((1 : Int) < ((3 : Nat) : Int))) = true from rfl, show (decide ((0 : Int) ≤ 2) && decide ((2 : Int) < ((3 : Nat) : Int))) = true from rfl]
        exact ih _
    · have hk : (s.nodes.getD j ET.nd.dflt).k = 4 := by simpa using c1
      have hl3 : (s.nodes.getD j ET.nd.dflt).v.length = 4 := by
        rw [hk] at hlen
        have : F252 4 = 4 := rfl
        omega
      simp only [cond_true, hl3, happ, Sum.elim_inl,
        show (decide ((0 : Int) ≤ 0) && decide ((0 : Int) < ((4 : Nat) : Int))) = true from rfl, show (decide ((0 : Int) ≤ 1) && decide ((1 : Int) < ((4 : Nat) : Int))) = true from rfl, show (decide ((0 : Int) ≤ 2) && decide ((2 : Int) < ((4 : Nat) : Int))) = true from rfl]
      exact ih _

noncomputable def F268 (s : Shp) : Nat := F277 s
noncomputable def P268 (s : Shp) : Bool := F60 s
theorem val268 (s : Shp) (h : P268 s = true) : ∃ m, S268 m s = some (F268 s) := by
  obtain ⟨h1, h2⟩ := F60_len h
  refine ⟨17, ?_⟩
  have := loop268 17 s h s.nodes.length 0 17 [] (by omega) (by omega) rfl
  simpa [S268, seg268, Tr.run, F268, F277, facs] using this

end Go.Proofs.YtponnbnebjhepaaGreat

namespace Go.Proofs.YtponnbnebjhepaaGreat
open Go Go.Ev
set_option maxRecDepth 100000

noncomputable def ent253 : List PV → Option (Bool × CRes)
  | [.ptr .nd x0 0, .agg [.f32 x1_0, .f32 x1_1, .f32 x1_2]] => some ((tr253 x0 (⟨x1_0, x1_1, x1_2⟩ : V3)).pre, fw253 (F253 x0 (⟨x1_0, x1_1, x1_2⟩ : V3)))
  | _ => none
theorem ok253 : EntSound Tryz.prog 253 ent253 := by
  refine entryW tab23_ok exts_ok (fun _ => []) (fn := Tryz.f253) (by kernel_rfl) (by kernel_rfl) (fun args c h => ?_)
  unfold ent253 at h
  split at h <;> first | (cases h; done) | skip
  rename_i x0 x1_0 x1_1 x1_2
  simp only [Option.some.injEq, Prod.mk.injEq] at h
  obtain ⟨hp, rfl⟩ := h
  exact ⟨0, _, (ev253 x0 (⟨x1_0, x1_1, x1_2⟩ : V3)).trans (Tr.ok _ _ hp), CLe.refl _⟩

noncomputable def ent66 : List PV → Option (Bool × CRes)
  | [.agg [.slice .nd x0_0]] => some (true, fw66 (F66 (⟨x0_0⟩ : Shp)))
  | _ => none
theorem ok66 : EntSound Tryz.prog 66 ent66 := by
  refine entryW tab23_ok exts_ok (fgOf 78 [(5, [1, 3, 20, 21]), (11, [1, 3, 4, 20, 21, 44, 45, 46])]) (fn := Tryz.f66) (by kernel_rfl) (by kernel_rfl) (fun args c h => ?_)
  unfold ent66 at h
  split at h <;> first | (cases h; done) | skip
  rename_i x0_0
  simp only [Option.some.injEq, Prod.mk.injEq] at h
  obtain ⟨hp, rfl⟩ := h
  obtain ⟨m, hv⟩ := val66 (⟨x0_0⟩ : Shp)
  exact ⟨m, fr66 (F66 (⟨x0_0⟩ : Shp)), (evS66 m (⟨x0_0⟩ : Shp)).trans (by rw [hv]; rfl), CLe.refl _⟩

noncomputable def ent277 : List PV → Option (Bool × CRes)
  | [.ptr .shp x0 0] => some (P277 x0, fw277 (F277 x0))
  | _ => none
theorem ok277 : EntSound Tryz.prog 277 ent277 := by
  refine entryW tab17_ok exts_ok (fgOf 131 [(3, [0, 3, 4])]) (fn := Tryz.f277) (by kernel_rfl) (by kernel_rfl) (fun args c h => ?_)
  unfold ent277 at h
  split at h <;> first | (cases h; done) | skip
  rename_i x0
  simp only [Option.some.injEq, Prod.mk.injEq] at h
  obtain ⟨hp, rfl⟩ := h
  obtain ⟨m, hv⟩ := val277 x0 hp
  exact ⟨m, fr277 (F277 x0), (evS277 m x0).trans (by rw [hv]; rfl), CLe.refl _⟩

noncomputable def ent268 : List PV → Option (Bool × CRes)
  | [.ptr .shp x0 0] => some (P268 x0, fw268 (F268 x0))
  | _ => none
theorem ok268 : EntSound Tryz.prog 268 ent268 := by
  refine entryW tab17_ok exts_ok (fgOf 128 [(3, [0, 3, 13, 14])]) (fn := Tryz.f268) (by kernel_rfl) (by kernel_rfl) (fun args c h => ?_)
  unfold ent268 at h
  split at h <;> first | (cases h; done) | skip
  rename_i x0
  simp only [Option.some.injEq, Prod.mk.injEq] at h
  obtain ⟨hp, rfl⟩ := h
  obtain ⟨m, hv⟩ := val268 x0 hp
  exact ⟨m, fr268 (F268 x0), (evS268 m x0).trans (by rw [hv]; rfl), CLe.refl _⟩

noncomputable def tab24 : Tab := ((268, ent268) :: ((277, ent277) :: ((66, ent66) :: ((253, ent253) :: tab23))))
theorem tab24_ok : TSound Tryz.prog (tabT tab24) := (tab_cons (tab_cons (tab_cons (tab_cons tab23_ok ok253) ok66) ok277) ok268)

end Go.Proofs.YtponnbnebjhepaaGreat

namespace Go.Proofs.YtponnbnebjhepaaGreat
open Go Go.Ev
set_option maxRecDepth 100000

/-! impl.ValidView -/
noncomputable def fr90 : (Bool) → CRes := (fun (x : Bool) => CRes.plain (.bool x))
noncomputable def fw90 : (Bool) → CRes := (fun (x : Bool) => CRes.plain (.bool x))
noncomputable def tr90 (x0 : Vw) : Tr (Bool) :=
  (.cond (F66 x0.shape)
   (.cond (F160 x0.cam)
    (.cond (F161 x0.march)
     (.leaf (F138 x0.light))
     (.leaf (false)))
    (.leaf (false)))
   (.leaf (false)))
theorem ev90 (x0 : Vw) : evalF (env tab24 exts (fun _ => [])) 0 Tryz.f90 [.agg (enc .vw x0)] = (tr90 x0).toOpt fr90 := by kernel_rfl
noncomputable def F90 (x0 : Vw) : Bool := (tr90 x0).val
theorem pre90 (x0 : Vw) : (tr90 x0).pre = true := by simp [tr90, Tr.pre]

/-! spec.FactorOf -/
noncomputable def fr265 : (Nat × Bool) → CRes := (fun (x : Nat × Bool) => CRes.plain (.tup [.f32 x.1, .bool x.2]))
noncomputable def fw265 : (Nat × Bool) → CRes := (fun (x : Nat × Bool) => CRes.plain (.tup [.f32 x.1, .bool x.2]))
noncomputable def tr265 (x0 : Shp) : Tr (Nat × Bool) :=
  (.cond (!F60 x0)
   (.leaf ((0, false)))
   (.cond (P277 x0)
    (.leaf ((F277 x0, true)))
    .non))
theorem ev265 (x0 : Shp) : evalF (env tab24 exts (fun _ => [])) 0 Tryz.f265 [.agg (enc .shp x0)] = (tr265 x0).toOpt fr265 := by kernel_rfl
noncomputable def F265 (x0 : Shp) : Nat × Bool := (tr265 x0).val

/-! spec.l02Points -/
noncomputable def fr187 : ((List V3)) → CRes := (fun (x : (List V3)) => CRes.own 52 .v3 x .hole)
noncomputable def fw187 : ((List V3)) → CRes := (fun (x : (List V3)) => CRes.own 52 .v3 x .hole)
noncomputable abbrev En187 : Env := env tab24 exts (fgOf 66 [(4, [0, 5, 6])])
abbrev V187_0 := Shp × Nat × Int × (List V3)
noncomputable def st187_0 (s0 : Shp) (ns5 : Nat) (s6 : Int) (o5 : List V3) : St := mkSt 66 [(0, .ptr .shp s0 0), (5, .lslice 5 0 .v3 ns5), (6, .int .i64 s6)] [(5, .elems 52 .v3 o5)]
noncomputable def Lp187_0 (m n : Nat) (v : V187_0) : Option CRes := loopN (evalC En187 m (cAt [1, 1, 1, 0, 1, 0, 0] (bodyOf Tryz.f187))) (allBut 66 [0, 5, 6]) n (st187_0 v.1 v.2.1 v.2.2.1 v.2.2.2) (runK En187 m (finF Tryz.prog Tryz.f187) [.bk 0, .sq (cAt [1, 1, 1, 1] (bodyOf Tryz.f187))])
noncomputable def stp187_0 (s0 : Shp) (ns5 : Nat) (s6 : Int) (o5 : List V3) : Tr ((V187_0) ⊕ (List V3)) :=
  (.cond (decide (s6 ≥ 0))
   (.cond (decide (0 ≤ s6) && decide (s6 < (↑s0.nodes.length : Int)))
    (.cond (F119 (s0.nodes.getD s6.toNat ET.nd.dflt).k)
     (.leaf ((.inl ((s0), (ns5), (IntKind.i64.wrap (s6 - 1)), (o5)))))
     (.cond (decide (0 ≤ s6) && decide (s6 < (↑ns5 : Int)))
      (.cond (decide (s6.toNat < o5.length))
       (.cond ((tr253 (s0.nodes.getD s6.toNat ET.nd.dflt) (o5.getD s6.toNat ET.v3.dflt)).pre)
        (.cond (decide (0 ≤ (s0.nodes.getD s6.toNat ET.nd.dflt).a) && decide ((s0.nodes.getD s6.toNat ET.nd.dflt).a < (↑ns5 : Int)))
         (.cond (decide ((s0.nodes.getD s6.toNat ET.nd.dflt).a.toNat < o5.length))
          (.cond (F120 (s0.nodes.getD s6.toNat ET.nd.dflt).k)
           (.cond (decide (0 ≤ s6) && decide (s6 < (↑ns5 : Int)))
            (.cond (decide (s6.toNat < (o5.set (s0.nodes.getD s6.toNat ET.nd.dflt).a.toNat (F253 (s0.nodes.getD s6.toNat ET.nd.dflt) (o5.getD s6.toNat ET.v3.dflt))).length))
             (.cond (decide (0 ≤ (s0.nodes.getD s6.toNat ET.nd.dflt).b) && decide ((s0.nodes.getD s6.toNat ET.nd.dflt).b < (↑ns5 : Int)))
              (.cond (decide ((s0.nodes.getD s6.toNat ET.nd.dflt).b.toNat < (o5.set (s0.nodes.getD s6.toNat ET.nd.dflt).a.toNat (F253 (s0.nodes.getD s6.toNat ET.nd.dflt) (o5.getD s6.toNat ET.v3.dflt))).length))
               (.leaf ((.inl ((s0), (ns5), (IntKind.i64.wrap (s6 - 1)), ((o5.set (s0.nodes.getD s6.toNat ET.nd.dflt).a.toNat (F253 (s0.nodes.getD s6.toNat ET.nd.dflt) (o5.getD s6.toNat ET.v3.dflt))).set (s0.nodes.getD s6.toNat ET.nd.dflt).b.toNat ((o5.set (s0.nodes.getD s6.toNat ET.nd.dflt).a.toNat (F253 (s0.nodes.getD s6.toNat ET.nd.dflt) (o5.getD s6.toNat ET.v3.dflt))).getD s6.toNat ET.v3.dflt))))))
               .non)
              .non)
             .non)
            .non)
           (.leaf ((.inl ((s0), (ns5), (IntKind.i64.wrap (s6 - 1)), (o5.set (s0.nodes.getD s6.toNat ET.nd.dflt).a.toNat (F253 (s0.nodes.getD s6.toNat ET.nd.dflt) (o5.getD s6.toNat ET.v3.dflt))))))))
          .non)
         .non)
        .non)
       .non)
      .non))
    .non)
   (.leaf ((.inr (((List.take ns5 o5)))))))
theorem step187_0 (m n : Nat) (s0 : Shp) (ns5 : Nat) (s6 : Int) (o5 : List V3) : Lp187_0 m (n + 1) (s0, ns5, s6, o5) = (stp187_0 s0 ns5 s6 o5).run (Sum.elim (Lp187_0 m n) (fun r => some (fr187 r))) := by kernel_rfl
noncomputable def L187_0 (m : Nat)  : Nat → V187_0 → Option ((List V3))
  | 0, _ => none
  | n + 1, v => (stp187_0 v.1 v.2.1 v.2.2.1 v.2.2.2).run (Sum.elim (fun v => L187_0 m n v) (fun r => some r))
theorem lem187_0 (m : Nat)   : ∀ (n : Nat) (v : V187_0), Lp187_0 m n v = (L187_0 m n v).map fr187
  | 0, _ => rfl
  | n + 1, v => (step187_0 m n v.1 v.2.1 v.2.2.1 v.2.2.2).trans (Tr.run_map (fun x => by
      rcases x with v | v
      · exact lem187_0 m n v
      · exact rfl) _)
noncomputable def seg187 (x0 : Shp) (x1 : V3) : Tr (((List V3)) ⊕ V187_0) :=
  (.cond (decide ((↑x0.nodes.length : Int) = (↑x0.nodes.length : Int)) && decide (0 ≤ (↑x0.nodes.length : Int)) && decide (x0.nodes.length * (12 + 1) ≤ limB))
   (.cond (decide (0 ≤ IntKind.i64.wrap ((↑x0.nodes.length : Int) - 1)) && decide (IntKind.i64.wrap ((↑x0.nodes.length : Int) - 1) < (↑x0.nodes.length : Int)))
    (.cond (decide ((IntKind.i64.wrap ((↑x0.nodes.length : Int) - 1)).toNat < (List.replicate x0.nodes.length { x := 0, y := 0, z := 0 : V3 }).length))
     (.leaf ((.inr (((x0), (x0.nodes.length), (IntKind.i64.wrap ((↑x0.nodes.length : Int) - 1)), ((List.replicate x0.nodes.length { x := 0, y := 0, z := 0 : V3 }).set (IntKind.i64.wrap ((↑x0.nodes.length : Int) - 1)).toNat x1))))))
     .non)
    .non)
   .non)
theorem evseg187 (m : Nat) (x0 : Shp) (x1 : V3) : evalF En187 m Tryz.f187 [.ptr .shp x0 0, .agg (enc .v3 x1)] = (seg187 x0 x1).run (Sum.elim (fun r => some (fr187 r)) (Lp187_0 m m)) := by kernel_rfl
noncomputable def S187 (m : Nat) (x0 : Shp) (x1 : V3) : Option ((List V3)) := (seg187 x0 x1).run (Sum.elim (fun r => some r) (L187_0 m m))
theorem evS187 (m : Nat) (x0 : Shp) (x1 : V3) : evalF En187 m Tryz.f187 [.ptr .shp x0 0, .agg (enc .v3 x1)] = (S187 m x0 x1).map fr187 :=
  (evseg187 m x0 x1).trans (Tr.run_map (fun x => by
    rcases x with v | v
    · exact rfl
    · exact lem187_0 m m v) _)

/-! (*impl.Shape).slope -/
noncomputable def fr245 : (Nat) → CRes := (fun (x : Nat) => CRes.plain (.f32 x))
noncomputable def fw245 : (Nat) → CRes := (fun (x : Nat) => CRes.plain (.f32 x))
noncomputable def tr245 (x0 : Shp) : Tr (Nat) :=
  (.cond (P268 x0)
   (.cond (fcmp BinOp.geq FloatKind.f32 (F268 x0) 1065353216)
    (.leaf (F268 x0))
    (.leaf (1065353216)))
   .non)
theorem ev245 (x0 : Shp) : evalF (env tab24 exts (fun _ => [])) 0 Tryz.f245 [.ptr .shp x0 0] = (tr245 x0).toOpt fr245 := by kernel_rfl
noncomputable def F245 (x0 : Shp) : Nat := (tr245 x0).val

end Go.Proofs.YtponnbnebjhepaaGreat

namespace Go.Proofs.YtponnbnebjhepaaGreat
open Go Go.Ev
set_option maxRecDepth 100000

/-! A valid shape is a tree: no node is twice a child. -/

theorem wrap_cnt {n : Int} (h0 : 0 ≤ n) (h1 : n ≤ 1000) : IntKind.i64.wrap n = n := Go.Ev.wrap_small h0 (by omega)

theorem foldl_bump1_count : ∀ (cs : List Int) (u : List Int) (c : Nat), (∀ x ∈ cs, 0 ≤ x ∧ x < u.length) → c < u.length → 0 ≤ u.getD c 0 → u.getD c 0 + cs.length ≤ 1000 →
    (cs.foldl bump1 u).getD c 0 = u.getD c 0 + cs.count (c : Int)
  | [], u, c, _, _, _, _ => by simp
  | x :: t, u, c, hx, hc, h0, h1 => by
    have hx0 := hx x (by simp)
    rw [List.foldl_cons, List.count_cons]
    simp only [List.length_cons] at h1
    push_cast at h1
    by_cases e : x = (c : Int)
    · subst e
      have hg : (bump1 u (c : Int)).getD c 0 = u.getD c 0 + 1 := by
        unfold bump1
        rw [Int.toNat_natCast, wrap_cnt (by omega) (by omega)]
        simp [List.getD_eq_getElem?_getD, hc]
      rw [foldl_bump1_count t _ c (fun y hy => by rw [bump1_length]; exact hx y (List.mem_cons_of_mem _ hy)) (by rw [bump1_length]; exact hc) (by rw [hg]; omega) (by rw [hg]; omega), hg]
      simp only [beq_self_eq_true, if_true]
      push_cast; omega
    · have hg : (bump1 u x).getD c 0 = u.getD c 0 := bump1_getD (by omega)
      rw [foldl_bump1_count t _ c (fun y hy => by rw [bump1_length]; exact hx y (List.mem_cons_of_mem _ hy)) (by rw [bump1_length]; exact hc) (by rw [hg]; omega) (by rw [hg]; omega), hg]
      have : (x == (c : Int)) = false := by simpa using e
      rw [this]
      simp

theorem foldl_nodes_count : ∀ (l : List Nd) (u : List Int) (c : Nat), (∀ n ∈ l, (0 ≤ n.k ∧ n.k ≤ 16) ∧ ∀ x ∈ F97 n, 0 ≤ x ∧ x < u.length) → c < u.length → 0 ≤ u.getD c 0 → u.getD c 0 + 2 * l.length ≤ 1000 →
    (l.foldl bump u).getD c 0 = u.getD c 0 + (l.flatMap F97).count (c : Int)
  | [], u, c, _, _, _, _ => by simp
  | n :: t, u, c, hn, hc, h0, h1 => by
    obtain ⟨hk, hx⟩ := hn n (by simp)
    rw [List.foldl_cons, ← foldl_bump hk, List.flatMap_cons, List.count_append]
    simp only [List.length_cons] at h1
    push_cast at h1
    have hl := F97_len n
    have e := foldl_bump1_count (F97 n) u c hx hc h0 (by omega)
    have hlen : ((F97 n).foldl bump1 u).length = u.length := by rw [foldl_bump hk, bump_length]
    have hcnt := List.count_le_length (a := (c : Int)) (l := F97 n)
    rw [foldl_nodes_count t _ c (fun m hm => by rw [hlen]; exact hn m (List.mem_cons_of_mem _ hm)) (by rw [hlen]; exact hc) (by rw [e]; omega) (by rw [e]; omega), e]
    push_cast; omega

theorem kids_facts {s : Shp} (h : F60 s = true) {i : Nat} (hi : i < s.nodes.length) : (0 ≤ (s.nodes.getD i ET.nd.dflt).k ∧ (s.nodes.getD i ET.nd.dflt).k ≤ 16) ∧ ∀ x ∈ F97 (s.nodes.getD i ET.nd.dflt), 0 ≤ x ∧ x < (i : Int) := by
  have hN := F60_len h
  have h118 := F60_node h hi
  have hk := kind_of_118 (by omega) h118
  refine ⟨hk, fun x hx => ?_⟩
  rw [F118_eq _ i (by omega), Bool.and_eq_true, List.all_eq_true] at h118
  have := h118.2 x hx
  rw [F81_eq, wrap_mid (by omega) (by omega)] at this
  have := of_decide_eq_true this
  omega

/-- No child twice. -/
theorem count_le {s : Shp} (h : F60 s = true) (c : Nat) : (s.nodes.flatMap F97).count (c : Int) ≤ 1 := by
  have hN := F60_len h
  by_cases hc : c < s.nodes.length - 1
  · have e := foldl_nodes_count s.nodes (List.replicate s.nodes.length 0) c (fun n hn => by
        obtain ⟨i, hi, rfl⟩ := List.getElem_of_mem hn
        have := kids_facts h hi
        rw [getD_lt _ _ _ hi] at this
        refine ⟨this.1, fun x hx => ?_⟩
        have := this.2 x hx
        simp only [List.length_replicate]
        omega) (by simp; omega) (by simp [List.getD_eq_getElem?_getD, List.getElem?_replicate]; split <;> simp) (by simp [List.getD_eq_getElem?_getD, List.getElem?_replicate]; split <;> simp <;> omega)
    have hu : (uses s.nodes).getD c 0 = 1 := by
      unfold F60 usesOk at h
      simp only [Bool.and_eq_true, List.all_eq_true] at h
      have := h.2 c (List.mem_range.2 hc)
      simpa using this
    unfold uses at hu
    rw [hu] at e
    have hz : (List.replicate s.nodes.length (0 : Int)).getD c 0 = 0 := by simp [List.getD_eq_getElem?_getD, List.getElem?_replicate]; split <;> rfl
    rw [hz] at e
    omega
  · -- the root is no child
    have : (s.nodes.flatMap F97).count (c : Int) = 0 := by
      rw [List.count_eq_zero]
      intro hm
      obtain ⟨n, hn, hx⟩ := List.mem_flatMap.1 hm
      obtain ⟨i, hi, rfl⟩ := List.getElem_of_mem hn
      have := (kids_facts h hi).2
      rw [getD_lt _ _ _ hi] at this
      have := this _ hx
      omega
    omega

theorem count_flatMap_two {α : Type} (f : α → List Int) (c : Int) : ∀ (l : List α) (i j : Nat) (hi : i < l.length) (hj : j < l.length), i < j → c ∈ f l[i] → c ∈ f l[j] → 2 ≤ (l.flatMap f).count c
  | [], i, _, hi, _, _, _, _ => absurd hi (by simp)
  | x :: t, 0, j + 1, _, hj, _, h1, h2 => by
    rw [List.flatMap_cons, List.count_append]
    have a1 : 1 ≤ (f x).count c := List.one_le_count_iff.2 h1
    have a2 : 1 ≤ (t.flatMap f).count c := List.one_le_count_iff.2 (List.mem_flatMap.2 ⟨t[j]'(by simpa using hj), List.getElem_mem _, h2⟩)
    omega
  | x :: t, i + 1, j + 1, hi, hj, hij, h1, h2 => by
    rw [List.flatMap_cons, List.count_append]
    have := count_flatMap_two f c t i j (by simpa using hi) (by simpa using hj) (by omega) h1 h2
    omega

theorem kids_apart {s : Shp} (h : F60 s = true) {i j : Nat} (hi : i < s.nodes.length) (hj : j < s.nodes.length) {c : Int} (h1 : c ∈ F97 (s.nodes.getD i ET.nd.dflt)) (h2 : c ∈ F97 (s.nodes.getD j ET.nd.dflt)) : i = j := by
  have hc := (kids_facts h hi).2 c h1
  obtain ⟨c', rfl⟩ : ∃ c' : Nat, c = (c' : Int) := ⟨c.toNat, by omega⟩
  have hle := count_le h c'
  rw [getD_lt _ _ _ hi] at h1
  rw [getD_lt _ _ _ hj] at h2
  rcases Nat.lt_trichotomy i j with hlt | he | hgt
  · have := count_flatMap_two F97 (c' : Int) s.nodes i j hi hj hlt h1 h2; omega
  · exact he
  · have := count_flatMap_two F97 (c' : Int) s.nodes j i hj hi hgt h2 h1; omega

theorem count_le_flatMap {α : Type} (f : α → List Int) (c : Int) : ∀ (l : List α) (i : Nat) (hi : i < l.length), (f l[i]).count c ≤ (l.flatMap f).count c
  | [], i, hi => absurd hi (by simp)
  | x :: t, 0, _ => by rw [List.flatMap_cons, List.count_append]; exact Nat.le_add_right _ _
  | x :: t, i + 1, hi => by
    rw [List.flatMap_cons, List.count_append]
    exact Nat.le_trans (count_le_flatMap f c t i (by simpa using hi)) (Nat.le_add_left _ _)

/-- Both children of a node are two. -/
theorem kids_two {s : Shp} (h : F60 s = true) {i : Nat} (hi : i < s.nodes.length) (ht : F120 (s.nodes.getD i ET.nd.dflt).k = true) : (s.nodes.getD i ET.nd.dflt).a ≠ (s.nodes.getD i ET.nd.dflt).b := by
  intro e
  obtain ⟨hk, hx⟩ := kids_facts h hi
  have hl : F119 (s.nodes.getD i ET.nd.dflt).k = false := by
    rw [F120_eq] at ht; rw [F119_eq]
    have := of_decide_eq_true ht
    exact decide_eq_false (by omega)
  have hF := F97_eq hk
  rw [hl, ht] at hF
  simp only [Bool.false_eq_true, if_false, if_true] at hF
  have ha := hx (s.nodes.getD i ET.nd.dflt).a (by rw [hF]; simp)
  have hc := count_le_flatMap F97 (s.nodes.getD i ET.nd.dflt).a s.nodes i hi
  rw [← getD_lt s.nodes i ET.nd.dflt hi, hF, ← e] at hc
  have hle := count_le h (s.nodes.getD i ET.nd.dflt).a.toNat
  rw [Int.toNat_of_nonneg ha.1] at hle
  have : [(s.nodes.getD i ET.nd.dflt).a, (s.nodes.getD i ET.nd.dflt).a].count (s.nodes.getD i ET.nd.dflt).a = 2 := by simp
  omega

end Go.Proofs.YtponnbnebjhepaaGreat

namespace Go.Proofs.YtponnbnebjhepaaGreat
open Go Go.Ev
set_option maxRecDepth 100000

/-! What goes down a tree, and what comes up. -/
section
variable {α β : Type}

noncomputable def ptStep (f : Nd → α → α) (d : α) (n : Nd) (j : Nat) (u : List α) : List α :=
  bif F119 n.k then u else bif F120 n.k then (u.set n.a.toNat (f n (u.getD j d))).set n.b.toNat ((u.set n.a.toNat (f n (u.getD j d))).getD j d) else u.set n.a.toNat (f n (u.getD j d))
noncomputable def goPts (f : Nd → α → α) (d : α) (nodes : List Nd) : Nat → List α → List α
  | 0, u => u
  | k + 1, u => goPts f d nodes k (ptStep f d (nodes.getD k ET.nd.dflt) k u)

theorem ptStep_length (f : Nd → α → α) (d : α) (n : Nd) (j : Nat) (u : List α) : (ptStep f d n j u).length = u.length := by
  unfold ptStep
  cases F119 n.k <;> cases F120 n.k <;> simp
theorem goPts_length (f : Nd → α → α) (d : α) (nodes : List Nd) : ∀ (k : Nat) (u : List α), (goPts f d nodes k u).length = u.length
  | 0, u => rfl
  | k + 1, u => by rw [goPts, goPts_length f d nodes k, ptStep_length]

theorem getD_set_ne {u : List α} {i j : Nat} {x d : α} (h : i ≠ j) : (u.set i x).getD j d = u.getD j d := by
  simp [List.getD_eq_getElem?_getD, List.getElem?_set, h]
theorem getD_set_eq {u : List α} {i : Nat} {x d : α} (h : i < u.length) : (u.set i x).getD i d = x := by
  simp [List.getD_eq_getElem?_getD, h]

/-- A node and its children, in a valid shape. -/
structure NodeAt (s : Shp) (i : Nat) : Prop where
  kind : 0 ≤ (s.nodes.getD i ET.nd.dflt).k ∧ (s.nodes.getD i ET.nd.dflt).k ≤ 16
  a : F119 (s.nodes.getD i ET.nd.dflt).k = false → 0 ≤ (s.nodes.getD i ET.nd.dflt).a ∧ (s.nodes.getD i ET.nd.dflt).a < (i : Int) ∧ (s.nodes.getD i ET.nd.dflt).a ∈ F97 (s.nodes.getD i ET.nd.dflt)
  b : F120 (s.nodes.getD i ET.nd.dflt).k = true → 0 ≤ (s.nodes.getD i ET.nd.dflt).b ∧ (s.nodes.getD i ET.nd.dflt).b < (i : Int) ∧ (s.nodes.getD i ET.nd.dflt).b ∈ F97 (s.nodes.getD i ET.nd.dflt)

theorem two_noleaf {k : Int} (h : F120 k = true) : F119 k = false := by
  rw [F120_eq] at h; rw [F119_eq]
  have := of_decide_eq_true h
  exact decide_eq_false (by omega)

theorem node_at {s : Shp} (h : F60 s = true) {i : Nat} (hi : i < s.nodes.length) : NodeAt s i := by
  obtain ⟨hk, hx⟩ := kids_facts h hi
  have hF := F97_eq hk
  refine ⟨hk, fun hl => ?_, fun ht => ?_⟩
  · have hm : (s.nodes.getD i ET.nd.dflt).a ∈ F97 (s.nodes.getD i ET.nd.dflt) := by
      rw [hF, hl]
      cases F120 (s.nodes.getD i ET.nd.dflt).k <;> simp
    have := hx _ hm
    exact ⟨this.1, this.2, hm⟩
  · have hl := two_noleaf ht
    have hm : (s.nodes.getD i ET.nd.dflt).b ∈ F97 (s.nodes.getD i ET.nd.dflt) := by rw [hF, hl, ht]; simp
    have := hx _ hm
    exact ⟨this.1, this.2, hm⟩

/-- What is known of the nodes from the k-th on. -/
def PtRel (f : Nd → α → α) (d : α) (s : Shp) (k : Nat) (u : List α) : Prop :=
  ∀ i, k ≤ i → i < s.nodes.length → F119 (s.nodes.getD i ET.nd.dflt).k = false →
    u.getD (s.nodes.getD i ET.nd.dflt).a.toNat d = f (s.nodes.getD i ET.nd.dflt) (u.getD i d) ∧ (F120 (s.nodes.getD i ET.nd.dflt).k = true → u.getD (s.nodes.getD i ET.nd.dflt).b.toNat d = u.getD i d)

theorem ptStep_high {f : Nd → α → α} {d : α} {s : Shp} (h : F60 s = true) {k : Nat} (hk : k < s.nodes.length) {u : List α} {i : Nat} (hi : k ≤ i) : (ptStep f d (s.nodes.getD k ET.nd.dflt) k u).getD i d = u.getD i d := by
  have hn := node_at h hk
  unfold ptStep
  cases hl : F119 (s.nodes.getD k ET.nd.dflt).k
  · obtain ⟨a1, a2, _⟩ := hn.a hl
    simp only [cond_false]
    cases ht : F120 (s.nodes.getD k ET.nd.dflt).k
    · simp only [cond_false]
      exact getD_set_ne (by omega)
    · obtain ⟨b1, b2, _⟩ := hn.b ht
      simp only [cond_true]
      rw [getD_set_ne (by omega), getD_set_ne (by omega)]
  · rfl

theorem ptStep_rel {f : Nd → α → α} {d : α} {s : Shp} (h : F60 s = true) {k : Nat} (hk : k < s.nodes.length) {u : List α} (hu : u.length = s.nodes.length) (hr : PtRel f d s (k + 1) u) : PtRel f d s k (ptStep f d (s.nodes.getD k ET.nd.dflt) k u) := by
  intro i hi hN hl
  rw [ptStep_high h hk hi]
  have hn := node_at h hk
  have hni := node_at h hN
  obtain ⟨a1, a2, a3⟩ := hni.a hl
  by_cases hik : i = k
  · subst hik
    unfold ptStep
    rw [hl]
    simp only [cond_false]
    cases ht : F120 (s.nodes.getD i ET.nd.dflt).k
    · simp only [cond_false]
      rw [getD_set_eq (by omega)]
      exact ⟨rfl, fun e => (by cases e)⟩
    · obtain ⟨b1, b2, b3⟩ := hni.b ht
      have hab := kids_two h hN ht
      simp only [cond_true]
      rw [getD_set_ne (by omega), getD_set_eq (by omega), getD_set_eq (by rw [List.length_set]; omega), getD_set_ne (by omega)]
      exact ⟨rfl, fun _ => rfl⟩
  · have hlt : k < i := by omega
    obtain ⟨r1, r2⟩ := hr i (by omega) hN hl
    -- the step turns no child of another node
    have keep : ∀ c, c ∈ F97 (s.nodes.getD i ET.nd.dflt) → 0 ≤ c → (ptStep f d (s.nodes.getD k ET.nd.dflt) k u).getD c.toNat d = u.getD c.toNat d := by
      intro c hc hc0
      have hne : ∀ c', c' ∈ F97 (s.nodes.getD k ET.nd.dflt) → 0 ≤ c' → c'.toNat ≠ c.toNat := by
        intro c' hc' hc0' e
        have : c' = c := by omega
        subst this
        exact hik (kids_apart h hN hk hc hc')
      unfold ptStep
      cases hlk : F119 (s.nodes.getD k ET.nd.dflt).k
      · obtain ⟨p1, p2, p3⟩ := hn.a hlk
        simp only [cond_false]
        cases htk : F120 (s.nodes.getD k ET.nd.dflt).k
        · simp only [cond_false]; exact getD_set_ne (hne _ p3 p1)
        · obtain ⟨q1, q2, q3⟩ := hn.b htk
          simp only [cond_true]
          rw [getD_set_ne (hne _ q3 q1), getD_set_ne (hne _ p3 p1)]
      · rfl
    refine ⟨by rw [keep _ a3 a1]; exact r1, fun ht => ?_⟩
    obtain ⟨b1, b2, b3⟩ := hni.b ht
    rw [keep _ b3 b1]
    exact r2 ht

theorem goPts_rel {f : Nd → α → α} {d : α} {s : Shp} (h : F60 s = true) : ∀ (k : Nat) (u : List α), k ≤ s.nodes.length → u.length = s.nodes.length → PtRel f d s k u →
    PtRel f d s 0 (goPts f d s.nodes k u) ∧ ∀ i, k ≤ i + 1 → (goPts f d s.nodes k u).getD i d = u.getD i d
  | 0, u, _, _, hr => ⟨hr, fun _ _ => rfl⟩
  | k + 1, u, hk, hu, hr => by
    have h1 := ptStep_rel h (k := k) (by omega) hu hr
    obtain ⟨g1, g2⟩ := goPts_rel h k _ (by omega) (by rw [ptStep_length, hu]) h1
    rw [goPts]
    refine ⟨g1, fun i hi => ?_⟩
    rw [g2 i (by omega), ptStep_high h (by omega) (by omega)]

/-! What comes up. -/
noncomputable def upN (lf : Nd → α → β) (m1 : Nd → β → β) (m2 : Nd → β → β → β) (d : β) (n : Nd) (p : α) (o : List β) : β :=
  bif F119 n.k then lf n p else bif F120 n.k then m2 n (o.getD n.a.toNat d) (o.getD n.b.toNat d) else m1 n (o.getD n.a.toNat d)
/-- The list of what the nodes give, from the first on. -/
noncomputable def upAll (lf : Nd → α → β) (m1 : Nd → β → β) (m2 : Nd → β → β → β) (d : β) (dp : α) (nodes : List Nd) (P : List α) : Nat → List β
  | 0 => []
  | j + 1 => upAll lf m1 m2 d dp nodes P j ++ [upN lf m1 m2 d (nodes.getD j ET.nd.dflt) (P.getD j dp) (upAll lf m1 m2 d dp nodes P j)]

theorem upAll_length (lf : Nd → α → β) (m1 : Nd → β → β) (m2 : Nd → β → β → β) (d : β) (dp : α) (nodes : List Nd) (P : List α) : ∀ j, (upAll lf m1 m2 d dp nodes P j).length = j
  | 0 => rfl
  | j + 1 => by rw [upAll, List.length_append, upAll_length]; rfl

theorem upAll_get (lf : Nd → α → β) (m1 : Nd → β → β) (m2 : Nd → β → β → β) (d : β) (dp : α) (nodes : List Nd) (P : List α) : ∀ j i, i < j → (upAll lf m1 m2 d dp nodes P j).getD i d = (upAll lf m1 m2 d dp nodes P (i + 1)).getD i d
  | 0, i, h => absurd h (by omega)
  | j + 1, i, h => by
    by_cases e : i = j
    · subst e; rfl
    · rw [upAll]
      have hl := upAll_length lf m1 m2 d dp nodes P j
      have : (upAll lf m1 m2 d dp nodes P j ++ [upN lf m1 m2 d (nodes.getD j ET.nd.dflt) (P.getD j dp) (upAll lf m1 m2 d dp nodes P j)]).getD i d = (upAll lf m1 m2 d dp nodes P j).getD i d := by
        simp only [List.getD_eq_getElem?_getD]
        rw [List.getElem?_append_left (by omega)]
      rw [this]
      exact upAll_get lf m1 m2 d dp nodes P j i (by omega)

/-- The same from the top down. -/
noncomputable def evF (f : Nd → α → α) (lf : Nd → α → β) (m1 : Nd → β → β) (m2 : Nd → β → β → β) (d : β) (nodes : List Nd) : Nat → Nat → α → β
  | 0, _, _ => d
  | q + 1, i, p =>
    bif F119 (nodes.getD i ET.nd.dflt).k then lf (nodes.getD i ET.nd.dflt) p else
    bif F120 (nodes.getD i ET.nd.dflt).k then m2 (nodes.getD i ET.nd.dflt) (evF f lf m1 m2 d nodes q (nodes.getD i ET.nd.dflt).a.toNat p) (evF f lf m1 m2 d nodes q (nodes.getD i ET.nd.dflt).b.toNat p) else
    m1 (nodes.getD i ET.nd.dflt) (evF f lf m1 m2 d nodes q (nodes.getD i ET.nd.dflt).a.toNat (f (nodes.getD i ET.nd.dflt) p))

theorem evF_fuel (f : Nd → α → α) (lf : Nd → α → β) (m1 : Nd → β → β) (m2 : Nd → β → β → β) (d : β) {s : Shp} (h : F60 s = true) : ∀ (q q' i : Nat) (p : α), i < s.nodes.length → i < q → i < q' →
    evF f lf m1 m2 d s.nodes q i p = evF f lf m1 m2 d s.nodes q' i p
  | 0, _, i, _, _, h1, _ => absurd h1 (by omega)
  | _ + 1, 0, i, _, _, _, h2 => absurd h2 (by omega)
  | q + 1, q' + 1, i, p, hi, h1, h2 => by
    have hn := node_at h hi
    rw [evF, evF]
    cases hl : F119 (s.nodes.getD i ET.nd.dflt).k
    · obtain ⟨a1, a2, _⟩ := hn.a hl
      simp only [cond_false]
      cases ht : F120 (s.nodes.getD i ET.nd.dflt).k
      · simp only [cond_false]
        rw [evF_fuel f lf m1 m2 d h q q' _ _ (by omega) (by omega) (by omega)]
      · obtain ⟨b1, b2, _⟩ := hn.b ht
        simp only [cond_true]
        rw [evF_fuel f lf m1 m2 d h q q' _ _ (by omega) (by omega) (by omega), evF_fuel f lf m1 m2 d h q q' (s.nodes.getD i ET.nd.dflt).b.toNat _ (by omega) (by omega) (by omega)]
    · rfl

theorem up_eq_down (f : Nd → α → α) (lf : Nd → α → β) (m1 : Nd → β → β) (m2 : Nd → β → β → β) (d : β) (dp : α) {s : Shp} (h : F60 s = true) (hf : ∀ n p, F120 n.k = true → f n p = p) (P : List α) (hP : PtRel f dp s 0 P) :
    ∀ (i : Nat), i < s.nodes.length → (upAll lf m1 m2 d dp s.nodes P (i + 1)).getD i d = evF f lf m1 m2 d s.nodes (i + 1) i (P.getD i dp) := by
  intro i
  induction i using Nat.strongRecOn with
  | ind i ih =>
    intro hi
    have hn := node_at h hi
    have hlen := upAll_length lf m1 m2 d dp s.nodes P i
    rw [upAll]
    have hlast : ∀ x : β, (upAll lf m1 m2 d dp s.nodes P i ++ [x]).getD i d = x := by
      intro x
      simp only [List.getD_eq_getElem?_getD]
      rw [List.getElem?_append_right (by omega), hlen, Nat.sub_self]; rfl
    rw [hlast]
    unfold upN
    rw [evF]
    cases hl : F119 (s.nodes.getD i ET.nd.dflt).k
    · obtain ⟨a1, a2, _⟩ := hn.a hl
      obtain ⟨r1, r2⟩ := hP i (by omega) hi hl
      have ea : (upAll lf m1 m2 d dp s.nodes P i).getD (s.nodes.getD i ET.nd.dflt).a.toNat d = evF f lf m1 m2 d s.nodes i (s.nodes.getD i ET.nd.dflt).a.toNat (f (s.nodes.getD i ET.nd.dflt) (P.getD i dp)) := by
        rw [upAll_get _ _ _ _ _ _ _ i _ (by omega), ih _ (by omega) (by omega), r1]
        exact evF_fuel f lf m1 m2 d h _ _ _ _ (by omega) (by omega) (by omega)
      simp only [cond_false]
      cases ht : F120 (s.nodes.getD i ET.nd.dflt).k
      · simp only [cond_false]; rw [ea]
      · obtain ⟨b1, b2, _⟩ := hn.b ht
        have eb : (upAll lf m1 m2 d dp s.nodes P i).getD (s.nodes.getD i ET.nd.dflt).b.toNat d = evF f lf m1 m2 d s.nodes i (s.nodes.getD i ET.nd.dflt).b.toNat (P.getD i dp) := by
          rw [upAll_get _ _ _ _ _ _ _ i _ (by omega), ih _ (by omega) (by omega), r2 ht]
          exact evF_fuel f lf m1 m2 d h _ _ _ _ (by omega) (by omega) (by omega)
        simp only [cond_true]
        rw [ea, eb, hf _ _ ht]
    · rfl

end
end Go.Proofs.YtponnbnebjhepaaGreat

namespace Go.Proofs.YtponnbnebjhepaaGreat
open Go Go.Ev
set_option maxRecDepth 100000

theorem pre273 (c s : Nat) : (tr273 c s).pre = true := by
  unfold tr273
  simp only [Tr.pre, narrow_even, cond_true]

theorem len_eq {n : Nd} {c : Int} (h : F185 n.k n.v = true) (hk : n.k = c) {l : Nat} (hl : F252 c = (l : Int)) : n.v.length = l := by
  have := v_len h
  rw [hk, hl] at this
  omega

theorem pre253 {n : Nd} (p : V3) (hk : 0 ≤ n.k ∧ n.k ≤ 16) (hv : F185 n.k n.v = true) : (tr253 n p).pre = true := by
  obtain ⟨k, a, b, v⟩ := n
  simp only at hk hv
  unfold tr253
  simp only [Tr.pre, pre273, cond_true]
  rcases kind_cases hk with rfl | rfl | rfl | rfl | rfl | rfl | rfl | rfl | rfl | rfl | rfl | rfl | rfl | rfl | rfl | rfl | rfl
  case inr.inr.inr.inr.inr.inr.inr.inr.inr.inl => rw [len_eq (n := ⟨9, a, b, v⟩) hv rfl (l := 3) rfl]; rfl
  case inr.inr.inr.inr.inr.inr.inr.inr.inr.inr.inl => rw [len_eq (n := ⟨10, a, b, v⟩) hv rfl (l := 1) rfl]; rfl
  case inr.inr.inr.inr.inr.inr.inr.inr.inr.inr.inr.inl => rw [len_eq (n := ⟨11, a, b, v⟩) hv rfl (l := 3) rfl]; rfl
  case inr.inr.inr.inr.inr.inr.inr.inr.inr.inr.inr.inr.inl => rw [len_eq (n := ⟨12, a, b, v⟩) hv rfl (l := 1) rfl]; rfl
  case inr.inr.inr.inr.inr.inr.inr.inr.inr.inr.inr.inr.inr.inr.inl => rw [len_eq (n := ⟨14, a, b, v⟩) hv rfl (l := 1) rfl]; rfl
  all_goals rfl

/-! l02Points -/
noncomputable def F187 (s : Shp) (p : V3) : List V3 := goPts F253 ET.v3.dflt s.nodes s.nodes.length ((List.replicate s.nodes.length (⟨0, 0, 0⟩ : V3)).set (s.nodes.length - 1) p)
noncomputable def P187 (s : Shp) (_ : V3) : Bool := F60 s

theorem loop187 (m : Nat) (s : Shp) (hv : F60 s = true) : ∀ (k n : Nat) (u : List V3), k ≤ s.nodes.length → k < n → u.length = s.nodes.length →
    L187_0 m n (s, s.nodes.length, (k : Int) - 1, u) = some (goPts F253 ET.v3.dflt s.nodes k u)
  | 0, n + 1, u, _, _, hu => by
    simp only [L187_0, stp187_0, Tr.run, dF (p := ((0 : Nat) : Int) - 1 ≥ 0) (by decide), cond_false, Sum.elim_inr, goPts]
    rw [← hu, List.take_length]
  | k + 1, n + 1, u, hk, hn, hu => by
    have hN := F60_len hv
    have hna := node_at hv (i := k) (by omega)
    obtain ⟨f1, f2, f3, _⟩ := F118_facts (by omega) (F60_node hv (j := k) (by omega))
    have hpre := fun p => pre253 (n := s.nodes.getD k ET.nd.dflt) p ⟨f1, f2⟩ f3
    have ek : ((k + 1 : Nat) : Int) - 1 = (k : Int) := by omega
    have ih := fun u' (h : u'.length = s.nodes.length) => loop187 m s hv k n u' (by omega) (by omega) h
    rw [ek, goPts]
    have hw : IntKind.i64.wrap ((k : Int) - 1) = (k : Int) - 1 := wrap_mid (by omega) (by omega)
    simp only [L187_0, stp187_0, Tr.run, dT (p := (k : Int) ≥ 0) (by omega), dT (p := (0 : Int) ≤ (k : Int)) (by omega), dT (p := (k : Int) < s.nodes.length) (by omega), dT (p := k < u.length) (by omega), Int.toNat_natCast, hw, hpre, Bool.and_self, cond_true]
    have hlen : ∀ x : List V3, x = ptStep F253 ET.v3.dflt (s.nodes.getD k ET.nd.dflt) k u → x.length = s.nodes.length := fun x hx => by rw [hx, ptStep_length, hu]
    unfold ptStep at hlen ⊢
    cases hl : F119 (s.nodes.getD k ET.nd.dflt).k
    · rw [hl] at hlen
      obtain ⟨a1, a2, _⟩ := hna.a hl
      simp only [cond_false, cond_true, dT a1, dT (p := (s.nodes.getD k ET.nd.dflt).a < (s.nodes.length : Int)) (by omega), dT (p := (s.nodes.getD k ET.nd.dflt).a.toNat < u.length) (by omega), Bool.and_self] at hlen ⊢
      cases ht : F120 (s.nodes.getD k ET.nd.dflt).k
      · rw [ht] at hlen
        simp only [cond_false, Sum.elim_inl] at hlen ⊢
        exact ih _ (hlen _ rfl)
      · rw [ht] at hlen
        obtain ⟨b1, b2, _⟩ := hna.b ht
        simp only [cond_true, List.length_set, dT b1, dT (p := (s.nodes.getD k ET.nd.dflt).b < (s.nodes.length : Int)) (by omega), dT (p := (s.nodes.getD k ET.nd.dflt).b.toNat < u.length) (by omega), dT (p := k < u.length) (by omega), Bool.and_self, Sum.elim_inl] at hlen ⊢
        exact ih _ (hlen _ rfl)
    · simp only [cond_true, Sum.elim_inl]
      exact ih u hu

theorem val187 (s : Shp) (p : V3) (h : P187 s p = true) : ∃ m, S187 m s p = some (F187 s p) := by
  have hN := F60_len h
  refine ⟨17, ?_⟩
  have hw : IntKind.i64.wrap ((s.nodes.length : Int) - 1) = ((s.nodes.length - 1 : Nat) : Int) := by rw [wrap_mid (by omega) (by omega)]; omega
  simp only [S187, seg187, Tr.run, dT (p := (s.nodes.length : Int) = s.nodes.length) rfl, dT (Int.natCast_nonneg _), dT (p := s.nodes.length * (12 + 1) ≤ limB) (by unfold limB; omega), hw, Bool.and_self, cond_true,
    dT (p := ((s.nodes.length - 1 : Nat) : Int) < (s.nodes.length : Int)) (by omega), Int.toNat_natCast, List.length_replicate, dT (p := s.nodes.length - 1 < s.nodes.length) (by omega), Sum.elim_inr]
  have := loop187 17 s h s.nodes.length 17 ((List.replicate s.nodes.length (⟨0, 0, 0⟩ : V3)).set (s.nodes.length - 1) p) (Nat.le_refl _) (by omega) (by simp)
  rw [show ((s.nodes.length : Nat) : Int) - 1 = ((s.nodes.length - 1 : Nat) : Int) by omega] at this
  exact this

end Go.Proofs.YtponnbnebjhepaaGreat

namespace Go.Proofs.YtponnbnebjhepaaGreat
open Go Go.Ev
set_option maxRecDepth 100000

noncomputable def ent90 : List PV → Option (Bool × CRes)
  | [.agg [.slice .nd x0_0, .f32 x0_1, .f32 x0_2, .f32 x0_3, .f32 x0_4, .f32 x0_5, .f32 x0_6, .f32 x0_7, .int .i64 x0_8, .int .i64 x0_9, .f32 x0_10, .f32 x0_11, .f32 x0_12, .f32 x0_13, .f32 x0_14, .int .i64 x0_15]] => some (true, fw90 (F90 (⟨⟨x0_0⟩, ⟨⟨x0_1, x0_2, x0_3⟩, ⟨x0_4, x0_5, x0_6⟩, x0_7, x0_8, x0_9⟩, ⟨x0_10, x0_11, x0_12⟩, ⟨x0_13, x0_14, x0_15⟩⟩ : Vw)))
  | _ => none
theorem ok90 : EntSound Tryz.prog 90 ent90 := by
  refine entryW tab24_ok exts_ok (fun _ => []) (fn := Tryz.f90) (by kernel_rfl) (by kernel_rfl) (fun args c h => ?_)
  unfold ent90 at h
  split at h <;> first | (cases h; done) | skip
  rename_i x0_0 x0_1 x0_2 x0_3 x0_4 x0_5 x0_6 x0_7 x0_8 x0_9 x0_10 x0_11 x0_12 x0_13 x0_14 x0_15
  simp only [Option.some.injEq, Prod.mk.injEq] at h
  obtain ⟨hp, rfl⟩ := h
  exact ⟨0, _, (ev90 (⟨⟨x0_0⟩, ⟨⟨x0_1, x0_2, x0_3⟩, ⟨x0_4, x0_5, x0_6⟩, x0_7, x0_8, x0_9⟩, ⟨x0_10, x0_11, x0_12⟩, ⟨x0_13, x0_14, x0_15⟩⟩ : Vw)).trans (Tr.ok _ _ (pre90 (⟨⟨x0_0⟩, ⟨⟨x0_1, x0_2, x0_3⟩, ⟨x0_4, x0_5, x0_6⟩, x0_7, x0_8, x0_9⟩, ⟨x0_10, x0_11, x0_12⟩, ⟨x0_13, x0_14, x0_15⟩⟩ : Vw))), CLe.refl _⟩

noncomputable def ent265 : List PV → Option (Bool × CRes)
  | [.agg [.slice .nd x0_0]] => some ((tr265 (⟨x0_0⟩ : Shp)).pre, fw265 (F265 (⟨x0_0⟩ : Shp)))
  | _ => none
theorem ok265 : EntSound Tryz.prog 265 ent265 := by
  refine entryW tab24_ok exts_ok (fun _ => []) (fn := Tryz.f265) (by kernel_rfl) (by kernel_rfl) (fun args c h => ?_)
  unfold ent265 at h
  split at h <;> first | (cases h; done) | skip
  rename_i x0_0
  simp only [Option.some.injEq, Prod.mk.injEq] at h
  obtain ⟨hp, rfl⟩ := h
  exact ⟨0, _, (ev265 (⟨x0_0⟩ : Shp)).trans (Tr.ok _ _ hp), CLe.refl _⟩

noncomputable def ent187 : List PV → Option (Bool × CRes)
  | [.ptr .shp x0 0, .agg [.f32 x1_0, .f32 x1_1, .f32 x1_2]] => some (P187 x0 (⟨x1_0, x1_1, x1_2⟩ : V3), fw187 (F187 x0 (⟨x1_0, x1_1, x1_2⟩ : V3)))
  | _ => none
theorem ok187 : EntSound Tryz.prog 187 ent187 := by
  refine entryW tab24_ok exts_ok (fgOf 66 [(4, [0, 5, 6])]) (fn := Tryz.f187) (by kernel_rfl) (by kernel_rfl) (fun args c h => ?_)
  unfold ent187 at h
  split at h <;> first | (cases h; done) | skip
  rename_i x0 x1_0 x1_1 x1_2
  simp only [Option.some.injEq, Prod.mk.injEq] at h
  obtain ⟨hp, rfl⟩ := h
  obtain ⟨m, hv⟩ := val187 x0 (⟨x1_0, x1_1, x1_2⟩ : V3) hp
  exact ⟨m, fr187 (F187 x0 (⟨x1_0, x1_1, x1_2⟩ : V3)), (evS187 m x0 (⟨x1_0, x1_1, x1_2⟩ : V3)).trans (by rw [hv]; rfl), CLe.refl _⟩

noncomputable def ent245 : List PV → Option (Bool × CRes)
  | [.ptr .shp x0 0] => some ((tr245 x0).pre, fw245 (F245 x0))
  | _ => none
theorem ok245 : EntSound Tryz.prog 245 ent245 := by
  refine entryW tab24_ok exts_ok (fun _ => []) (fn := Tryz.f245) (by kernel_rfl) (by kernel_rfl) (fun args c h => ?_)
  unfold ent245 at h
  split at h <;> first | (cases h; done) | skip
  rename_i x0
  simp only [Option.some.injEq, Prod.mk.injEq] at h
  obtain ⟨hp, rfl⟩ := h
  exact ⟨0, _, (ev245 x0).trans (Tr.ok _ _ hp), CLe.refl _⟩

noncomputable def tab25 : Tab := ((245, ent245) :: ((187, ent187) :: ((265, ent265) :: ((90, ent90) :: tab24))))
theorem tab25_ok : TSound Tryz.prog (tabT tab25) := (tab_cons (tab_cons (tab_cons (tab_cons tab24_ok ok90) ok265) ok187) ok245)

end Go.Proofs.YtponnbnebjhepaaGreat

namespace Go.Proofs.YtponnbnebjhepaaGreat
open Go Go.Ev
set_option maxRecDepth 100000

/-! spec.l02All -/
noncomputable def fr122 : ((List Nat)) → CRes := (fun (x : (List Nat)) => CRes.own 26 .f32 x .hole)
noncomputable def fw122 : ((List Nat)) → CRes := (fun (x : (List Nat)) => CRes.own 26 .f32 x .hole)
noncomputable abbrev En122 : Env := env tab25 exts (fgOf 81 [(4, [0, 5, 6, 7])])
abbrev V122_0 := Shp × Nat × Nat × Int × (List V3) × (List Nat)
noncomputable def st122_0 (s0 : Shp) (ns5 : Nat) (ns6 : Nat) (s7 : Int) (o5 : List V3) (o6 : List Nat) : St := mkSt 81 [(0, .ptr .shp s0 0), (5, .lslice 5 0 .v3 ns5), (6, .lslice 6 0 .f32 ns6), (7, .int .i64 s7)] [(5, .elems 52 .v3 o5), (6, .elems 26 .f32 o6)]
noncomputable def Lp122_0 (m n : Nat) (v : V122_0) : Option CRes := loopN (evalC En122 m (cAt [1, 1, 1, 0, 1, 0, 0] (bodyOf Tryz.f122))) (allBut 81 [0, 5, 6, 7]) n (st122_0 v.1 v.2.1 v.2.2.1 v.2.2.2.1 v.2.2.2.2.1 v.2.2.2.2.2) (runK En122 m (finF Tryz.prog Tryz.f122) [.bk 0, .sq (cAt [1, 1, 1, 1] (bodyOf Tryz.f122))])
noncomputable def stp122_0 (s0 : Shp) (ns5 : Nat) (ns6 : Nat) (s7 : Int) (o5 : List V3) (o6 : List Nat) : Tr ((V122_0) ⊕ (List Nat)) :=
  (.cond (decide (s7 < (↑s0.nodes.length : Int)))
   (.cond (decide (0 ≤ s7) && decide (s7 < (↑s0.nodes.length : Int)))
    (.cond (F119 (s0.nodes.getD s7.toNat ET.nd.dflt).k)
     (.cond (decide (0 ≤ s7) && decide (s7 < (↑ns5 : Int)))
      (.cond (decide (s7.toNat < o5.length))
       (.cond ((tr188 (s0.nodes.getD s7.toNat ET.nd.dflt) (o5.getD s7.toNat ET.v3.dflt)).pre)
        (.cond (decide (ns6 = o6.length) && decide ((ns6 + [F188 (s0.nodes.getD s7.toNat ET.nd.dflt) (o5.getD s7.toNat ET.v3.dflt)].length) * (4 + 1) ≤ limB))
         (.leaf ((.inl ((s0), (ns5), ((o6 ++ [F188 (s0.nodes.getD s7.toNat ET.nd.dflt) (o5.getD s7.toNat ET.v3.dflt)]).length), (IntKind.i64.wrap (s7 + 1)), (o5), (o6 ++ [F188 (s0.nodes.getD s7.toNat ET.nd.dflt) (o5.getD s7.toNat ET.v3.dflt)])))))
         .non)
        .non)
       .non)
      .non)
     (.cond (F120 (s0.nodes.getD s7.toNat ET.nd.dflt).k)
      (.cond (decide (0 ≤ (s0.nodes.getD s7.toNat ET.nd.dflt).a) && decide ((s0.nodes.getD s7.toNat ET.nd.dflt).a < (↑ns6 : Int)))
       (.cond (decide ((s0.nodes.getD s7.toNat ET.nd.dflt).a.toNat < o6.length))
        (.cond (decide (0 ≤ (s0.nodes.getD s7.toNat ET.nd.dflt).b) && decide ((s0.nodes.getD s7.toNat ET.nd.dflt).b < (↑ns6 : Int)))
         (.cond (decide ((s0.nodes.getD s7.toNat ET.nd.dflt).b.toNat < o6.length))
          (.cond ((tr189 (s0.nodes.getD s7.toNat ET.nd.dflt) (o6.getD (s0.nodes.getD s7.toNat ET.nd.dflt).a.toNat 0) (o6.getD (s0.nodes.getD s7.toNat ET.nd.dflt).b.toNat 0)).pre)
           (.cond (decide (ns6 = o6.length) && decide ((ns6 + [F189 (s0.nodes.getD s7.toNat ET.nd.dflt) (o6.getD (s0.nodes.getD s7.toNat ET.nd.dflt).a.toNat 0) (o6.getD (s0.nodes.getD s7.toNat ET.nd.dflt).b.toNat 0)].length) * (4 + 1) ≤ limB))
            (.leaf ((.inl ((s0), (ns5), ((o6 ++ [F189 (s0.nodes.getD s7.toNat ET.nd.dflt) (o6.getD (s0.nodes.getD s7.toNat ET.nd.dflt).a.toNat 0) (o6.getD (s0.nodes.getD s7.toNat ET.nd.dflt).b.toNat 0)]).length), (IntKind.i64.wrap (s7 + 1)), (o5), (o6 ++ [F189 (s0.nodes.getD s7.toNat ET.nd.dflt) (o6.getD (s0.nodes.getD s7.toNat ET.nd.dflt).a.toNat 0) (o6.getD (s0.nodes.getD s7.toNat ET.nd.dflt).b.toNat 0)])))))
            .non)
           .non)
          .non)
         .non)
        .non)
       .non)
      (.cond (decide (0 ≤ (s0.nodes.getD s7.toNat ET.nd.dflt).a) && decide ((s0.nodes.getD s7.toNat ET.nd.dflt).a < (↑ns6 : Int)))
       (.cond (decide ((s0.nodes.getD s7.toNat ET.nd.dflt).a.toNat < o6.length))
        (.cond ((tr189 (s0.nodes.getD s7.toNat ET.nd.dflt) (o6.getD (s0.nodes.getD s7.toNat ET.nd.dflt).a.toNat 0) 0).pre)
         (.cond (decide (ns6 = o6.length) && decide ((ns6 + [F189 (s0.nodes.getD s7.toNat ET.nd.dflt) (o6.getD (s0.nodes.getD s7.toNat ET.nd.dflt).a.toNat 0) 0].length) * (4 + 1) ≤ limB))
          (.leaf ((.inl ((s0), (ns5), ((o6 ++ [F189 (s0.nodes.getD s7.toNat ET.nd.dflt) (o6.getD (s0.nodes.getD s7.toNat ET.nd.dflt).a.toNat 0) 0]).length), (IntKind.i64.wrap (s7 + 1)), (o5), (o6 ++ [F189 (s0.nodes.getD s7.toNat ET.nd.dflt) (o6.getD (s0.nodes.getD s7.toNat ET.nd.dflt).a.toNat 0) 0])))))
          .non)
         .non)
        .non)
       .non)))
    .non)
   (.leaf ((.inr (((List.take ns6 o6)))))))
theorem step122_0 (m n : Nat) (s0 : Shp) (ns5 : Nat) (ns6 : Nat) (s7 : Int) (o5 : List V3) (o6 : List Nat) : Lp122_0 m (n + 1) (s0, ns5, ns6, s7, o5, o6) = (stp122_0 s0 ns5 ns6 s7 o5 o6).run (Sum.elim (Lp122_0 m n) (fun r => some (fr122 r))) := by kernel_rfl
noncomputable def L122_0 (m : Nat)  : Nat → V122_0 → Option ((List Nat))
  | 0, _ => none
  | n + 1, v => (stp122_0 v.1 v.2.1 v.2.2.1 v.2.2.2.1 v.2.2.2.2.1 v.2.2.2.2.2).run (Sum.elim (fun v => L122_0 m n v) (fun r => some r))
theorem lem122_0 (m : Nat)   : ∀ (n : Nat) (v : V122_0), Lp122_0 m n v = (L122_0 m n v).map fr122
  | 0, _ => rfl
  | n + 1, v => (step122_0 m n v.1 v.2.1 v.2.2.1 v.2.2.2.1 v.2.2.2.2.1 v.2.2.2.2.2).trans (Tr.run_map (fun x => by
      rcases x with v | v
      · exact lem122_0 m n v
      · exact rfl) _)
noncomputable def seg122 (x0 : Shp) (x1 : V3) : Tr (((List Nat)) ⊕ V122_0) :=
  (.cond (P187 x0 x1)
   (.leaf ((.inr (((x0), ((F187 x0 x1).length), (0), (Int.ofNat 0), (F187 x0 x1), (List.replicate 0 0))))))
   .non)
theorem evseg122 (m : Nat) (x0 : Shp) (x1 : V3) : evalF En122 m Tryz.f122 [.ptr .shp x0 0, .agg (enc .v3 x1)] = (seg122 x0 x1).run (Sum.elim (fun r => some (fr122 r)) (Lp122_0 m m)) := by kernel_rfl
noncomputable def S122 (m : Nat) (x0 : Shp) (x1 : V3) : Option ((List Nat)) := (seg122 x0 x1).run (Sum.elim (fun r => some r) (L122_0 m m))
theorem evS122 (m : Nat) (x0 : Shp) (x1 : V3) : evalF En122 m Tryz.f122 [.ptr .shp x0 0, .agg (enc .v3 x1)] = (S122 m x0 x1).map fr122 :=
  (evseg122 m x0 x1).trans (Tr.run_map (fun x => by
    rcases x with v | v
    · exact rfl
    · exact lem122_0 m m v) _)

/-! spec.l03Slope -/
noncomputable def fr236 : (Nat) → CRes := (fun (x : Nat) => CRes.plain (.f32 x))
noncomputable def fw236 : (Nat) → CRes := (fun (x : Nat) => CRes.plain (.f32 x))
noncomputable def tr236 (x0 : Shp) : Tr (Nat) :=
  (.cond ((tr265 x0).pre)
   (.cond (!(F265 x0).snd)
    (.leaf (1065353216))
    (.cond (!fcmp BinOp.geq FloatKind.f32 (F265 x0).fst 1065353216)
     (.leaf (1065353216))
     (.leaf ((F265 x0).fst))))
   .non)
theorem ev236 (x0 : Shp) : evalF (env tab25 exts (fun _ => [])) 0 Tryz.f236 [.ptr .shp x0 0] = (tr236 x0).toOpt fr236 := by kernel_rfl
noncomputable def F236 (x0 : Shp) : Nat := (tr236 x0).val

end Go.Proofs.YtponnbnebjhepaaGreat

namespace Go.Proofs.YtponnbnebjhepaaGreat
open Go Go.Ev
set_option maxRecDepth 100000

theorem pre188 {n : Nd} (p : V3) (hk : F119 n.k = true) (hv : F185 n.k n.v = true) : (tr188 n p).pre = true := by
  obtain ⟨k, a, b, v⟩ := n
  simp only at hk hv
  rw [F119_eq] at hk
  have hk := of_decide_eq_true hk
  unfold tr188
  simp only [Tr.pre]
  rcases (by omega : k = 0 ∨ k = 1 ∨ k = 2 ∨ k = 3 ∨ k = 4) with rfl | rfl | rfl | rfl | rfl
  · rw [len_eq (n := ⟨0, a, b, v⟩) hv rfl (l := 1) rfl]; rfl
  · rw [len_eq (n := ⟨1, a, b, v⟩) hv rfl (l := 3) rfl]; rfl
  · rw [len_eq (n := ⟨2, a, b, v⟩) hv rfl (l := 2) rfl]; rfl
  · rw [len_eq (n := ⟨3, a, b, v⟩) hv rfl (l := 2) rfl]; rfl
  · rw [len_eq (n := ⟨4, a, b, v⟩) hv rfl (l := 4) rfl]; rfl

theorem pre189 {n : Nd} (x y : Nat) (hk : 0 ≤ n.k ∧ n.k ≤ 16) (hv : F185 n.k n.v = true) : (tr189 n x y).pre = true := by
  obtain ⟨k, a, b, v⟩ := n
  simp only at hk hv
  unfold tr189
  simp only [Tr.pre]
  rcases kind_cases hk with rfl | rfl | rfl | rfl | rfl | rfl | rfl | rfl | rfl | rfl | rfl | rfl | rfl | rfl | rfl | rfl | rfl
  case inr.inr.inr.inr.inr.inr.inr.inr.inl =>
    rw [len_eq (n := ⟨8, a, b, v⟩) hv rfl (l := 1) rfl]
    generalize fcmp .gtr .f32 _ 0 = c
    cases c <;> rfl
  case inr.inr.inr.inr.inr.inr.inr.inr.inr.inr.inl => rw [len_eq (n := ⟨10, a, b, v⟩) hv rfl (l := 1) rfl]; rfl
  case inr.inr.inr.inr.inr.inr.inr.inr.inr.inr.inr.inr.inr.inr.inr.inl => rw [len_eq (n := ⟨15, a, b, v⟩) hv rfl (l := 1) rfl]; rfl
  case inr.inr.inr.inr.inr.inr.inr.inr.inr.inr.inr.inr.inr.inr.inr.inr => rw [len_eq (n := ⟨16, a, b, v⟩) hv rfl (l := 1) rfl]; rfl
  all_goals rfl

/-! l02All -/
noncomputable abbrev upS (P : List V3) (s : Shp) : Nat → List Nat := upAll F188 (fun n a => F189 n a 0) F189 0 ET.v3.dflt s.nodes P
noncomputable def F122 (s : Shp) (p : V3) : List Nat := upS (F187 s p) s s.nodes.length
noncomputable def P122 (s : Shp) (_ : V3) : Bool := F60 s

theorem loop122 (m : Nat) (s : Shp) (hv : F60 s = true) (P : List V3) (hP : P.length = s.nodes.length) : ∀ (k j n : Nat), j + k = s.nodes.length → k < n →
    L122_0 m n (s, P.length, (upS P s j).length, (j : Int), P, upS P s j) = some (upS P s s.nodes.length)
  | 0, j, n + 1, hj, _ => by
    have : j = s.nodes.length := by omega
    subst this
    simp only [L122_0, stp122_0, Tr.run, dF (p := (s.nodes.length : Int) < s.nodes.length) (by omega), cond_false, Sum.elim_inr, List.take_length]
  | k + 1, j, n + 1, hj, hn => by
    have hN := F60_len hv
    have hna := node_at hv (i := j) (by omega)
    obtain ⟨f1, f2, f3, _⟩ := F118_facts (by omega) (F60_node hv (j := j) (by omega))
    have hl := upAll_length F188 (fun n a => F189 n a 0) F189 0 ET.v3.dflt s.nodes P j
    have happ : ∀ x : Nat, (decide True && decide (((upS P s j).length + [x].length) * (4 + 1) ≤ limB)) = true := fun x => app_len (by rw [hl]; omega)
    have ih := loop122 m s hv P hP k (j + 1) n (by omega) (by omega)
    have hup : upS P s (j + 1) = upS P s j ++ [upN F188 (fun n a => F189 n a 0) F189 0 (s.nodes.getD j ET.nd.dflt) (P.getD j ET.v3.dflt) (upS P s j)] := rfl
    rw [hup] at ih
    simp only [L122_0, stp122_0, Tr.run, dT (p := (j : Int) < s.nodes.length) (by omega), dT (p := (0 : Int) ≤ (j : Int)) (by omega), dT (p := (j : Int) < P.length) (by omega), dT (p := j < P.length) (by omega), Int.toNat_natCast, wrap_succ (n := j) (by omega), Bool.and_self, cond_true]
    have hl' : (upS P s j).length = j := hl
    unfold upN at ih
    cases hlf : F119 (s.nodes.getD j ET.nd.dflt).k
    · rw [hlf] at ih
      obtain ⟨a1, a2, _⟩ := hna.a hlf
      simp only [cond_false, cond_true, dT a1, dT (p := (s.nodes.getD j ET.nd.dflt).a < ((upS P s j).length : Int)) (by omega), dT (p := (s.nodes.getD j ET.nd.dflt).a.toNat < (upS P s j).length) (by omega), Bool.and_self, pre189 _ _ ⟨f1, f2⟩ f3] at ih ⊢
      cases ht : F120 (s.nodes.getD j ET.nd.dflt).k
      · rw [ht] at ih
        simp only [cond_false, cond_true, happ, Sum.elim_inl] at ih ⊢
        exact ih
      · rw [ht] at ih
        obtain ⟨b1, b2, _⟩ := hna.b ht
        simp only [cond_true, dT b1, dT (p := (s.nodes.getD j ET.nd.dflt).b < ((upS P s j).length : Int)) (by omega), dT (p := (s.nodes.getD j ET.nd.dflt).b.toNat < (upS P s j).length) (by omega), Bool.and_self, happ, Sum.elim_inl] at ih ⊢
        exact ih
    · rw [hlf] at ih
      simp only [cond_true, pre188 _ hlf f3, happ, Sum.elim_inl] at ih ⊢
      exact ih

theorem F187_length (s : Shp) (p : V3) : (F187 s p).length = s.nodes.length := by
  unfold F187; rw [goPts_length]; simp

theorem val122 (s : Shp) (p : V3) (h : P122 s p = true) : ∃ m, S122 m s p = some (F122 s p) := by
  have hN := F60_len h
  refine ⟨17, ?_⟩
  have hp : P187 s p = true := h
  simp only [S122, seg122, Tr.run, hp, cond_true, Sum.elim_inr]
  exact loop122 17 s h (F187 s p) (F187_length s p) s.nodes.length 0 17 (by omega) (by omega)

end Go.Proofs.YtponnbnebjhepaaGreat

namespace Go.Proofs.YtponnbnebjhepaaGreat
open Go Go.Ev
set_option maxRecDepth 100000

noncomputable def ent122 : List PV → Option (Bool × CRes)
  | [.ptr .shp x0 0, .agg [.f32 x1_0, .f32 x1_1, .f32 x1_2]] => some (P122 x0 (⟨x1_0, x1_1, x1_2⟩ : V3), fw122 (F122 x0 (⟨x1_0, x1_1, x1_2⟩ : V3)))
  | _ => none
theorem ok122 : EntSound Tryz.prog 122 ent122 := by
  refine entryW tab25_ok exts_ok (fgOf 81 [(4, [0, 5, 6, 7])]) (fn := Tryz.f122) (by kernel_rfl) (by kernel_rfl) (fun args c h => ?_)
  unfold ent122 at h
  split at h <;> first | (cases h; done) | skip
  rename_i x0 x1_0 x1_1 x1_2
  simp only [Option.some.injEq, Prod.mk.injEq] at h
  obtain ⟨hp, rfl⟩ := h
  obtain ⟨m, hv⟩ := val122 x0 (⟨x1_0, x1_1, x1_2⟩ : V3) hp
  exact ⟨m, fr122 (F122 x0 (⟨x1_0, x1_1, x1_2⟩ : V3)), (evS122 m x0 (⟨x1_0, x1_1, x1_2⟩ : V3)).trans (by rw [hv]; rfl), CLe.refl _⟩

noncomputable def ent236 : List PV → Option (Bool × CRes)
  | [.ptr .shp x0 0] => some ((tr236 x0).pre, fw236 (F236 x0))
  | _ => none
theorem ok236 : EntSound Tryz.prog 236 ent236 := by
  refine entryW tab25_ok exts_ok (fun _ => []) (fn := Tryz.f236) (by kernel_rfl) (by kernel_rfl) (fun args c h => ?_)
  unfold ent236 at h
  split at h <;> first | (cases h; done) | skip
  rename_i x0
  simp only [Option.some.injEq, Prod.mk.injEq] at h
  obtain ⟨hp, rfl⟩ := h
  exact ⟨0, _, (ev236 x0).trans (Tr.ok _ _ hp), CLe.refl _⟩

noncomputable def tab26 : Tab := ((236, ent236) :: ((122, ent122) :: tab25))
theorem tab26_ok : TSound Tryz.prog (tabT tab26) := (tab_cons (tab_cons tab25_ok ok122) ok236)

end Go.Proofs.YtponnbnebjhepaaGreat

namespace Go.Proofs.YtponnbnebjhepaaGreat
open Go Go.Ev
set_option maxRecDepth 100000

/-! The program's distance calls itself: it is known to a depth. -/
noncomputable def D129 (q : Nat) (s : Shp) (i : Int) (p : V3) : Nat := evF F197 F195 (fun n a => F196 n a 0) F196 0 s.nodes q i.toNat p
noncomputable def P129 (q : Nat) (s : Shp) (i : Int) : Bool := F60 s && decide (0 ≤ i) && decide (i < (s.nodes.length : Int)) && decide (i < (q : Int))
noncomputable def ent129 (q : Nat) : List PV → Option (Bool × CRes)
  | [.ptr .shp s 0, .int .i64 i, .agg [.f32 a, .f32 b, .f32 c]] => some (P129 q s i, .plain (.f32 (D129 q s i ⟨a, b, c⟩)))
  | _ => none
noncomputable def tabR (q : Nat) : Tab := (129, ent129 q) :: tab26

end Go.Proofs.YtponnbnebjhepaaGreat

namespace Go.Proofs.YtponnbnebjhepaaGreat
open Go Go.Ev
set_option maxRecDepth 100000

/-! (*impl.Shape).distance -/
noncomputable def fr129 : (Nat) → CRes := (fun (x : Nat) => CRes.plain (.f32 x))
noncomputable def fw129 : (Nat) → CRes := (fun (x : Nat) => CRes.plain (.f32 x))
noncomputable def tr129 (q : Nat) (x0 : Shp) (x1 : Int) (x2 : V3) : Tr (Nat) :=
  (.cond (decide (0 ≤ x1) && decide (x1 < (↑x0.nodes.length : Int)))
   (.cond ((↑(F97 (x0.nodes.getD x1.toNat ET.nd.dflt)).length : Int) == 0)
    (.cond ((tr195 (x0.nodes.getD x1.toNat ET.nd.dflt) x2).pre)
     (.leaf (F195 (x0.nodes.getD x1.toNat ET.nd.dflt) x2))
     .non)
    (.cond ((↑(F97 (x0.nodes.getD x1.toNat ET.nd.dflt)).length : Int) == 1)
     (.cond (P197 (x0.nodes.getD x1.toNat ET.nd.dflt) x2)
      (.cond (P129 q x0 (x0.nodes.getD x1.toNat ET.nd.dflt).a)
       (.cond ((tr196 (x0.nodes.getD x1.toNat ET.nd.dflt) (D129 q x0 (x0.nodes.getD x1.toNat ET.nd.dflt).a (F197 (x0.nodes.getD x1.toNat ET.nd.dflt) x2)) 0).pre)
        (.leaf (F196 (x0.nodes.getD x1.toNat ET.nd.dflt) (D129 q x0 (x0.nodes.getD x1.toNat ET.nd.dflt).a (F197 (x0.nodes.getD x1.toNat ET.nd.dflt) x2)) 0))
        .non)
       .non)
      .non)
     (.cond (P129 q x0 (x0.nodes.getD x1.toNat ET.nd.dflt).a)
      (.cond (P129 q x0 (x0.nodes.getD x1.toNat ET.nd.dflt).b)
       (.cond ((tr196 (x0.nodes.getD x1.toNat ET.nd.dflt) (D129 q x0 (x0.nodes.getD x1.toNat ET.nd.dflt).a x2) (D129 q x0 (x0.nodes.getD x1.toNat ET.nd.dflt).b x2)).pre)
        (.leaf (F196 (x0.nodes.getD x1.toNat ET.nd.dflt) (D129 q x0 (x0.nodes.getD x1.toNat ET.nd.dflt).a x2) (D129 q x0 (x0.nodes.getD x1.toNat ET.nd.dflt).b x2)))
        .non)
       .non)
      .non)))
   .non)
theorem ev129 (q : Nat) (x0 : Shp) (x1 : Int) (x2 : V3) : evalF (env (tabR q) exts (fun _ => [])) 0 Tryz.f129 [.ptr .shp x0 0, .int .i64 x1, .agg (enc .v3 x2)] = (tr129 q x0 x1 x2).toOpt fr129 := by kernel_rfl
noncomputable def F129 (q : Nat) (x0 : Shp) (x1 : Int) (x2 : V3) : Nat := (tr129 q x0 x1 x2).val

end Go.Proofs.YtponnbnebjhepaaGreat

namespace Go.Proofs.YtponnbnebjhepaaGreat
open Go Go.Ev
set_option maxRecDepth 100000

theorem pre195 {n : Nd} (p : V3) (hk : F119 n.k = true) (hv : F185 n.k n.v = true) : (tr195 n p).pre = true := by
  obtain ⟨k, a, b, v⟩ := n
  simp only at hk hv
  rw [F119_eq] at hk
  have hk := of_decide_eq_true hk
  unfold tr195
  simp only [Tr.pre]
  rcases (by omega : k = 0 ∨ k = 1 ∨ k = 2 ∨ k = 3 ∨ k = 4) with rfl | rfl | rfl | rfl | rfl
  · rw [len_eq (n := ⟨0, a, b, v⟩) hv rfl (l := 1) rfl]; rfl
  · rw [len_eq (n := ⟨1, a, b, v⟩) hv rfl (l := 3) rfl]; rfl
  · rw [len_eq (n := ⟨2, a, b, v⟩) hv rfl (l := 2) rfl]; rfl
  · rw [len_eq (n := ⟨3, a, b, v⟩) hv rfl (l := 2) rfl]; rfl
  · rw [len_eq (n := ⟨4, a, b, v⟩) hv rfl (l := 4) rfl]; rfl

theorem pre196 {n : Nd} (x y : Nat) (hk : 0 ≤ n.k ∧ n.k ≤ 16) (hv : F185 n.k n.v = true) : (tr196 n x y).pre = true := by
  obtain ⟨k, a, b, v⟩ := n
  simp only at hk hv
  unfold tr196
  simp only [Tr.pre]
  rcases kind_cases hk with rfl | rfl | rfl | rfl | rfl | rfl | rfl | rfl | rfl | rfl | rfl | rfl | rfl | rfl | rfl | rfl | rfl
  case inr.inr.inr.inr.inr.inr.inr.inr.inl =>
    rw [len_eq (n := ⟨8, a, b, v⟩) hv rfl (l := 1) rfl]
    generalize fcmp .gtr .f32 _ 0 = c
    cases c <;> rfl
  case inr.inr.inr.inr.inr.inr.inr.inr.inr.inr.inl => rw [len_eq (n := ⟨10, a, b, v⟩) hv rfl (l := 1) rfl]; rfl
  case inr.inr.inr.inr.inr.inr.inr.inr.inr.inr.inr.inr.inr.inr.inr.inl => rw [len_eq (n := ⟨15, a, b, v⟩) hv rfl (l := 1) rfl]; rfl
  case inr.inr.inr.inr.inr.inr.inr.inr.inr.inr.inr.inr.inr.inr.inr.inr => rw [len_eq (n := ⟨16, a, b, v⟩) hv rfl (l := 1) rfl]; rfl
  all_goals rfl

theorem pre197b (n : Nd) (p : V3) (hk : 0 ≤ n.k ∧ n.k ≤ 16) (hv : F185 n.k n.v = true) : (tr197b0 n p).pre = true ∧ (tr197b1 n p).pre = true ∧ (tr197b2 n p).pre = true := by
  obtain ⟨k, a, b, v⟩ := n
  simp only at hk hv
  unfold tr197b0 tr197b1 tr197b2
  simp only [Tr.pre]
  rcases kind_cases hk with rfl | rfl | rfl | rfl | rfl | rfl | rfl | rfl | rfl | rfl | rfl | rfl | rfl | rfl | rfl | rfl | rfl
  case inr.inr.inr.inr.inr.inr.inr.inr.inr.inl => rw [len_eq (n := ⟨9, a, b, v⟩) hv rfl (l := 3) rfl]; exact ⟨rfl, rfl, rfl⟩
  case inr.inr.inr.inr.inr.inr.inr.inr.inr.inr.inl => rw [len_eq (n := ⟨10, a, b, v⟩) hv rfl (l := 1) rfl]; exact ⟨rfl, rfl, rfl⟩
  case inr.inr.inr.inr.inr.inr.inr.inr.inr.inr.inr.inl => rw [len_eq (n := ⟨11, a, b, v⟩) hv rfl (l := 3) rfl]; exact ⟨rfl, rfl, rfl⟩
  case inr.inr.inr.inr.inr.inr.inr.inr.inr.inr.inr.inr.inl => rw [len_eq (n := ⟨12, a, b, v⟩) hv rfl (l := 1) rfl]; exact ⟨rfl, rfl, rfl⟩
  case inr.inr.inr.inr.inr.inr.inr.inr.inr.inr.inr.inr.inr.inr.inl => rw [len_eq (n := ⟨14, a, b, v⟩) hv rfl (l := 1) rfl]; exact ⟨rfl, rfl, rfl⟩
  all_goals exact ⟨rfl, rfl, rfl⟩

/-- The axis of a node with one child. -/
theorem one_axis {n : Nd} {i : Nat} (hi : i ≤ 16) (h : F118 n (i : Int) = true) (hl : F119 n.k = false) (ht : F120 n.k = false) : 0 ≤ n.b ∧ n.b ≤ 2 := by
  cases h6 : F186 n.k
  · unfold F118 tr118 at h
    simp only [Tr.val, hl, ht, h6, cond_false] at h
    cases h1 : F78 n.k 0 16 <;> rw [h1] at h <;> simp only [Bool.not_true, Bool.not_false, cond_true, cond_false] at h
    · cases h
    cases h2 : F185 n.k n.v <;> rw [h2] at h <;> simp only [Bool.not_true, Bool.not_false, cond_true, cond_false] at h
    · cases h
    cases h3 : F78 n.a 0 (IntKind.i64.wrap ((i : Int) - 1)) <;> rw [h3] at h <;> simp only [Bool.not_true, Bool.not_false, cond_true, cond_false] at h
    · cases h
    · have : n.b = 0 := by simpa using h
      omega
  · exact (F118_facts hi h).2.2.2.2.2.2 h6

theorem P197_ok {n : Nd} (p : V3) (hk : 0 ≤ n.k ∧ n.k ≤ 16) (hv : F185 n.k n.v = true) (hb : 0 ≤ n.b ∧ n.b ≤ 2) : P197 n p = true := by
  obtain ⟨h0, h1, h2⟩ := pre197b n p hk hv
  unfold P197
  rcases (by omega : n.b = 0 ∨ n.b = 1 ∨ n.b = 2) with h | h | h <;> rw [h]
  · exact h0
  · exact h1
  · exact h2

theorem D129_step (q : Nat) {s : Shp} {i : Int} (p : V3) (h : P129 (q + 1) s i = true) : (tr129 q s i p).pre = true ∧ (tr129 q s i p).val = D129 (q + 1) s i p := by
  unfold P129 at h
  simp only [Bool.and_eq_true, decide_eq_true_eq] at h
  obtain ⟨⟨⟨hv, h0⟩, h1⟩, h2⟩ := h
  have hN := F60_len hv
  have hlt : i.toNat < s.nodes.length := by omega
  have hna := node_at hv hlt
  have hok := F60_node hv hlt
  obtain ⟨f1, f2, f3, _⟩ := F118_facts (by omega) hok
  obtain ⟨g1, g2, g3⟩ := kids_len ⟨f1, f2⟩
  have hP : ∀ c, 0 ≤ c → c < (i.toNat : Int) → P129 q s c = true := by
    intro c hc0 hc1
    unfold P129
    rw [hv, dT hc0, dT (p := c < (s.nodes.length : Int)) (by omega), dT (p := c < (q : Int)) (by omega)]; rfl
  unfold tr129 D129
  simp only [Tr.pre, Tr.val, dT h0, dT h1, Bool.and_self, cond_true, g1, g3]
  rw [evF]
  cases hl : F119 (s.nodes.getD i.toNat ET.nd.dflt).k
  · obtain ⟨a1, a2, _⟩ := hna.a hl
    simp only [cond_false, Bool.not_false, Bool.true_and]
    cases ht : F120 (s.nodes.getD i.toNat ET.nd.dflt).k
    · have hb := one_axis (by omega) hok hl ht
      simp only [cond_false, cond_true, Bool.not_false, P197_ok _ ⟨f1, f2⟩ f3 hb, hP _ a1 a2, pre196 _ _ ⟨f1, f2⟩ f3]
      exact ⟨trivial, trivial⟩
    · obtain ⟨b1, b2, _⟩ := hna.b ht
      simp only [cond_false, cond_true, Bool.not_true, hP _ a1 a2, hP _ b1 b2, pre196 _ _ ⟨f1, f2⟩ f3]
      exact ⟨trivial, trivial⟩
  · simp only [cond_true, pre195 _ hl f3]
    exact ⟨trivial, trivial⟩

theorem ok129 : ∀ q, EntSound Tryz.prog 129 (ent129 q)
  | 0 => by
    intro args c h
    unfold ent129 at h
    split at h <;> first | (cases h; done) | skip
    rename_i s i a b c0
    simp only [Option.some.injEq, Prod.mk.injEq] at h
    have := h.1
    unfold P129 at this
    simp only [Bool.and_eq_true, decide_eq_true_eq] at this
    omega
  | q + 1 => by
    refine entry (tab_cons tab26_ok (ok129 q)) exts_ok (fun _ => []) (fn := Tryz.f129) (by kernel_rfl) (by kernel_rfl) (fun args c h => ?_)
    unfold ent129 at h
    split at h <;> first | (cases h; done) | skip
    rename_i s i a b c0
    simp only [Option.some.injEq, Prod.mk.injEq] at h
    obtain ⟨hp, rfl⟩ := h
    obtain ⟨h1, h2⟩ := D129_step q ⟨a, b, c0⟩ hp
    refine ⟨0, (ev129 q s i ⟨a, b, c0⟩).trans ((Tr.ok _ _ h1).trans ?_)⟩
    rw [h2]; rfl

noncomputable def tab27 : Tab := (129, ent129 16) :: tab26
theorem tab27_ok : TSound Tryz.prog (tabT tab27) := tab_cons tab26_ok (ok129 16)

end Go.Proofs.YtponnbnebjhepaaGreat

namespace Go.Proofs.YtponnbnebjhepaaGreat
open Go Go.Ev
set_option maxRecDepth 100000

/-! spec.l02At -/
noncomputable def fr63 : (Nat) → CRes := (fun (x : Nat) => CRes.plain (.f32 x))
noncomputable def fw63 : (Nat) → CRes := (fun (x : Nat) => CRes.plain (.f32 x))
noncomputable def tr63 (x0 : Shp) (x1 : V3) : Tr (Nat) :=
  (.cond (P122 x0 x1)
   (.cond (decide (0 ≤ IntKind.i64.wrap ((↑(F122 x0 x1).length : Int) - 1)) && decide (IntKind.i64.wrap ((↑(F122 x0 x1).length : Int) - 1) < (↑(F122 x0 x1).length : Int)))
    (.cond (decide ((IntKind.i64.wrap ((↑(F122 x0 x1).length : Int) - 1)).toNat < (F122 x0 x1).length))
     (.leaf ((F122 x0 x1).getD (IntKind.i64.wrap ((↑(F122 x0 x1).length : Int) - 1)).toNat 0))
     .non)
    .non)
   .non)
theorem ev63 (x0 : Shp) (x1 : V3) : evalF (env tab27 exts (fun _ => [])) 0 Tryz.f63 [.ptr .shp x0 0, .agg (enc .v3 x1)] = (tr63 x0 x1).toOpt fr63 := by kernel_rfl
noncomputable def F63 (x0 : Shp) (x1 : V3) : Nat := (tr63 x0 x1).val

/-! (*impl.Shape).at -/
noncomputable def fr69 : (Nat) → CRes := (fun (x : Nat) => CRes.plain (.f32 x))
noncomputable def fw69 : (Nat) → CRes := (fun (x : Nat) => CRes.plain (.f32 x))
noncomputable def tr69 (x0 : Shp) (x1 : V3) : Tr (Nat) :=
  (.cond (P129 16 x0 (F101 x0))
   (.leaf (D129 16 x0 (F101 x0) x1))
   .non)
theorem ev69 (x0 : Shp) (x1 : V3) : evalF (env tab27 exts (fun _ => [])) 0 Tryz.f69 [.ptr .shp x0 0, .agg (enc .v3 x1)] = (tr69 x0 x1).toOpt fr69 := by kernel_rfl
noncomputable def F69 (x0 : Shp) (x1 : V3) : Nat := (tr69 x0 x1).val

end Go.Proofs.YtponnbnebjhepaaGreat

namespace Go.Proofs.YtponnbnebjhepaaGreat
open Go Go.Ev
set_option maxRecDepth 100000

/-! The distance of a shape at a point, by both programs. -/
theorem F253_two (n : Nd) (p : V3) (h : F120 n.k = true) : F253 n p = p := by
  obtain ⟨k, a, b, v⟩ := n
  simp only at h
  rw [F120_eq] at h
  have h := of_decide_eq_true h
  rcases (by omega : k = 5 ∨ k = 6 ∨ k = 7 ∨ k = 8) with rfl | rfl | rfl | rfl <;> rfl

noncomputable def G63 (s : Shp) (p : V3) : Nat := evF F253 F188 (fun n a => F189 n a 0) F189 0 s.nodes 16 (s.nodes.length - 1) p
noncomputable def P63 (s : Shp) (_ : V3) : Bool := F60 s

theorem last_wrap {n : Nat} (h : 1 ≤ n ∧ n ≤ 16) : IntKind.i64.wrap ((n : Int) - 1) = ((n - 1 : Nat) : Int) := by rw [wrap_mid (by omega) (by omega)]; omega

theorem pts_rel {α : Type} (f : Nd → α → α) (d z p : α) {s : Shp} (h : F60 s = true) : PtRel f d s 0 (goPts f d s.nodes s.nodes.length ((List.replicate s.nodes.length z).set (s.nodes.length - 1) p)) ∧
    (goPts f d s.nodes s.nodes.length ((List.replicate s.nodes.length z).set (s.nodes.length - 1) p)).getD (s.nodes.length - 1) d = p := by
  have hN := F60_len h
  obtain ⟨h1, h2⟩ := goPts_rel (f := f) (d := d) h s.nodes.length ((List.replicate s.nodes.length z).set (s.nodes.length - 1) p) (Nat.le_refl _) (by simp) (fun i hi hi2 _ => by omega)
  refine ⟨h1, ?_⟩
  rw [h2 _ (by omega), getD_set_eq (by simp; omega)]

theorem own63 (s : Shp) (p : V3) (h : P63 s p = true) : (tr63 s p).pre = true ∧ (tr63 s p).val = G63 s p := by
  have hv : F60 s = true := h
  have hp : P122 s p = true := h
  have hN := F60_len hv
  have hl : (F122 s p).length = s.nodes.length := upAll_length _ _ _ _ _ _ _ _
  obtain ⟨r1, r2⟩ := pts_rel F253 ET.v3.dflt (⟨0, 0, 0⟩ : V3) p hv
  unfold tr63 G63
  simp only [Tr.pre, Tr.val, hp, hl, last_wrap hN, cond_true, dT (p := (0 : Int) ≤ ((s.nodes.length - 1 : Nat) : Int)) (by omega), dT (p := ((s.nodes.length - 1 : Nat) : Int) < (s.nodes.length : Int)) (by omega), Int.toNat_natCast, dT (p := s.nodes.length - 1 < s.nodes.length) (by omega), Bool.and_self]
  refine ⟨trivial, ?_⟩
  show (upS (F187 s p) s s.nodes.length).getD (s.nodes.length - 1) 0 = _
  rw [upAll_get _ _ _ _ _ _ _ _ _ (by omega : s.nodes.length - 1 < s.nodes.length)]
  rw [up_eq_down F253 F188 (fun n a => F189 n a 0) F189 0 ET.v3.dflt hv F253_two (F187 s p) r1 _ (by omega)]
  have : (F187 s p).getD (s.nodes.length - 1) ET.v3.dflt = p := r2
  rw [this]
  exact evF_fuel _ _ _ _ _ hv _ _ _ _ (by omega) (by omega) (by omega)

noncomputable def G69 (s : Shp) (p : V3) : Nat := evF F197 F195 (fun n a => F196 n a 0) F196 0 s.nodes 16 (s.nodes.length - 1) p
noncomputable def P69 (s : Shp) (_ : V3) : Bool := F60 s
theorem own69 (s : Shp) (p : V3) (h : P69 s p = true) : (tr69 s p).pre = true ∧ (tr69 s p).val = G69 s p := by
  have hv : F60 s = true := h
  have hN := F60_len hv
  have e : F101 s = ((s.nodes.length - 1 : Nat) : Int) := last_wrap hN
  have hp : P129 16 s (F101 s) = true := by
    unfold P129
    rw [hv, e, dT (p := (0 : Int) ≤ ((s.nodes.length - 1 : Nat) : Int)) (by omega), dT (p := ((s.nodes.length - 1 : Nat) : Int) < (s.nodes.length : Int)) (by omega), dT (p := ((s.nodes.length - 1 : Nat) : Int) < ((16 : Nat) : Int)) (by omega)]; rfl
  unfold tr69 G69
  simp only [Tr.pre, Tr.val, hp, cond_true]
  refine ⟨trivial, ?_⟩
  rw [e]; rfl

end Go.Proofs.YtponnbnebjhepaaGreat

namespace Go.Proofs.YtponnbnebjhepaaGreat
open Go Go.Ev
set_option maxRecDepth 100000

noncomputable def ent63 : List PV → Option (Bool × CRes)
  | [.ptr .shp x0 0, .agg [.f32 x1_0, .f32 x1_1, .f32 x1_2]] => some (P63 x0 (⟨x1_0, x1_1, x1_2⟩ : V3), fw63 (G63 x0 (⟨x1_0, x1_1, x1_2⟩ : V3)))
  | _ => none
theorem ok63 : EntSound Tryz.prog 63 ent63 := by
  refine entryW tab27_ok exts_ok (fun _ => []) (fn := Tryz.f63) (by kernel_rfl) (by kernel_rfl) (fun args c h => ?_)
  unfold ent63 at h
  split at h <;> first | (cases h; done) | skip
  rename_i x0 x1_0 x1_1 x1_2
  simp only [Option.some.injEq, Prod.mk.injEq] at h
  obtain ⟨hp, rfl⟩ := h
  obtain ⟨h1, h2⟩ := own63 x0 (⟨x1_0, x1_1, x1_2⟩ : V3) hp
  refine ⟨0, fr63 (tr63 x0 (⟨x1_0, x1_1, x1_2⟩ : V3)).val, (ev63 x0 (⟨x1_0, x1_1, x1_2⟩ : V3)).trans (Tr.ok _ _ h1), ?_⟩
  rw [h2]; exact CLe.refl _

noncomputable def ent69 : List PV → Option (Bool × CRes)
  | [.ptr .shp x0 0, .agg [.f32 x1_0, .f32 x1_1, .f32 x1_2]] => some (P69 x0 (⟨x1_0, x1_1, x1_2⟩ : V3), fw69 (G69 x0 (⟨x1_0, x1_1, x1_2⟩ : V3)))
  | _ => none
theorem ok69 : EntSound Tryz.prog 69 ent69 := by
  refine entryW tab27_ok exts_ok (fun _ => []) (fn := Tryz.f69) (by kernel_rfl) (by kernel_rfl) (fun args c h => ?_)
  unfold ent69 at h
  split at h <;> first | (cases h; done) | skip
  rename_i x0 x1_0 x1_1 x1_2
  simp only [Option.some.injEq, Prod.mk.injEq] at h
  obtain ⟨hp, rfl⟩ := h
  obtain ⟨h1, h2⟩ := own69 x0 (⟨x1_0, x1_1, x1_2⟩ : V3) hp
  refine ⟨0, fr69 (tr69 x0 (⟨x1_0, x1_1, x1_2⟩ : V3)).val, (ev69 x0 (⟨x1_0, x1_1, x1_2⟩ : V3)).trans (Tr.ok _ _ h1), ?_⟩
  rw [h2]; exact CLe.refl _

noncomputable def tab28 : Tab := ((69, ent69) :: ((63, ent63) :: tab27))
theorem tab28_ok : TSound Tryz.prog (tabT tab28) := (tab_cons (tab_cons tab27_ok ok63) ok69)

end Go.Proofs.YtponnbnebjhepaaGreat

namespace Go.Proofs.YtponnbnebjhepaaGreat
open Go Go.Ev
set_option maxRecDepth 100000

/-! spec.l03Go -/
noncomputable def fr153 : (Int × Int × Nat × Nat × Nat × Nat) → CRes := (fun (x : Int × Int × Nat × Nat × Nat × Nat) => CRes.plain (.agg [.int .i64 (x).1, .int .i64 (x).2.1, .f32 (x).2.2.1, .f32 (x).2.2.2.1, .f32 (x).2.2.2.2.1, .f32 (x).2.2.2.2.2]))
noncomputable def fw153 : (Int × Int × Nat × Nat × Nat × Nat) → CRes := (fun (x : Int × Int × Nat × Nat × Nat × Nat) => CRes.plain (.agg [.int .i64 (x).1, .int .i64 (x).2.1, .f32 (x).2.2.1, .f32 (x).2.2.2.1, .f32 (x).2.2.2.2.1, .f32 (x).2.2.2.2.2]))
noncomputable abbrev En153 : Env := env tab28 exts (fgOf 69 [(4, [0, 1, 2, 6, 7, 8, 9])])
abbrev V153_0 := Shp × Ray × Mar × Nat × Nat × Int × Int × Int × Nat × Nat × Nat × Nat
noncomputable def st153_0 (s0 : Shp) (s1 : Ray) (s2 : Mar) (s7 : Nat) (s8 : Nat) (s9 : Int) (o6_0 : Int) (o6_1 : Int) (o6_2 : Nat) (o6_3 : Nat) (o6_4 : Nat) (o6_5 : Nat) : St := mkSt 69 [(0, .ptr .shp s0 0), (1, .ptr .ray s1 0), (2, .ptr .mar s2 0), (6, .lptr 6 0 0), (7, .f32 s7), (8, .f32 s8), (9, .int .i64 s9)] [(6, .cells none [.int .i64 o6_0, .int .i64 o6_1, .f32 o6_2, .f32 o6_3, .f32 o6_4, .f32 o6_5])]
noncomputable def Lp153_0 (m n : Nat) (v : V153_0) : Option CRes := loopN (evalC En153 m (cAt [1, 1, 1, 0, 1, 0, 0] (bodyOf Tryz.f153))) (allBut 69 [0, 1, 2, 6, 7, 8, 9]) n (st153_0 v.1 v.2.1 v.2.2.1 v.2.2.2.1 v.2.2.2.2.1 v.2.2.2.2.2.1 v.2.2.2.2.2.2.1 v.2.2.2.2.2.2.2.1 v.2.2.2.2.2.2.2.2.1 v.2.2.2.2.2.2.2.2.2.1 v.2.2.2.2.2.2.2.2.2.2.1 v.2.2.2.2.2.2.2.2.2.2.2) (runK En153 m (finF Tryz.prog Tryz.f153) [.bk 0, .sq (cAt [1, 1, 1, 1] (bodyOf Tryz.f153))])
noncomputable def stp153_0 (s0 : Shp) (s1 : Ray) (s2 : Mar) (s7 : Nat) (s8 : Nat) (s9 : Int) (o6_0 : Int) (o6_1 : Int) (o6_2 : Nat) (o6_3 : Nat) (o6_4 : Nat) (o6_5 : Nat) : Tr ((V153_0) ⊕ Int × Int × Nat × Nat × Nat × Nat) :=
  (.cond (decide (s9 ≤ s2.steps))
   (.cond (P63 s0 (F237 s1 s8))
    (.cond (fcmp BinOp.lss FloatKind.f32 (G63 s0 (F237 s1 s8)) s2.near)
     (.leaf ((.inr ((((Int.ofNat 1), (s9), (s8), ((F237 s1 s8).x), ((F237 s1 s8).y), ((F237 s1 s8).z)))))))
     (.cond (fcmp BinOp.gtr FloatKind.f32 (fop BinOp.add FloatKind.f32 s8 (fop BinOp.quo FloatKind.f32 (G63 s0 (F237 s1 s8)) s7)) s2.most)
      (.leaf ((.inr ((((Int.ofNat 0), (s9), (fop BinOp.add FloatKind.f32 s8 (fop BinOp.quo FloatKind.f32 (G63 s0 (F237 s1 s8)) s7)), ((F237 s1 (fop BinOp.add FloatKind.f32 s8 (fop BinOp.quo FloatKind.f32 (G63 s0 (F237 s1 s8)) s7))).x), ((F237 s1 (fop BinOp.add FloatKind.f32 s8 (fop BinOp.quo FloatKind.f32 (G63 s0 (F237 s1 s8)) s7))).y), ((F237 s1 (fop BinOp.add FloatKind.f32 s8 (fop BinOp.quo FloatKind.f32 (G63 s0 (F237 s1 s8)) s7))).z)))))))
      (.cond (fcmp BinOp.neq FloatKind.f32 (fop BinOp.add FloatKind.f32 s8 (fop BinOp.quo FloatKind.f32 (G63 s0 (F237 s1 s8)) s7)) (fop BinOp.add FloatKind.f32 s8 (fop BinOp.quo FloatKind.f32 (G63 s0 (F237 s1 s8)) s7)))
       (.leaf ((.inr ((((Int.ofNat 0), (s9), (fop BinOp.add FloatKind.f32 s8 (fop BinOp.quo FloatKind.f32 (G63 s0 (F237 s1 s8)) s7)), ((F237 s1 (fop BinOp.add FloatKind.f32 s8 (fop BinOp.quo FloatKind.f32 (G63 s0 (F237 s1 s8)) s7))).x), ((F237 s1 (fop BinOp.add FloatKind.f32 s8 (fop BinOp.quo FloatKind.f32 (G63 s0 (F237 s1 s8)) s7))).y), ((F237 s1 (fop BinOp.add FloatKind.f32 s8 (fop BinOp.quo FloatKind.f32 (G63 s0 (F237 s1 s8)) s7))).z)))))))
       (.leaf ((.inl ((s0), (s1), (s2), (s7), (fop BinOp.add FloatKind.f32 s8 (fop BinOp.quo FloatKind.f32 (G63 s0 (F237 s1 s8)) s7)), (IntKind.i64.wrap (s9 + 1)), (o6_0), (o6_1), (o6_2), (o6_3), (o6_4), (o6_5))))))))
    .non)
   (.leaf ((.inr ((((Int.ofNat 2), (s2.steps), (s8), ((F237 s1 s8).x), ((F237 s1 s8).y), ((F237 s1 s8).z))))))))
theorem step153_0 (m n : Nat) (s0 : Shp) (s1 : Ray) (s2 : Mar) (s7 : Nat) (s8 : Nat) (s9 : Int) (o6_0 : Int) (o6_1 : Int) (o6_2 : Nat) (o6_3 : Nat) (o6_4 : Nat) (o6_5 : Nat) : Lp153_0 m (n + 1) (s0, s1, s2, s7, s8, s9, o6_0, o6_1, o6_2, o6_3, o6_4, o6_5) = (stp153_0 s0 s1 s2 s7 s8 s9 o6_0 o6_1 o6_2 o6_3 o6_4 o6_5).run (Sum.elim (Lp153_0 m n) (fun r => some (fr153 r))) := by kernel_rfl
noncomputable def L153_0 (m : Nat)  : Nat → V153_0 → Option (Int × Int × Nat × Nat × Nat × Nat)
  | 0, _ => none
  | n + 1, v => (stp153_0 v.1 v.2.1 v.2.2.1 v.2.2.2.1 v.2.2.2.2.1 v.2.2.2.2.2.1 v.2.2.2.2.2.2.1 v.2.2.2.2.2.2.2.1 v.2.2.2.2.2.2.2.2.1 v.2.2.2.2.2.2.2.2.2.1 v.2.2.2.2.2.2.2.2.2.2.1 v.2.2.2.2.2.2.2.2.2.2.2).run (Sum.elim (fun v => L153_0 m n v) (fun r => some r))
theorem lem153_0 (m : Nat)   : ∀ (n : Nat) (v : V153_0), Lp153_0 m n v = (L153_0 m n v).map fr153
  | 0, _ => rfl
  | n + 1, v => (step153_0 m n v.1 v.2.1 v.2.2.1 v.2.2.2.1 v.2.2.2.2.1 v.2.2.2.2.2.1 v.2.2.2.2.2.2.1 v.2.2.2.2.2.2.2.1 v.2.2.2.2.2.2.2.2.1 v.2.2.2.2.2.2.2.2.2.1 v.2.2.2.2.2.2.2.2.2.2.1 v.2.2.2.2.2.2.2.2.2.2.2).trans (Tr.run_map (fun x => by
      rcases x with v | v
      · exact lem153_0 m n v
      · exact rfl) _)
noncomputable def seg153 (x0 : Shp) (x1 : Ray) (x2 : Mar) : Tr ((Int × Int × Nat × Nat × Nat × Nat) ⊕ V153_0) :=
  (.cond ((tr236 x0).pre)
   (.leaf ((.inr (((x0), (x1), (x2), (F236 x0), (0), (Int.ofNat 1), (Int.ofNat 0), (Int.ofNat 0), (0), (0), (0), (0))))))
   .non)
theorem evseg153 (m : Nat) (x0 : Shp) (x1 : Ray) (x2 : Mar) : evalF En153 m Tryz.f153 [.ptr .shp x0 0, .ptr .ray x1 0, .ptr .mar x2 0] = (seg153 x0 x1 x2).run (Sum.elim (fun r => some (fr153 r)) (Lp153_0 m m)) := by kernel_rfl
noncomputable def S153 (m : Nat) (x0 : Shp) (x1 : Ray) (x2 : Mar) : Option (Int × Int × Nat × Nat × Nat × Nat) := (seg153 x0 x1 x2).run (Sum.elim (fun r => some r) (L153_0 m m))
theorem evS153 (m : Nat) (x0 : Shp) (x1 : Ray) (x2 : Mar) : evalF En153 m Tryz.f153 [.ptr .shp x0 0, .ptr .ray x1 0, .ptr .mar x2 0] = (S153 m x0 x1 x2).map fr153 :=
  (evseg153 m x0 x1 x2).trans (Tr.run_map (fun x => by
    rcases x with v | v
    · exact rfl
    · exact lem153_0 m m v) _)

/-! spec.l03Ambient -/
noncomputable def fr159 : (Nat) → CRes := (fun (x : Nat) => CRes.plain (.f32 x))
noncomputable def fw159 : (Nat) → CRes := (fun (x : Nat) => CRes.plain (.f32 x))
noncomputable abbrev En159 : Env := env tab28 exts (fgOf 50 [(3, [0, 3, 4, 6, 7, 11, 12])])
abbrev V159_0 := Shp × Nat × Int × Nat × Int × Nat × Nat × Nat × Nat × Nat × Nat
noncomputable def st159_0 (s0 : Shp) (s3 : Nat) (s4 : Int) (s11 : Nat) (s12 : Int) (o6_0 : Nat) (o6_1 : Nat) (o6_2 : Nat) (o7_0 : Nat) (o7_1 : Nat) (o7_2 : Nat) : St := mkSt 50 [(0, .ptr .shp s0 0), (3, .f32 s3), (4, .int .i64 s4), (6, .lptr 6 0 0), (7, .lptr 7 0 0), (11, .f32 s11), (12, .int .i64 s12)] [(6, .cells (some .v3) [.f32 o6_0, .f32 o6_1, .f32 o6_2]), (7, .cells (some .v3) [.f32 o7_0, .f32 o7_1, .f32 o7_2])]
noncomputable def Lp159_0 (m n : Nat) (v : V159_0) : Option CRes := loopN (evalC En159 m (cAt [1, 1, 0, 1, 0, 0] (bodyOf Tryz.f159))) (allBut 50 [0, 3, 4, 6, 7, 11, 12]) n (st159_0 v.1 v.2.1 v.2.2.1 v.2.2.2.1 v.2.2.2.2.1 v.2.2.2.2.2.1 v.2.2.2.2.2.2.1 v.2.2.2.2.2.2.2.1 v.2.2.2.2.2.2.2.2.1 v.2.2.2.2.2.2.2.2.2.1 v.2.2.2.2.2.2.2.2.2.2) (runK En159 m (finF Tryz.prog Tryz.f159) [.bk 0, .sq (cAt [1, 1, 1] (bodyOf Tryz.f159))])
noncomputable def stp159_0 (s0 : Shp) (s3 : Nat) (s4 : Int) (s11 : Nat) (s12 : Int) (o6_0 : Nat) (o6_1 : Nat) (o6_2 : Nat) (o7_0 : Nat) (o7_1 : Nat) (o7_2 : Nat) : Tr ((V159_0) ⊕ Nat) :=
  (.cond (decide (s12 ≤ s4))
   (.cond (P63 s0 (F234 { x := o6_0, y := o6_1, z := o6_2 : V3 } (F235 { x := o7_0, y := o7_1, z := o7_2 : V3 } (fop BinOp.mul FloatKind.f32 (i2f FloatKind.f32 s12) s3))))
    (.cond (!fcmp BinOp.geq FloatKind.f32 (fop BinOp.quo FloatKind.f32 (fop BinOp.sub FloatKind.f32 (fop BinOp.mul FloatKind.f32 (i2f FloatKind.f32 s12) s3) (G63 s0 (F234 { x := o6_0, y := o6_1, z := o6_2 : V3 } (F235 { x := o7_0, y := o7_1, z := o7_2 : V3 } (fop BinOp.mul FloatKind.f32 (i2f FloatKind.f32 s12) s3))))) (fop BinOp.mul FloatKind.f32 (i2f FloatKind.f32 s12) s3)) 0)
     (.cond (fcmp BinOp.gtr FloatKind.f32 0 1065353216)
      (.leaf ((.inl ((s0), (s3), (s4), (fop BinOp.add FloatKind.f32 s11 1065353216), (IntKind.i64.wrap (s12 + 1)), (o6_0), (o6_1), (o6_2), (o7_0), (o7_1), (o7_2)))))
      (.leaf ((.inl ((s0), (s3), (s4), (fop BinOp.add FloatKind.f32 s11 0), (IntKind.i64.wrap (s12 + 1)), (o6_0), (o6_1), (o6_2), (o7_0), (o7_1), (o7_2))))))
     (.cond (fcmp BinOp.gtr FloatKind.f32 (fop BinOp.quo FloatKind.f32 (fop BinOp.sub FloatKind.f32 (fop BinOp.mul FloatKind.f32 (i2f FloatKind.f32 s12) s3) (G63 s0 (F234 { x := o6_0, y := o6_1, z := o6_2 : V3 } (F235 { x := o7_0, y := o7_1, z := o7_2 : V3 } (fop BinOp.mul FloatKind.f32 (i2f FloatKind.f32 s12) s3))))) (fop BinOp.mul FloatKind.f32 (i2f FloatKind.f32 s12) s3)) 1065353216)
      (.leaf ((.inl ((s0), (s3), (s4), (fop BinOp.add FloatKind.f32 s11 1065353216), (IntKind.i64.wrap (s12 + 1)), (o6_0), (o6_1), (o6_2), (o7_0), (o7_1), (o7_2)))))
      (.leaf ((.inl ((s0), (s3), (s4), (fop BinOp.add FloatKind.f32 s11 (fop BinOp.quo FloatKind.f32 (fop BinOp.sub FloatKind.f32 (fop BinOp.mul FloatKind.f32 (i2f FloatKind.f32 s12) s3) (G63 s0 (F234 { x := o6_0, y := o6_1, z := o6_2 : V3 } (F235 { x := o7_0, y := o7_1, z := o7_2 : V3 } (fop BinOp.mul FloatKind.f32 (i2f FloatKind.f32 s12) s3))))) (fop BinOp.mul FloatKind.f32 (i2f FloatKind.f32 s12) s3))), (IntKind.i64.wrap (s12 + 1)), (o6_0), (o6_1), (o6_2), (o7_0), (o7_1), (o7_2)))))))
    .non)
   (.leaf ((.inr ((fop BinOp.sub FloatKind.f32 1065353216 (fop BinOp.quo FloatKind.f32 s11 (i2f FloatKind.f32 s4))))))))
theorem step159_0 (m n : Nat) (s0 : Shp) (s3 : Nat) (s4 : Int) (s11 : Nat) (s12 : Int) (o6_0 : Nat) (o6_1 : Nat) (o6_2 : Nat) (o7_0 : Nat) (o7_1 : Nat) (o7_2 : Nat) : Lp159_0 m (n + 1) (s0, s3, s4, s11, s12, o6_0, o6_1, o6_2, o7_0, o7_1, o7_2) = (stp159_0 s0 s3 s4 s11 s12 o6_0 o6_1 o6_2 o7_0 o7_1 o7_2).run (Sum.elim (Lp159_0 m n) (fun r => some (fr159 r))) := by kernel_rfl
noncomputable def L159_0 (m : Nat)  : Nat → V159_0 → Option (Nat)
  | 0, _ => none
  | n + 1, v => (stp159_0 v.1 v.2.1 v.2.2.1 v.2.2.2.1 v.2.2.2.2.1 v.2.2.2.2.2.1 v.2.2.2.2.2.2.1 v.2.2.2.2.2.2.2.1 v.2.2.2.2.2.2.2.2.1 v.2.2.2.2.2.2.2.2.2.1 v.2.2.2.2.2.2.2.2.2.2).run (Sum.elim (fun v => L159_0 m n v) (fun r => some r))
theorem lem159_0 (m : Nat)   : ∀ (n : Nat) (v : V159_0), Lp159_0 m n v = (L159_0 m n v).map fr159
  | 0, _ => rfl
  | n + 1, v => (step159_0 m n v.1 v.2.1 v.2.2.1 v.2.2.2.1 v.2.2.2.2.1 v.2.2.2.2.2.1 v.2.2.2.2.2.2.1 v.2.2.2.2.2.2.2.1 v.2.2.2.2.2.2.2.2.1 v.2.2.2.2.2.2.2.2.2.1 v.2.2.2.2.2.2.2.2.2.2).trans (Tr.run_map (fun x => by
      rcases x with v | v
      · exact lem159_0 m n v
      · exact rfl) _)
noncomputable def seg159 (x0 : Shp) (x1 : V3) (x2 : V3) (x3 : Nat) (x4 : Int) : Tr ((Nat) ⊕ V159_0) :=
  (.leaf ((.inr (((x0), (x3), (x4), (0), (Int.ofNat 1), (x1.x), (x1.y), (x1.z), (x2.x), (x2.y), (x2.z))))))
theorem evseg159 (m : Nat) (x0 : Shp) (x1 : V3) (x2 : V3) (x3 : Nat) (x4 : Int) : evalF En159 m Tryz.f159 [.ptr .shp x0 0, .agg (enc .v3 x1), .agg (enc .v3 x2), .f32 x3, .int .i64 x4] = (seg159 x0 x1 x2 x3 x4).run (Sum.elim (fun r => some (fr159 r)) (Lp159_0 m m)) := by kernel_rfl
noncomputable def S159 (m : Nat) (x0 : Shp) (x1 : V3) (x2 : V3) (x3 : Nat) (x4 : Int) : Option (Nat) := (seg159 x0 x1 x2 x3 x4).run (Sum.elim (fun r => some r) (L159_0 m m))
theorem evS159 (m : Nat) (x0 : Shp) (x1 : V3) (x2 : V3) (x3 : Nat) (x4 : Int) : evalF En159 m Tryz.f159 [.ptr .shp x0 0, .agg (enc .v3 x1), .agg (enc .v3 x2), .f32 x3, .int .i64 x4] = (S159 m x0 x1 x2 x3 x4).map fr159 :=
  (evseg159 m x0 x1 x2 x3 x4).trans (Tr.run_map (fun x => by
    rcases x with v | v
    · exact rfl
    · exact lem159_0 m m v) _)

/-! (*impl.Shape).march -/
noncomputable def fr164 : (Int × Int × Nat × Nat × Nat × Nat) → CRes := (fun (x : Int × Int × Nat × Nat × Nat × Nat) => CRes.plain (.agg [.int .i64 (x).1, .int .i64 (x).2.1, .f32 (x).2.2.1, .f32 (x).2.2.2.1, .f32 (x).2.2.2.2.1, .f32 (x).2.2.2.2.2]))
noncomputable def fw164 : (Int × Int × Nat × Nat × Nat × Nat) → CRes := (fun (x : Int × Int × Nat × Nat × Nat × Nat) => CRes.plain (.agg [.int .i64 (x).1, .int .i64 (x).2.1, .f32 (x).2.2.1, .f32 (x).2.2.2.1, .f32 (x).2.2.2.2.1, .f32 (x).2.2.2.2.2]))
noncomputable abbrev En164 : Env := env tab28 exts (fgOf 53 [(3, [0, 4, 5, 6, 7, 8, 9])])
abbrev V164_0 := Shp × Nat × Nat × Int × Nat × Nat × Nat × Nat × Nat × Nat × Nat × Nat × Int × Int × Int × Nat × Nat × Nat × Nat
noncomputable def st164_0 (s0 : Shp) (s7 : Nat) (s8 : Nat) (s9 : Int) (o4_0 : Nat) (o4_1 : Nat) (o4_2 : Nat) (o4_3 : Nat) (o4_4 : Nat) (o4_5 : Nat) (o5_0 : Nat) (o5_1 : Nat) (o5_2 : Int) (o6_0 : Int) (o6_1 : Int) (o6_2 : Nat) (o6_3 : Nat) (o6_4 : Nat) (o6_5 : Nat) : St := mkSt 53 [(0, .ptr .shp s0 0), (4, .lptr 4 0 0), (5, .lptr 5 0 0), (6, .lptr 6 0 0), (7, .f32 s7), (8, .f32 s8), (9, .int .i64 s9)] [(4, .cells (some .ray) [.f32 o4_0, .f32 o4_1, .f32 o4_2, .f32 o4_3, .f32 o4_4, .f32 o4_5]), (5, .cells (some .mar) [.f32 o5_0, .f32 o5_1, .int .i64 o5_2]), (6, .cells none [.int .i64 o6_0, .int .i64 o6_1, .f32 o6_2, .f32 o6_3, .f32 o6_4, .f32 o6_5])]
noncomputable def Lp164_0 (m n : Nat) (v : V164_0) : Option CRes := loopN (evalC En164 m (cAt [1, 1, 0, 1, 0, 0] (bodyOf Tryz.f164))) (allBut 53 [0, 4, 5, 6, 7, 8, 9]) n (st164_0 v.1 v.2.1 v.2.2.1 v.2.2.2.1 v.2.2.2.2.1 v.2.2.2.2.2.1 v.2.2.2.2.2.2.1 v.2.2.2.2.2.2.2.1 v.2.2.2.2.2.2.2.2.1 v.2.2.2.2.2.2.2.2.2.1 v.2.2.2.2.2.2.2.2.2.2.1 v.2.2.2.2.2.2.2.2.2.2.2.1 v.2.2.2.2.2.2.2.2.2.2.2.2.1 v.2.2.2.2.2.2.2.2.2.2.2.2.2.1 v.2.2.2.2.2.2.2.2.2.2.2.2.2.2.1 v.2.2.2.2.2.2.2.2.2.2.2.2.2.2.2.1 v.2.2.2.2.2.2.2.2.2.2.2.2.2.2.2.2.1 v.2.2.2.2.2.2.2.2.2.2.2.2.2.2.2.2.2.1 v.2.2.2.2.2.2.2.2.2.2.2.2.2.2.2.2.2.2) (runK En164 m (finF Tryz.prog Tryz.f164) [.bk 0, .sq (cAt [1, 1, 1] (bodyOf Tryz.f164))])
noncomputable def stp164_0 (s0 : Shp) (s7 : Nat) (s8 : Nat) (s9 : Int) (o4_0 : Nat) (o4_1 : Nat) (o4_2 : Nat) (o4_3 : Nat) (o4_4 : Nat) (o4_5 : Nat) (o5_0 : Nat) (o5_1 : Nat) (o5_2 : Int) (o6_0 : Int) (o6_1 : Int) (o6_2 : Nat) (o6_3 : Nat) (o6_4 : Nat) (o6_5 : Nat) : Tr ((V164_0) ⊕ Int × Int × Nat × Nat × Nat × Nat) :=
  (.cond (decide (s9 ≤ o5_2))
   (.cond (P69 s0 (F246 { src := { x := o4_0, y := o4_1, z := o4_2 : V3 }, way := { x := o4_3, y := o4_4, z := o4_5 : V3 } : Ray } s7))
    (.cond (fcmp BinOp.lss FloatKind.f32 (G69 s0 (F246 { src := { x := o4_0, y := o4_1, z := o4_2 : V3 }, way := { x := o4_3, y := o4_4, z := o4_5 : V3 } : Ray } s7)) o5_0)
     (.leaf ((.inr ((((Int.ofNat 1), (s9), (s7), ((F246 { src := { x := o4_0, y := o4_1, z := o4_2 : V3 }, way := { x := o4_3, y := o4_4, z := o4_5 : V3 } : Ray } s7).x), ((F246 { src := { x := o4_0, y := o4_1, z := o4_2 : V3 }, way := { x := o4_3, y := o4_4, z := o4_5 : V3 } : Ray } s7).y), ((F246 { src := { x := o4_0, y := o4_1, z := o4_2 : V3 }, way := { x := o4_3, y := o4_4, z := o4_5 : V3 } : Ray } s7).z)))))))
     (.cond (!fcmp BinOp.leq FloatKind.f32 (fop BinOp.add FloatKind.f32 s7 (fop BinOp.quo FloatKind.f32 (G69 s0 (F246 { src := { x := o4_0, y := o4_1, z := o4_2 : V3 }, way := { x := o4_3, y := o4_4, z := o4_5 : V3 } : Ray } s7)) s8)) o5_1)
      (.leaf ((.inr ((((Int.ofNat 0), (s9), (fop BinOp.add FloatKind.f32 s7 (fop BinOp.quo FloatKind.f32 (G69 s0 (F246 { src := { x := o4_0, y := o4_1, z := o4_2 : V3 }, way := { x := o4_3, y := o4_4, z := o4_5 : V3 } : Ray } s7)) s8)), ((F246 { src := { x := o4_0, y := o4_1, z := o4_2 : V3 }, way := { x := o4_3, y := o4_4, z := o4_5 : V3 } : Ray } (fop BinOp.add FloatKind.f32 s7 (fop BinOp.quo FloatKind.f32 (G69 s0 (F246 { src := { x := o4_0, y := o4_1, z := o4_2 : V3 }, way := { x := o4_3, y := o4_4, z := o4_5 : V3 } : Ray } s7)) s8))).x), ((F246 { src := { x := o4_0, y := o4_1, z := o4_2 : V3 }, way := { x := o4_3, y := o4_4, z := o4_5 : V3 } : Ray } (fop BinOp.add FloatKind.f32 s7 (fop BinOp.quo FloatKind.f32 (G69 s0 (F246 { src := { x := o4_0, y := o4_1, z := o4_2 : V3 }, way := { x := o4_3, y := o4_4, z := o4_5 : V3 } : Ray } s7)) s8))).y), ((F246 { src := { x := o4_0, y := o4_1, z := o4_2 : V3 }, way := { x := o4_3, y := o4_4, z := o4_5 : V3 } : Ray } (fop BinOp.add FloatKind.f32 s7 (fop BinOp.quo FloatKind.f32 (G69 s0 (F246 { src := { x := o4_0, y := o4_1, z := o4_2 : V3 }, way := { x := o4_3, y := o4_4, z := o4_5 : V3 } : Ray } s7)) s8))).z)))))))
      (.leaf ((.inl ((s0), (fop BinOp.add FloatKind.f32 s7 (fop BinOp.quo FloatKind.f32 (G69 s0 (F246 { src := { x := o4_0, y := o4_1, z := o4_2 : V3 }, way := { x := o4_3, y := o4_4, z := o4_5 : V3 } : Ray } s7)) s8)), (s8), (IntKind.i64.wrap (s9 + 1)), (o4_0), (o4_1), (o4_2), (o4_3), (o4_4), (o4_5), (o5_0), (o5_1), (o5_2), (o6_0), (o6_1), (o6_2), (o6_3), (o6_4), (o6_5)))))))
    .non)
   (.leaf ((.inr ((((Int.ofNat 2), (o5_2), (s7), ((F246 { src := { x := o4_0, y := o4_1, z := o4_2 : V3 }, way := { x := o4_3, y := o4_4, z := o4_5 : V3 } : Ray } s7).x), ((F246 { src := { x := o4_0, y := o4_1, z := o4_2 : V3 }, way := { x := o4_3, y := o4_4, z := o4_5 : V3 } : Ray } s7).y), ((F246 { src := { x := o4_0, y := o4_1, z := o4_2 : V3 }, way := { x := o4_3, y := o4_4, z := o4_5 : V3 } : Ray } s7).z))))))))
theorem step164_0 (m n : Nat) (s0 : Shp) (s7 : Nat) (s8 : Nat) (s9 : Int) (o4_0 : Nat) (o4_1 : Nat) (o4_2 : Nat) (o4_3 : Nat) (o4_4 : Nat) (o4_5 : Nat) (o5_0 : Nat) (o5_1 : Nat) (o5_2 : Int) (o6_0 : Int) (o6_1 : Int) (o6_2 : Nat) (o6_3 : Nat) (o6_4 : Nat) (o6_5 : Nat) : Lp164_0 m (n + 1) (s0, s7, s8, s9, o4_0, o4_1, o4_2, o4_3, o4_4, o4_5, o5_0, o5_1, o5_2, o6_0, o6_1, o6_2, o6_3, o6_4, o6_5) = (stp164_0 s0 s7 s8 s9 o4_0 o4_1 o4_2 o4_3 o4_4 o4_5 o5_0 o5_1 o5_2 o6_0 o6_1 o6_2 o6_3 o6_4 o6_5).run (Sum.elim (Lp164_0 m n) (fun r => some (fr164 r))) := by kernel_rfl
noncomputable def L164_0 (m : Nat)  : Nat → V164_0 → Option (Int × Int × Nat × Nat × Nat × Nat)
  | 0, _ => none
  | n + 1, v => (stp164_0 v.1 v.2.1 v.2.2.1 v.2.2.2.1 v.2.2.2.2.1 v.2.2.2.2.2.1 v.2.2.2.2.2.2.1 v.2.2.2.2.2.2.2.1 v.2.2.2.2.2.2.2.2.1 v.2.2.2.2.2.2.2.2.2.1 v.2.2.2.2.2.2.2.2.2.2.1 v.2.2.2.2.2.2.2.2.2.2.2.1 v.2.2.2.2.2.2.2.2.2.2.2.2.1 v.2.2.2.2.2.2.2.2.2.2.2.2.2.1 v.2.2.2.2.2.2.2.2.2.2.2.2.2.2.1 v.2.2.2.2.2.2.2.2.2.2.2.2.2.2.2.1 v.2.2.2.2.2.2.2.2.2.2.2.2.2.2.2.2.1 v.2.2.2.2.2.2.2.2.2.2.2.2.2.2.2.2.2.1 v.2.2.2.2.2.2.2.2.2.2.2.2.2.2.2.2.2.2).run (Sum.elim (fun v => L164_0 m n v) (fun r => some r))
theorem lem164_0 (m : Nat)   : ∀ (n : Nat) (v : V164_0), Lp164_0 m n v = (L164_0 m n v).map fr164
  | 0, _ => rfl
  | n + 1, v => (step164_0 m n v.1 v.2.1 v.2.2.1 v.2.2.2.1 v.2.2.2.2.1 v.2.2.2.2.2.1 v.2.2.2.2.2.2.1 v.2.2.2.2.2.2.2.1 v.2.2.2.2.2.2.2.2.1 v.2.2.2.2.2.2.2.2.2.1 v.2.2.2.2.2.2.2.2.2.2.1 v.2.2.2.2.2.2.2.2.2.2.2.1 v.2.2.2.2.2.2.2.2.2.2.2.2.1 v.2.2.2.2.2.2.2.2.2.2.2.2.2.1 v.2.2.2.2.2.2.2.2.2.2.2.2.2.2.1 v.2.2.2.2.2.2.2.2.2.2.2.2.2.2.2.1 v.2.2.2.2.2.2.2.2.2.2.2.2.2.2.2.2.1 v.2.2.2.2.2.2.2.2.2.2.2.2.2.2.2.2.2.1 v.2.2.2.2.2.2.2.2.2.2.2.2.2.2.2.2.2.2).trans (Tr.run_map (fun x => by
      rcases x with v | v
      · exact lem164_0 m n v
      · exact rfl) _)
noncomputable def seg164 (x0 : Shp) (x1 : Ray) (x2 : Mar) : Tr ((Int × Int × Nat × Nat × Nat × Nat) ⊕ V164_0) :=
  (.cond ((tr245 x0).pre)
   (.leaf ((.inr (((x0), (0), (F245 x0), (Int.ofNat 1), (x1.src.x), (x1.src.y), (x1.src.z), (x1.way.x), (x1.way.y), (x1.way.z), (x2.near), (x2.most), (x2.steps), (Int.ofNat 0), (Int.ofNat 0), (0), (0), (0), (0))))))
   .non)
theorem evseg164 (m : Nat) (x0 : Shp) (x1 : Ray) (x2 : Mar) : evalF En164 m Tryz.f164 [.ptr .shp x0 0, .agg (enc .ray x1), .agg (enc .mar x2)] = (seg164 x0 x1 x2).run (Sum.elim (fun r => some (fr164 r)) (Lp164_0 m m)) := by kernel_rfl
noncomputable def S164 (m : Nat) (x0 : Shp) (x1 : Ray) (x2 : Mar) : Option (Int × Int × Nat × Nat × Nat × Nat) := (seg164 x0 x1 x2).run (Sum.elim (fun r => some r) (L164_0 m m))
theorem evS164 (m : Nat) (x0 : Shp) (x1 : Ray) (x2 : Mar) : evalF En164 m Tryz.f164 [.ptr .shp x0 0, .agg (enc .ray x1), .agg (enc .mar x2)] = (S164 m x0 x1 x2).map fr164 :=
  (evseg164 m x0 x1 x2).trans (Tr.run_map (fun x => by
    rcases x with v | v
    · exact rfl
    · exact lem164_0 m m v) _)

/-! (*impl.Shape).ambient -/
noncomputable def fr170 : (Nat) → CRes := (fun (x : Nat) => CRes.plain (.f32 x))
noncomputable def fw170 : (Nat) → CRes := (fun (x : Nat) => CRes.plain (.f32 x))
noncomputable abbrev En170 : Env := env tab28 exts (fgOf 49 [(3, [0, 3, 4, 6, 7, 11, 12])])
abbrev V170_0 := Shp × Nat × Int × Nat × Int × Nat × Nat × Nat × Nat × Nat × Nat
noncomputable def st170_0 (s0 : Shp) (s3 : Nat) (s4 : Int) (s11 : Nat) (s12 : Int) (o6_0 : Nat) (o6_1 : Nat) (o6_2 : Nat) (o7_0 : Nat) (o7_1 : Nat) (o7_2 : Nat) : St := mkSt 49 [(0, .ptr .shp s0 0), (3, .f32 s3), (4, .int .i64 s4), (6, .lptr 6 0 0), (7, .lptr 7 0 0), (11, .f32 s11), (12, .int .i64 s12)] [(6, .cells (some .v3) [.f32 o6_0, .f32 o6_1, .f32 o6_2]), (7, .cells (some .v3) [.f32 o7_0, .f32 o7_1, .f32 o7_2])]
noncomputable def Lp170_0 (m n : Nat) (v : V170_0) : Option CRes := loopN (evalC En170 m (cAt [1, 1, 0, 1, 0, 0] (bodyOf Tryz.f170))) (allBut 49 [0, 3, 4, 6, 7, 11, 12]) n (st170_0 v.1 v.2.1 v.2.2.1 v.2.2.2.1 v.2.2.2.2.1 v.2.2.2.2.2.1 v.2.2.2.2.2.2.1 v.2.2.2.2.2.2.2.1 v.2.2.2.2.2.2.2.2.1 v.2.2.2.2.2.2.2.2.2.1 v.2.2.2.2.2.2.2.2.2.2) (runK En170 m (finF Tryz.prog Tryz.f170) [.bk 0, .sq (cAt [1, 1, 1] (bodyOf Tryz.f170))])
noncomputable def stp170_0 (s0 : Shp) (s3 : Nat) (s4 : Int) (s11 : Nat) (s12 : Int) (o6_0 : Nat) (o6_1 : Nat) (o6_2 : Nat) (o7_0 : Nat) (o7_1 : Nat) (o7_2 : Nat) : Tr ((V170_0) ⊕ Nat) :=
  (.cond (decide (s12 ≤ s4))
   (.cond (P69 s0 (F242 { x := o6_0, y := o6_1, z := o6_2 : V3 } (F243 { x := o7_0, y := o7_1, z := o7_2 : V3 } (fop BinOp.mul FloatKind.f32 (i2f FloatKind.f32 s12) s3))))
    (.cond (!fcmp BinOp.geq FloatKind.f32 (fop BinOp.quo FloatKind.f32 (fop BinOp.sub FloatKind.f32 (fop BinOp.mul FloatKind.f32 (i2f FloatKind.f32 s12) s3) (G69 s0 (F242 { x := o6_0, y := o6_1, z := o6_2 : V3 } (F243 { x := o7_0, y := o7_1, z := o7_2 : V3 } (fop BinOp.mul FloatKind.f32 (i2f FloatKind.f32 s12) s3))))) (fop BinOp.mul FloatKind.f32 (i2f FloatKind.f32 s12) s3)) 0)
     (.leaf ((.inl ((s0), (s3), (s4), (fop BinOp.add FloatKind.f32 s11 (F226 0 1065353216)), (IntKind.i64.wrap (s12 + 1)), (o6_0), (o6_1), (o6_2), (o7_0), (o7_1), (o7_2)))))
     (.leaf ((.inl ((s0), (s3), (s4), (fop BinOp.add FloatKind.f32 s11 (F226 (fop BinOp.quo FloatKind.f32 (fop BinOp.sub FloatKind.f32 (fop BinOp.mul FloatKind.f32 (i2f FloatKind.f32 s12) s3) (G69 s0 (F242 { x := o6_0, y := o6_1, z := o6_2 : V3 } (F243 { x := o7_0, y := o7_1, z := o7_2 : V3 } (fop BinOp.mul FloatKind.f32 (i2f FloatKind.f32 s12) s3))))) (fop BinOp.mul FloatKind.f32 (i2f FloatKind.f32 s12) s3)) 1065353216)), (IntKind.i64.wrap (s12 + 1)), (o6_0), (o6_1), (o6_2), (o7_0), (o7_1), (o7_2))))))
    .non)
   (.leaf ((.inr ((fop BinOp.sub FloatKind.f32 1065353216 (fop BinOp.quo FloatKind.f32 s11 (i2f FloatKind.f32 s4))))))))
theorem step170_0 (m n : Nat) (s0 : Shp) (s3 : Nat) (s4 : Int) (s11 : Nat) (s12 : Int) (o6_0 : Nat) (o6_1 : Nat) (o6_2 : Nat) (o7_0 : Nat) (o7_1 : Nat) (o7_2 : Nat) : Lp170_0 m (n + 1) (s0, s3, s4, s11, s12, o6_0, o6_1, o6_2, o7_0, o7_1, o7_2) = (stp170_0 s0 s3 s4 s11 s12 o6_0 o6_1 o6_2 o7_0 o7_1 o7_2).run (Sum.elim (Lp170_0 m n) (fun r => some (fr170 r))) := by kernel_rfl
noncomputable def L170_0 (m : Nat)  : Nat → V170_0 → Option (Nat)
  | 0, _ => none
  | n + 1, v => (stp170_0 v.1 v.2.1 v.2.2.1 v.2.2.2.1 v.2.2.2.2.1 v.2.2.2.2.2.1 v.2.2.2.2.2.2.1 v.2.2.2.2.2.2.2.1 v.2.2.2.2.2.2.2.2.1 v.2.2.2.2.2.2.2.2.2.1 v.2.2.2.2.2.2.2.2.2.2).run (Sum.elim (fun v => L170_0 m n v) (fun r => some r))
theorem lem170_0 (m : Nat)   : ∀ (n : Nat) (v : V170_0), Lp170_0 m n v = (L170_0 m n v).map fr170
  | 0, _ => rfl
  | n + 1, v => (step170_0 m n v.1 v.2.1 v.2.2.1 v.2.2.2.1 v.2.2.2.2.1 v.2.2.2.2.2.1 v.2.2.2.2.2.2.1 v.2.2.2.2.2.2.2.1 v.2.2.2.2.2.2.2.2.1 v.2.2.2.2.2.2.2.2.2.1 v.2.2.2.2.2.2.2.2.2.2).trans (Tr.run_map (fun x => by
      rcases x with v | v
      · exact lem170_0 m n v
      · exact rfl) _)
noncomputable def seg170 (x0 : Shp) (x1 : V3) (x2 : V3) (x3 : Nat) (x4 : Int) : Tr ((Nat) ⊕ V170_0) :=
  (.leaf ((.inr (((x0), (x3), (x4), (0), (Int.ofNat 1), (x1.x), (x1.y), (x1.z), (x2.x), (x2.y), (x2.z))))))
theorem evseg170 (m : Nat) (x0 : Shp) (x1 : V3) (x2 : V3) (x3 : Nat) (x4 : Int) : evalF En170 m Tryz.f170 [.ptr .shp x0 0, .agg (enc .v3 x1), .agg (enc .v3 x2), .f32 x3, .int .i64 x4] = (seg170 x0 x1 x2 x3 x4).run (Sum.elim (fun r => some (fr170 r)) (Lp170_0 m m)) := by kernel_rfl
noncomputable def S170 (m : Nat) (x0 : Shp) (x1 : V3) (x2 : V3) (x3 : Nat) (x4 : Int) : Option (Nat) := (seg170 x0 x1 x2 x3 x4).run (Sum.elim (fun r => some r) (L170_0 m m))
theorem evS170 (m : Nat) (x0 : Shp) (x1 : V3) (x2 : V3) (x3 : Nat) (x4 : Int) : evalF En170 m Tryz.f170 [.ptr .shp x0 0, .agg (enc .v3 x1), .agg (enc .v3 x2), .f32 x3, .int .i64 x4] = (S170 m x0 x1 x2 x3 x4).map fr170 :=
  (evseg170 m x0 x1 x2 x3 x4).trans (Tr.run_map (fun x => by
    rcases x with v | v
    · exact rfl
    · exact lem170_0 m m v) _)

/-! spec.l03Normal -/
noncomputable def fr154 : (V3) → CRes := (fun (x : V3) => CRes.plain (.agg (enc .v3 x)))
noncomputable def fw154 : (V3) → CRes := (fun (x : V3) => CRes.plain (.agg (enc .v3 x)))
noncomputable def tr154 (x0 : Shp) (x1 : V3) (x2 : Nat) : Tr (V3) :=
  (.cond (P63 x0 (F234 x1 { x := x2, y := 0, z := 0 : V3 }))
   (.cond (P63 x0 (F157 x1 { x := x2, y := 0, z := 0 : V3 }))
    (.cond (P63 x0 (F234 x1 { x := 0, y := x2, z := 0 : V3 }))
     (.cond (P63 x0 (F157 x1 { x := 0, y := x2, z := 0 : V3 }))
      (.cond (P63 x0 (F234 x1 { x := 0, y := 0, z := x2 : V3 }))
       (.cond (P63 x0 (F157 x1 { x := 0, y := 0, z := x2 : V3 }))
        (.leaf ((⟨((F156 { x := fop BinOp.sub FloatKind.f32 (G63 x0 (F234 x1 { x := x2, y := 0, z := 0 : V3 })) (G63 x0 (F157 x1 { x := x2, y := 0, z := 0 : V3 })), y := fop BinOp.sub FloatKind.f32 (G63 x0 (F234 x1 { x := 0, y := x2, z := 0 : V3 })) (G63 x0 (F157 x1 { x := 0, y := x2, z := 0 : V3 })), z := fop BinOp.sub FloatKind.f32 (G63 x0 (F234 x1 { x := 0, y := 0, z := x2 : V3 })) (G63 x0 (F157 x1 { x := 0, y := 0, z := x2 : V3 })) : V3 }).x), ((F156 { x := fop BinOp.sub FloatKind.f32 (G63 x0 (F234 x1 { x := x2, y := 0, z := 0 : V3 })) (G63 x0 (F157 x1 { x := x2, y := 0, z := 0 : V3 })), y := fop BinOp.sub FloatKind.f32 (G63 x0 (F234 x1 { x := 0, y := x2, z := 0 : V3 })) (G63 x0 (F157 x1 { x := 0, y := x2, z := 0 : V3 })), z := fop BinOp.sub FloatKind.f32 (G63 x0 (F234 x1 { x := 0, y := 0, z := x2 : V3 })) (G63 x0 (F157 x1 { x := 0, y := 0, z := x2 : V3 })) : V3 }).y), ((F156 { x := fop BinOp.sub FloatKind.f32 (G63 x0 (F234 x1 { x := x2, y := 0, z := 0 : V3 })) (G63 x0 (F157 x1 { x := x2, y := 0, z := 0 : V3 })), y := fop BinOp.sub FloatKind.f32 (G63 x0 (F234 x1 { x := 0, y := x2, z := 0 : V3 })) (G63 x0 (F157 x1 { x := 0, y := x2, z := 0 : V3 })), z := fop BinOp.sub FloatKind.f32 (G63 x0 (F234 x1 { x := 0, y := 0, z := x2 : V3 })) (G63 x0 (F157 x1 { x := 0, y := 0, z := x2 : V3 })) : V3 }).z)⟩ : V3)))
        .non)
       .non)
      .non)
     .non)
    .non)
   .non)
theorem ev154 (x0 : Shp) (x1 : V3) (x2 : Nat) : evalF (env tab28 exts (fun _ => [])) 0 Tryz.f154 [.ptr .shp x0 0, .agg (enc .v3 x1), .f32 x2] = (tr154 x0 x1 x2).toOpt fr154 := by kernel_rfl
noncomputable def F154 (x0 : Shp) (x1 : V3) (x2 : Nat) : V3 := (tr154 x0 x1 x2).val

/-! (*impl.Shape).normal$1 -/
noncomputable def fr247 : (Nat) → CRes := (fun (x : Nat) => CRes.plain (.f32 x))
noncomputable def fw247 : (Nat) → CRes := (fun (x : Nat) => CRes.plain (.f32 x))
noncomputable def tr247 (x0 : V3) (c0 : Shp) (c1 : V3) : Tr (Nat) :=
  (.cond (P69 c0 (F242 c1 x0))
   (.cond (P69 c0 (F168 c1 x0))
    (.leaf (fop BinOp.sub FloatKind.f32 (G69 c0 (F242 c1 x0)) (G69 c0 (F168 c1 x0))))
    .non)
   .non)
theorem ev247 (x0 : V3) (c0 : Shp) (c1 : V3) : evalF (env tab28 exts (fun _ => [])) 0 Tryz.f247 [.agg (enc .v3 x0), .ptr .pshp c0 0, .ptr .v3 c1 0] = (tr247 x0 c0 c1).toOpt fr247 := by kernel_rfl
noncomputable def F247 (x0 : V3) (c0 : Shp) (c1 : V3) : Nat := (tr247 x0 c0 c1).val

end Go.Proofs.YtponnbnebjhepaaGreat

namespace Go.Proofs.YtponnbnebjhepaaGreat
open Go Go.Ev
set_option maxRecDepth 100000

/-! Marches. -/
abbrev Hit6 := Int × Int × Nat × Nat × Nat × Nat
/-- A march: how the distance is asked, where on the ray, which far is too far. -/
noncomputable def marchF (D : V3 → Nat) (on : Nat → V3) (over : Nat → Bool) (near slope : Nat) (steps : Int) : Nat → Nat → Int → Hit6
  | 0, far, _ => (2, steps, far, (on far).x, (on far).y, (on far).z)
  | r + 1, far, k =>
    bif fcmp .lss .f32 (D (on far)) near then (1, k, far, (on far).x, (on far).y, (on far).z) else
    bif over (fop .add .f32 far (fop .quo .f32 (D (on far)) slope)) then (0, k, fop .add .f32 far (fop .quo .f32 (D (on far)) slope), (on (fop .add .f32 far (fop .quo .f32 (D (on far)) slope))).x, (on (fop .add .f32 far (fop .quo .f32 (D (on far)) slope))).y, (on (fop .add .f32 far (fop .quo .f32 (D (on far)) slope))).z) else
    marchF D on over near slope steps r (fop .add .f32 far (fop .quo .f32 (D (on far)) slope)) (k + 1)

noncomputable def overS (most : Nat) (x : Nat) : Bool := fcmp .gtr .f32 x most || fcmp .neq .f32 x x
noncomputable def overI (most : Nat) (x : Nat) : Bool := !fcmp .leq .f32 x most

noncomputable def F153 (s : Shp) (r : Ray) (m : Mar) : Hit6 := marchF (G63 s) (F237 r) (overS m.most) m.near (F236 s) m.steps m.steps.toNat 0 1
noncomputable def P153 (s : Shp) (_ : Ray) (m : Mar) : Bool := F60 s && decide (1 ≤ m.steps) && decide (m.steps ≤ 64)
noncomputable def F164 (s : Shp) (r : Ray) (m : Mar) : Hit6 := marchF (G69 s) (F246 r) (overI m.most) m.near (F245 s) m.steps m.steps.toNat 0 1
noncomputable def P164 (s : Shp) (_ : Ray) (m : Mar) : Bool := F60 s && decide (1 ≤ m.steps) && decide (m.steps ≤ 64)

theorem loop153 (mm : Nat) (s : Shp) (hv : F60 s = true) (r : Ray) (m : Mar) (h0 : 0 ≤ m.steps) (h1 : m.steps ≤ 64) (sl : Nat) (o0 o1 : Int) (o2 o3 o4 o5 : Nat) : ∀ (q k n : Nat) (far : Nat), k + q = m.steps.toNat + 1 → q < n →
    L153_0 mm n (s, r, m, sl, far, (k : Int), o0, o1, o2, o3, o4, o5) = some (marchF (G63 s) (F237 r) (overS m.most) m.near sl m.steps q far (k : Int))
  | 0, k, n + 1, far, hk, _ => by
    simp only [L153_0, stp153_0, Tr.run, dF (p := (k : Int) ≤ m.steps) (by omega), cond_false, Sum.elim_inr, marchF]
    rfl
  | q + 1, k, n + 1, far, hk, hn => by
    have hp : ∀ p, P63 s p = true := fun _ => hv
    have ih := fun far' => loop153 mm s hv r m h0 h1 sl o0 o1 o2 o3 o4 o5 q (k + 1) n far' (by omega) (by omega)
    simp only [L153_0, stp153_0, Tr.run, dT (p := (k : Int) ≤ m.steps) (by omega), hp, cond_true, wrap_succ (n := k) (by omega), marchF, overS]
    cases fcmp .lss .f32 (G63 s (F237 r far)) m.near
    · simp only [cond_false]
      cases fcmp .gtr .f32 (fop .add .f32 far (fop .quo .f32 (G63 s (F237 r far)) sl)) m.most
      · simp only [cond_false, Bool.false_or]
        cases fcmp .neq .f32 (fop .add .f32 far (fop .quo .f32 (G63 s (F237 r far)) sl)) (fop .add .f32 far (fop .quo .f32 (G63 s (F237 r far)) sl))
        · simp only [cond_false, Sum.elim_inl]
          rw [ih]; rfl
        · rfl
      · rfl
    · rfl

theorem pre236 {s : Shp} (h : F60 s = true) : (tr236 s).pre = true := by
  have h1 : P277 s = true := h
  have h2 : (tr265 s).pre = true := by
    unfold tr265
    simp only [Tr.pre, h, h1, Bool.not_true, cond_false, cond_true]
  unfold tr236
  simp only [Tr.pre, h2, cond_true]
  cases (F265 s).snd <;> cases fcmp .geq .f32 (F265 s).fst 1065353216 <;> rfl

theorem val153 (s : Shp) (r : Ray) (m : Mar) (h : P153 s r m = true) : ∃ q, S153 q s r m = some (F153 s r m) := by
  unfold P153 at h
  simp only [Bool.and_eq_true, decide_eq_true_eq] at h
  obtain ⟨⟨hv, h1⟩, h2⟩ := h
  refine ⟨65, ?_⟩
  simp only [S153, seg153, Tr.run, pre236 hv, cond_true, Sum.elim_inr]
  have := loop153 65 s hv r m (by omega) h2 (F236 s) (Int.ofNat 0) (Int.ofNat 0) 0 0 0 0 m.steps.toNat 1 65 0 (by omega) (by omega)
  exact this

theorem loop164 (mm : Nat) (s : Shp) (hv : F60 s = true) (r : Ray) (m : Mar) (h0 : 0 ≤ m.steps) (h1 : m.steps ≤ 64) (sl : Nat) (o0 o1 : Int) (o2 o3 o4 o5 : Nat) : ∀ (q k n : Nat) (far : Nat), k + q = m.steps.toNat + 1 → q < n →
    L164_0 mm n (s, far, sl, (k : Int), r.src.x, r.src.y, r.src.z, r.way.x, r.way.y, r.way.z, m.near, m.most, m.steps, o0, o1, o2, o3, o4, o5) = some (marchF (G69 s) (F246 r) (overI m.most) m.near sl m.steps q far (k : Int))
  | 0, k, n + 1, far, hk, _ => by
    simp only [L164_0, stp164_0, Tr.run, dF (p := (k : Int) ≤ m.steps) (by omega), cond_false, Sum.elim_inr, marchF]
    rfl
  | q + 1, k, n + 1, far, hk, hn => by
    have hp : ∀ p, P69 s p = true := fun _ => hv
    have ih := fun far' => loop164 mm s hv r m h0 h1 sl o0 o1 o2 o3 o4 o5 q (k + 1) n far' (by omega) (by omega)
    have hr : (⟨⟨r.src.x, r.src.y, r.src.z⟩, ⟨r.way.x, r.way.y, r.way.z⟩⟩ : Ray) = r := rfl
    simp only [L164_0, stp164_0, Tr.run, dT (p := (k : Int) ≤ m.steps) (by omega), hp, cond_true, wrap_succ (n := k) (by omega), marchF, overI, hr]
    cases fcmp .lss .f32 (G69 s (F246 r far)) m.near
    · simp only [cond_false]
      cases fcmp .leq .f32 (fop .add .f32 far (fop .quo .f32 (G69 s (F246 r far)) sl)) m.most
      · rfl
      · simp only [cond_false, Bool.not_true, Sum.elim_inl]
        rw [ih]; rfl
    · rfl

theorem pre245 {s : Shp} (h : F60 s = true) : (tr245 s).pre = true := by
  have h1 : P268 s = true := h
  unfold tr245
  simp only [Tr.pre, h1, cond_true]
  cases fcmp .geq .f32 (F268 s) 1065353216 <;> rfl

theorem val164 (s : Shp) (r : Ray) (m : Mar) (h : P164 s r m = true) : ∃ q, S164 q s r m = some (F164 s r m) := by
  unfold P164 at h
  simp only [Bool.and_eq_true, decide_eq_true_eq] at h
  obtain ⟨⟨hv, h1⟩, h2⟩ := h
  refine ⟨65, ?_⟩
  simp only [S164, seg164, Tr.run, pre245 hv, cond_true, Sum.elim_inr]
  have := loop164 65 s hv r m (by omega) h2 (F245 s) (Int.ofNat 0) (Int.ofNat 0) 0 0 0 0 m.steps.toNat 1 65 0 (by omega) (by omega)
  exact this

/-! How free a place is. -/
noncomputable def ambF (D : Nat → Nat) (step : Nat) : Nat → Nat → Int → Nat
  | 0, sum, _ => sum
  | r + 1, sum, k => ambF D step r (fop .add .f32 sum (D (fop .mul .f32 (i2f .f32 k) step))) (k + 1)
/-- What a step adds. -/
noncomputable def ambX (lim : Nat → Nat) (d f : Nat) : Nat := lim (bif !fcmp .geq .f32 (fop .quo .f32 (fop .sub .f32 f d) f) 0 then 0 else fop .quo .f32 (fop .sub .f32 f d) f)
noncomputable def limS (x : Nat) : Nat := bif fcmp .gtr .f32 x 1065353216 then 1065353216 else x
noncomputable def limI (x : Nat) : Nat := F226 x 1065353216

noncomputable def F159 (s : Shp) (p n : V3) (step : Nat) (count : Int) : Nat :=
  fop .sub .f32 1065353216 (fop .quo .f32 (ambF (fun f => ambX limS (G63 s (F234 p (F235 n f))) f) step count.toNat 0 1) (i2f .f32 count))
noncomputable def P159 (s : Shp) (_ _ : V3) (_ : Nat) (count : Int) : Bool := F60 s && decide (1 ≤ count) && decide (count ≤ 8)
noncomputable def F170 (s : Shp) (p n : V3) (step : Nat) (count : Int) : Nat :=
  fop .sub .f32 1065353216 (fop .quo .f32 (ambF (fun f => ambX limI (G69 s (F242 p (F243 n f))) f) step count.toNat 0 1) (i2f .f32 count))
noncomputable def P170 (s : Shp) (_ _ : V3) (_ : Nat) (count : Int) : Bool := F60 s && decide (1 ≤ count) && decide (count ≤ 8)

theorem loop159 (mm : Nat) (s : Shp) (hv : F60 s = true) (p v : V3) (step : Nat) (count : Int) (h0 : 0 ≤ count) (h1 : count ≤ 8) : ∀ (q k n : Nat) (sum : Nat), k + q = count.toNat + 1 → q < n →
    L159_0 mm n (s, step, count, sum, (k : Int), p.x, p.y, p.z, v.x, v.y, v.z) = some (fop .sub .f32 1065353216 (fop .quo .f32 (ambF (fun f => ambX limS (G63 s (F234 p (F235 v f))) f) step q sum (k : Int)) (i2f .f32 count)))
  | 0, k, n + 1, sum, hk, _ => by
    simp only [L159_0, stp159_0, Tr.run, dF (p := (k : Int) ≤ count) (by omega), cond_false, Sum.elim_inr, ambF]
  | q + 1, k, n + 1, sum, hk, hn => by
    have hp : ∀ p, P63 s p = true := fun _ => hv
    have ih := fun sum' => loop159 mm s hv p v step count h0 h1 q (k + 1) n sum' (by omega) (by omega)
    have e1 : (⟨p.x, p.y, p.z⟩ : V3) = p := rfl
    have e2 : (⟨v.x, v.y, v.z⟩ : V3) = v := rfl
    simp only [L159_0, stp159_0, Tr.run, dT (p := (k : Int) ≤ count) (by omega), hp, cond_true, wrap_succ (n := k) (by omega), ambF, ambX, limS, e1, e2]
    cases fcmp .geq .f32 (fop .quo .f32 (fop .sub .f32 (fop .mul .f32 (i2f .f32 (k : Int)) step) (G63 s (F234 p (F235 v (fop .mul .f32 (i2f .f32 (k : Int)) step))))) (fop .mul .f32 (i2f .f32 (k : Int)) step)) 0
    · simp only [Bool.not_false, cond_true]
      cases fcmp .gtr .f32 0 1065353216
      · simp only [cond_false, Sum.elim_inl]; rw [ih]; rfl
      · simp only [cond_true, Sum.elim_inl]; rw [ih]; rfl
    · simp only [Bool.not_true, cond_false]
      cases fcmp .gtr .f32 (fop .quo .f32 (fop .sub .f32 (fop .mul .f32 (i2f .f32 (k : Int)) step) (G63 s (F234 p (F235 v (fop .mul .f32 (i2f .f32 (k : Int)) step))))) (fop .mul .f32 (i2f .f32 (k : Int)) step)) 1065353216
      · simp only [cond_false, Sum.elim_inl]; rw [ih]; rfl
      · simp only [cond_true, Sum.elim_inl]; rw [ih]; rfl

theorem val159 (s : Shp) (p v : V3) (step : Nat) (count : Int) (h : P159 s p v step count = true) : ∃ q, S159 q s p v step count = some (F159 s p v step count) := by
  unfold P159 at h
  simp only [Bool.and_eq_true, decide_eq_true_eq] at h
  obtain ⟨⟨hv, h1⟩, h2⟩ := h
  refine ⟨9, ?_⟩
  simp only [S159, seg159, Tr.run, Sum.elim_inr]
  exact loop159 9 s hv p v step count (by omega) h2 count.toNat 1 9 0 (by omega) (by omega)

theorem loop170 (mm : Nat) (s : Shp) (hv : F60 s = true) (p v : V3) (step : Nat) (count : Int) (h0 : 0 ≤ count) (h1 : count ≤ 8) : ∀ (q k n : Nat) (sum : Nat), k + q = count.toNat + 1 → q < n →
    L170_0 mm n (s, step, count, sum, (k : Int), p.x, p.y, p.z, v.x, v.y, v.z) = some (fop .sub .f32 1065353216 (fop .quo .f32 (ambF (fun f => ambX limI (G69 s (F242 p (F243 v f))) f) step q sum (k : Int)) (i2f .f32 count)))
  | 0, k, n + 1, sum, hk, _ => by
    simp only [L170_0, stp170_0, Tr.run, dF (p := (k : Int) ≤ count) (by omega), cond_false, Sum.elim_inr, ambF]
  | q + 1, k, n + 1, sum, hk, hn => by
    have hp : ∀ p, P69 s p = true := fun _ => hv
    have ih := fun sum' => loop170 mm s hv p v step count h0 h1 q (k + 1) n sum' (by omega) (by omega)
    have e1 : (⟨p.x, p.y, p.z⟩ : V3) = p := rfl
    have e2 : (⟨v.x, v.y, v.z⟩ : V3) = v := rfl
    simp only [L170_0, stp170_0, Tr.run, dT (p := (k : Int) ≤ count) (by omega), hp, cond_true, wrap_succ (n := k) (by omega), ambF, ambX, limI, e1, e2]
    cases fcmp .geq .f32 (fop .quo .f32 (fop .sub .f32 (fop .mul .f32 (i2f .f32 (k : Int)) step) (G69 s (F242 p (F243 v (fop .mul .f32 (i2f .f32 (k : Int)) step))))) (fop .mul .f32 (i2f .f32 (k : Int)) step)) 0
    · simp only [Bool.not_false, cond_true, Sum.elim_inl]; rw [ih]; rfl
    · simp only [Bool.not_true, cond_false, Sum.elim_inl]; rw [ih]; rfl

theorem val170 (s : Shp) (p v : V3) (step : Nat) (count : Int) (h : P170 s p v step count = true) : ∃ q, S170 q s p v step count = some (F170 s p v step count) := by
  unfold P170 at h
  simp only [Bool.and_eq_true, decide_eq_true_eq] at h
  obtain ⟨⟨hv, h1⟩, h2⟩ := h
  refine ⟨9, ?_⟩
  simp only [S170, seg170, Tr.run, Sum.elim_inr]
  exact loop170 9 s hv p v step count (by omega) h2 count.toNat 1 9 0 (by omega) (by omega)

/-! Normals. -/
noncomputable def P154 (s : Shp) (_ : V3) (_ : Nat) : Bool := F60 s
noncomputable def G154 (s : Shp) (p : V3) (st : Nat) : V3 :=
  F156 ⟨fop .sub .f32 (G63 s (F234 p ⟨st, 0, 0⟩)) (G63 s (F157 p ⟨st, 0, 0⟩)), fop .sub .f32 (G63 s (F234 p ⟨0, st, 0⟩)) (G63 s (F157 p ⟨0, st, 0⟩)), fop .sub .f32 (G63 s (F234 p ⟨0, 0, st⟩)) (G63 s (F157 p ⟨0, 0, st⟩))⟩
theorem own154 (s : Shp) (p : V3) (st : Nat) (h : P154 s p st = true) : (tr154 s p st).pre = true ∧ (tr154 s p st).val = G154 s p st := by
  have hp : ∀ p, P63 s p = true := fun _ => h
  unfold tr154 G154
  simp only [Tr.pre, Tr.val, hp, cond_true]
  exact ⟨trivial, trivial⟩
noncomputable def P247 (_ : V3) (c0 : Shp) (_ : V3) : Bool := F60 c0
noncomputable def G247 (v : V3) (s : Shp) (p : V3) : Nat := fop .sub .f32 (G69 s (F242 p v)) (G69 s (F168 p v))
theorem own247 (v : V3) (s : Shp) (p : V3) (h : P247 v s p = true) : (tr247 v s p).pre = true ∧ (tr247 v s p).val = G247 v s p := by
  have hp : ∀ p, P69 s p = true := fun _ => h
  unfold tr247 G247
  simp only [Tr.pre, Tr.val, hp, cond_true]
  exact ⟨trivial, trivial⟩

end Go.Proofs.YtponnbnebjhepaaGreat

namespace Go.Proofs.YtponnbnebjhepaaGreat
open Go Go.Ev
set_option maxRecDepth 100000

noncomputable def ent153 : List PV → Option (Bool × CRes)
  | [.ptr .shp x0 0, .ptr .ray x1 0, .ptr .mar x2 0] => some (P153 x0 x1 x2, fw153 (F153 x0 x1 x2))
  | _ => none
theorem ok153 : EntSound Tryz.prog 153 ent153 := by
  refine entryW tab28_ok exts_ok (fgOf 69 [(4, [0, 1, 2, 6, 7, 8, 9])]) (fn := Tryz.f153) (by kernel_rfl) (by kernel_rfl) (fun args c h => ?_)
  unfold ent153 at h
  split at h <;> first | (cases h; done) | skip
  rename_i x0 x1 x2
  simp only [Option.some.injEq, Prod.mk.injEq] at h
  obtain ⟨hp, rfl⟩ := h
  obtain ⟨m, hv⟩ := val153 x0 x1 x2 hp
  exact ⟨m, fr153 (F153 x0 x1 x2), (evS153 m x0 x1 x2).trans (by rw [hv]; rfl), CLe.refl _⟩

noncomputable def ent159 : List PV → Option (Bool × CRes)
  | [.ptr .shp x0 0, .agg [.f32 x1_0, .f32 x1_1, .f32 x1_2], .agg [.f32 x2_0, .f32 x2_1, .f32 x2_2], .f32 x3, .int .i64 x4] => some (P159 x0 (⟨x1_0, x1_1, x1_2⟩ : V3) (⟨x2_0, x2_1, x2_2⟩ : V3) x3 x4, fw159 (F159 x0 (⟨x1_0, x1_1, x1_2⟩ : V3) (⟨x2_0, x2_1, x2_2⟩ : V3) x3 x4))
  | _ => none
theorem ok159 : EntSound Tryz.prog 159 ent159 := by
  refine entryW tab28_ok exts_ok (fgOf 50 [(3, [0, 3, 4, 6, 7, 11, 12])]) (fn := Tryz.f159) (by kernel_rfl) (by kernel_rfl) (fun args c h => ?_)
  unfold ent159 at h
  split at h <;> first | (cases h; done) | skip
  rename_i x0 x1_0 x1_1 x1_2 x2_0 x2_1 x2_2 x3 x4
  simp only [Option.some.injEq, Prod.mk.injEq] at h
  obtain ⟨hp, rfl⟩ := h
  obtain ⟨m, hv⟩ := val159 x0 (⟨x1_0, x1_1, x1_2⟩ : V3) (⟨x2_0, x2_1, x2_2⟩ : V3) x3 x4 hp
  exact ⟨m, fr159 (F159 x0 (⟨x1_0, x1_1, x1_2⟩ : V3) (⟨x2_0, x2_1, x2_2⟩ : V3) x3 x4), (evS159 m x0 (⟨x1_0, x1_1, x1_2⟩ : V3) (⟨x2_0, x2_1, x2_2⟩ : V3) x3 x4).trans (by rw [hv]; rfl), CLe.refl _⟩

noncomputable def ent164 : List PV → Option (Bool × CRes)
  | [.ptr .shp x0 0, .agg [.f32 x1_0, .f32 x1_1, .f32 x1_2, .f32 x1_3, .f32 x1_4, .f32 x1_5], .agg [.f32 x2_0, .f32 x2_1, .int .i64 x2_2]] => some (P164 x0 (⟨⟨x1_0, x1_1, x1_2⟩, ⟨x1_3, x1_4, x1_5⟩⟩ : Ray) (⟨x2_0, x2_1, x2_2⟩ : Mar), fw164 (F164 x0 (⟨⟨x1_0, x1_1, x1_2⟩, ⟨x1_3, x1_4, x1_5⟩⟩ : Ray) (⟨x2_0, x2_1, x2_2⟩ : Mar)))
  | _ => none
theorem ok164 : EntSound Tryz.prog 164 ent164 := by
  refine entryW tab28_ok exts_ok (fgOf 53 [(3, [0, 4, 5, 6, 7, 8, 9])]) (fn := Tryz.f164) (by kernel_rfl) (by kernel_rfl) (fun args c h => ?_)
  unfold ent164 at h
  split at h <;> first | (cases h; done) | skip
  rename_i x0 x1_0 x1_1 x1_2 x1_3 x1_4 x1_5 x2_0 x2_1 x2_2
  simp only [Option.some.injEq, Prod.mk.injEq] at h
  obtain ⟨hp, rfl⟩ := h
  obtain ⟨m, hv⟩ := val164 x0 (⟨⟨x1_0, x1_1, x1_2⟩, ⟨x1_3, x1_4, x1_5⟩⟩ : Ray) (⟨x2_0, x2_1, x2_2⟩ : Mar) hp
  exact ⟨m, fr164 (F164 x0 (⟨⟨x1_0, x1_1, x1_2⟩, ⟨x1_3, x1_4, x1_5⟩⟩ : Ray) (⟨x2_0, x2_1, x2_2⟩ : Mar)), (evS164 m x0 (⟨⟨x1_0, x1_1, x1_2⟩, ⟨x1_3, x1_4, x1_5⟩⟩ : Ray) (⟨x2_0, x2_1, x2_2⟩ : Mar)).trans (by rw [hv]; rfl), CLe.refl _⟩

noncomputable def ent170 : List PV → Option (Bool × CRes)
  | [.ptr .shp x0 0, .agg [.f32 x1_0, .f32 x1_1, .f32 x1_2], .agg [.f32 x2_0, .f32 x2_1, .f32 x2_2], .f32 x3, .int .i64 x4] => some (P170 x0 (⟨x1_0, x1_1, x1_2⟩ : V3) (⟨x2_0, x2_1, x2_2⟩ : V3) x3 x4, fw170 (F170 x0 (⟨x1_0, x1_1, x1_2⟩ : V3) (⟨x2_0, x2_1, x2_2⟩ : V3) x3 x4))
  | _ => none
theorem ok170 : EntSound Tryz.prog 170 ent170 := by
  refine entryW tab28_ok exts_ok (fgOf 49 [(3, [0, 3, 4, 6, 7, 11, 12])]) (fn := Tryz.f170) (by kernel_rfl) (by kernel_rfl) (fun args c h => ?_)
  unfold ent170 at h
  split at h <;> first | (cases h; done) | skip
  rename_i x0 x1_0 x1_1 x1_2 x2_0 x2_1 x2_2 x3 x4
  simp only [Option.some.injEq, Prod.mk.injEq] at h
  obtain ⟨hp, rfl⟩ := h
  obtain ⟨m, hv⟩ := val170 x0 (⟨x1_0, x1_1, x1_2⟩ : V3) (⟨x2_0, x2_1, x2_2⟩ : V3) x3 x4 hp
  exact ⟨m, fr170 (F170 x0 (⟨x1_0, x1_1, x1_2⟩ : V3) (⟨x2_0, x2_1, x2_2⟩ : V3) x3 x4), (evS170 m x0 (⟨x1_0, x1_1, x1_2⟩ : V3) (⟨x2_0, x2_1, x2_2⟩ : V3) x3 x4).trans (by rw [hv]; rfl), CLe.refl _⟩

noncomputable def ent154 : List PV → Option (Bool × CRes)
  | [.ptr .shp x0 0, .agg [.f32 x1_0, .f32 x1_1, .f32 x1_2], .f32 x2] => some (P154 x0 (⟨x1_0, x1_1, x1_2⟩ : V3) x2, fw154 (G154 x0 (⟨x1_0, x1_1, x1_2⟩ : V3) x2))
  | _ => none
theorem ok154 : EntSound Tryz.prog 154 ent154 := by
  refine entryW tab28_ok exts_ok (fun _ => []) (fn := Tryz.f154) (by kernel_rfl) (by kernel_rfl) (fun args c h => ?_)
  unfold ent154 at h
  split at h <;> first | (cases h; done) | skip
  rename_i x0 x1_0 x1_1 x1_2 x2
  simp only [Option.some.injEq, Prod.mk.injEq] at h
  obtain ⟨hp, rfl⟩ := h
  obtain ⟨h1, h2⟩ := own154 x0 (⟨x1_0, x1_1, x1_2⟩ : V3) x2 hp
  refine ⟨0, fr154 (tr154 x0 (⟨x1_0, x1_1, x1_2⟩ : V3) x2).val, (ev154 x0 (⟨x1_0, x1_1, x1_2⟩ : V3) x2).trans (Tr.ok _ _ h1), ?_⟩
  rw [h2]; exact CLe.refl _

noncomputable def ent247 : List PV → Option (Bool × CRes)
  | [.agg [.f32 x0_0, .f32 x0_1, .f32 x0_2], .ptr .pshp c0 0, .ptr .v3 c1 0] => some (P247 (⟨x0_0, x0_1, x0_2⟩ : V3) c0 c1, fw247 (G247 (⟨x0_0, x0_1, x0_2⟩ : V3) c0 c1))
  | _ => none
theorem ok247 : EntSound Tryz.prog 247 ent247 := by
  refine entryW tab28_ok exts_ok (fun _ => []) (fn := Tryz.f247) (by kernel_rfl) (by kernel_rfl) (fun args c h => ?_)
  unfold ent247 at h
  split at h <;> first | (cases h; done) | skip
  rename_i x0_0 x0_1 x0_2 c0 c1
  simp only [Option.some.injEq, Prod.mk.injEq] at h
  obtain ⟨hp, rfl⟩ := h
  obtain ⟨h1, h2⟩ := own247 (⟨x0_0, x0_1, x0_2⟩ : V3) c0 c1 hp
  refine ⟨0, fr247 (tr247 (⟨x0_0, x0_1, x0_2⟩ : V3) c0 c1).val, (ev247 (⟨x0_0, x0_1, x0_2⟩ : V3) c0 c1).trans (Tr.ok _ _ h1), ?_⟩
  rw [h2]; exact CLe.refl _

noncomputable def tab29 : Tab := ((247, ent247) :: ((154, ent154) :: ((170, ent170) :: ((164, ent164) :: ((159, ent159) :: ((153, ent153) :: tab28))))))
theorem tab29_ok : TSound Tryz.prog (tabT tab29) := (tab_cons (tab_cons (tab_cons (tab_cons (tab_cons (tab_cons tab28_ok ok153) ok159) ok164) ok170) ok154) ok247)

end Go.Proofs.YtponnbnebjhepaaGreat

namespace Go.Proofs.YtponnbnebjhepaaGreat
open Go Go.Ev
set_option maxRecDepth 100000

/-! (*impl.Shape).normal -/
noncomputable def fr165 : (V3) → CRes := (fun (x : V3) => CRes.plain (.agg (enc .v3 x)))
noncomputable def fw165 : (V3) → CRes := (fun (x : V3) => CRes.plain (.agg (enc .v3 x)))
noncomputable def tr165 (x0 : Shp) (x1 : V3) (x2 : Nat) : Tr (V3) :=
  (.cond (P247 { x := x2, y := 0, z := 0 : V3 } x0 x1)
   (.cond (P247 { x := 0, y := x2, z := 0 : V3 } x0 x1)
    (.cond (P247 { x := 0, y := 0, z := x2 : V3 } x0 x1)
     (.leaf ((⟨((F167 { x := G247 { x := x2, y := 0, z := 0 : V3 } x0 x1, y := G247 { x := 0, y := x2, z := 0 : V3 } x0 x1, z := G247 { x := 0, y := 0, z := x2 : V3 } x0 x1 : V3 }).x), ((F167 { x := G247 { x := x2, y := 0, z := 0 : V3 } x0 x1, y := G247 { x := 0, y := x2, z := 0 : V3 } x0 x1, z := G247 { x := 0, y := 0, z := x2 : V3 } x0 x1 : V3 }).y), ((F167 { x := G247 { x := x2, y := 0, z := 0 : V3 } x0 x1, y := G247 { x := 0, y := x2, z := 0 : V3 } x0 x1, z := G247 { x := 0, y := 0, z := x2 : V3 } x0 x1 : V3 }).z)⟩ : V3)))
     .non)
    .non)
   .non)
theorem ev165 (x0 : Shp) (x1 : V3) (x2 : Nat) : evalF (env tab29 exts (fun _ => [])) 0 Tryz.f165 [.ptr .shp x0 0, .agg (enc .v3 x1), .f32 x2] = (tr165 x0 x1 x2).toOpt fr165 := by kernel_rfl
noncomputable def F165 (x0 : Shp) (x1 : V3) (x2 : Nat) : V3 := (tr165 x0 x1 x2).val

/-! spec.l03Shadow -/
noncomputable def fr158 : (Bool × Bool) → CRes := (fun (x : Bool × Bool) => CRes.plain (.tup [.bool x.1, .bool x.2]))
noncomputable def fw158 : (Bool × Bool) → CRes := (fun (x : Bool × Bool) => CRes.plain (.tup [.bool x.1, .bool x.2]))
noncomputable def tr158 (x0 : Shp) (x1 : V3) (x2 : V3) (x3 : V3) (x4 : Mar) : Tr (Bool × Bool) :=
  (.cond (!F152 { src := F234 x1 (F235 x2 (fop BinOp.mul FloatKind.f32 1073741824 x4.near)), way := F157 x3 (F234 x1 (F235 x2 (fop BinOp.mul FloatKind.f32 1073741824 x4.near))) : Ray })
   (.leaf ((false, false)))
   (.cond (fcmp BinOp.lss FloatKind.f32 (F238 (F157 x3 (F234 x1 (F235 x2 (fop BinOp.mul FloatKind.f32 1073741824 x4.near))))) x4.most)
    (.cond (P153 x0 { src := F234 x1 (F235 x2 (fop BinOp.mul FloatKind.f32 1073741824 x4.near)), way := F157 x3 (F234 x1 (F235 x2 (fop BinOp.mul FloatKind.f32 1073741824 x4.near))) : Ray } { near := x4.near, most := F238 (F157 x3 (F234 x1 (F235 x2 (fop BinOp.mul FloatKind.f32 1073741824 x4.near)))), steps := x4.steps : Mar })
     (.leaf (((F153 x0 { src := F234 x1 (F235 x2 (fop BinOp.mul FloatKind.f32 1073741824 x4.near)), way := F157 x3 (F234 x1 (F235 x2 (fop BinOp.mul FloatKind.f32 1073741824 x4.near))) : Ray } { near := x4.near, most := F238 (F157 x3 (F234 x1 (F235 x2 (fop BinOp.mul FloatKind.f32 1073741824 x4.near)))), steps := x4.steps : Mar }).fst == 1, true)))
     .non)
    (.cond (P153 x0 { src := F234 x1 (F235 x2 (fop BinOp.mul FloatKind.f32 1073741824 x4.near)), way := F157 x3 (F234 x1 (F235 x2 (fop BinOp.mul FloatKind.f32 1073741824 x4.near))) : Ray } x4)
     (.leaf (((F153 x0 { src := F234 x1 (F235 x2 (fop BinOp.mul FloatKind.f32 1073741824 x4.near)), way := F157 x3 (F234 x1 (F235 x2 (fop BinOp.mul FloatKind.f32 1073741824 x4.near))) : Ray } x4).fst == 1, true)))
     .non)))
theorem ev158 (x0 : Shp) (x1 : V3) (x2 : V3) (x3 : V3) (x4 : Mar) : evalF (env tab29 exts (fun _ => [])) 0 Tryz.f158 [.ptr .shp x0 0, .agg (enc .v3 x1), .agg (enc .v3 x2), .agg (enc .v3 x3), .ptr .mar x4 0] = (tr158 x0 x1 x2 x3 x4).toOpt fr158 := by kernel_rfl
noncomputable def F158 (x0 : Shp) (x1 : V3) (x2 : V3) (x3 : V3) (x4 : Mar) : Bool × Bool := (tr158 x0 x1 x2 x3 x4).val

/-! impl.InShadow -/
noncomputable def fr169 : (Bool × Bool) → CRes := (fun (x : Bool × Bool) => CRes.plain (.tup [.bool x.1, .bool x.2]))
noncomputable def fw169 : (Bool × Bool) → CRes := (fun (x : Bool × Bool) => CRes.plain (.tup [.bool x.1, .bool x.2]))
noncomputable def tr169 (x0 : Shp) (x1 : V3) (x2 : V3) (x3 : V3) (x4 : Mar) : Tr (Bool × Bool) :=
  (.cond (!F66 x0)
   (.leaf ((false, false)))
   (.cond (!F161 x4)
    (.leaf ((false, false)))
    (.cond (!F163 { src := F242 x1 (F243 x2 (fop BinOp.mul FloatKind.f32 1073741824 x4.near)), way := F168 x3 (F242 x1 (F243 x2 (fop BinOp.mul FloatKind.f32 1073741824 x4.near))) : Ray })
     (.leaf ((false, false)))
     (.cond (P164 x0 { src := F242 x1 (F243 x2 (fop BinOp.mul FloatKind.f32 1073741824 x4.near)), way := F168 x3 (F242 x1 (F243 x2 (fop BinOp.mul FloatKind.f32 1073741824 x4.near))) : Ray } { near := x4.near, most := F226 x4.most (F248 (F168 x3 (F242 x1 (F243 x2 (fop BinOp.mul FloatKind.f32 1073741824 x4.near))))), steps := x4.steps : Mar })
      (.leaf (((F164 x0 { src := F242 x1 (F243 x2 (fop BinOp.mul FloatKind.f32 1073741824 x4.near)), way := F168 x3 (F242 x1 (F243 x2 (fop BinOp.mul FloatKind.f32 1073741824 x4.near))) : Ray } { near := x4.near, most := F226 x4.most (F248 (F168 x3 (F242 x1 (F243 x2 (fop BinOp.mul FloatKind.f32 1073741824 x4.near))))), steps := x4.steps : Mar }).fst == 1, true)))
      .non))))
theorem ev169 (x0 : Shp) (x1 : V3) (x2 : V3) (x3 : V3) (x4 : Mar) : evalF (env tab29 exts (fun _ => [])) 0 Tryz.f169 [.agg (enc .shp x0), .agg (enc .v3 x1), .agg (enc .v3 x2), .agg (enc .v3 x3), .agg (enc .mar x4)] = (tr169 x0 x1 x2 x3 x4).toOpt fr169 := by kernel_rfl
noncomputable def F169 (x0 : Shp) (x1 : V3) (x2 : V3) (x3 : V3) (x4 : Mar) : Bool × Bool := (tr169 x0 x1 x2 x3 x4).val

end Go.Proofs.YtponnbnebjhepaaGreat

namespace Go.Proofs.YtponnbnebjhepaaGreat
open Go Go.Ev
set_option maxRecDepth 100000

noncomputable def ent165 : List PV → Option (Bool × CRes)
  | [.ptr .shp x0 0, .agg [.f32 x1_0, .f32 x1_1, .f32 x1_2], .f32 x2] => some ((tr165 x0 (⟨x1_0, x1_1, x1_2⟩ : V3) x2).pre, fw165 (F165 x0 (⟨x1_0, x1_1, x1_2⟩ : V3) x2))
  | _ => none
theorem ok165 : EntSound Tryz.prog 165 ent165 := by
  refine entryW tab29_ok exts_ok (fun _ => []) (fn := Tryz.f165) (by kernel_rfl) (by kernel_rfl) (fun args c h => ?_)
  unfold ent165 at h
  split at h <;> first | (cases h; done) | skip
  rename_i x0 x1_0 x1_1 x1_2 x2
  simp only [Option.some.injEq, Prod.mk.injEq] at h
  obtain ⟨hp, rfl⟩ := h
  exact ⟨0, _, (ev165 x0 (⟨x1_0, x1_1, x1_2⟩ : V3) x2).trans (Tr.ok _ _ hp), CLe.refl _⟩

noncomputable def ent158 : List PV → Option (Bool × CRes)
  | [.ptr .shp x0 0, .agg [.f32 x1_0, .f32 x1_1, .f32 x1_2], .agg [.f32 x2_0, .f32 x2_1, .f32 x2_2], .agg [.f32 x3_0, .f32 x3_1, .f32 x3_2], .ptr .mar x4 0] => some ((tr158 x0 (⟨x1_0, x1_1, x1_2⟩ : V3) (⟨x2_0, x2_1, x2_2⟩ : V3) (⟨x3_0, x3_1, x3_2⟩ : V3) x4).pre, fw158 (F158 x0 (⟨x1_0, x1_1, x1_2⟩ : V3) (⟨x2_0, x2_1, x2_2⟩ : V3) (⟨x3_0, x3_1, x3_2⟩ : V3) x4))
  | _ => none
theorem ok158 : EntSound Tryz.prog 158 ent158 := by
  refine entryW tab29_ok exts_ok (fun _ => []) (fn := Tryz.f158) (by kernel_rfl) (by kernel_rfl) (fun args c h => ?_)
  unfold ent158 at h
  split at h <;> first | (cases h; done) | skip
  rename_i x0 x1_0 x1_1 x1_2 x2_0 x2_1 x2_2 x3_0 x3_1 x3_2 x4
  simp only [Option.some.injEq, Prod.mk.injEq] at h
  obtain ⟨hp, rfl⟩ := h
  exact ⟨0, _, (ev158 x0 (⟨x1_0, x1_1, x1_2⟩ : V3) (⟨x2_0, x2_1, x2_2⟩ : V3) (⟨x3_0, x3_1, x3_2⟩ : V3) x4).trans (Tr.ok _ _ hp), CLe.refl _⟩

noncomputable def ent169 : List PV → Option (Bool × CRes)
  | [.agg [.slice .nd x0_0], .agg [.f32 x1_0, .f32 x1_1, .f32 x1_2], .agg [.f32 x2_0, .f32 x2_1, .f32 x2_2], .agg [.f32 x3_0, .f32 x3_1, .f32 x3_2], .agg [.f32 x4_0, .f32 x4_1, .int .i64 x4_2]] => some ((tr169 (⟨x0_0⟩ : Shp) (⟨x1_0, x1_1, x1_2⟩ : V3) (⟨x2_0, x2_1, x2_2⟩ : V3) (⟨x3_0, x3_1, x3_2⟩ : V3) (⟨x4_0, x4_1, x4_2⟩ : Mar)).pre, fw169 (F169 (⟨x0_0⟩ : Shp) (⟨x1_0, x1_1, x1_2⟩ : V3) (⟨x2_0, x2_1, x2_2⟩ : V3) (⟨x3_0, x3_1, x3_2⟩ : V3) (⟨x4_0, x4_1, x4_2⟩ : Mar)))
  | _ => none
theorem ok169 : EntSound Tryz.prog 169 ent169 := by
  refine entryW tab29_ok exts_ok (fun _ => []) (fn := Tryz.f169) (by kernel_rfl) (by kernel_rfl) (fun args c h => ?_)
  unfold ent169 at h
  split at h <;> first | (cases h; done) | skip
  rename_i x0_0 x1_0 x1_1 x1_2 x2_0 x2_1 x2_2 x3_0 x3_1 x3_2 x4_0 x4_1 x4_2
  simp only [Option.some.injEq, Prod.mk.injEq] at h
  obtain ⟨hp, rfl⟩ := h
  exact ⟨0, _, (ev169 (⟨x0_0⟩ : Shp) (⟨x1_0, x1_1, x1_2⟩ : V3) (⟨x2_0, x2_1, x2_2⟩ : V3) (⟨x3_0, x3_1, x3_2⟩ : V3) (⟨x4_0, x4_1, x4_2⟩ : Mar)).trans (Tr.ok _ _ hp), CLe.refl _⟩

noncomputable def tab30 : Tab := ((169, ent169) :: ((158, ent158) :: ((165, ent165) :: tab29)))
theorem tab30_ok : TSound Tryz.prog (tabT tab30) := (tab_cons (tab_cons (tab_cons tab29_ok ok165) ok158) ok169)

end Go.Proofs.YtponnbnebjhepaaGreat

namespace Go.Proofs.YtponnbnebjhepaaGreat
open Go Go.Ev
set_option maxRecDepth 100000

/-! spec.l09Shade -/
noncomputable def fr87 : (Nat) → CRes := (fun (x : Nat) => CRes.plain (.f32 x))
noncomputable def fw87 : (Nat) → CRes := (fun (x : Nat) => CRes.plain (.f32 x))
noncomputable def tr87 (x0 : Vw) (x1 : Int) (x2 : Int) : Tr (Nat) :=
  (.cond (!F152 (F151 x0.cam x1 x2))
   (.leaf (0))
   (.cond (P153 x0.shape (F151 x0.cam x1 x2) x0.march)
    (.cond ((F153 x0.shape (F151 x0.cam x1 x2) x0.march).fst != 1)
     (.leaf (0))
     (.cond (P154 x0.shape { x := (F153 x0.shape (F151 x0.cam x1 x2) x0.march).snd.snd.snd.fst, y := (F153 x0.shape (F151 x0.cam x1 x2) x0.march).snd.snd.snd.snd.fst, z := (F153 x0.shape (F151 x0.cam x1 x2) x0.march).snd.snd.snd.snd.snd : V3 } x0.march.near)
      (.cond ((tr158 x0.shape { x := (F153 x0.shape (F151 x0.cam x1 x2) x0.march).snd.snd.snd.fst, y := (F153 x0.shape (F151 x0.cam x1 x2) x0.march).snd.snd.snd.snd.fst, z := (F153 x0.shape (F151 x0.cam x1 x2) x0.march).snd.snd.snd.snd.snd : V3 } (G154 x0.shape { x := (F153 x0.shape (F151 x0.cam x1 x2) x0.march).snd.snd.snd.fst, y := (F153 x0.shape (F151 x0.cam x1 x2) x0.march).snd.snd.snd.snd.fst, z := (F153 x0.shape (F151 x0.cam x1 x2) x0.march).snd.snd.snd.snd.snd : V3 } x0.march.near) x0.light x0.march).pre)
       (.cond (!fcmp BinOp.gtr FloatKind.f32 (F155 (G154 x0.shape { x := (F153 x0.shape (F151 x0.cam x1 x2) x0.march).snd.snd.snd.fst, y := (F153 x0.shape (F151 x0.cam x1 x2) x0.march).snd.snd.snd.snd.fst, z := (F153 x0.shape (F151 x0.cam x1 x2) x0.march).snd.snd.snd.snd.snd : V3 } x0.march.near) (F156 (F157 x0.light { x := (F153 x0.shape (F151 x0.cam x1 x2) x0.march).snd.snd.snd.fst, y := (F153 x0.shape (F151 x0.cam x1 x2) x0.march).snd.snd.snd.snd.fst, z := (F153 x0.shape (F151 x0.cam x1 x2) x0.march).snd.snd.snd.snd.snd : V3 }))) 0)
        (.cond (P159 x0.shape { x := (F153 x0.shape (F151 x0.cam x1 x2) x0.march).snd.snd.snd.fst, y := (F153 x0.shape (F151 x0.cam x1 x2) x0.march).snd.snd.snd.snd.fst, z := (F153 x0.shape (F151 x0.cam x1 x2) x0.march).snd.snd.snd.snd.snd : V3 } (G154 x0.shape { x := (F153 x0.shape (F151 x0.cam x1 x2) x0.march).snd.snd.snd.fst, y := (F153 x0.shape (F151 x0.cam x1 x2) x0.march).snd.snd.snd.snd.fst, z := (F153 x0.shape (F151 x0.cam x1 x2) x0.march).snd.snd.snd.snd.snd : V3 } x0.march.near) (fop BinOp.mul FloatKind.f32 1073741824 x0.march.near) 4)
         (.leaf (fop BinOp.add FloatKind.f32 (fop BinOp.mul FloatKind.f32 1048576000 (F159 x0.shape { x := (F153 x0.shape (F151 x0.cam x1 x2) x0.march).snd.snd.snd.fst, y := (F153 x0.shape (F151 x0.cam x1 x2) x0.march).snd.snd.snd.snd.fst, z := (F153 x0.shape (F151 x0.cam x1 x2) x0.march).snd.snd.snd.snd.snd : V3 } (G154 x0.shape { x := (F153 x0.shape (F151 x0.cam x1 x2) x0.march).snd.snd.snd.fst, y := (F153 x0.shape (F151 x0.cam x1 x2) x0.march).snd.snd.snd.snd.fst, z := (F153 x0.shape (F151 x0.cam x1 x2) x0.march).snd.snd.snd.snd.snd : V3 } x0.march.near) (fop BinOp.mul FloatKind.f32 1073741824 x0.march.near) 4)) (fop BinOp.mul FloatKind.f32 1061158912 0)))
         .non)
        (.cond ((F158 x0.shape { x := (F153 x0.shape (F151 x0.cam x1 x2) x0.march).snd.snd.snd.fst, y := (F153 x0.shape (F151 x0.cam x1 x2) x0.march).snd.snd.snd.snd.fst, z := (F153 x0.shape (F151 x0.cam x1 x2) x0.march).snd.snd.snd.snd.snd : V3 } (G154 x0.shape { x := (F153 x0.shape (F151 x0.cam x1 x2) x0.march).snd.snd.snd.fst, y := (F153 x0.shape (F151 x0.cam x1 x2) x0.march).snd.snd.snd.snd.fst, z := (F153 x0.shape (F151 x0.cam x1 x2) x0.march).snd.snd.snd.snd.snd : V3 } x0.march.near) x0.light x0.march).snd)
         (.cond ((F158 x0.shape { x := (F153 x0.shape (F151 x0.cam x1 x2) x0.march).snd.snd.snd.fst, y := (F153 x0.shape (F151 x0.cam x1 x2) x0.march).snd.snd.snd.snd.fst, z := (F153 x0.shape (F151 x0.cam x1 x2) x0.march).snd.snd.snd.snd.snd : V3 } (G154 x0.shape { x := (F153 x0.shape (F151 x0.cam x1 x2) x0.march).snd.snd.snd.fst, y := (F153 x0.shape (F151 x0.cam x1 x2) x0.march).snd.snd.snd.snd.fst, z := (F153 x0.shape (F151 x0.cam x1 x2) x0.march).snd.snd.snd.snd.snd : V3 } x0.march.near) x0.light x0.march).fst)
          (.cond (P159 x0.shape { x := (F153 x0.shape (F151 x0.cam x1 x2) x0.march).snd.snd.snd.fst, y := (F153 x0.shape (F151 x0.cam x1 x2) x0.march).snd.snd.snd.snd.fst, z := (F153 x0.shape (F151 x0.cam x1 x2) x0.march).snd.snd.snd.snd.snd : V3 } (G154 x0.shape { x := (F153 x0.shape (F151 x0.cam x1 x2) x0.march).snd.snd.snd.fst, y := (F153 x0.shape (F151 x0.cam x1 x2) x0.march).snd.snd.snd.snd.fst, z := (F153 x0.shape (F151 x0.cam x1 x2) x0.march).snd.snd.snd.snd.snd : V3 } x0.march.near) (fop BinOp.mul FloatKind.f32 1073741824 x0.march.near) 4)
           (.leaf (fop BinOp.add FloatKind.f32 (fop BinOp.mul FloatKind.f32 1048576000 (F159 x0.shape { x := (F153 x0.shape (F151 x0.cam x1 x2) x0.march).snd.snd.snd.fst, y := (F153 x0.shape (F151 x0.cam x1 x2) x0.march).snd.snd.snd.snd.fst, z := (F153 x0.shape (F151 x0.cam x1 x2) x0.march).snd.snd.snd.snd.snd : V3 } (G154 x0.shape { x := (F153 x0.shape (F151 x0.cam x1 x2) x0.march).snd.snd.snd.fst, y := (F153 x0.shape (F151 x0.cam x1 x2) x0.march).snd.snd.snd.snd.fst, z := (F153 x0.shape (F151 x0.cam x1 x2) x0.march).snd.snd.snd.snd.snd : V3 } x0.march.near) (fop BinOp.mul FloatKind.f32 1073741824 x0.march.near) 4)) (fop BinOp.mul FloatKind.f32 1061158912 0)))
           .non)
          (.cond (P159 x0.shape { x := (F153 x0.shape (F151 x0.cam x1 x2) x0.march).snd.snd.snd.fst, y := (F153 x0.shape (F151 x0.cam x1 x2) x0.march).snd.snd.snd.snd.fst, z := (F153 x0.shape (F151 x0.cam x1 x2) x0.march).snd.snd.snd.snd.snd : V3 } (G154 x0.shape { x := (F153 x0.shape (F151 x0.cam x1 x2) x0.march).snd.snd.snd.fst, y := (F153 x0.shape (F151 x0.cam x1 x2) x0.march).snd.snd.snd.snd.fst, z := (F153 x0.shape (F151 x0.cam x1 x2) x0.march).snd.snd.snd.snd.snd : V3 } x0.march.near) (fop BinOp.mul FloatKind.f32 1073741824 x0.march.near) 4)
           (.leaf (fop BinOp.add FloatKind.f32 (fop BinOp.mul FloatKind.f32 1048576000 (F159 x0.shape { x := (F153 x0.shape (F151 x0.cam x1 x2) x0.march).snd.snd.snd.fst, y := (F153 x0.shape (F151 x0.cam x1 x2) x0.march).snd.snd.snd.snd.fst, z := (F153 x0.shape (F151 x0.cam x1 x2) x0.march).snd.snd.snd.snd.snd : V3 } (G154 x0.shape { x := (F153 x0.shape (F151 x0.cam x1 x2) x0.march).snd.snd.snd.fst, y := (F153 x0.shape (F151 x0.cam x1 x2) x0.march).snd.snd.snd.snd.fst, z := (F153 x0.shape (F151 x0.cam x1 x2) x0.march).snd.snd.snd.snd.snd : V3 } x0.march.near) (fop BinOp.mul FloatKind.f32 1073741824 x0.march.near) 4)) (fop BinOp.mul FloatKind.f32 1061158912 (F155 (G154 x0.shape { x := (F153 x0.shape (F151 x0.cam x1 x2) x0.march).snd.snd.snd.fst, y := (F153 x0.shape (F151 x0.cam x1 x2) x0.march).snd.snd.snd.snd.fst, z := (F153 x0.shape (F151 x0.cam x1 x2) x0.march).snd.snd.snd.snd.snd : V3 } x0.march.near) (F156 (F157 x0.light { x := (F153 x0.shape (F151 x0.cam x1 x2) x0.march).snd.snd.snd.fst, y := (F153 x0.shape (F151 x0.cam x1 x2) x0.march).snd.snd.snd.snd.fst, z := (F153 x0.shape (F151 x0.cam x1 x2) x0.march).snd.snd.snd.snd.snd : V3 }))))))
           .non))
         (.cond (P159 x0.shape { x := (F153 x0.shape (F151 x0.cam x1 x2) x0.march).snd.snd.snd.fst, y := (F153 x0.shape (F151 x0.cam x1 x2) x0.march).snd.snd.snd.snd.fst, z := (F153 x0.shape (F151 x0.cam x1 x2) x0.march).snd.snd.snd.snd.snd : V3 } (G154 x0.shape { x := (F153 x0.shape (F151 x0.cam x1 x2) x0.march).snd.snd.snd.fst, y := (F153 x0.shape (F151 x0.cam x1 x2) x0.march).snd.snd.snd.snd.fst, z := (F153 x0.shape (F151 x0.cam x1 x2) x0.march).snd.snd.snd.snd.snd : V3 } x0.march.near) (fop BinOp.mul FloatKind.f32 1073741824 x0.march.near) 4)
          (.leaf (fop BinOp.add FloatKind.f32 (fop BinOp.mul FloatKind.f32 1048576000 (F159 x0.shape { x := (F153 x0.shape (F151 x0.cam x1 x2) x0.march).snd.snd.snd.fst, y := (F153 x0.shape (F151 x0.cam x1 x2) x0.march).snd.snd.snd.snd.fst, z := (F153 x0.shape (F151 x0.cam x1 x2) x0.march).snd.snd.snd.snd.snd : V3 } (G154 x0.shape { x := (F153 x0.shape (F151 x0.cam x1 x2) x0.march).snd.snd.snd.fst, y := (F153 x0.shape (F151 x0.cam x1 x2) x0.march).snd.snd.snd.snd.fst, z := (F153 x0.shape (F151 x0.cam x1 x2) x0.march).snd.snd.snd.snd.snd : V3 } x0.march.near) (fop BinOp.mul FloatKind.f32 1073741824 x0.march.near) 4)) (fop BinOp.mul FloatKind.f32 1061158912 (F155 (G154 x0.shape { x := (F153 x0.shape (F151 x0.cam x1 x2) x0.march).snd.snd.snd.fst, y := (F153 x0.shape (F151 x0.cam x1 x2) x0.march).snd.snd.snd.snd.fst, z := (F153 x0.shape (F151 x0.cam x1 x2) x0.march).snd.snd.snd.snd.snd : V3 } x0.march.near) (F156 (F157 x0.light { x := (F153 x0.shape (F151 x0.cam x1 x2) x0.march).snd.snd.snd.fst, y := (F153 x0.shape (F151 x0.cam x1 x2) x0.march).snd.snd.snd.snd.fst, z := (F153 x0.shape (F151 x0.cam x1 x2) x0.march).snd.snd.snd.snd.snd : V3 }))))))
          .non)))
       .non)
      .non))
    .non))
theorem ev87 (x0 : Vw) (x1 : Int) (x2 : Int) : evalF (env tab30 exts (fun _ => [])) 0 Tryz.f87 [.ptr .vw x0 0, .int .i64 x1, .int .i64 x2] = (tr87 x0 x1 x2).toOpt fr87 := by kernel_rfl
noncomputable def F87 (x0 : Vw) (x1 : Int) (x2 : Int) : Nat := (tr87 x0 x1 x2).val

/-! (*impl.View).shade -/
noncomputable def fr92 : (Nat) → CRes := (fun (x : Nat) => CRes.plain (.f32 x))
noncomputable def fw92 : (Nat) → CRes := (fun (x : Nat) => CRes.plain (.f32 x))
noncomputable def tr92 (x0 : Vw) (x1 : Int) (x2 : Int) : Tr (Nat) :=
  (.cond (!F163 (F162 x0.cam x1 x2))
   (.leaf (0))
   (.cond (P164 x0.shape (F162 x0.cam x1 x2) x0.march)
    (.cond ((F164 x0.shape (F162 x0.cam x1 x2) x0.march).fst != 1)
     (.leaf (0))
     (.cond ((tr165 x0.shape { x := (F164 x0.shape (F162 x0.cam x1 x2) x0.march).snd.snd.snd.fst, y := (F164 x0.shape (F162 x0.cam x1 x2) x0.march).snd.snd.snd.snd.fst, z := (F164 x0.shape (F162 x0.cam x1 x2) x0.march).snd.snd.snd.snd.snd : V3 } x0.march.near).pre)
      (.cond (!fcmp BinOp.gtr FloatKind.f32 (F166 (F165 x0.shape { x := (F164 x0.shape (F162 x0.cam x1 x2) x0.march).snd.snd.snd.fst, y := (F164 x0.shape (F162 x0.cam x1 x2) x0.march).snd.snd.snd.snd.fst, z := (F164 x0.shape (F162 x0.cam x1 x2) x0.march).snd.snd.snd.snd.snd : V3 } x0.march.near) (F167 (F168 x0.light { x := (F164 x0.shape (F162 x0.cam x1 x2) x0.march).snd.snd.snd.fst, y := (F164 x0.shape (F162 x0.cam x1 x2) x0.march).snd.snd.snd.snd.fst, z := (F164 x0.shape (F162 x0.cam x1 x2) x0.march).snd.snd.snd.snd.snd : V3 }))) 0)
       (.cond (P170 x0.shape { x := (F164 x0.shape (F162 x0.cam x1 x2) x0.march).snd.snd.snd.fst, y := (F164 x0.shape (F162 x0.cam x1 x2) x0.march).snd.snd.snd.snd.fst, z := (F164 x0.shape (F162 x0.cam x1 x2) x0.march).snd.snd.snd.snd.snd : V3 } (F165 x0.shape { x := (F164 x0.shape (F162 x0.cam x1 x2) x0.march).snd.snd.snd.fst, y := (F164 x0.shape (F162 x0.cam x1 x2) x0.march).snd.snd.snd.snd.fst, z := (F164 x0.shape (F162 x0.cam x1 x2) x0.march).snd.snd.snd.snd.snd : V3 } x0.march.near) (fop BinOp.mul FloatKind.f32 1073741824 x0.march.near) 4)
        (.leaf (fop BinOp.add FloatKind.f32 (fop BinOp.mul FloatKind.f32 1048576000 (F170 x0.shape { x := (F164 x0.shape (F162 x0.cam x1 x2) x0.march).snd.snd.snd.fst, y := (F164 x0.shape (F162 x0.cam x1 x2) x0.march).snd.snd.snd.snd.fst, z := (F164 x0.shape (F162 x0.cam x1 x2) x0.march).snd.snd.snd.snd.snd : V3 } (F165 x0.shape { x := (F164 x0.shape (F162 x0.cam x1 x2) x0.march).snd.snd.snd.fst, y := (F164 x0.shape (F162 x0.cam x1 x2) x0.march).snd.snd.snd.snd.fst, z := (F164 x0.shape (F162 x0.cam x1 x2) x0.march).snd.snd.snd.snd.snd : V3 } x0.march.near) (fop BinOp.mul FloatKind.f32 1073741824 x0.march.near) 4)) (fop BinOp.mul FloatKind.f32 1061158912 0)))
        .non)
       (.cond ((tr169 x0.shape { x := (F164 x0.shape (F162 x0.cam x1 x2) x0.march).snd.snd.snd.fst, y := (F164 x0.shape (F162 x0.cam x1 x2) x0.march).snd.snd.snd.snd.fst, z := (F164 x0.shape (F162 x0.cam x1 x2) x0.march).snd.snd.snd.snd.snd : V3 } (F165 x0.shape { x := (F164 x0.shape (F162 x0.cam x1 x2) x0.march).snd.snd.snd.fst, y := (F164 x0.shape (F162 x0.cam x1 x2) x0.march).snd.snd.snd.snd.fst, z := (F164 x0.shape (F162 x0.cam x1 x2) x0.march).snd.snd.snd.snd.snd : V3 } x0.march.near) x0.light x0.march).pre)
        (.cond ((F169 x0.shape { x := (F164 x0.shape (F162 x0.cam x1 x2) x0.march).snd.snd.snd.fst, y := (F164 x0.shape (F162 x0.cam x1 x2) x0.march).snd.snd.snd.snd.fst, z := (F164 x0.shape (F162 x0.cam x1 x2) x0.march).snd.snd.snd.snd.snd : V3 } (F165 x0.shape { x := (F164 x0.shape (F162 x0.cam x1 x2) x0.march).snd.snd.snd.fst, y := (F164 x0.shape (F162 x0.cam x1 x2) x0.march).snd.snd.snd.snd.fst, z := (F164 x0.shape (F162 x0.cam x1 x2) x0.march).snd.snd.snd.snd.snd : V3 } x0.march.near) x0.light x0.march).snd)
         (.cond ((F169 x0.shape { x := (F164 x0.shape (F162 x0.cam x1 x2) x0.march).snd.snd.snd.fst, y := (F164 x0.shape (F162 x0.cam x1 x2) x0.march).snd.snd.snd.snd.fst, z := (F164 x0.shape (F162 x0.cam x1 x2) x0.march).snd.snd.snd.snd.snd : V3 } (F165 x0.shape { x := (F164 x0.shape (F162 x0.cam x1 x2) x0.march).snd.snd.snd.fst, y := (F164 x0.shape (F162 x0.cam x1 x2) x0.march).snd.snd.snd.snd.fst, z := (F164 x0.shape (F162 x0.cam x1 x2) x0.march).snd.snd.snd.snd.snd : V3 } x0.march.near) x0.light x0.march).fst)
          (.cond (P170 x0.shape { x := (F164 x0.shape (F162 x0.cam x1 x2) x0.march).snd.snd.snd.fst, y := (F164 x0.shape (F162 x0.cam x1 x2) x0.march).snd.snd.snd.snd.fst, z := (F164 x0.shape (F162 x0.cam x1 x2) x0.march).snd.snd.snd.snd.snd : V3 } (F165 x0.shape { x := (F164 x0.shape (F162 x0.cam x1 x2) x0.march).snd.snd.snd.fst, y := (F164 x0.shape (F162 x0.cam x1 x2) x0.march).snd.snd.snd.snd.fst, z := (F164 x0.shape (F162 x0.cam x1 x2) x0.march).snd.snd.snd.snd.snd : V3 } x0.march.near) (fop BinOp.mul FloatKind.f32 1073741824 x0.march.near) 4)
           (.leaf (fop BinOp.add FloatKind.f32 (fop BinOp.mul FloatKind.f32 1048576000 (F170 x0.shape { x := (F164 x0.shape (F162 x0.cam x1 x2) x0.march).snd.snd.snd.fst, y := (F164 x0.shape (F162 x0.cam x1 x2) x0.march).snd.snd.snd.snd.fst, z := (F164 x0.shape (F162 x0.cam x1 x2) x0.march).snd.snd.snd.snd.snd : V3 } (F165 x0.shape { x := (F164 x0.shape (F162 x0.cam x1 x2) x0.march).snd.snd.snd.fst, y := (F164 x0.shape (F162 x0.cam x1 x2) x0.march).snd.snd.snd.snd.fst, z := (F164 x0.shape (F162 x0.cam x1 x2) x0.march).snd.snd.snd.snd.snd : V3 } x0.march.near) (fop BinOp.mul FloatKind.f32 1073741824 x0.march.near) 4)) (fop BinOp.mul FloatKind.f32 1061158912 0)))
           .non)
          (.cond (P170 x0.shape { x := (F164 x0.shape (F162 x0.cam x1 x2) x0.march).snd.snd.snd.fst, y := (F164 x0.shape (F162 x0.cam x1 x2) x0.march).snd.snd.snd.snd.fst, z := (F164 x0.shape (F162 x0.cam x1 x2) x0.march).snd.snd.snd.snd.snd : V3 } (F165 x0.shape { x := (F164 x0.shape (F162 x0.cam x1 x2) x0.march).snd.snd.snd.fst, y := (F164 x0.shape (F162 x0.cam x1 x2) x0.march).snd.snd.snd.snd.fst, z := (F164 x0.shape (F162 x0.cam x1 x2) x0.march).snd.snd.snd.snd.snd : V3 } x0.march.near) (fop BinOp.mul FloatKind.f32 1073741824 x0.march.near) 4)
           (.leaf (fop BinOp.add FloatKind.f32 (fop BinOp.mul FloatKind.f32 1048576000 (F170 x0.shape { x := (F164 x0.shape (F162 x0.cam x1 x2) x0.march).snd.snd.snd.fst, y := (F164 x0.shape (F162 x0.cam x1 x2) x0.march).snd.snd.snd.snd.fst, z := (F164 x0.shape (F162 x0.cam x1 x2) x0.march).snd.snd.snd.snd.snd : V3 } (F165 x0.shape { x := (F164 x0.shape (F162 x0.cam x1 x2) x0.march).snd.snd.snd.fst, y := (F164 x0.shape (F162 x0.cam x1 x2) x0.march).snd.snd.snd.snd.fst, z := (F164 x0.shape (F162 x0.cam x1 x2) x0.march).snd.snd.snd.snd.snd : V3 } x0.march.near) (fop BinOp.mul FloatKind.f32 1073741824 x0.march.near) 4)) (fop BinOp.mul FloatKind.f32 1061158912 (F166 (F165 x0.shape { x := (F164 x0.shape (F162 x0.cam x1 x2) x0.march).snd.snd.snd.fst, y := (F164 x0.shape (F162 x0.cam x1 x2) x0.march).snd.snd.snd.snd.fst, z := (F164 x0.shape (F162 x0.cam x1 x2) x0.march).snd.snd.snd.snd.snd : V3 } x0.march.near) (F167 (F168 x0.light { x := (F164 x0.shape (F162 x0.cam x1 x2) x0.march).snd.snd.snd.fst, y := (F164 x0.shape (F162 x0.cam x1 x2) x0.march).snd.snd.snd.snd.fst, z := (F164 x0.shape (F162 x0.cam x1 x2) x0.march).snd.snd.snd.snd.snd : V3 }))))))
           .non))
         (.cond (P170 x0.shape { x := (F164 x0.shape (F162 x0.cam x1 x2) x0.march).snd.snd.snd.fst, y := (F164 x0.shape (F162 x0.cam x1 x2) x0.march).snd.snd.snd.snd.fst, z := (F164 x0.shape (F162 x0.cam x1 x2) x0.march).snd.snd.snd.snd.snd : V3 } (F165 x0.shape { x := (F164 x0.shape (F162 x0.cam x1 x2) x0.march).snd.snd.snd.fst, y := (F164 x0.shape (F162 x0.cam x1 x2) x0.march).snd.snd.snd.snd.fst, z := (F164 x0.shape (F162 x0.cam x1 x2) x0.march).snd.snd.snd.snd.snd : V3 } x0.march.near) (fop BinOp.mul FloatKind.f32 1073741824 x0.march.near) 4)
          (.leaf (fop BinOp.add FloatKind.f32 (fop BinOp.mul FloatKind.f32 1048576000 (F170 x0.shape { x := (F164 x0.shape (F162 x0.cam x1 x2) x0.march).snd.snd.snd.fst, y := (F164 x0.shape (F162 x0.cam x1 x2) x0.march).snd.snd.snd.snd.fst, z := (F164 x0.shape (F162 x0.cam x1 x2) x0.march).snd.snd.snd.snd.snd : V3 } (F165 x0.shape { x := (F164 x0.shape (F162 x0.cam x1 x2) x0.march).snd.snd.snd.fst, y := (F164 x0.shape (F162 x0.cam x1 x2) x0.march).snd.snd.snd.snd.fst, z := (F164 x0.shape (F162 x0.cam x1 x2) x0.march).snd.snd.snd.snd.snd : V3 } x0.march.near) (fop BinOp.mul FloatKind.f32 1073741824 x0.march.near) 4)) (fop BinOp.mul FloatKind.f32 1061158912 (F166 (F165 x0.shape { x := (F164 x0.shape (F162 x0.cam x1 x2) x0.march).snd.snd.snd.fst, y := (F164 x0.shape (F162 x0.cam x1 x2) x0.march).snd.snd.snd.snd.fst, z := (F164 x0.shape (F162 x0.cam x1 x2) x0.march).snd.snd.snd.snd.snd : V3 } x0.march.near) (F167 (F168 x0.light { x := (F164 x0.shape (F162 x0.cam x1 x2) x0.march).snd.snd.snd.fst, y := (F164 x0.shape (F162 x0.cam x1 x2) x0.march).snd.snd.snd.snd.fst, z := (F164 x0.shape (F162 x0.cam x1 x2) x0.march).snd.snd.snd.snd.snd : V3 }))))))
          .non))
        .non))
      .non))
    .non))
theorem ev92 (x0 : Vw) (x1 : Int) (x2 : Int) : evalF (env tab30 exts (fun _ => [])) 0 Tryz.f92 [.ptr .vw x0 0, .int .i64 x1, .int .i64 x2] = (tr92 x0 x1 x2).toOpt fr92 := by kernel_rfl
noncomputable def F92 (x0 : Vw) (x1 : Int) (x2 : Int) : Nat := (tr92 x0 x1 x2).val

end Go.Proofs.YtponnbnebjhepaaGreat

namespace Go.Proofs.YtponnbnebjhepaaGreat
open Go Go.Ev
set_option maxRecDepth 100000

noncomputable def ent87 : List PV → Option (Bool × CRes)
  | [.ptr .vw x0 0, .int .i64 x1, .int .i64 x2] => some ((tr87 x0 x1 x2).pre, fw87 (F87 x0 x1 x2))
  | _ => none
theorem ok87 : EntSound Tryz.prog 87 ent87 := by
  refine entryW tab30_ok exts_ok (fun _ => []) (fn := Tryz.f87) (by kernel_rfl) (by kernel_rfl) (fun args c h => ?_)
  unfold ent87 at h
  split at h <;> first | (cases h; done) | skip
  rename_i x0 x1 x2
  simp only [Option.some.injEq, Prod.mk.injEq] at h
  obtain ⟨hp, rfl⟩ := h
  exact ⟨0, _, (ev87 x0 x1 x2).trans (Tr.ok _ _ hp), CLe.refl _⟩

noncomputable def ent92 : List PV → Option (Bool × CRes)
  | [.ptr .vw x0 0, .int .i64 x1, .int .i64 x2] => some ((tr92 x0 x1 x2).pre, fw92 (F92 x0 x1 x2))
  | _ => none
theorem ok92 : EntSound Tryz.prog 92 ent92 := by
  refine entryW tab30_ok exts_ok (fun _ => []) (fn := Tryz.f92) (by kernel_rfl) (by kernel_rfl) (fun args c h => ?_)
  unfold ent92 at h
  split at h <;> first | (cases h; done) | skip
  rename_i x0 x1 x2
  simp only [Option.some.injEq, Prod.mk.injEq] at h
  obtain ⟨hp, rfl⟩ := h
  exact ⟨0, _, (ev92 x0 x1 x2).trans (Tr.ok _ _ hp), CLe.refl _⟩

noncomputable def tab31 : Tab := ((92, ent92) :: ((87, ent87) :: tab30))
theorem tab31_ok : TSound Tryz.prog (tabT tab31) := (tab_cons (tab_cons tab30_ok ok87) ok92)

end Go.Proofs.YtponnbnebjhepaaGreat

namespace Go.Proofs.YtponnbnebjhepaaGreat
open Go Go.Ev
set_option maxRecDepth 100000

/-! spec.ShadeAt -/
noncomputable def fr38n : (Nat × Bool) → CRes := (fun (x : Nat × Bool) => CRes.plain (.tup [.f32 x.1, .bool x.2]))
noncomputable def fw38n : (Nat × Bool) → CRes := (fun (x : Nat × Bool) => CRes.plain (.tup [.f32 x.1, .bool x.2]))
noncomputable def tr38n (x0 : Vw) (x1 : Int) (x2 : Int) : Tr (Nat × Bool) :=
  (.cond (!F85 x0)
   (.leaf ((0, false)))
   (.cond (!F86 x0.cam x1 x2)
    (.leaf ((0, false)))
    (.cond ((tr87 x0 x1 x2).pre)
     (.leaf ((F87 x0 x1 x2, true)))
     .non)))
theorem ev38n (x0 : Vw) (x1 : Int) (x2 : Int) : evalF (env tab31 exts (fun _ => [])) 0 Tryz.f38 [.agg (enc .vw x0), .int .i64 x1, .int .i64 x2] = (tr38n x0 x1 x2).toOpt fr38n := by kernel_rfl
noncomputable def F38n (x0 : Vw) (x1 : Int) (x2 : Int) : Nat × Bool := (tr38n x0 x1 x2).val

/-! impl.ShadeAt -/
noncomputable def fr40 : (Nat × Bool) → CRes := (fun (x : Nat × Bool) => CRes.plain (.tup [.f32 x.1, .bool x.2]))
noncomputable def fw40 : (Nat × Bool) → CRes := (fun (x : Nat × Bool) => CRes.plain (.tup [.f32 x.1, .bool x.2]))
noncomputable def tr40 (x0 : Vw) (x1 : Int) (x2 : Int) : Tr (Nat × Bool) :=
  (.cond (!F90 x0)
   (.leaf ((0, false)))
   (.cond (!F91 x0.cam x1 x2)
    (.leaf ((0, false)))
    (.cond ((tr92 x0 x1 x2).pre)
     (.leaf ((F92 x0 x1 x2, true)))
     .non)))
theorem ev40 (x0 : Vw) (x1 : Int) (x2 : Int) : evalF (env tab31 exts (fun _ => [])) 0 Tryz.f40 [.agg (enc .vw x0), .int .i64 x1, .int .i64 x2] = (tr40 x0 x1 x2).toOpt fr40 := by kernel_rfl
noncomputable def F40 (x0 : Vw) (x1 : Int) (x2 : Int) : Nat × Bool := (tr40 x0 x1 x2).val

/-! spec.l09Part -/
noncomputable def fr104 : (ByteArray) → CRes := (fun (x : ByteArray) => CRes.plain (.str x))
noncomputable def fw104 : (ByteArray) → CRes := (fun (x : ByteArray) => CRes.plain (.str x))
noncomputable abbrev En104 : Env := env tab31 exts (fgOf 54 [(3, [0, 1, 5, 6]), (6, [0, 1, 5, 6, 7])])
abbrev V104_1 := Vw × Tl × Nat × Int × Int × (List Int)
noncomputable def st104_1 (s0 : Vw) (s1 : Tl) (ns5 : Nat) (s6 : Int) (s7 : Int) (o5 : List Int) : St := mkSt 54 [(0, .ptr .vw s0 0), (1, .ptr .tl s1 0), (5, .lslice 5 0 .u8 ns5), (6, .int .i64 s6), (7, .int .i64 s7)] [(5, .elems 5 .u8 o5)]
noncomputable def Lp104_1 (m n0 n : Nat) (v : V104_1) : Option CRes := loopN (evalC En104 m (cAt [1, 1, 0, 1, 0, 0, 1, 0, 0, 1, 0, 0] (bodyOf Tryz.f104))) (allBut 54 [0, 1, 5, 6, 7]) n (st104_1 v.1 v.2.1 v.2.2.1 v.2.2.2.1 v.2.2.2.2.1 v.2.2.2.2.2) (runK En104 m (finF Tryz.prog Tryz.f104) [.bk 2, .bk 1, .sq (cAt [1, 1, 0, 1, 0, 0, 1, 1] (bodyOf Tryz.f104)), .lp (cAt [1, 1, 0, 1, 0, 0] (bodyOf Tryz.f104)) n0, .bk 0, .sq (cAt [1, 1, 1] (bodyOf Tryz.f104))])
abbrev V104_0 := Vw × Tl × Nat × Int × (List Int)
noncomputable def st104_0 (s0 : Vw) (s1 : Tl) (ns5 : Nat) (s6 : Int) (o5 : List Int) : St := mkSt 54 [(0, .ptr .vw s0 0), (1, .ptr .tl s1 0), (5, .lslice 5 0 .u8 ns5), (6, .int .i64 s6)] [(5, .elems 5 .u8 o5)]
noncomputable def Lp104_0 (m n : Nat) (v : V104_0) : Option CRes := loopN (evalC En104 m (cAt [1, 1, 0, 1, 0, 0] (bodyOf Tryz.f104))) (allBut 54 [0, 1, 5, 6]) n (st104_0 v.1 v.2.1 v.2.2.1 v.2.2.2.1 v.2.2.2.2) (runK En104 m (finF Tryz.prog Tryz.f104) [.bk 0, .sq (cAt [1, 1, 1] (bodyOf Tryz.f104))])
noncomputable def stp104_1 (s0 : Vw) (s1 : Tl) (ns5 : Nat) (s6 : Int) (s7 : Int) (o5 : List Int) : Tr ((V104_1) ⊕ ((ByteArray) ⊕ V104_0)) :=
  (.cond (decide (s7 < IntKind.i64.wrap (s1.x + s1.w)))
   (.cond ((tr87 s0 s7 s6).pre)
    (.cond ((tr179 (F87 s0 s7 s6)).pre)
     (.cond (decide (ns5 = o5.length) && decide ((ns5 + [IntKind.u8.wrap (F179 (F87 s0 s7 s6))].length) * (1 + 1) ≤ limB))
      (.leaf ((.inl ((s0), (s1), ((o5 ++ [IntKind.u8.wrap (F179 (F87 s0 s7 s6))]).length), (s6), (IntKind.i64.wrap (s7 + 1)), (o5 ++ [IntKind.u8.wrap (F179 (F87 s0 s7 s6))])))))
      .non)
     .non)
    .non)
   (.leaf ((.inr (.inr (((s0), (s1), (ns5), (IntKind.i64.wrap (s6 + 1)), (o5))))))))
theorem step104_1 (m n0 n : Nat) (s0 : Vw) (s1 : Tl) (ns5 : Nat) (s6 : Int) (s7 : Int) (o5 : List Int) : Lp104_1 m n0 (n + 1) (s0, s1, ns5, s6, s7, o5) = (stp104_1 s0 s1 ns5 s6 s7 o5).run (Sum.elim (Lp104_1 m n0 n) (Sum.elim (fun r => some (fr104 r)) (Lp104_0 m n0))) := by kernel_rfl
noncomputable def L104_1 (m : Nat) (K104_0 : V104_0 → Option (ByteArray)) : Nat → V104_1 → Option (ByteArray)
  | 0, _ => none
  | n + 1, v => (stp104_1 v.1 v.2.1 v.2.2.1 v.2.2.2.1 v.2.2.2.2.1 v.2.2.2.2.2).run (Sum.elim (fun v => L104_1 m K104_0 n v) (Sum.elim (fun r => some r) K104_0))
theorem lem104_1 (m n0 : Nat) (K104_0 : V104_0 → Option (ByteArray)) (h104_0 : ∀ v, Lp104_0 m n0 v = (K104_0 v).map fr104) : ∀ (n : Nat) (v : V104_1), Lp104_1 m n0 n v = (L104_1 m K104_0 n v).map fr104
  | 0, _ => rfl
  | n + 1, v => (step104_1 m n0 n v.1 v.2.1 v.2.2.1 v.2.2.2.1 v.2.2.2.2.1 v.2.2.2.2.2).trans (Tr.run_map (fun x => by
      rcases x with v | v | v
      · exact lem104_1 m n0 K104_0 h104_0 n v
      · exact rfl
      · exact h104_0 v) _)
noncomputable def stp104_0 (s0 : Vw) (s1 : Tl) (ns5 : Nat) (s6 : Int) (o5 : List Int) : Tr ((V104_0) ⊕ ((ByteArray) ⊕ V104_1)) :=
  (.cond (decide (s6 < IntKind.i64.wrap (s1.y + s1.h)))
   (.leaf ((.inr (.inr (((s0), (s1), (ns5), (s6), (s1.x), (o5)))))))
   (.leaf ((.inr (.inl (bytesL (List.take ns5 o5)))))))
theorem step104_0 (m n : Nat) (s0 : Vw) (s1 : Tl) (ns5 : Nat) (s6 : Int) (o5 : List Int) : Lp104_0 m (n + 1) (s0, s1, ns5, s6, o5) = (stp104_0 s0 s1 ns5 s6 o5).run (Sum.elim (Lp104_0 m n) (Sum.elim (fun r => some (fr104 r)) (Lp104_1 m n m))) := by kernel_rfl
noncomputable def L104_0 (m : Nat)  : Nat → V104_0 → Option (ByteArray)
  | 0, _ => none
  | n + 1, v => (stp104_0 v.1 v.2.1 v.2.2.1 v.2.2.2.1 v.2.2.2.2).run (Sum.elim (fun v => L104_0 m n v) (Sum.elim (fun r => some r) (L104_1 m (fun v => L104_0 m n v) m)))
theorem lem104_0 (m : Nat)   : ∀ (n : Nat) (v : V104_0), Lp104_0 m n v = (L104_0 m n v).map fr104
  | 0, _ => rfl
  | n + 1, v => (step104_0 m n v.1 v.2.1 v.2.2.1 v.2.2.2.1 v.2.2.2.2).trans (Tr.run_map (fun x => by
      rcases x with v | v | v
      · exact lem104_0 m n v
      · exact rfl
      · exact lem104_1 m n (fun v => L104_0 m n v) (fun v => lem104_0 m n v) m v) _)
noncomputable def seg104 (x0 : Vw) (x1 : Tl) : Tr ((ByteArray) ⊕ V104_0) :=
  (.leaf ((.inr (((x0), (x1), (0), (x1.y), (List.replicate 0 0))))))
theorem evseg104 (m : Nat) (x0 : Vw) (x1 : Tl) : evalF En104 m Tryz.f104 [.ptr .vw x0 0, .ptr .tl x1 0] = (seg104 x0 x1).run (Sum.elim (fun r => some (fr104 r)) (Lp104_0 m m)) := by kernel_rfl
noncomputable def S104 (m : Nat) (x0 : Vw) (x1 : Tl) : Option (ByteArray) := (seg104 x0 x1).run (Sum.elim (fun r => some r) (L104_0 m m))
theorem evS104 (m : Nat) (x0 : Vw) (x1 : Tl) : evalF En104 m Tryz.f104 [.ptr .vw x0 0, .ptr .tl x1 0] = (S104 m x0 x1).map fr104 :=
  (evseg104 m x0 x1).trans (Tr.run_map (fun x => by
    rcases x with v | v
    · exact rfl
    · exact lem104_0 m m v) _)

/-! (*impl.View).render -/
noncomputable def fr107 : (ByteArray) → CRes := (fun (x : ByteArray) => CRes.plain (.str x))
noncomputable def fw107 : (ByteArray) → CRes := (fun (x : ByteArray) => CRes.plain (.str x))
noncomputable abbrev En107 : Env := env tab31 exts (fgOf 42 [(3, [0, 3, 5, 6]), (6, [0, 3, 5, 6, 7])])
abbrev V107_1 := Vw × Nat × Int × Int × Int × Int × Int × Int × (List Int)
noncomputable def st107_1 (s0 : Vw) (ns5 : Nat) (s6 : Int) (s7 : Int) (o3_0 : Int) (o3_1 : Int) (o3_2 : Int) (o3_3 : Int) (o5 : List Int) : St := mkSt 42 [(0, .ptr .vw s0 0), (3, .lptr 3 0 0), (5, .lslice 5 0 .u8 ns5), (6, .int .i64 s6), (7, .int .i64 s7)] [(3, .cells (some .tl) [.int .i64 o3_0, .int .i64 o3_1, .int .i64 o3_2, .int .i64 o3_3]), (5, .elems 5 .u8 o5)]
noncomputable def Lp107_1 (m n0 n : Nat) (v : V107_1) : Option CRes := loopN (evalC En107 m (cAt [1, 1, 0, 1, 0, 0, 1, 0, 0, 1, 0, 0] (bodyOf Tryz.f107))) (allBut 42 [0, 3, 5, 6, 7]) n (st107_1 v.1 v.2.1 v.2.2.1 v.2.2.2.1 v.2.2.2.2.1 v.2.2.2.2.2.1 v.2.2.2.2.2.2.1 v.2.2.2.2.2.2.2.1 v.2.2.2.2.2.2.2.2) (runK En107 m (finF Tryz.prog Tryz.f107) [.bk 2, .bk 1, .sq (cAt [1, 1, 0, 1, 0, 0, 1, 1] (bodyOf Tryz.f107)), .lp (cAt [1, 1, 0, 1, 0, 0] (bodyOf Tryz.f107)) n0, .bk 0, .sq (cAt [1, 1, 1] (bodyOf Tryz.f107))])
abbrev V107_0 := Vw × Nat × Int × Int × Int × Int × Int × (List Int)
noncomputable def st107_0 (s0 : Vw) (ns5 : Nat) (s6 : Int) (o3_0 : Int) (o3_1 : Int) (o3_2 : Int) (o3_3 : Int) (o5 : List Int) : St := mkSt 42 [(0, .ptr .vw s0 0), (3, .lptr 3 0 0), (5, .lslice 5 0 .u8 ns5), (6, .int .i64 s6)] [(3, .cells (some .tl) [.int .i64 o3_0, .int .i64 o3_1, .int .i64 o3_2, .int .i64 o3_3]), (5, .elems 5 .u8 o5)]
noncomputable def Lp107_0 (m n : Nat) (v : V107_0) : Option CRes := loopN (evalC En107 m (cAt [1, 1, 0, 1, 0, 0] (bodyOf Tryz.f107))) (allBut 42 [0, 3, 5, 6]) n (st107_0 v.1 v.2.1 v.2.2.1 v.2.2.2.1 v.2.2.2.2.1 v.2.2.2.2.2.1 v.2.2.2.2.2.2.1 v.2.2.2.2.2.2.2) (runK En107 m (finF Tryz.prog Tryz.f107) [.bk 0, .sq (cAt [1, 1, 1] (bodyOf Tryz.f107))])
noncomputable def stp107_1 (s0 : Vw) (ns5 : Nat) (s6 : Int) (s7 : Int) (o3_0 : Int) (o3_1 : Int) (o3_2 : Int) (o3_3 : Int) (o5 : List Int) : Tr ((V107_1) ⊕ ((ByteArray) ⊕ V107_0)) :=
  (.cond (decide (s7 < IntKind.i64.wrap (o3_0 + o3_2)))
   (.cond ((tr92 s0 s7 s6).pre)
    (.cond ((tr180 (F92 s0 s7 s6)).pre)
     (.cond (decide (ns5 = o5.length) && decide ((ns5 + [IntKind.u8.wrap (F180 (F92 s0 s7 s6))].length) * (1 + 1) ≤ limB))
      (.leaf ((.inl ((s0), ((o5 ++ [IntKind.u8.wrap (F180 (F92 s0 s7 s6))]).length), (s6), (IntKind.i64.wrap (s7 + 1)), (o3_0), (o3_1), (o3_2), (o3_3), (o5 ++ [IntKind.u8.wrap (F180 (F92 s0 s7 s6))])))))
      .non)
     .non)
    .non)
   (.leaf ((.inr (.inr (((s0), (ns5), (IntKind.i64.wrap (s6 + 1)), (o3_0), (o3_1), (o3_2), (o3_3), (o5))))))))
theorem step107_1 (m n0 n : Nat) (s0 : Vw) (ns5 : Nat) (s6 : Int) (s7 : Int) (o3_0 : Int) (o3_1 : Int) (o3_2 : Int) (o3_3 : Int) (o5 : List Int) : Lp107_1 m n0 (n + 1) (s0, ns5, s6, s7, o3_0, o3_1, o3_2, o3_3, o5) = (stp107_1 s0 ns5 s6 s7 o3_0 o3_1 o3_2 o3_3 o5).run (Sum.elim (Lp107_1 m n0 n) (Sum.elim (fun r => some (fr107 r)) (Lp107_0 m n0))) := by kernel_rfl
noncomputable def L107_1 (m : Nat) (K107_0 : V107_0 → Option (ByteArray)) : Nat → V107_1 → Option (ByteArray)
  | 0, _ => none
  | n + 1, v => (stp107_1 v.1 v.2.1 v.2.2.1 v.2.2.2.1 v.2.2.2.2.1 v.2.2.2.2.2.1 v.2.2.2.2.2.2.1 v.2.2.2.2.2.2.2.1 v.2.2.2.2.2.2.2.2).run (Sum.elim (fun v => L107_1 m K107_0 n v) (Sum.elim (fun r => some r) K107_0))
theorem lem107_1 (m n0 : Nat) (K107_0 : V107_0 → Option (ByteArray)) (h107_0 : ∀ v, Lp107_0 m n0 v = (K107_0 v).map fr107) : ∀ (n : Nat) (v : V107_1), Lp107_1 m n0 n v = (L107_1 m K107_0 n v).map fr107
  | 0, _ => rfl
  | n + 1, v => (step107_1 m n0 n v.1 v.2.1 v.2.2.1 v.2.2.2.1 v.2.2.2.2.1 v.2.2.2.2.2.1 v.2.2.2.2.2.2.1 v.2.2.2.2.2.2.2.1 v.2.2.2.2.2.2.2.2).trans (Tr.run_map (fun x => by
      rcases x with v | v | v
      · exact lem107_1 m n0 K107_0 h107_0 n v
      · exact rfl
      · exact h107_0 v) _)
noncomputable def stp107_0 (s0 : Vw) (ns5 : Nat) (s6 : Int) (o3_0 : Int) (o3_1 : Int) (o3_2 : Int) (o3_3 : Int) (o5 : List Int) : Tr ((V107_0) ⊕ ((ByteArray) ⊕ V107_1)) :=
  (.cond (decide (s6 < IntKind.i64.wrap (o3_1 + o3_3)))
   (.leaf ((.inr (.inr (((s0), (ns5), (s6), (o3_0), (o3_0), (o3_1), (o3_2), (o3_3), (o5)))))))
   (.leaf ((.inr (.inl (bytesL (List.take ns5 o5)))))))
theorem step107_0 (m n : Nat) (s0 : Vw) (ns5 : Nat) (s6 : Int) (o3_0 : Int) (o3_1 : Int) (o3_2 : Int) (o3_3 : Int) (o5 : List Int) : Lp107_0 m (n + 1) (s0, ns5, s6, o3_0, o3_1, o3_2, o3_3, o5) = (stp107_0 s0 ns5 s6 o3_0 o3_1 o3_2 o3_3 o5).run (Sum.elim (Lp107_0 m n) (Sum.elim (fun r => some (fr107 r)) (Lp107_1 m n m))) := by kernel_rfl
noncomputable def L107_0 (m : Nat)  : Nat → V107_0 → Option (ByteArray)
  | 0, _ => none
  | n + 1, v => (stp107_0 v.1 v.2.1 v.2.2.1 v.2.2.2.1 v.2.2.2.2.1 v.2.2.2.2.2.1 v.2.2.2.2.2.2.1 v.2.2.2.2.2.2.2).run (Sum.elim (fun v => L107_0 m n v) (Sum.elim (fun r => some r) (L107_1 m (fun v => L107_0 m n v) m)))
theorem lem107_0 (m : Nat)   : ∀ (n : Nat) (v : V107_0), Lp107_0 m n v = (L107_0 m n v).map fr107
  | 0, _ => rfl
  | n + 1, v => (step107_0 m n v.1 v.2.1 v.2.2.1 v.2.2.2.1 v.2.2.2.2.1 v.2.2.2.2.2.1 v.2.2.2.2.2.2.1 v.2.2.2.2.2.2.2).trans (Tr.run_map (fun x => by
      rcases x with v | v | v
      · exact lem107_0 m n v
      · exact rfl
      · exact lem107_1 m n (fun v => L107_0 m n v) (fun v => lem107_0 m n v) m v) _)
noncomputable def seg107 (x0 : Vw) (x1 : Tl) : Tr ((ByteArray) ⊕ V107_0) :=
  (.leaf ((.inr (((x0), (0), (x1.y), (x1.x), (x1.y), (x1.w), (x1.h), (List.replicate 0 0))))))
theorem evseg107 (m : Nat) (x0 : Vw) (x1 : Tl) : evalF En107 m Tryz.f107 [.ptr .vw x0 0, .agg (enc .tl x1)] = (seg107 x0 x1).run (Sum.elim (fun r => some (fr107 r)) (Lp107_0 m m)) := by kernel_rfl
noncomputable def S107 (m : Nat) (x0 : Vw) (x1 : Tl) : Option (ByteArray) := (seg107 x0 x1).run (Sum.elim (fun r => some r) (L107_0 m m))
theorem evS107 (m : Nat) (x0 : Vw) (x1 : Tl) : evalF En107 m Tryz.f107 [.ptr .vw x0 0, .agg (enc .tl x1)] = (S107 m x0 x1).map fr107 :=
  (evseg107 m x0 x1).trans (Tr.run_map (fun x => by
    rcases x with v | v
    · exact rfl
    · exact lem107_0 m m v) _)

end Go.Proofs.YtponnbnebjhepaaGreat

namespace Go.Ev
open Go Ieee

/-! Words that are equal, or both a zero. -/

def Zw (x : Nat) : Prop := x = 0 ∨ x = 2147483648
def zq (x y : Nat) : Prop := (x = y ∧ x < 4294967296) ∨ (Zw x ∧ Zw y)

theorem zq.refl {x : Nat} (h : x < 4294967296) : zq x x := .inl ⟨rfl, h⟩
theorem zq.symm {x y : Nat} (h : zq x y) : zq y x := by
  rcases h with ⟨rfl, h⟩ | ⟨h1, h2⟩
  · exact .inl ⟨rfl, h⟩
  · exact .inr ⟨h2, h1⟩
theorem zq.trans {x y z : Nat} (h : zq x y) (h' : zq y z) : zq x z := by
  rcases h with ⟨rfl, h⟩ | ⟨h1, h2⟩
  · exact h'
  · rcases h' with ⟨rfl, h⟩ | ⟨h3, h4⟩
    · exact .inr ⟨h1, h2⟩
    · exact .inr ⟨h1, h4⟩
theorem zq.lt {x y : Nat} (h : zq x y) : x < 4294967296 := by
  rcases h with ⟨rfl, h⟩ | ⟨h1 | h1, h2⟩ <;> omega

theorem zw_decode {x : Nat} (h : Zw x) : ∃ s, FloatKind.f32.decode x = .number s 0 (-149) := by
  rcases h with rfl | rfl
  · exact ⟨false, by decide +kernel⟩
  · exact ⟨true, by decide +kernel⟩
theorem zw_encode (s : Bool) (e : Int) : Zw (canon .f32 (FloatKind.f32.encode (.number s 0 e))) := by
  have : FloatKind.f32.encode (.number s 0 e) = if s then 2147483648 else 0 := by
    show Ieee.single.nearest s 0 e = _
    unfold Format.nearest
    rw [if_pos rfl]
    cases s <;> rfl
  rw [this]
  cases s
  · exact .inl (by decide +kernel)
  · exact .inr (by decide +kernel)

/-- Data that are the same, or both a zero. -/
def Zr (d d' : Datum) : Prop := d = d' ∨ ∃ s s' e e', d = .number s 0 e ∧ d' = .number s' 0 e'
/-- What becomes of a result. -/
def res32 : Option Datum → Nat
  | some d => canon .f32 (FloatKind.f32.encode d)
  | none => nanB .f32
def ZrO : Option Datum → Option Datum → Prop
  | some d, some d' => Zr d d'
  | none, none => True
  | _, _ => False

theorem canon_lt32 (d : Datum) : canon .f32 (FloatKind.f32.encode d) < 4294967296 := by
  unfold canon
  split
  · decide +kernel
  · exact FloatKind.f32.format.write_lt d
theorem res32_lt (o : Option Datum) : res32 o < 4294967296 := by
  cases o
  · decide +kernel
  · exact canon_lt32 _
theorem res32_zq {o o' : Option Datum} (h : ZrO o o') : zq (res32 o) (res32 o') := by
  cases o <;> cases o'
  · exact zq.refl (res32_lt _)
  · exact h.elim
  · exact h.elim
  · rename_i d d'
    rcases h with rfl | ⟨s, s', e, e', rfl, rfl⟩
    · exact zq.refl (res32_lt _)
    · exact .inr ⟨zw_encode s e, zw_encode s' e'⟩

theorem add_res (x y : Nat) : fop .add .f32 x y = res32 ((FloatKind.f32.decode x).sum (FloatKind.f32.decode y)) := by
  rw [fop_add_eq]; cases (FloatKind.f32.decode x).sum (FloatKind.f32.decode y) <;> rfl
theorem sub_res (x y : Nat) : fop .sub .f32 x y = res32 ((FloatKind.f32.decode x).sum (FloatKind.f32.decode y).opposite) := by
  rw [fop_sub_eq]; cases (FloatKind.f32.decode x).sum (FloatKind.f32.decode y).opposite <;> rfl
theorem mul_res (x y : Nat) : fop .mul .f32 x y = res32 ((FloatKind.f32.decode x).product (FloatKind.f32.decode y)) := by
  rw [fop_mul_eq]; cases (FloatKind.f32.decode x).product (FloatKind.f32.decode y) <;> rfl
theorem quo_res (x y : Nat) : fop .quo .f32 x y = res32 ((FloatKind.f32.decode x).quotient (FloatKind.f32.format.fractionBits + 2) (FloatKind.f32.decode y)) := by
  rw [fop_quo_eq]; cases (FloatKind.f32.decode x).quotient (FloatKind.f32.format.fractionBits + 2) (FloatKind.f32.decode y) <;> rfl

theorem add_lt (x y : Nat) : fop .add .f32 x y < 4294967296 := by rw [add_res]; exact res32_lt _
theorem sub_lt (x y : Nat) : fop .sub .f32 x y < 4294967296 := by rw [sub_res]; exact res32_lt _
theorem mul_lt (x y : Nat) : fop .mul .f32 x y < 4294967296 := by rw [mul_res]; exact res32_lt _
theorem quo_lt (x y : Nat) : fop .quo .f32 x y < 4294967296 := by rw [quo_res]; exact res32_lt _

theorem signed_nought (s : Bool) (u : Nat) : signed s 0 u = 0 := by unfold signed; cases s <;> simp

theorem sum_left (s s' : Bool) (L : Int) (d : Datum) : ZrO ((Datum.number s 0 L).sum d) ((Datum.number s' 0 L).sum d) := by
  cases d with
  | nan _ _ => exact trivial
  | infinity t => exact .inl rfl
  | number t n j =>
    unfold Datum.sum
    simp only [signed_nought, Int.zero_add]
    by_cases h : signed t n (j - min L j).toNat = 0
    · rw [if_pos h, if_pos h, h]
      exact .inr ⟨_, _, _, _, rfl, rfl⟩
    · rw [if_neg h, if_neg h]
      exact .inl rfl
theorem sum_right (s s' : Bool) (L : Int) (d : Datum) : ZrO (d.sum (Datum.number s 0 L)) (d.sum (Datum.number s' 0 L)) := by
  cases d with
  | nan _ _ => exact trivial
  | infinity t => exact .inl rfl
  | number t n j =>
    unfold Datum.sum
    simp only [signed_nought, Int.add_zero]
    by_cases h : signed t n (j - min j L).toNat = 0
    · rw [if_pos h, if_pos h, h]
      exact .inr ⟨_, _, _, _, rfl, rfl⟩
    · rw [if_neg h, if_neg h]
      exact .inl rfl
theorem product_left (s s' : Bool) (L : Int) (d : Datum) : ZrO ((Datum.number s 0 L).product d) ((Datum.number s' 0 L).product d) := by
  cases d with
  | nan _ _ => exact trivial
  | infinity t => exact trivial
  | number t n j =>
    refine .inr ⟨s ^^ t, s' ^^ t, L + j, L + j, ?_, ?_⟩ <;> simp
theorem product_right (s s' : Bool) (L : Int) (d : Datum) : ZrO (d.product (Datum.number s 0 L)) (d.product (Datum.number s' 0 L)) := by
  cases d with
  | nan _ _ => exact trivial
  | infinity t => exact trivial
  | number t n j =>
    refine .inr ⟨t ^^ s, t ^^ s', j + L, j + L, ?_, ?_⟩ <;> simp
theorem quotient_left (k : Nat) (s s' : Bool) (L : Int) (d : Datum) : ZrO ((Datum.number s 0 L).quotient k d) ((Datum.number s' 0 L).quotient k d) := by
  cases d with
  | nan _ _ => exact trivial
  | infinity t => exact .inr ⟨_, _, _, _, rfl, rfl⟩
  | number t n j =>
    unfold Datum.quotient
    simp only
    by_cases h : n = 0
    · rw [if_pos h, if_pos h]; exact trivial
    · rw [if_neg h, if_neg h]
      exact .inr ⟨s ^^ t, s' ^^ t, L - j - ↑(k + n.log2 - Nat.log2 0) - 1, L - j - ↑(k + n.log2 - Nat.log2 0) - 1, by simp, by simp⟩

theorem zq_add {x x' y y' : Nat} (hx : zq x x') (hy : zq y y') : zq (fop .add .f32 x y) (fop .add .f32 x' y') := by
  have h1 : zq (fop .add .f32 x y) (fop .add .f32 x' y) := by
    rcases hx with ⟨rfl, _⟩ | ⟨h, h'⟩
    · exact zq.refl (add_lt _ _)
    · obtain ⟨s, hs⟩ := zw_decode h; obtain ⟨s', hs'⟩ := zw_decode h'
      rw [add_res, add_res, hs, hs']; exact res32_zq (sum_left _ _ _ _)
  refine h1.trans ?_
  rcases hy with ⟨rfl, _⟩ | ⟨h, h'⟩
  · exact zq.refl (add_lt _ _)
  · obtain ⟨s, hs⟩ := zw_decode h; obtain ⟨s', hs'⟩ := zw_decode h'
    rw [add_res, add_res, hs, hs']; exact res32_zq (sum_right _ _ _ _)
theorem zq_sub {x x' y y' : Nat} (hx : zq x x') (hy : zq y y') : zq (fop .sub .f32 x y) (fop .sub .f32 x' y') := by
  have h1 : zq (fop .sub .f32 x y) (fop .sub .f32 x' y) := by
    rcases hx with ⟨rfl, _⟩ | ⟨h, h'⟩
    · exact zq.refl (sub_lt _ _)
    · obtain ⟨s, hs⟩ := zw_decode h; obtain ⟨s', hs'⟩ := zw_decode h'
      rw [sub_res, sub_res, hs, hs']; exact res32_zq (sum_left _ _ _ _)
  refine h1.trans ?_
  rcases hy with ⟨rfl, _⟩ | ⟨h, h'⟩
  · exact zq.refl (sub_lt _ _)
  · obtain ⟨s, hs⟩ := zw_decode h; obtain ⟨s', hs'⟩ := zw_decode h'
    rw [sub_res, sub_res, hs, hs']; exact res32_zq (sum_right _ _ _ _)
theorem zq_mul {x x' y y' : Nat} (hx : zq x x') (hy : zq y y') : zq (fop .mul .f32 x y) (fop .mul .f32 x' y') := by
  have h1 : zq (fop .mul .f32 x y) (fop .mul .f32 x' y) := by
    rcases hx with ⟨rfl, _⟩ | ⟨h, h'⟩
    · exact zq.refl (mul_lt _ _)
    · obtain ⟨s, hs⟩ := zw_decode h; obtain ⟨s', hs'⟩ := zw_decode h'
      rw [mul_res, mul_res, hs, hs']; exact res32_zq (product_left _ _ _ _)
  refine h1.trans ?_
  rcases hy with ⟨rfl, _⟩ | ⟨h, h'⟩
  · exact zq.refl (mul_lt _ _)
  · obtain ⟨s, hs⟩ := zw_decode h; obtain ⟨s', hs'⟩ := zw_decode h'
    rw [mul_res, mul_res, hs, hs']; exact res32_zq (product_right _ _ _ _)
theorem zq_quo {x x' y y' : Nat} (hx : zq x x') (hy : y = y') : zq (fop .quo .f32 x y) (fop .quo .f32 x' y') := by
  subst hy
  rcases hx with ⟨rfl, _⟩ | ⟨h, h'⟩
  · exact zq.refl (quo_lt _ _)
  · obtain ⟨s, hs⟩ := zw_decode h; obtain ⟨s', hs'⟩ := zw_decode h'
    rw [quo_res, quo_res, hs, hs']; exact res32_zq (quotient_left _ _ _ _ _)
/-- A square has no sign. -/
theorem square_eq {x y : Nat} (h : zq x y) : fop .mul .f32 x x = fop .mul .f32 y y := by
  rcases h with ⟨rfl, _⟩ | ⟨h, h'⟩
  · rfl
  · obtain ⟨s, hs⟩ := zw_decode h; obtain ⟨s', hs'⟩ := zw_decode h'
    rw [mul_res, mul_res, hs, hs']
    simp [Datum.product]

theorem ord_eq (x y : Nat) : fordR .f32 x y = (FloatKind.f32.decode x).order (FloatKind.f32.decode y) := rfl
theorem order_left (s s' : Bool) (L : Int) (d : Datum) : (Datum.number s 0 L).order d = (Datum.number s' 0 L).order d := by
  cases d <;> simp [Datum.order, signed_nought]
theorem order_right (s s' : Bool) (L : Int) (d : Datum) : d.order (Datum.number s 0 L) = d.order (Datum.number s' 0 L) := by
  cases d <;> simp [Datum.order, signed_nought]
theorem zq_cmp {x x' y y' : Nat} (op : BinOp) (hx : zq x x') (hy : zq y y') : fcmp op .f32 x y = fcmp op .f32 x' y' := by
  have : fordR .f32 x y = fordR .f32 x' y' := by
    have h1 : fordR .f32 x y = fordR .f32 x' y := by
      rcases hx with ⟨rfl, _⟩ | ⟨h, h'⟩
      · rfl
      · obtain ⟨s, hs⟩ := zw_decode h; obtain ⟨s', hs'⟩ := zw_decode h'
        rw [ord_eq, ord_eq, hs, hs']; exact order_left _ _ _ _
    rw [h1]
    rcases hy with ⟨rfl, _⟩ | ⟨h, h'⟩
    · rfl
    · obtain ⟨s, hs⟩ := zw_decode h; obtain ⟨s', hs'⟩ := zw_decode h'
      rw [ord_eq, ord_eq, hs, hs']; exact order_right _ _ _ _
  rw [fcmp_eq]
  cases op <;> simp only [fcmpR, this]

theorem neg_lt {x : Nat} (h : x < 4294967296) : fneg .f32 x < 4294967296 := by
  rw [fneg_eq]
  unfold fnegR
  have hlt : x ^^^ 2 ^ 31 < 2 ^ 32 := Nat.xor_lt_two_pow h (by decide)
  unfold canon
  split
  · decide +kernel
  · exact hlt
theorem zq_neg {x y : Nat} (h : zq x y) : zq (fneg .f32 x) (fneg .f32 y) := by
  rcases h with ⟨rfl, h⟩ | ⟨h, h'⟩
  · exact zq.refl (neg_lt h)
  · have : ∀ x, Zw x → Zw (fneg .f32 x) := by
      intro x hx
      rw [fneg_eq]
      rcases hx with rfl | rfl
      · exact .inr (by decide +kernel)
      · exact .inl (by decide +kernel)
    exact .inr ⟨this _ h, this _ h'⟩

noncomputable def rnd32 (x : Nat) : Nat := f2f .f64 (fint .even (f2f .f32 x .f64)) .f32
theorem narrow_lt (x : Nat) : f2f .f64 x .f32 < 4294967296 := by
  rw [f2f_eq]
  unfold f2fR
  rw [if_neg (by decide)]
  split
  · decide +kernel
  · exact canon_lt32 _
theorem zq_rnd {x y : Nat} (h : zq x y) : zq (rnd32 x) (rnd32 y) := by
  rcases h with ⟨rfl, h⟩ | ⟨h, h'⟩
  · exact zq.refl (narrow_lt _)
  · have : ∀ x, Zw x → Zw (rnd32 x) := by
      intro x hx
      unfold rnd32
      rw [f2f_eq, fint_eq]
      rcases hx with rfl | rfl
      · exact .inl (by decide +kernel)
      · exact .inr (by decide +kernel)
    exact .inr ⟨this _ h, this _ h'⟩

end Go.Ev

