/- For every input the law on what a place in a view looks like answers true and leaves its arguments as they were (condition: none). -/
import Derived.Test.YtponnbnebjhepaaGreatKa6
namespace Go.Proofs.YtponnbnebjhepaaGreat
open Go Go.Ev Go.ChangeShapes Go.WideShapes Go.ChangeAt Go.RowKit
set_option maxRecDepth 100000

theorem law6_lifted (os : Os) (started : os.Started) (H : Type) (encH : TypeId × Value → H) :
    ReturnsInHanded {} Tryz.checked os 6 .any (Rows.fnExactShadeAtSpec.pre6 encH Tryz.prog Tryz.f6 Rows.fnExactShadeAtRow.domain false) (Rows.fnExactShadeAtSpec.post encH Tryz.prog Tryz.f6 false true false false) := by
  refine returnsInHanded_of_change_sized (C := Tryz.checked) Tryz.own started (by kernel_rfl) Tryz.func6
    (ChangeSpec.witness6 (enc := encH) (C := Tryz.checked) false ⟨#[], #[.agg #[.slice none 0 0, .float .f32 0, .float .f32 0, .float .f32 0, .float .f32 0, .float .f32 0, .float .f32 0, .float .f32 0, .int .i64 0, .int .i64 0, .float .f32 0, .float .f32 0, .float .f32 0, .float .f32 0, .float .f32 0, .int .i64 0], .int .i64 0, .int .i64 0], []⟩ 8 (by kernel_rfl) (by kernel_rfl) (by kernel_rfl) (by kernel_rfl)) ?_
  intro W base args ds gs before hval0 hW _ hsz0 _
  have hval : ∀ (j : Nat) t v, Tryz.f6.params[j]? = some t → args[j]? = some v → Value.okWide Tryz.prog W .any base t v := hval0
  have hW' : DataW.Whole encH Tryz.prog Tryz.f6.params.toList Rows.fnExactShadeAtSpec.vars false W args.toList ds gs before := hW
  obtain ⟨p, q, hA0, hV, rfl, _, _⟩ := hW
  have hA : DataW.TrodAll encH Tryz.prog W 0 (fun _ => true) true Tryz.f6.params.toList args.toList ds p := hA0
  have hsz : (DataW.weightsEach Tryz.prog (Tryz.f6.params.toList ++ Rows.fnExactShadeAtSpec.plain.varTypes Tryz.prog) (ds ++ gs)).all (· ≤ reachBytes) = true := hsz0
  rw [Tryz.params6] at hA hval hsz
  obtain ⟨v0, v1, v2, d0, d1, d2, p0, p1, p2, rfl, rfl, rfl, h0, h1, h2⟩ := trodAll_three hA
  have hw0 : ∀ k ∈ d0.weights Tryz.prog 70, k ≤ reachBytes := fun k hk => by
    have := List.all_eq_true.1 hsz k (DataW.weights_mem_each (j := 0) rfl rfl k hk)
    simpa using this
  obtain ⟨ps, ⟨x0, rfl, hlen⟩, r0⟩ := arg_struct Tryz.underlying70 br70 (hval 0 70 v0 rfl rfl) h0 hw0
  obtain ⟨x1, r1⟩ := arg_int Tryz.underlying2 (hval 1 2 v1 rfl rfl) h1
  obtain ⟨x2, r2⟩ := arg_int Tryz.underlying2 (hval 2 2 v2 rfl rfl) h2
  obtain ⟨e1, e2⟩ := F6_ok hlen x1 x2
  have he : ent6 [.agg (enc .vw x0), .int .i64 x1, .int .i64 x2] = some (true, .plain (.bool true)) := by
    show some ((tr6 x0 x1 x2).pre, CRes.plain (.bool (F6 x0 x1 x2))) = _
    rw [e1, e2]
  refine law_post (f := 6) rfl rfl ⟨rfl, rfl, rfl⟩ (fun t ht => ?_) hW' (law_calls ok6 he (prels3 r0 r1 r2))
  rw [Tryz.params6] at ht
  rcases (by simpa using ht : t = 70 ∨ t = 2) with rfl | rfl
  · exact ⟨by kernel_rfl, of_decide_eq_true (by kernel_rfl)⟩
  · exact ⟨by kernel_rfl, of_decide_eq_true (by kernel_rfl)⟩

theorem inst6 : Func.isInstance Tryz.pinned.checked.prog Tryz.f6 Rows.fnExactShadeAtRow.origin Rows.fnExactShadeAtRow.targs := of_decide_eq_true (by kernel_rfl)
theorem wrap6 : Func.isWrapper Tryz.pinned.checked.prog Tryz.f6 Rows.fnExactShadeAtRow.wrapper Rows.fnExactShadeAtRow.mainSum := by unfold Func.isWrapper; first | (rw [if_pos (by decide +kernel)]; kernel_rfl) | (rw [if_neg (by decide +kernel)]; exact ⟨rfl, rfl⟩)
theorem named6 : Tryz.pinned.checked.prog.funcNamed Rows.fnExactShadeAtRow.func = some 6 := by kernel_rfl
theorem place6 : (Rows.fnExactShadeAtRow.inPlace == Tryz.pinned.checked.prog.inPlace 6) = true := by kernel_rfl
theorem follow6 : (Rows.fnExactShadeAtRow.unfollowed == Tryz.pinned.checked.prog.unfollowed 6) = true := by kernel_rfl
theorem recur6 : (Rows.fnExactShadeAtRow.recurses == Tryz.pinned.checked.prog.recurses 6) = true := by kernel_rfl
theorem vars6 : (Rows.fnExactShadeAtRow.named == Tryz.pinned.checked.prog.varsNamed 6) = true := by kernel_rfl
theorem facts6 : joinedFacts Tryz.pinned.checked.prog 6 Tryz.f6 Rows.fnExactShadeAtSpec Rows.fnExactShadeAtRow = true := by
  unfold joinedFacts
  repeat' (with_reducible refine Bool.and_eq_true_iff.2 ⟨?_, ?_⟩)
  all_goals first | with_reducible exact place6 | with_reducible exact follow6 | with_reducible exact recur6 | with_reducible exact vars6 | with_reducible exact Tryz.laidOut | with_reducible exact rowed | kernel_rfl

theorem shadeAt_holds : Rows.FnExactShadeAtSaid :=
  OpenClaim.holds_of_wide 6 Tryz.f6 rfl rfl rfl rfl rfl rfl rfl ⟨rfl, rfl, rfl, rfl, rfl⟩ rfl rfl rfl rfl rfl named6 Tryz.func6 facts6 inst6 wrap6
    (fun os started H enc _ => law6_lifted os started H enc)

end Go.Proofs.YtponnbnebjhepaaGreat
