/- RestArchives: for every input the law returns true, and the input reads as it did. No condition. -/
import Derived.Test.YtjpgoeimclipjaaGreatRs14
namespace Go.Proofs.YtjpgoeimclipjaaGreat.restArchives
open Go.ChangeShapes Go.WideShapes Go.ChangeAt Go.RowKit
open Go.ChangeMaps (open_string shut_string)

set_option maxRecDepth 100000 in
theorem lifted (os : Os) (started : os.Started) (H : Type) (enc : TypeId × Value → H) :
    ReturnsInHanded {} Tryz.checked os 11 .any (Rows.restArchivesSpec.pre6 enc Tryz.prog Tryz.f11 Rows.restArchivesRow.domain false) (Rows.restArchivesSpec.post enc Tryz.prog Tryz.f11 false true false false) := by
  refine returnsInHanded_of_change_shaped (C := Tryz.checked) Tryz.own started (by kernel_rfl) Tryz.func11
    (ChangeSpec.witness6 (enc := enc) (C := Tryz.checked) false ⟨#[], #[.agg #[.slice none 0 0, .slice none 0 0], .string ByteArray.empty, .string ByteArray.empty, .int .i64 0], []⟩ 8 (by kernel_rfl) (by kernel_rfl) (by kernel_rfl) (by kernel_rfl)) ?_
  intro W base args ds gs before hval0 hW _hcnd hsz0 hsh _
  have hval : ∀ (j : Nat) t v, Tryz.f11.params[j]? = some t → args[j]? = some v → Value.okWide Tryz.prog W .any base t v := hval0
  have hsz : (DataW.weightsEach Tryz.prog (Tryz.f11.params.toList ++ Rows.restArchivesSpec.plain.varTypes Tryz.prog) (ds ++ gs)).all (· ≤ reachBytes) = true := hsz0
  have hW' := hW
  obtain ⟨p, q, hA0, hV, rfl, _hfz, _hnd⟩ := hW
  have hA : DataW.TrodAll enc Tryz.prog W 0 (fun _ => true) true Tryz.f11.params.toList args.toList ds p := hA0
  rw [Tryz.params11] at hA hval hsz
  obtain ⟨v0, vs0, d0, ds0, p0, q0, hargs, rfl, rfl, h0, r0⟩ := trodAll_cons hA
  obtain ⟨v1, vs1, d1, ds1, p1, q1, rfl, rfl, rfl, h1, r1⟩ := trodAll_cons r0
  obtain ⟨v2, vs2, d2, ds2, p2, q2, rfl, rfl, rfl, h2, r2⟩ := trodAll_cons r1
  obtain ⟨v3, vs3, d3, ds3, p3, q3, rfl, rfl, rfl, h3, r3⟩ := trodAll_cons r2
  obtain ⟨rfl, rfl, rfl⟩ := trodAll_nil r3
  obtain rfl : args = #[v0, v1, v2, v3] := by cases args; simp_all
  obtain ⟨rfl, rfl⟩ := trodVars_none hV
  have h0k := h0
  have hlt0 : ∀ x ∈ p0, x.block < W.heap.size := fun x hx => hW'.lt x (by simp [hx])
  have hwt0 : ∀ n ∈ d0.weights Tryz.prog 33, n ≤ reachBytes := fun n hn => of_decide_eq_true (List.all_eq_true.1 hsz n (DataW.weights_mem_each (j := 0) rfl rfl n hn))
  obtain ⟨A0, n0, cap0, B0, m0, dap0, l0, rfl, at0, sz0, nb0, mb0, nc0⟩ := open_arc2 (hval 0 33 v0 rfl rfl) h0 hlt0 hwt0
  obtain ⟨a1, rfl, rfl, rfl, w1⟩ := open_string Tryz.underlying9 (hval 1 9 v1 rfl rfl) h1
  have l1 := sized_string hsz (j := 1) (t := 9) rfl rfl
  obtain ⟨a2, rfl, rfl, rfl, w2⟩ := open_string Tryz.underlying9 (hval 2 9 v2 rfl rfl) h2
  have l2 := sized_string hsz (j := 2) (t := 9) rfl rfl
  obtain ⟨a3, rfl, rfl, rfl, w3⟩ := open_int Tryz.underlying3 (hval 3 3 v3 rfl rfl) h3
  clear hA0 hval0 hsz0 hsz
  simp only [List.append_nil] at hW'
  have z1 : a1.data.toList.length ≤ 140737488351232 := l1
  have z2 : a2.data.toList.length ≤ 140737488351232 := l2
  refine (restArchives_any A0 n0 cap0 B0 m0 dap0 l0 a1.data.toList a2.data.toList a3 W at0 sz0 (Nat.le_trans nb0 (by decide)) (Nat.le_trans mb0 (by decide)) (Nat.le_trans z1 (by decide)) (Nat.le_trans z2 (by decide)) (maxLen_of_shape hsh)).mono fun e W' ⟨he, hg⟩ => ?_
  subst he
  exact ⟨_, rfl, post_of_below (pa := p0) (pv := []) hW' (fun _ _ _ => (trodAll_cons_mk (shut_bool Tryz.underlying4 _) trodAll_mk0)) (fun sp hsp => trodAll_pa (trodAll_cons_mk (Go.WideElems.Trod_stays Tryz.laidOut (by kernel_rfl) (of_decide_eq_true (by kernel_rfl)) h0k (fun x hx => hg.same (hlt0 x hx)) (fun x hx => hsp x (by simp [hx]))) (trodAll_cons_mk (shut_string Tryz.underlying9 w1) (trodAll_cons_mk (shut_string Tryz.underlying9 w2) (trodAll_cons_mk (shut_int Tryz.underlying3 w3) trodAll_mk0)))) (by simp)) (fun _ _ => rfl) (by simp)
    hg (ok_one (by kernel_rfl) rfl (okWide_bool_mk Tryz.underlying4 _))⟩

theorem factA : (Rows.restArchivesRow.inPlace == Tryz.prog.inPlace 11) = true := by kernel_rfl
theorem factB : (Rows.restArchivesRow.unfollowed == Tryz.prog.unfollowed 11) = true := by kernel_rfl
theorem factC : (Rows.restArchivesRow.recurses == Tryz.prog.recurses 11) = true := by kernel_rfl
theorem factD : (Rows.restArchivesRow.named == Tryz.prog.varsNamed 11) = true := by kernel_rfl
theorem facts : joinedFacts Tryz.prog 11 Tryz.f11 Rows.restArchivesSpec Rows.restArchivesRow = true := by
  unfold joinedFacts
  rw [factA, factB, factC, factD]
  kernel_rfl
theorem wraps : Tryz.f11.isWrapper Tryz.prog Rows.restArchivesRow.wrapper Rows.restArchivesRow.mainSum := by unfold Func.isWrapper; first | (rw [if_pos (by decide +kernel)]; kernel_rfl) | (rw [if_neg (by decide +kernel)]; exact ⟨rfl, rfl⟩)
theorem called : Tryz.prog.funcNamed Rows.restArchivesRow.func = some 11 := by kernel_rfl
theorem instanced : Tryz.f11.isInstance Tryz.prog Rows.restArchivesRow.origin Rows.restArchivesRow.targs := of_decide_eq_true (by kernel_rfl)

theorem proved : Rows.RestArchivesSaid :=
  OpenClaim.holds_of_wide 11 Tryz.f11 rfl rfl rfl rfl rfl rfl rfl ⟨rfl, rfl, rfl, rfl, rfl⟩ rfl rfl rfl rfl rfl called Tryz.func11 facts
    instanced wraps
    (fun os started H enc _ => lifted os started H enc)
end Go.Proofs.YtjpgoeimclipjaaGreat.restArchives
