/- LogStores: for every input the law returns true, and the input reads as it did. No condition. -/
import Derived.Test.YtjpgoeimclipjaaGreatLgLogStores1
namespace Go.Proofs.YtjpgoeimclipjaaGreat.logStores
open Go.ChangeShapes Go.WideShapes Go.ChangeAt Go.RowKit
open Go.ChangeMaps (open_string shut_string)

set_option maxRecDepth 100000 in
theorem lifted (os : Os) (started : os.Started) (H : Type) (enc : TypeId × Value → H) :
    ReturnsInHanded {} Tryz.checked os 14 .any (Rows.logStoresSpec.pre6 enc Tryz.prog Tryz.f14 Rows.logStoresRow.domain false) (Rows.logStoresSpec.post enc Tryz.prog Tryz.f14 false true false false) := by
  refine returnsInHanded_of_change_shaped (C := Tryz.checked) Tryz.own started (by kernel_rfl) Tryz.func14
    (ChangeSpec.witness6 (enc := enc) (C := Tryz.checked) false ⟨#[], #[.string ByteArray.empty, .agg #[.int .i64 0, .int .i64 0, .string ByteArray.empty, .string ByteArray.empty]], []⟩ 8 (by kernel_rfl) (by kernel_rfl) (by kernel_rfl) (by kernel_rfl)) ?_
  intro W base args ds gs before hval0 hW _hcnd hsz0 hsh _
  have hval : ∀ (j : Nat) t v, Tryz.f14.params[j]? = some t → args[j]? = some v → Value.okWide Tryz.prog W .any base t v := hval0
  have hsz : (DataW.weightsEach Tryz.prog (Tryz.f14.params.toList ++ Rows.logStoresSpec.plain.varTypes Tryz.prog) (ds ++ gs)).all (· ≤ reachBytes) = true := hsz0
  have hW' := hW
  obtain ⟨p, q, hA0, hV, rfl, _hfz, _hnd⟩ := hW
  have hA : DataW.TrodAll enc Tryz.prog W 0 (fun _ => true) true Tryz.f14.params.toList args.toList ds p := hA0
  rw [Tryz.params14] at hA hval hsz
  obtain ⟨v0, vs0, d0, ds0, p0, q0, hargs, rfl, rfl, h0, r0⟩ := trodAll_cons hA
  obtain ⟨v1, vs1, d1, ds1, p1, q1, rfl, rfl, rfl, h1, r1⟩ := trodAll_cons r0
  obtain ⟨rfl, rfl, rfl⟩ := trodAll_nil r1
  obtain rfl : args = #[v0, v1] := by cases args; simp_all
  obtain ⟨rfl, rfl⟩ := trodVars_none hV
  obtain ⟨a0, rfl, rfl, rfl, w0⟩ := open_string Tryz.underlying9 (hval 0 9 v0 rfl rfl) h0
  have l0 := sized_string hsz (j := 0) (t := 9) rfl rfl
  have h1k := h1
  have hlt1 : ∀ x ∈ p1, x.block < W.heap.size := fun x hx => hW'.lt x (by simp [hx])
  have hwt1 : ∀ n ∈ d1.weights Tryz.prog 29, n ≤ reachBytes := fun n hn => of_decide_eq_true (List.all_eq_true.1 hsz n (DataW.weights_mem_each (j := 1) rfl rfl n hn))
  obtain ⟨x1, rfl, sz1⟩ := open_act (hval 1 29 v1 rfl rfl) h1 hwt1
  clear hA0 hval0 hsz0 hsz
  simp only [List.append_nil, List.nil_append] at hW'
  have z0 : a0.data.toList.length ≤ 140737488351232 := l0
  refine (logStores_any a0.data.toList x1 W (Nat.le_trans z0 (by decide)) sz1 (maxLen_of_shape hsh)).mono fun e W' ⟨he, hg⟩ => ?_
  subst he
  exact ⟨_, rfl, post_of_below (pa := p1) (pv := []) hW' (fun _ _ _ => (trodAll_cons_mk (shut_bool Tryz.underlying4 _) trodAll_mk0)) (fun sp hsp => trodAll_pa (trodAll_cons_mk (shut_string Tryz.underlying9 w0) (trodAll_cons_mk (Go.WideElems.Trod_stays Tryz.laidOut (by kernel_rfl) (of_decide_eq_true (by kernel_rfl)) h1k (fun x hx => hg.same (hlt1 x hx)) (fun x hx => hsp x (by simp [hx]))) trodAll_mk0)) (by simp)) (fun _ _ => rfl) (by simp)
    hg (ok_one (by kernel_rfl) rfl (okWide_bool_mk Tryz.underlying4 _))⟩

theorem factA : (Rows.logStoresRow.inPlace == Tryz.prog.inPlace 14) = true := by kernel_rfl
theorem factB : (Rows.logStoresRow.unfollowed == Tryz.prog.unfollowed 14) = true := by kernel_rfl
theorem factC : (Rows.logStoresRow.recurses == Tryz.prog.recurses 14) = true := by kernel_rfl
theorem factD : (Rows.logStoresRow.named == Tryz.prog.varsNamed 14) = true := by kernel_rfl
theorem facts : joinedFacts Tryz.prog 14 Tryz.f14 Rows.logStoresSpec Rows.logStoresRow = true := by
  unfold joinedFacts
  rw [factA, factB, factC, factD]
  kernel_rfl
theorem wraps : Tryz.f14.isWrapper Tryz.prog Rows.logStoresRow.wrapper Rows.logStoresRow.mainSum := by unfold Func.isWrapper; first | (rw [if_pos (by decide +kernel)]; kernel_rfl) | (rw [if_neg (by decide +kernel)]; exact ⟨rfl, rfl⟩)
theorem called : Tryz.prog.funcNamed Rows.logStoresRow.func = some 14 := by kernel_rfl
theorem instanced : Tryz.f14.isInstance Tryz.prog Rows.logStoresRow.origin Rows.logStoresRow.targs := of_decide_eq_true (by kernel_rfl)

theorem proved : Rows.LogStoresSaid :=
  OpenClaim.holds_of_wide 14 Tryz.f14 rfl rfl rfl rfl rfl rfl rfl ⟨rfl, rfl, rfl, rfl, rfl⟩ rfl rfl rfl rfl rfl called Tryz.func14 facts
    instanced wraps
    (fun os started H enc _ => lifted os started H enc)
end Go.Proofs.YtjpgoeimclipjaaGreat.logStores
