/- The walk of the reference's ParseOf. -/
import Derived.Test.YtgfkkjcnnecefaaToksOwn
import Derived.Test.YtgfkkjcnnecefaaCome
import Derived.Test.YtgfkkjcnnecefaaRefCheck
namespace Go.Proofs.Ytgfkkjcnnecefaa
open Go.RowKit Go.Lib Pl
attribute [local go_sem] ext_list app_list

/-- A value that reads as toks. -/
def ToksV (w' : World) (v : Value) (l : List Tok) : Prop := ∃ A n cap, v = .slice A n cap ∧ ToksAt w' w'.heap.size A n l

theorem parse_len_aux (w : Bytes) : ∀ (f p a : Nat), p ≤ w.length → (parseF w f p a).length ≤ 2 * (w.length - p) + 1
  | 0, p, a, hp => by rw [parseF]; unfold flush; split <;> simp
  | f + 1, p, a, hp => by
    rw [parseF]
    by_cases h : p < w.length
    · rw [if_pos h]
      by_cases h2 : (best w p).2 = 0
      · rw [if_pos h2]
        have := parse_len_aux w f (p + 1) a (by omega)
        omega
      · rw [if_neg h2]
        have hb := bestR_le w p hp p
        have he := best_eq w p
        have h3 : p + (best w p).2 ≤ w.length := by
          rw [he]
          by_cases h3 : (bestR w p p).2 < 3
          · rw [if_pos h3]; simp; omega
          · rw [if_neg h3]; exact hb.2.1
        have := parse_len_aux w f (p + (best w p).2) (p + (best w p).2) h3
        have hf : (flush w a p).length ≤ 1 := by unfold flush; split <;> simp
        simp; omega
    · rw [if_neg h]; unfold flush; split <;> simp

theorem slice_same (l : Bytes) (a : Nat) : slice l a a = [] := by
  unfold slice; exact List.drop_of_length_le (by simp; omega)
theorem slice_snoc {l : Bytes} {a p : Nat} (ha : a ≤ p) (hp : p < l.length) : slice l a (p + 1) = slice l a p ++ slice l p (p + 1) := by
  have h : l[p]? = some l[p] := List.getElem?_eq_getElem hp
  rw [slice_one h]
  unfold slice
  rw [List.take_add_one, h, List.drop_append_of_le_length (by simp; omega)]
  rfl

set_option maxHeartbeats 2000000 in
set_option maxRecDepth 100000 in
theorem parseOf_walk (dict text : Bytes) (w : World) (hd : dict.length ≤ 256) (ht : text.length ≤ 512) :
    Calls Try.prog 30 #[S dict, S text] w fun e w' => (∃ v, e = .returned v ∧ ToksV w' v (parse dict text)) ∧ Below w.heap.size w w' := by
  obtain ⟨l, hl⟩ : ∃ l, l = dict ++ text := ⟨_, rfl⟩
  have hll : l.length = dict.length + text.length := by rw [hl, List.length_append]
  have hlb : l.length ≤ 768 := by omega
  have hdl : dict.length ≤ l.length := by omega
  have hap := app_list dict text
  rw [← hl] at hap
  have hpe : parse dict text = parseF l (l.length - dict.length) dict.length dict.length := by
    unfold parse; rw [← hl, hll]; congr 1; omega
  have HPE := hide hpe
  have HLL := hide hll
  clear hl hll hpe
  go_enter Try.func30, Try.ntmps30
  go_wp2_with fail
  go_loopw [6, 7, 8] (fun v sv i wr => ∃ (p a n fu : Nat) (o : List Tok), p ≤ l.length ∧ a ≤ p ∧ l.length ≤ p + fu ∧ i = .int .i64 p ∧ sv = S (slice l a p) ∧ wr.ownsRow w.heap.size 80 3 v n (toksCells o) ∧ n ≤ 2 * p ∧
      o ++ parseF l fu p a = parse dict text ∧ Below w.heap.size w wr)
    (fun _ _ i _ => l.length - (intOf i).toNat)
  case atStart =>
    refine ⟨dict.length, dict.length, 0, l.length - dict.length, [], hdl, Nat.le_refl _, by omega, rfl, ?_, World.ownsRow_nil _ _ _ _, by omega, ?_, Below.refl _ _⟩
    · simp [slice]
    · rw [unhide HPE]; rfl
  case round =>
    obtain ⟨p, a, n, fu, o, hp, ha, hfu, rfl, rfl, hown, hn, hpa, hbel⟩ := hrel
    have HPA := hide hpa
    clear hpa
    by_cases hpl : p < l.length
    · have hbl := bestR_le l p hp p
      go_wp2_with fail
      obtain ⟨wo, hwo⟩ : ∃ wo : World, wo = wr := ⟨_, rfl⟩
      go_loopw [9, 10, 11] (fun bv fv i w2 => ∃ f : Nat, f ≤ p ∧ i = .int .i64 (f + 1 : Nat) ∧ bv = .int .i64 (bestR l p f).2 ∧ fv = .int .i64 (bestR l p f).1 ∧ Below wr.heap.size wr w2)
        (fun _ _ i _ => p + 1 - (intOf i).toNat)
      case atStart => exact ⟨0, by omega, rfl, rfl, rfl, Below.refl _ _⟩
      case round =>
        obtain ⟨f, hf, rfl, rfl, rfl, hb2⟩ := hrel
        obtain ⟨x, hx⟩ : ∃ x, x = (bestR l p f).1 := ⟨_, rfl⟩
        obtain ⟨y, hy⟩ : ∃ y, y = (bestR l p f).2 := ⟨_, rfl⟩
        have hbf := bestR_le l p hp f
        rw [← hx, ← hy] at hbf ⊢
        obtain ⟨hbf1, hbf2, hbf3⟩ := hbf
        by_cases hfp : f < p
        · obtain ⟨c, hc⟩ : ∃ c, c = come l p (f + 1) := ⟨_, rfl⟩
          have hcl := (come_le l p (f + 1) hp).1
          rw [← hc] at hcl
          have c1 := fun (W : World) => come_any l p (f + 1) W (by omega) hp (by omega)
          rw [← hc, Int.natCast_add] at c1
          have C1 := hide c1
          have HX := hide hx
          have HY := hide hy
          have HC := hide hc
          clear c1 hx hy hc hwo
          by_cases hyc : y < c
          · go_wp2_with (go_at_call 57; refine (unhide C1 _).mono ?_; rintro e w3 ⟨rfl, hb3⟩)
            go_roundw
            case rel =>
              refine ⟨f + 1, by omega, by go_num, ?_, ?_, hb2.trans (hb3.mono hb2.size)⟩
              · rw [bestR, ← unhide HY, ← unhide HC, if_pos hyc]
              · rw [bestR, ← unhide HY, ← unhide HC, if_pos hyc]; go_num
            case measure => simp [intOf]; omega
          · go_wp2_with (go_at_call 57; refine (unhide C1 _).mono ?_; rintro e w3 ⟨rfl, hb3⟩)
            go_roundw
            case rel =>
              refine ⟨f + 1, by omega, by go_num, ?_, ?_, hb2.trans (hb3.mono hb2.size)⟩
              · rw [bestR, ← unhide HY, ← unhide HC, if_neg hyc, ← unhide HY]
              · rw [bestR, ← unhide HY, ← unhide HC, if_neg hyc, ← unhide HX]
            case measure => simp [intOf]; omega
        · have hfp2 : f = p := by omega
          subst hfp2
          have hbest := best_eq l f
          have hown2 := own_below hown hb2
          obtain ⟨A0, cap0, rfl⟩ := own_slice hown2
          have hsz2 := hb2.size
          have hszw := hbel.size
          have hbel2 := hbel.trans (hb2.mono hszw)
          obtain ⟨fu', rfl⟩ : ∃ fu', fu = fu' + 1 := ⟨fu - 1, by omega⟩
          have hpa := unhide HPA
          rw [parseF, if_pos hpl] at hpa
          by_cases hy3 : y < 3
          · rw [← hy, if_pos hy3] at hbest
            rw [hbest] at hpa
            simp only [if_true] at hpa
            have hsl := slice_snoc (l := l) (a := a) (p := f) ha hpl
            have HS := hide hsl
            have hl1 := slice_len l a f
            have hl2 := slice_len l f (f + 1)
            have hl3 : (slice l a f).length ≤ 768 := by omega
            have hl4 : (slice l f (f + 1)).length ≤ 768 := by omega
            have HPA2 := hide hpa
            clear hx hy hbest hpa HPA hsl hl1 hl2 hwo
            go_wp2_with fail
            go_roundw
            case rel =>
              refine ⟨f + 1, a, n, fu', o, by omega, by omega, by omega, by go_num, ?_, hown2, by omega, unhide HPA2, hbel2⟩
              rw [unhide HS]
            case measure => simp [intOf]; omega
          · rw [← hy, if_neg hy3] at hbest
            have e1 : (best l f).1 = x := by rw [hbest, hx]
            have e2 : (best l f).2 = y := by rw [hbest, hy]
            rw [e1, e2, if_neg (by omega)] at hpa
            have HPA2 := hide hpa
            clear hx hy hbest hpa HPA e1 e2 hwo
            by_cases haf : a < f
            · have hne : (slice l a f).isEmpty = false := by
                rw [List.isEmpty_eq_false_iff]; intro h
                have := slice_len l a f; rw [h] at this; simp at this; omega
              have hne2 : (slice l a f == []) = false := by
                rw [beq_eq_false_iff_ne]; intro h; rw [h] at hne; simp at hne
              have HN := hide hne
              go_wp2_with (first | (at_builtin; refine wpList_push_tok rfl (.tmp 49) (.tmp 52) rfl w.heap.size _ n o rfl hown2 (slice l a f) 0 0 rfl (by omega) (by omega) ?_; intro A3 cap3 w3 hown3 hb3 hg3; have hsz3 := hb3.size) | (at_builtin; refine wpList_push_tok rfl (.tmp 54) (.tmp 58) rfl w.heap.size _ (n + 1) (o ++ [⟨slice l a f, 0, 0⟩]) rfl hown3 [] x y rfl (by omega) (by omega) ?_; intro A4 cap4 w4 hown4 hb4 hg4))
              go_roundw
              case rel =>
                refine ⟨f + y, f + y, n + 1 + 1, fu', o ++ [⟨slice l a f, 0, 0⟩] ++ [⟨[], x, y⟩], by omega, by omega, by omega, by go_num, ?_, hown4, by omega, ?_, (hbel2.trans hb3).trans hb4⟩
                · rw [slice_same]
                · rw [← unhide HPA2]
                  unfold flush litTok copyTok
                  rw [if_pos haf]
                  simp
              case measure => simp [intOf]; omega
            · have haf2 : a = f := by omega
              subst haf2
              have hsa := slice_same l a
              go_wp2_with (first | (at_builtin; refine wpList_push_tok rfl (.tmp 54) (.tmp 58) rfl w.heap.size _ n o rfl hown2 [] x y rfl (by omega) (by omega) ?_; intro A3 cap3 w3 hown3 hb3 hg3; have hsz3 := hb3.size))
              go_roundw
              case rel =>
                refine ⟨a + y, a + y, n + 1, fu', o ++ [⟨[], x, y⟩], by omega, by omega, by omega, by go_num, ?_, hown3, by omega, ?_, hbel2.trans hb3⟩
                · rw [slice_same]
                · rw [← unhide HPA2]
                  unfold flush copyTok
                  rw [if_neg haf]
                  simp
              case measure => simp [intOf]; omega
    · have hpl2 : p = l.length := by omega
      obtain ⟨A0, cap0, rfl⟩ := own_slice hown
      have hszw := hbel.size
      have hpa := unhide HPA
      have hfl : parseF l fu p a = flush l a p := by
        cases fu with
        | zero => rw [parseF]
        | succ fu => rw [parseF, if_neg hpl]
      rw [hfl] at hpa
      have HPA2 := hide hpa
      clear hpa hfl HPA hpl2
      by_cases haf : a < p
      · have hne : (slice l a p).isEmpty = false := by
          rw [List.isEmpty_eq_false_iff]; intro h
          have := slice_len l a p; rw [h] at this; simp at this; omega
        have hne2 : (slice l a p == []) = false := by
          rw [beq_eq_false_iff_ne]; intro h; rw [h] at hne; simp at hne
        go_wp2_with (first | (at_builtin; refine wpList_push_tok rfl (.tmp 65) (.tmp 68) rfl w.heap.size _ n o rfl hown (slice l a p) 0 0 rfl (by omega) (by omega) ?_; intro A3 cap3 w3 hown3 hb3 hg3; have hsz3 := hb3.size))
        go_ret
        obtain ⟨A9, cap9, hv9, ht9, _⟩ := toksAt_of_own hown3
        refine ⟨⟨_, rfl, A9, n + 1, cap9, hv9, ?_⟩, hbel.trans hb3⟩
        rw [← unhide HPA2]
        unfold flush litTok
        rw [if_pos haf]
        exact ht9
      · have haf2 : a = p := by omega
        subst haf2
        have hsa := slice_same l a
        go_wp2_with fail
        go_ret
        obtain ⟨A9, cap9, hv9, ht9, _⟩ := toksAt_of_own hown
        refine ⟨⟨_, rfl, A9, n, cap9, hv9, ?_⟩, hbel⟩
        rw [← unhide HPA2]
        unfold flush
        rw [if_neg haf, List.append_nil]
        exact ht9

end Go.Proofs.Ytgfkkjcnnecefaa
