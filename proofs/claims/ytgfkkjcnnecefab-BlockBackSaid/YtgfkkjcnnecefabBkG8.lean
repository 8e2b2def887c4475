/- BlockBack: for every input the law returns true, and the input reads as it did. No condition. -/
import Derived.Test.YtgfkkjcnnecefabBkG7

/- The walks of the program's unpack and Unpack. -/
namespace Go.Proofs.Ytgfkkjcnnecefab
open Go.RowKit Go.Lib Pl
attribute [local go_sem] ext_list app_list

theorem decoded_len {s x : Bytes} (h : decoded s = some x) : x.length ≤ 1024 := by
  unfold decoded at h
  split at h
  · cases h
  · unfold decodeO at h
    split at h
    · cases h
    · split at h
      · rename_i he
        obtain ⟨h1, _, _⟩ := code_write_read he
        cases h
        exact (writeE_parts h1).2.1
      · cases h

set_option maxHeartbeats 4000000 in
set_option maxRecDepth 100000 in
theorem unpack_any (dict b : Bytes) (w : World) (hd : dict.length ≤ 256) (hb : b.length ≤ 140737488355328) :
    Calls Try.prog 25 #[S dict, S b] w fun e w' => TextRes (unpackO dict b) e ∧ Below w.heap.size w w' := by
  cases b with
  | nil =>
    go_enter Try.func25, Try.ntmps25
    go_wp2_with fail
    go_ret2
    exact ⟨.inr ⟨1, rfl, by decide, rfl⟩, Below.refl _ _⟩
  | cons k s =>
    have hsl : s.length ≤ 4611686018427387904 := by rw [List.length_cons] at hb; omega
    have hsl2 : s.length ≤ 140737488355328 := by rw [List.length_cons] at hb; omega
    have n1 : ((k :: s) == []) = false := rfl
    have n2 : slice (k :: s) 1 (k :: s).length = s := by rw [slice_end]; rfl
    have n2b : slice (k :: s) 1 (s.length + 1) = s := n2
    have n3 : (0 : Nat) < (k :: s).length := by simp
    have n4 : (⟨(k :: s).toArray⟩ : ByteArray)[0]'n3 = k := rfl
    have n5 : (1 : Nat) ≤ (k :: s).length := by simp
    have hk256 := k.toNat_lt
    have e0 : k = 0 ↔ k.toNat = 0 := ⟨fun e => by rw [e]; rfl, fun e => UInt8.toNat_inj.1 e⟩
    have e1 : k = 1 ↔ k.toNat = 1 := ⟨fun e => by rw [e]; rfl, fun e => UInt8.toNat_inj.1 e⟩
    have e2 : k = 2 ↔ k.toNat = 2 := ⟨fun e => by rw [e]; rfl, fun e => UInt8.toNat_inj.1 e⟩
    have hb0 := Below.refl w.heap.size w
    have HB0 := hide hb0
    by_cases h0 : k = 0
    · have z0 : (k.toNat : Int) = 0 := by have := e0.1 h0; omega
      by_cases h512 : s.length ≤ 512
      · have HO := hide (show unpackO dict (k :: s) = some s by rw [unpackO, if_pos h0, if_pos h512])
        clear e0 e1 e2 h0 hb0
        go_enter Try.func25, Try.ntmps25
        go_wp2_with fail
        go_ret2
        rw [unhide HO]
        exact ⟨.inl ⟨s, rfl, rfl⟩, unhide HB0⟩
      · have HO := hide (show unpackO dict (k :: s) = none by rw [unpackO, if_pos h0, if_neg h512])
        clear e0 e1 e2 h0 hb0
        go_enter Try.func25, Try.ntmps25
        go_wp2_with fail
        go_ret2
        rw [unhide HO]
        exact ⟨.inr ⟨1, rfl, by decide, rfl⟩, unhide HB0⟩
    · have f0 : ((k.toNat : Int) == 0) = false := by rw [beq_eq_false_iff_ne]; intro e; exact h0 (e0.2 (by omega))
      by_cases h1 : k = 1
      · have z1 : ((k.toNat : Int) == 1) = true := by rw [beq_iff_eq]; have := e1.1 h1; omega
        have hun : unpackO dict (k :: s) = playO dict s := by rw [unpackO, if_neg h0, if_pos h1]
        clear e0 e1 e2 h0 h1 hb0
        go_enter Try.func25, Try.ntmps25
        cases hrd : read dict s with
        | none =>
          have c2 := fun (W : World) => read_walk dict s W hd hsl
          rw [hrd] at c2
          have c2 := hide c2
          have HO := hide (show unpackO dict (k :: s) = none by rw [hun]; unfold playO; rw [hrd]; rfl)
          clear hrd
          go_wp2_with fail
          refine (unhide c2 _).mono ?_
          rintro e w2 ⟨⟨v, err, rfl, hv⟩, hb2⟩
          have H2 := hide ((unhide HB0).trans (hb2.mono (unhide HB0).size))
          clear hb2
          rcases hv with ⟨rfl, rfl, _⟩ | ⟨_, l, hl, _⟩
          · go_wp2_with fail
            go_ret2
            rw [unhide HO]
            exact ⟨.inr ⟨1, rfl, by decide, rfl⟩, unhide H2⟩
          · cases hl
        | some l =>
          have c2 := fun (W : World) => read_walk dict s W hd hsl
          rw [hrd] at c2
          have c2 := hide c2
          have hpl : (play dict l).2 = 0 := by
            have hw := write_read hd hrd
            by_cases e : (play dict l).2 = 0
            · exact e
            · unfold write at hw
              rw [if_pos e] at hw
              exact absurd (Prod.ext_iff.1 hw).2 e
          have hln := play_room hpl
          have c3 := fun (W : World) (A : Option Addr) (n cap : Nat) (h : ToksAt W W.heap.size A n l) => play_any dict A n cap l W h (by omega) (by have := h.1; omega)
          rw [hpl] at c3
          obtain ⟨t, ht⟩ : ∃ t, t = (play dict l).1 := ⟨_, rfl⟩
          rw [← ht] at c3
          have c3 := hide c3
          have HO := hide (show unpackO dict (k :: s) = some t by rw [hun]; unfold playO; rw [hrd, ht]; rfl)
          clear hrd hpl hln ht
          go_wp2_with fail
          refine (unhide c2 _).mono ?_
          rintro e w2 ⟨⟨v, err, rfl, hv⟩, hb2⟩
          have H2 := hide ((unhide HB0).trans (hb2.mono (unhide HB0).size))
          clear hb2
          rcases hv with ⟨_, _, hl⟩ | ⟨rfl, l', hl, A, n, cap, rfl, hat⟩
          · cases hl
          · cases hl
            have HAT := hide hat
            clear hat
            go_wp2_with fail
            refine (unhide c3 _ _ _ _ (unhide HAT)).mono ?_
            rintro e w3 ⟨rfl, hb3⟩
            have H3 := hide ((unhide H2).trans (hb3.mono (unhide H2).size))
            clear hb3
            go_wp2_with fail
            go_ret2
            rw [unhide HO]
            exact ⟨.inl ⟨t, rfl, rfl⟩, unhide H3⟩
      · have f1 : ((k.toNat : Int) == 1) = false := by rw [beq_eq_false_iff_ne]; intro e; exact h1 (e1.2 (by omega))
        by_cases h2 : k = 2
        · have z2 : ((k.toNat : Int) == 2) = true := by rw [beq_iff_eq]; have := e2.1 h2; omega
          have hun : unpackO dict (k :: s) = (decoded s).bind (playO dict) := by rw [unpackO, if_neg h0, if_neg h1, if_pos h2]
          have c1 := fun (W : World) => decoded_any s W hsl2
          clear e0 e1 e2 h0 h1 h2 hb0
          go_enter Try.func25, Try.ntmps25
          cases hdx : decoded s with
          | none =>
            rw [hdx] at c1
            have c1 := hide c1
            have HO := hide (show unpackO dict (k :: s) = none by rw [hun, hdx]; rfl)
            clear hdx hun
            go_wp2_with fail
            refine (unhide c1 _).mono ?_
            rintro e w1 ⟨hr, hb1⟩
            have H1 := hide hb1
            clear hb1
            rcases hr with ⟨t, ht, _⟩ | ⟨q, _, hq, rfl⟩
            · cases ht
            · have d1 : ((q : Int) != 0) = true := by rw [bne_iff_ne]; omega
              have d2 : ((q : Int) == 0) = false := by rw [beq_eq_false_iff_ne]; omega
              have HQ := hide hq
              clear hq
              go_wp2_with fail
              go_ret2
              rw [unhide HO]
              exact ⟨.inr ⟨q, rfl, unhide HQ, rfl⟩, unhide H1⟩
          | some x =>
            rw [hdx] at c1
            have c1 := hide c1
            have hxl : x.length ≤ 4611686018427387904 := by have := decoded_len hdx; omega
            go_wp2_with fail
            refine (unhide c1 _).mono ?_
            rintro e w1 ⟨hr, hb1⟩
            have H1 := hide hb1
            clear hb1
            rcases hr with ⟨t, ht, rfl⟩ | ⟨q, hq, _, _⟩
            · cases ht
              cases hrd : read dict x with
              | none =>
                have c2 := fun (W : World) => read_walk dict x W hd hxl
                rw [hrd] at c2
                have c2 := hide c2
                have HO := hide (show unpackO dict (k :: s) = none by rw [hun, hdx]; simp only [Option.bind_some]; unfold playO; rw [hrd]; rfl)
                clear hrd
                go_wp2_with fail
                refine (unhide c2 _).mono ?_
                rintro e w2 ⟨⟨v, err, rfl, hv⟩, hb2⟩
                have H2 := hide ((unhide H1).trans (hb2.mono (unhide H1).size))
                clear hb2
                rcases hv with ⟨rfl, rfl, _⟩ | ⟨_, l, hl, _⟩
                · go_wp2_with fail
                  go_ret2
                  rw [unhide HO]
                  exact ⟨.inr ⟨1, rfl, by decide, rfl⟩, unhide H2⟩
                · cases hl
              | some l =>
                have c2 := fun (W : World) => read_walk dict x W hd hxl
                rw [hrd] at c2
                have c2 := hide c2
                have hpl : (play dict l).2 = 0 := by
                  have hw := write_read hd hrd
                  by_cases e : (play dict l).2 = 0
                  · exact e
                  · unfold write at hw
                    rw [if_pos e] at hw
                    exact absurd (Prod.ext_iff.1 hw).2 e
                have hln := play_room hpl
                have c3 := fun (W : World) (A : Option Addr) (n cap : Nat) (h : ToksAt W W.heap.size A n l) => play_any dict A n cap l W h (by omega) (by have := h.1; omega)
                rw [hpl] at c3
                obtain ⟨t, ht⟩ : ∃ t, t = (play dict l).1 := ⟨_, rfl⟩
                rw [← ht] at c3
                have c3 := hide c3
                have HO := hide (show unpackO dict (k :: s) = some t by rw [hun, hdx]; simp only [Option.bind_some]; unfold playO; rw [hrd, ht]; rfl)
                clear hrd hpl hln ht
                go_wp2_with fail
                refine (unhide c2 _).mono ?_
                rintro e w2 ⟨⟨v, err, rfl, hv⟩, hb2⟩
                have H2 := hide ((unhide H1).trans (hb2.mono (unhide H1).size))
                clear hb2
                rcases hv with ⟨_, _, hl⟩ | ⟨rfl, l', hl, A, n, cap, rfl, hat⟩
                · cases hl
                · cases hl
                  have HAT := hide hat
                  clear hat
                  go_wp2_with fail
                  refine (unhide c3 _ _ _ _ (unhide HAT)).mono ?_
                  rintro e w3 ⟨rfl, hb3⟩
                  have H3 := hide ((unhide H2).trans (hb3.mono (unhide H2).size))
                  clear hb3
                  go_wp2_with fail
                  go_ret2
                  rw [unhide HO]
                  exact ⟨.inl ⟨t, rfl, rfl⟩, unhide H3⟩
            · cases hq
        · have f2 : ((k.toNat : Int) == 2) = false := by rw [beq_eq_false_iff_ne]; intro e; exact h2 (e2.2 (by omega))
          have HO := hide (show unpackO dict (k :: s) = none by rw [unpackO, if_neg h0, if_neg h1, if_neg h2])
          clear e0 e1 e2 h0 h1 h2 hb0
          go_enter Try.func25, Try.ntmps25
          go_wp2_with fail
          go_ret2
          rw [unhide HO]
          exact ⟨.inr ⟨1, rfl, by decide, rfl⟩, unhide HB0⟩

/-- Unpack: the text, and the error -/
def unpackE (dict b : Bytes) : Nat := if 256 < dict.length then 2 else if (unpackO dict b).isSome = true then 0 else 1
def unpackT (dict b : Bytes) : Bytes := if 256 < dict.length then [] else (unpackO dict b).getD []
set_option maxHeartbeats 1000000 in
set_option maxRecDepth 100000 in
theorem blockUnpack_any (dict b : Bytes) (w : World) (hd2 : dict.length ≤ 9223372036854775807) (hb : b.length ≤ 140737488355328) :
    Calls Try.prog 14 #[S dict, S b] w fun e w' => e = .returned (.tuple #[S (unpackT dict b), I (unpackE dict b)]) ∧ Below w.heap.size w w' := by
  by_cases hd : dict.length ≤ 256
  · have e1 : unpackE dict b = if (unpackO dict b).isSome = true then 0 else 1 := by unfold unpackE; rw [if_neg (by omega)]
    have e2 : unpackT dict b = (unpackO dict b).getD [] := by unfold unpackT; rw [if_neg (by omega)]
    rw [e1, e2]
    have c1 := fun (W : World) => unpack_any dict b W hd hb
    obtain ⟨o, ho⟩ : ∃ o, o = unpackO dict b := ⟨_, rfl⟩
    rw [← ho] at c1 ⊢
    have c1 := hide c1
    clear ho e1 e2
    go_enter Try.func14, Try.ntmps14
    go_wp2_with fail
    refine (unhide c1 _).mono ?_
    rintro e w1 ⟨hr, hb1⟩
    rcases hr with ⟨t, rfl, rfl⟩ | ⟨q, rfl, hq, rfl⟩
    · go_wp2_with fail
      go_ret2
      exact ⟨rfl, hb1⟩
    · have d1 : ((q : Int) != 0) = true := by rw [bne_iff_ne]; omega
      have d2 : ((q : Int) == 0) = false := by rw [beq_eq_false_iff_ne]; omega
      clear hq
      go_wp2_with fail
      go_ret2
      exact ⟨rfl, hb1⟩
  · have e1 : unpackE dict b = 2 := by unfold unpackE; rw [if_pos (by omega)]
    have e2 : unpackT dict b = [] := by unfold unpackT; rw [if_pos (by omega)]
    rw [e1, e2]
    have hd3 : (256 : Int) < (dict.length : Int) := by omega
    clear e1 e2
    go_enter Try.func14, Try.ntmps14
    go_wp2_with fail
    go_ret2
    exact ⟨rfl, Below.refl _ _⟩

end Go.Proofs.Ytgfkkjcnnecefab

/- The law's blockBegun. -/
namespace Go.Proofs.Ytgfkkjcnnecefab
open Go.RowKit Go.Lib Pl
attribute [local go_sem] ext_list app_list

def helB : Bytes := [104, 101, 108, 108, 111, 32]
def hel4 : Bytes := [104, 101, 108, 108, 111, 32, 104, 101, 108, 108, 111, 32, 104, 101, 108, 108, 111, 32, 104, 101, 108, 108, 111]
theorem bb_parse : parse helB hel4 = [⟨[], 6, 23⟩] := by decide +kernel
theorem bb_toks : toksB [⟨[], 6, 23⟩] = [47, 6] := by decide +kernel
theorem bb_third : (third [47, 6]).length = 11 := by decide +kernel
theorem bb_pack : pack helB hel4 = [1, 47, 6] := by
  unfold pack
  rw [bb_parse, bb_toks]
  have h1 : pack1 hel4 [47, 6] = [1, 47, 6] := by decide +kernel
  unfold pack2
  rw [h1, bb_third]
  rfl
theorem bb_parse2 : parse [] [97, 98] = [⟨[97, 98], 0, 0⟩] := by decide +kernel
theorem bb_toks2 : toksB [⟨[97, 98], 0, 0⟩] = [4, 97, 98] := by decide +kernel
theorem bb_third2 : (third [4, 97, 98]).length = 12 := by decide +kernel
theorem bb_pack2 : pack [] [97, 98] = [0, 97, 98] := by
  unfold pack
  rw [bb_parse2, bb_toks2]
  have h1 : pack1 [97, 98] [4, 97, 98] = [0, 97, 98] := by decide +kernel
  unfold pack2
  rw [h1, bb_third2]
  rfl
theorem bb_unpack : unpackO helB [1, 47, 6] = some hel4 := by
  rw [← bb_pack]
  exact unpack_pack (by decide) (by decide)
theorem bb_unpack2 : unpackO [] [3] = none := by decide +kernel

set_option maxHeartbeats 2000000 in
set_option maxRecDepth 100000 in
theorem blockBegun_any (w : World) : Calls Try.prog 13 #[] w fun e w' => e = .returned (.bool true) ∧ Below w.heap.size w w' := by
  have c1 := fun (W : World) => blockPack_any helB hel4 W
  rw [show packT helB hel4 = [1, 47, 6] from bb_pack, show packE helB hel4 = 0 from rfl] at c1
  have c2 := fun (W : World) => blockUnpack_any helB [1, 47, 6] W (by decide) (by decide)
  rw [show unpackT helB [1, 47, 6] = hel4 by (unfold unpackT; rw [bb_unpack]; rfl), show unpackE helB [1, 47, 6] = 0 by (unfold unpackE; rw [bb_unpack]; rfl)] at c2
  have c3 := fun (W : World) => blockPack_any [] [97, 98] W
  rw [show packT [] [97, 98] = [0, 97, 98] from bb_pack2, show packE [] [97, 98] = 0 from rfl] at c3
  have c4 := fun (W : World) => blockUnpack_any [] [3] W (by decide) (by decide)
  rw [show unpackT [] [3] = [] by (unfold unpackT; rw [bb_unpack2]; rfl), show unpackE [] [3] = 1 by (unfold unpackE; rw [bb_unpack2]; rfl)] at c4
  have c1 := hide c1
  have c2 := hide c2
  have c3 := hide c3
  have c4 := hide c4
  go_enter Try.func13, Try.ntmps13
  go_wp2_with fail
  refine (unhide c1 _).mono ?_
  rintro e w1 ⟨rfl, hb1⟩
  have H1 := hide hb1
  clear hb1
  go_wp2_with fail
  refine (unhide c2 _).mono ?_
  rintro e w2 ⟨rfl, hb2⟩
  have H2 := hide ((unhide H1).trans (hb2.mono (unhide H1).size))
  clear hb2
  go_wp2_with fail
  refine (unhide c3 _).mono ?_
  rintro e w3 ⟨rfl, hb3⟩
  have H3 := hide ((unhide H2).trans (hb3.mono (unhide H2).size))
  clear hb3
  go_wp2_with fail
  refine (unhide c4 _).mono ?_
  rintro e w4 ⟨rfl, hb4⟩
  have H4 := hide ((unhide H3).trans (hb4.mono (unhide H3).size))
  clear hb4
  go_wp2_with fail
  go_ret
  exact ⟨rfl, unhide H4⟩

end Go.Proofs.Ytgfkkjcnnecefab

/- The law BlockBack: true for every input. -/
namespace Go.Proofs.Ytgfkkjcnnecefab
open Go.RowKit Go.Lib Pl
attribute [local go_sem] ext_list app_list

set_option maxHeartbeats 2000000 in
set_option maxRecDepth 100000 in
theorem blockBack_any (dict text : Bytes) (w : World) (hd2 : dict.length ≤ 9223372036854775807) :
    Calls Try.prog 5 #[S dict, S text] w fun e w' => e = .returned (.bool true) ∧ Below w.heap.size w w' := by
  have c1 := fun (W : World) => blockPack_any dict text W
  have c5 := hide (fun (W : World) => blockBegun_any W)
  by_cases hm : 256 < dict.length ∨ 512 < text.length
  · have e1 : packE dict text = 2 := if_pos hm
    have e2 : packT dict text = [] := if_pos hm
    rw [e1, e2] at c1
    have c1 := hide c1
    clear e1 e2 hm
    go_enter Try.func5, Try.ntmps5
    go_wp2_with fail
    refine (unhide c1 _).mono ?_
    rintro e w1 ⟨rfl, hb1⟩
    have H1 := hide hb1
    clear hb1
    go_wp2_with fail
    refine (unhide c5 _).mono ?_
    rintro e w2 ⟨rfl, hb2⟩
    have H2 := hide ((unhide H1).trans (hb2.mono (unhide H1).size))
    clear hb2
    go_wp2_with fail
    go_ret
    exact ⟨rfl, unhide H2⟩
  · have e1 : packE dict text = 0 := if_neg hm
    have e2 : packT dict text = pack dict text := if_neg hm
    have hd : dict.length ≤ 256 := by omega
    have ht : text.length ≤ 512 := by omega
    rw [e1, e2] at c1
    have hu := unpack_pack hd ht
    have hl := pack_len dict text
    obtain ⟨b, hb⟩ : ∃ b, b = pack dict text := ⟨_, rfl⟩
    rw [← hb] at c1 hu hl
    have c2 := fun (W : World) => blockUnpack_any dict b W (by omega) (by omega)
    rw [show unpackT dict b = text by (unfold unpackT; rw [hu, if_neg (by omega)]; rfl), show unpackE dict b = 0 by (unfold unpackE; rw [hu, if_neg (by omega)]; rfl)] at c2
    have c1 := hide c1
    have c2 := hide c2
    have d1 : (b.length : Int) ≤ (text.length : Int) + 1 := by omega
    have d2 : decide ((b.length : Int) ≤ (text.length : Int) + 1) = true := decide_eq_true d1
    have d3 : b.length ≤ text.length + 1 := hl
    clear e1 e2 hm hu hb hl
    go_enter Try.func5, Try.ntmps5
    go_wp2_with fail
    refine (unhide c1 _).mono ?_
    rintro e w1 ⟨rfl, hb1⟩
    have H1 := hide hb1
    clear hb1
    go_wp2_with fail
    refine (unhide c2 _).mono ?_
    rintro e w2 ⟨rfl, hb2⟩
    have H2 := hide ((unhide H1).trans (hb2.mono (unhide H1).size))
    clear hb2
    go_wp2_with fail
    refine (unhide c5 _).mono ?_
    rintro e w3 ⟨rfl, hb3⟩
    have H3 := hide ((unhide H2).trans (hb3.mono (unhide H2).size))
    clear hb3
    go_wp2_with fail
    go_ret
    exact ⟨rfl, unhide H3⟩

end Go.Proofs.Ytgfkkjcnnecefab

namespace Go.Proofs.Ytgfkkjcnnecefab.blockBack
open Go.ChangeShapes Go.WideShapes Go.ChangeAt Go.RowKit
open Go.ChangeMaps (open_string shut_string)

set_option maxRecDepth 100000 in
theorem lifted (os : Os) (started : os.Started) (H : Type) (enc : TypeId × Value → H) :
    ReturnsInHanded {} Try.checked os 5 .any (Rows.blockBackSpec.pre6 enc Try.prog Try.f5 Rows.blockBackRow.domain false) (Rows.blockBackSpec.post enc Try.prog Try.f5 false true false false) := by
  refine returnsInHanded_of_change_sized (C := Try.checked) Try.own started (by kernel_rfl) Try.func5
    (ChangeSpec.witness6 (enc := enc) (C := Try.checked) false ⟨#[], #[.string ByteArray.empty, .string ByteArray.empty], []⟩ 8 (by kernel_rfl) (by kernel_rfl) (by kernel_rfl) (by kernel_rfl)) ?_
  intro W base args ds gs before hval0 hW _hcnd hsz0 _
  have hval : ∀ (j : Nat) t v, Try.f5.params[j]? = some t → args[j]? = some v → Value.okWide Try.prog W .any base t v := hval0
  have hsz : (DataW.weightsEach Try.prog (Try.f5.params.toList ++ Rows.blockBackSpec.plain.varTypes Try.prog) (ds ++ gs)).all (· ≤ reachBytes) = true := hsz0
  have hW' := hW
  obtain ⟨p, q, hA0, hV, rfl, _hfz, _hnd⟩ := hW
  have hA : DataW.TrodAll enc Try.prog W 0 (fun _ => true) true Try.f5.params.toList args.toList ds p := hA0
  rw [Try.params5] at hA hval hsz
  obtain ⟨v0, vs0, d0, ds0, p0, q0, hargs, rfl, rfl, h0, r0⟩ := trodAll_cons hA
  obtain ⟨v1, vs1, d1, ds1, p1, q1, rfl, rfl, rfl, h1, r1⟩ := trodAll_cons r0
  obtain ⟨rfl, rfl, rfl⟩ := trodAll_nil r1
  obtain rfl : args = #[v0, v1] := by cases args; simp_all
  obtain ⟨rfl, rfl⟩ := trodVars_none hV
  obtain ⟨a0, rfl, rfl, rfl, w0⟩ := open_string Try.underlying9 (hval 0 9 v0 rfl rfl) h0
  have l0 := sized_string hsz (j := 0) (t := 9) rfl rfl
  obtain ⟨a1, rfl, rfl, rfl, w1⟩ := open_string Try.underlying9 (hval 1 9 v1 rfl rfl) h1
  have l1 := sized_string hsz (j := 1) (t := 9) rfl rfl
  clear hA0 hval0 hsz0 hsz
  simp only [List.append_nil] at hW'
  have z0 : a0.data.toList.length ≤ 140737488351232 := l0
  have z1 : a1.data.toList.length ≤ 140737488351232 := l1
  refine (blockBack_any a0.data.toList a1.data.toList W (Nat.le_trans z0 (by decide))).mono fun e W' ⟨he, hg⟩ => ?_
  subst he
  exact ⟨_, rfl, post_of_below (pa := []) (pv := []) hW' (fun _ _ _ => (trodAll_cons_mk (shut_bool Try.underlying4 _) trodAll_mk0)) (fun sp hsp => (trodAll_cons_mk (shut_string Try.underlying9 w0) (trodAll_cons_mk (shut_string Try.underlying9 w1) trodAll_mk0))) (fun _ _ => rfl) rfl
    hg (ok_one (by kernel_rfl) rfl (okWide_bool_mk Try.underlying4 _))⟩

theorem proved : Rows.BlockBackSaid :=
  OpenClaim.holds_of_wide 5 Try.f5 rfl rfl rfl rfl rfl rfl rfl ⟨rfl, rfl, rfl, rfl, rfl⟩ rfl rfl rfl rfl rfl (by kernel_rfl) Try.func5 (by kernel_rfl)
    (of_decide_eq_true (by kernel_rfl)) (by unfold Func.isWrapper; first | (rw [if_pos (by decide +kernel)]; kernel_rfl) | (rw [if_neg (by decide +kernel)]; exact ⟨rfl, rfl⟩))
    (fun os started H enc _ => lifted os started H enc)
end Go.Proofs.Ytgfkkjcnnecefab.blockBack
