/- FnRunSerial returns true for all arguments: the rest of the actions, run from the store after the first ones, leads to the same store and effects. Conditions: none beyond the given statement's own. -/
import Derived.Test.YtmnmcjnnlfkknaaQSerL
import Derived.Test.YtmnmcjnnlfkknaaQSer
import Derived.Test.YtmnmcjnnlfkknaaQDraw12
import Derived.Test.YtmnmcjnnlfkknaaQSame2
import Derived.Test.YtmnmcjnnlfkknaaQBase
import Derived.Test.YtmnmcjnnlfkknaaQWords
namespace Go.Proofs.Ytmnmcjnnlfkknaa
open Go.ChangeShapes Go.WideShapes Go.ChangeAt Go.RowKit Go.Deep

set_option maxRecDepth 100000 in
set_option maxHeartbeats 8000000 in
theorem FnRunSerial_walk (A : Option Addr) (c : Nat) (z : List Int) (w : World) (hm : z.length ≤ c) (hw : c ≤ maxLen ∧ BytesAt w A z) :
    Calls Try.prog 9 #[.slice A z.length c] w fun e w' => e = .returned (.bool true) ∧ Below w.heap.size w w' := by
  obtain ⟨hc, hb⟩ := hw
  have HB := Lib.hid hb
  clear hb
  by_cases hbig : 1048576 < z.length
  · have hd : decide ((1048576 : Int) < (z.length : Int)) = true := by simp; omega
    go_enter Try.func9, Try.ntmps9
    go_wp2
    go_ret
    exact ⟨rfl, Below.refl _ _⟩
  · have hd : decide ((1048576 : Int) < (z.length : Int)) = false := by simp; omega
    have h0B : Below w.heap.size w w := Below.refl _ _
    go_enter Try.func9, Try.ntmps9
    go_wp2_with fail
    refine (DrawRunSerial_any A c z _ HB.out hm hc).mono ?_
    rintro e w1 ⟨A_s, c_s, s, A_l, c_l, zs, rfl, hl1, hl2, o3, o4, hb2⟩
    have o5 := ownsRow_weaken o3 h0B.size
    clear o3
    have o6 := ownsRow_weaken o4 h0B.size
    clear o4
    have hB7 := h0B.trans (hb2.mono h0B.size)
    clear hb2
    have hcap := own_len_cap o6
    have hhd := own_head2 o6
    have hat_l := acts_of_own o6
    clear o6
    obtain ⟨st, hst⟩ : ∃ st, serSt s zs = st := ⟨_, rfl⟩
    obtain ⟨ef, hef⟩ : ∃ ef, serEf s zs = ef := ⟨_, rfl⟩
    have hstl := serSt_len s zs
    have hefl := serEf_len s zs
    have hefs := serEf_small s zs
    rw [hst] at hstl
    rw [hef] at hefl hefs
    have HST := Lib.hid hst
    have HEF := Lib.hid hef
    clear hst hef
    go_wp2_with fail
    refine (RunSerial_any _ _ s _ _ zs _ (ents_of_own o5) (by omega) hat_l (by omega)).mono ?_
    rw [HST.out, HEF.out]
    rintro e w8 ⟨A_x, c_x, A_ef, c_ef, Z_ef, S_ef, rfl, hz_ef, o10, o11, hs1_ef, hs2_ef, hlt_ef, hb9⟩
    clear hs2_ef hlt_ef
    have h1_ef := ownsRow_weaken o10 (Nat.le_trans hB7.size hs1_ef)
    clear hs1_ef
    have ht_ef := EffsOwn.at_ o11
    clear o10 o11
    have HZ_ef := Lib.hid hz_ef
    clear hz_ef
    have t12 := (hat_l).below hb9
    clear hat_l
    have o13 := own_below o5 hb9
    clear o5
    have hB14 := hB7.trans (hb9.mono hB7.size)
    clear hb9
    have ⟨n_ef, l_ef, _⟩ := effs_sm HZ_ef.out hefl hefs
    have L_ef := Lib.hid l_ef
    clear l_ef
    go_wp2_with fail
    refine (specRunSerial_any _ _ s _ _ zs _ (ents_of_own o13) (by omega) t12 (by omega)).mono ?_
    rw [HST.out, HEF.out]
    rintro e w15 ⟨A_y, c_y, A_wt, c_wt, Z_wt, rfl, hz_wt, o17, o18, hb16⟩
    have h1_wt := ownsRow_weaken o17 hB14.size
    have ht_wt := EffsOwn.at_ o18
    clear o17 o18
    have HZ_wt := Lib.hid hz_wt
    clear hz_wt
    have t19 := (t12).below hb16
    clear t12
    have t20 := (ht_ef).below hb16
    clear ht_ef
    have o21 := own_below o13 hb16
    clear o13
    have o22 := own_below h1_ef hb16
    clear h1_ef
    have hB23 := hB14.trans (hb16.mono hB14.size)
    clear hb16
    go_wp2_with fail
    refine (sameStore_any _ _ _ _ st st _ (ents_of_own o22) (ents_of_own h1_wt) (by omega) (by omega)).mono ?_
    rintro e w24 ⟨rfl, hd25⟩
    rw [show decide (st = st) = true by simp]
    have hb26 := hd25.below (World.heap w15).size
    have t27 := (t19).below hb26
    clear t19
    have t28 := (t20).below hb26
    clear t20
    have t29 := (ht_wt).below hb26
    clear ht_wt
    have o30 := own_below o21 hb26
    clear o21
    have o31 := own_below o22 hb26
    clear o22
    have o32 := own_below h1_wt hb26
    clear h1_wt
    have hB33 := hB23.trans (hb26.mono hB23.size)
    clear hb26
    clear o32
    go_wp2_with fail
    refine (sameEffects_same _ _ _ _ Z_ef Z_wt _ t28 t29 (HZ_ef.out.trans HZ_wt.out.symm) (by omega) (le16 L_ef.out)).mono ?_
    rintro e w34 ⟨rfl, hb35⟩
    have t36 := (t27).below hb35
    clear t27
    have t37 := (t28).below hb35
    clear t28
    have t38 := (t29).below hb35
    clear t29
    have o39 := own_below o30 hb35
    clear o30
    have o40 := own_below o31 hb35
    clear o31
    have hB41 := hB33.trans (hb35.mono hB33.size)
    clear hb35
    clear t38
    go_wp2_with fail
    refine (specStoreValid_any _ _ s _ (ents_of_own o39) (by omega)).mono ?_
    rintro e w42 ⟨rfl, hd43⟩
    have hb44 := hd43.below (World.heap w34).size
    have t45 := (t36).below hb44
    clear t36
    have t46 := (t37).below hb44
    clear t37
    have o47 := own_below o39 hb44
    clear o39
    have o48 := own_below o40 hb44
    clear o40
    have hB49 := hB41.trans (hb44.mono hB41.size)
    clear hb44
    cases h1 : entsOk 1 (-1) s
    case false =>
      have hno : serB s zs = false := by simp [serB, h1]
      have e1 : st = [] := HST.out.symm.trans (ser_no hno).1
      have e2 : ef = [] := HEF.out.symm.trans (ser_no hno).2
      have hc1 : ((st.length : Int) == 0) = true := by simp [e1]
      have e3 : Z_ef.length = 0 := by have := effsT_len HZ_ef.out; rw [e2] at this; simpa using this
      have hc2 : ((Z_ef.length : Int) == 0) = true := by rw [e3]; rfl
      clear hno e1 e2 e3
      go_wp2_with fail
      refine (alive_any _).mono ?_
      rintro e w50 ⟨rfl, hb51⟩
      have t52 := (t45).below hb51
      clear t45
      have t53 := (t46).below hb51
      clear t46
      have o54 := own_below o47 hb51
      clear o47
      have o55 := own_below o48 hb51
      clear o48
      have hB56 := hB49.trans (hb51.mono hB49.size)
      clear hb51
      go_wp2
      go_ret
      exact ⟨rfl, hB56⟩
    case true =>
      go_wp2_with fail
      refine (specActionsValid_any _ _ zs _ t45 (by omega)).mono ?_
      rintro e w57 ⟨rfl, hb58⟩
      have t59 := (t45).below hb58
      clear t45
      have t60 := (t46).below hb58
      clear t46
      have o61 := own_below o47 hb58
      clear o47
      have o62 := own_below o48 hb58
      clear o48
      have hB63 := hB49.trans (hb58.mono hB49.size)
      clear hb58
      cases h2 : actsOk zs
      case false =>
        have hno : serB s zs = false := by simp [serB, h1, h2]
        have e1 : st = [] := HST.out.symm.trans (ser_no hno).1
        have e2 : ef = [] := HEF.out.symm.trans (ser_no hno).2
        have hc1 : ((st.length : Int) == 0) = true := by simp [e1]
        have e3 : Z_ef.length = 0 := by have := effsT_len HZ_ef.out; rw [e2] at this; simpa using this
        have hc2 : ((Z_ef.length : Int) == 0) = true := by rw [e3]; rfl
        clear hno e1 e2 e3
        go_wp2_with fail
        refine (alive_any _).mono ?_
        rintro e w64 ⟨rfl, hb65⟩
        have t66 := (t59).below hb65
        clear t59
        have t67 := (t60).below hb65
        clear t60
        have o68 := own_below o61 hb65
        clear o61
        have o69 := own_below o62 hb65
        clear o62
        have hB70 := hB63.trans (hb65.mono hB63.size)
        clear hb65
        go_wp2
        go_ret
        exact ⟨rfl, hB70⟩
      case true =>
        obtain ⟨hok, hss, hee⟩ := ser_parts h1 h2 (zs.length / 2)
        rw [HST.out] at hok hss
        rw [HEF.out] at hee
        have HOK := Lib.hid hok
        have HT1 := Lib.hid (show zs.length / 2 = (zs.take (zs.length / 2)).length by rw [List.length_take]; omega)
        have HT2 := Lib.hid (show zs.length - zs.length / 2 = (zs.drop (zs.length / 2)).length by rw [List.length_drop])
        have hsal := serSt_len s (zs.take (zs.length / 2))
        have hfl := serEf_len s (zs.take (zs.length / 2))
        have hfs := serEf_small s (zs.take (zs.length / 2))
        have hgl := serEf_len (serSt s (zs.take (zs.length / 2))) (zs.drop (zs.length / 2))
        have hgs := serEf_small (serSt s (zs.take (zs.length / 2))) (zs.drop (zs.length / 2))
        obtain ⟨sa, hsa⟩ : ∃ sa, serSt s (zs.take (zs.length / 2)) = sa := ⟨_, rfl⟩
        obtain ⟨f1, hf1⟩ : ∃ f1, serEf s (zs.take (zs.length / 2)) = f1 := ⟨_, rfl⟩
        rw [hsa] at hsal hgl hgs hss hee
        rw [hf1] at hfl hfs hee
        obtain ⟨f2, hf2⟩ : ∃ f2, serEf sa (zs.drop (zs.length / 2)) = f2 := ⟨_, rfl⟩
        rw [hf2] at hgl hgs hee
        have HSA := Lib.hid hsa
        have HF1 := Lib.hid hf1
        have HF2 := Lib.hid hf2
        have HSS := Lib.hid hss
        have HEE := Lib.hid hee
        clear hok hss hee hsa hf1 hf2 h1 h2 HST HEF
        have T1 := ActsAt.take t59 (zs.length / 2)
        rcases hhd with rfl | ⟨g, rfl⟩
        ·
          have T2 := acts_dropN t59 (zs.length / 2)
          clear t59
          go_wp2_with fail
          refine (RunSerial_at _ _ s _ _ _ (zs.take (zs.length / 2)) _ (ents_of_own o61) (by omega) T1 HT1.out (by rw [List.length_take]; omega)).mono ?_
          rw [HSA.out, HF1.out]
          rintro e w71 ⟨A_a, c_a, A_f, c_f, Z_f, S_f, rfl, hz_f, o73, o74, hs1_f, hs2_f, hlt_f, hb72⟩
          clear hs2_f hlt_f
          have h1_f := ownsRow_weaken o73 (Nat.le_trans hB63.size hs1_f)
          clear hs1_f
          have ht_f := EffsOwn.at_ o74
          clear o73 o74
          have HZ_f := Lib.hid hz_f
          clear hz_f
          have t75 := (t60).below hb72
          clear t60
          have t76 := (T1).below hb72
          clear T1
          have t77 := (T2).below hb72
          clear T2
          have o78 := own_below o61 hb72
          clear o61
          have o79 := own_below o62 hb72
          clear o62
          have hB80 := hB63.trans (hb72.mono hB63.size)
          clear hb72
          clear t76
          have ⟨n_f, l_f, _⟩ := effs_sm HZ_f.out hfl hfs
          have L_f := Lib.hid l_f
          clear l_f
          go_wp2_with fail
          refine (RunSerial_at _ _ sa _ _ _ (zs.drop (zs.length / 2)) _ (ents_of_own h1_f) (by omega) t77 HT2.out (by rw [List.length_drop]; omega)).mono ?_
          rw [HSS.out, HF2.out]
          rintro e w81 ⟨A_b, c_b, A_g, c_g, Z_g, S_g, rfl, hz_g, o83, o84, hs1_g, hs2_g, hlt_g, hb82⟩
          clear hs2_g hlt_g
          have h1_g := ownsRow_weaken o83 (Nat.le_trans hB80.size hs1_g)
          clear hs1_g
          have ht_g := EffsOwn.at_ o84
          clear o83 o84
          have HZ_g := Lib.hid hz_g
          clear hz_g
          have t85 := (t75).below hb82
          clear t75
          have t86 := (t77).below hb82
          clear t77
          have t87 := (ht_f).below hb82
          clear ht_f
          have o88 := own_below o78 hb82
          clear o78
          have o89 := own_below o79 hb82
          clear o79
          have o90 := own_below h1_f hb82
          clear h1_f
          have hB91 := hB80.trans (hb82.mono hB80.size)
          clear hb82
          clear t86
          have ⟨n_g, l_g, _⟩ := effs_sm HZ_g.out hgl hgs
          have L_g := Lib.hid l_g
          clear l_g
          clear o90
          go_wp2_with fail
          refine (StoreValid_any _ _ st _ (ents_of_own o89) (by omega)).mono ?_
          rintro e w92 ⟨rfl, hb93⟩
          rw [HOK.out]
          have t94 := (t85).below hb93
          clear t85
          have t95 := (t87).below hb93
          clear t87
          have t96 := (ht_g).below hb93
          clear ht_g
          have o97 := own_below o88 hb93
          clear o88
          have o98 := own_below o89 hb93
          clear o89
          have o99 := own_below h1_g hb93
          clear h1_g
          have hB100 := hB91.trans (hb93.mono hB91.size)
          clear hb93
          go_wp2_with fail
          refine (sameStore_any _ _ _ _ st st _ (ents_of_own o99) (ents_of_own o98) (by omega) (by omega)).mono ?_
          rintro e w101 ⟨rfl, hd102⟩
          rw [show decide (st = st) = true by simp]
          have hb103 := hd102.below (World.heap w92).size
          have t104 := (t94).below hb103
          clear t94
          have t105 := (t95).below hb103
          clear t95
          have t106 := (t96).below hb103
          clear t96
          have o107 := own_below o97 hb103
          clear o97
          have o108 := own_below o98 hb103
          clear o98
          have o109 := own_below o99 hb103
          clear o99
          have hB110 := hB100.trans (hb103.mono hB100.size)
          clear hb103
          clear o109
          clear o108
          clear o107
          go_wp2_with (at_builtin; refine wpList_unguard (by rfl) ?_; refine wpList_append_at effRow_ty rfl _ _ rfl (World.heap w101).size _ _ _ rfl (own_empty w101 (World.heap w101).size 57 3 (Nat.le_refl _)) A_f Z_f.length c_f (effCells Z_f) rfl (t105.1.below ((Below.refl _ _).alloc (Nat.le_refl _) _)) (effCells_length _) (effCells_one _) (by omega) (by simp) ?_)
          intro va wa oa hba _
          try simp only [Nat.zero_add, List.nil_append] at oa
          have hxa := ((Below.refl (World.heap w101).size w101).alloc (Nat.le_refl _) _).trans hba
          obtain ⟨A_j, c_j, rfl⟩ := own_form oa
          have hga := t106.1.below hxa
          go_wp2_with (at_builtin; refine wpList_unguard (by rfl) ?_; refine wpList_append_at effRow_ty rfl _ _ rfl (World.heap w101).size _ _ _ rfl oa A_g Z_g.length c_g (effCells Z_g) rfl hga (effCells_length _) (effCells_one _) (by omega) hxa.size ?_)
          intro vb wb ob hbb _
          have hxb := hxa.trans hbb
          obtain ⟨A_k, c_k, rfl⟩ := own_form ob
          have hj := effs_join ob t105 t106 hxb
          clear oa ob hba hbb hxa hga
          clear t105 t106
          have t111 := (t104).below hxb
          clear t104
          have hB112 := hB110.trans (hxb.mono hB110.size)
          clear hxb
          go_wp2_with fail
          refine (sameEffects_at _ _ _ _ _ (Z_f ++ Z_g) Z_ef _ hj t111 (by rw [effsT_app, HZ_f.out, HZ_g.out, HEE.out, HZ_ef.out]) (by simp) (by simp; omega) (fun z hz => (List.mem_append.1 hz).elim (le16 L_f.out z) (le16 L_g.out z))).mono ?_
          rintro e w113 ⟨rfl, hb114⟩
          have t115 := (t111).below hb114
          clear t111
          have t116 := (hj).below hb114
          clear hj
          have hB117 := hB112.trans (hb114.mono hB112.size)
          clear hb114
          go_wp2
          go_ret
          exact ⟨rfl, hB117⟩
        ·
          have T2 := acts_dropS t59 (zs.length / 2)
          clear t59
          go_wp2_with fail
          refine (RunSerial_at _ _ s _ _ _ (zs.take (zs.length / 2)) _ (ents_of_own o61) (by omega) T1 HT1.out (by rw [List.length_take]; omega)).mono ?_
          rw [HSA.out, HF1.out]
          rintro e w118 ⟨A_a, c_a, A_f, c_f, Z_f, S_f, rfl, hz_f, o120, o121, hs1_f, hs2_f, hlt_f, hb119⟩
          clear hs2_f hlt_f
          have h1_f := ownsRow_weaken o120 (Nat.le_trans hB63.size hs1_f)
          clear hs1_f
          have ht_f := EffsOwn.at_ o121
          clear o120 o121
          have HZ_f := Lib.hid hz_f
          clear hz_f
          have t122 := (t60).below hb119
          clear t60
          have t123 := (T1).below hb119
          clear T1
          have t124 := (T2).below hb119
          clear T2
          have o125 := own_below o61 hb119
          clear o61
          have o126 := own_below o62 hb119
          clear o62
          have hB127 := hB63.trans (hb119.mono hB63.size)
          clear hb119
          clear t123
          have ⟨n_f, l_f, _⟩ := effs_sm HZ_f.out hfl hfs
          have L_f := Lib.hid l_f
          clear l_f
          go_wp2_with fail
          all_goals
            refine (RunSerial_at _ _ sa _ _ _ (zs.drop (zs.length / 2)) _ (ents_of_own h1_f) (by omega) (by first | exact t124 | exact acts_drop0 (by omega)) HT2.out (by rw [List.length_drop]; omega)).mono ?_
            rw [HSS.out, HF2.out]
            rintro e w128 ⟨A_b, c_b, A_g, c_g, Z_g, S_g, rfl, hz_g, o130, o131, hs1_g, hs2_g, hlt_g, hb129⟩
            clear hs2_g hlt_g
            have h1_g := ownsRow_weaken o130 (Nat.le_trans hB127.size hs1_g)
            clear hs1_g
            have ht_g := EffsOwn.at_ o131
            clear o130 o131
            have HZ_g := Lib.hid hz_g
            clear hz_g
            have t132 := (t122).below hb129
            clear t122
            have t133 := (t124).below hb129
            clear t124
            have t134 := (ht_f).below hb129
            clear ht_f
            have o135 := own_below o125 hb129
            clear o125
            have o136 := own_below o126 hb129
            clear o126
            have o137 := own_below h1_f hb129
            clear h1_f
            have hB138 := hB127.trans (hb129.mono hB127.size)
            clear hb129
            clear t133
            have ⟨n_g, l_g, _⟩ := effs_sm HZ_g.out hgl hgs
            have L_g := Lib.hid l_g
            clear l_g
            clear o137
            go_wp2_with fail
            refine (StoreValid_any _ _ st _ (ents_of_own o136) (by omega)).mono ?_
            rintro e w139 ⟨rfl, hb140⟩
            rw [HOK.out]
            have t141 := (t132).below hb140
            clear t132
            have t142 := (t134).below hb140
            clear t134
            have t143 := (ht_g).below hb140
            clear ht_g
            have o144 := own_below o135 hb140
            clear o135
            have o145 := own_below o136 hb140
            clear o136
            have o146 := own_below h1_g hb140
            clear h1_g
            have hB147 := hB138.trans (hb140.mono hB138.size)
            clear hb140
            go_wp2_with fail
            refine (sameStore_any _ _ _ _ st st _ (ents_of_own o146) (ents_of_own o145) (by omega) (by omega)).mono ?_
            rintro e w148 ⟨rfl, hd149⟩
            rw [show decide (st = st) = true by simp]
            have hb150 := hd149.below (World.heap w139).size
            have t151 := (t141).below hb150
            clear t141
            have t152 := (t142).below hb150
            clear t142
            have t153 := (t143).below hb150
            clear t143
            have o154 := own_below o144 hb150
            clear o144
            have o155 := own_below o145 hb150
            clear o145
            have o156 := own_below o146 hb150
            clear o146
            have hB157 := hB147.trans (hb150.mono hB147.size)
            clear hb150
            clear o156
            clear o155
            clear o154
            go_wp2_with (at_builtin; refine wpList_unguard (by rfl) ?_; refine wpList_append_at effRow_ty rfl _ _ rfl (World.heap w148).size _ _ _ rfl (own_empty w148 (World.heap w148).size 57 3 (Nat.le_refl _)) A_f Z_f.length c_f (effCells Z_f) rfl (t152.1.below ((Below.refl _ _).alloc (Nat.le_refl _) _)) (effCells_length _) (effCells_one _) (by omega) (by simp) ?_)
            intro va wa oa hba _
            try simp only [Nat.zero_add, List.nil_append] at oa
            have hxa := ((Below.refl (World.heap w148).size w148).alloc (Nat.le_refl _) _).trans hba
            obtain ⟨A_j, c_j, rfl⟩ := own_form oa
            have hga := t153.1.below hxa
            go_wp2_with (at_builtin; refine wpList_unguard (by rfl) ?_; refine wpList_append_at effRow_ty rfl _ _ rfl (World.heap w148).size _ _ _ rfl oa A_g Z_g.length c_g (effCells Z_g) rfl hga (effCells_length _) (effCells_one _) (by omega) hxa.size ?_)
            intro vb wb ob hbb _
            have hxb := hxa.trans hbb
            obtain ⟨A_k, c_k, rfl⟩ := own_form ob
            have hj := effs_join ob t152 t153 hxb
            clear oa ob hba hbb hxa hga
            clear t152 t153
            have t158 := (t151).below hxb
            clear t151
            have hB159 := hB157.trans (hxb.mono hB157.size)
            clear hxb
            go_wp2_with fail
            refine (sameEffects_at _ _ _ _ _ (Z_f ++ Z_g) Z_ef _ hj t158 (by rw [effsT_app, HZ_f.out, HZ_g.out, HEE.out, HZ_ef.out]) (by simp) (by simp; omega) (fun z hz => (List.mem_append.1 hz).elim (le16 L_f.out z) (le16 L_g.out z))).mono ?_
            rintro e w160 ⟨rfl, hb161⟩
            have t162 := (t158).below hb161
            clear t158
            have t163 := (hj).below hb161
            clear hj
            have hB164 := hB159.trans (hb161.mono hB159.size)
            clear hb161
            go_wp2
            go_ret
            exact ⟨rfl, hB164⟩

/-! ### The row's step: the walk's theorem, laid into the given statement's frame -/
set_option maxRecDepth 100000 in
theorem FnRunSerial_lifted (os : Os) (started : os.Started) (H : Type) (enc : TypeId × Value → H) :
    ReturnsInHanded {} Try.checked os 9 .any (Rows.fnRunSerialSpec.pre6 enc Try.prog Try.f9 Rows.fnRunSerialRow.domain false) (Rows.fnRunSerialSpec.post enc Try.prog Try.f9 false true false false) := by
  refine returnsInHanded_of_change (C := Try.checked) own started (by kernel_rfl) Try.func9
    (ChangeSpec.witness6 (enc := enc) (C := Try.checked) false ⟨#[], #[.slice none 0 0], []⟩ 8 (by kernel_rfl) (by kernel_rfl) (by kernel_rfl) (by kernel_rfl)) ?_
  intro W base args ds gs before hval0 hW hcnd _
  have hval : ∀ (j : Nat) t v, Try.f9.params[j]? = some t → args[j]? = some v → Value.okWide Try.prog W .any base t v := hval0
  have hW' := hW
  obtain ⟨p, q, hA0, hV, rfl, hfz, hnd⟩ := hW
  have hA : DataW.TrodAll enc Try.prog W 0 (fun _ => true) true Try.f9.params.toList args.toList ds p := hA0
  rw [Try.params9] at hA hval
  obtain ⟨v0, vs0, d0, ds0, p0, q0, hargs, rfl, rfl, h0, r0⟩ := trodAll_cons hA
  obtain ⟨rfl, rfl, rfl⟩ := trodAll_nil r0
  obtain rfl : args = #[v0] := by cases args; simp_all
  obtain ⟨rfl, rfl⟩ := trodVars_none hV
  have k0 := h0
  have lt0 : ∀ x ∈ p0, x.block < W.heap.size := by obtain ⟨m, hm⟩ := k0; exact DataW.trod_lt m _ _ _ hm
  obtain ⟨A0, c0, z0, e0, m0, w0⟩ := open_bytes_ h0 (okWide_slice Try.underlying22 (hval 0 22 v0 rfl rfl))
  subst e0
  refine (FnRunSerial_walk A0 c0 z0 W m0 w0).mono fun e W' ⟨he, bel⟩ => ?_
  subst he
  exact ⟨_, rfl, _, _, _, [], _, [], hW', trodAll_mk1 (shut_bool Try.underlying4 _), (trodAll_cons_mk (Below.trod laidOut (by kernel_rfl) (of_decide_eq_true (by kernel_rfl)) k0 bel lt0) trodAll_mk0), rfl, bel.frame _, fun h => by cases h⟩

theorem FnRunSerial_over : Rows.fnRunSerialRow.holds Try.pinned (OpenSpec.ofChange Rows.fnRunSerialSpec) :=
  OpenClaim.holds_of_wide 9 Try.f9 rfl rfl rfl rfl rfl rfl rfl ⟨rfl, rfl, rfl, rfl, rfl⟩ rfl rfl rfl rfl rfl (by kernel_rfl) Try.func9 (by kernel_rfl)
    (of_decide_eq_true (by kernel_rfl)) (by unfold Func.isWrapper; first | (rw [if_pos (by decide +kernel)]; kernel_rfl) | (rw [if_neg (by decide +kernel)]; exact ⟨rfl, rfl⟩))
    (fun os started H enc _ => FnRunSerial_lifted os started H enc)

/-- The given statement. -/
theorem FnRunSerial_holds : Rows.FnRunSerialSaid := FnRunSerial_over

end Go.Proofs.Ytmnmcjnnlfkknaa
