/- FnExactRunSerial returns true for all arguments: RunSerial of the program and of the reference return the same, and the program's leaves its arguments alone. Conditions: none beyond the given statement's own. -/
import Derived.Test.YtmmfblkgappljaaOpen
import Derived.Test.YtmmfblkgappljaaSer
import Derived.Test.YtmmfblkgappljaaSer2
import Derived.Test.YtmmfblkgappljaaEffsMark
import Derived.Test.YtmmfblkgappljaaMark
import Derived.Test.YtmmfblkgappljaaEnt
namespace Go.Proofs.Ytmmfblkgappljaa
open Go.ChangeShapes Go.WideShapes Go.ChangeAt Go.RowKit Go.Deep

set_option maxRecDepth 100000 in
set_option maxHeartbeats 16000000 in
theorem FnExactRunSerial_walk (A : Option Addr) (c : Nat) (y : List Ent) (B : Option Addr) (d : Nat) (z : List ActT) (w : World) (hm : y.length ≤ maxLen) (h_y : EntsAt w A y) (hm2 : z.length ≤ maxLen) (h_z : ActsAt w B z) :
    Calls Try.prog 12 #[.slice A y.length c, .slice B z.length d] w fun e w' => e = .returned (.bool true) ∧ Below w.heap.size w w' := by
  unfold maxLen at *
  have Hy := Lib.hid h_y
  have Hz := Lib.hid h_z
  clear h_y h_z
  by_cases hbig : 1048576 < y.length
  ·
    go_enter Try.func12, Try.ntmps12
    go_wp2_with fail
    refine (szEntryS_big _ _ _ _ _ (by omega) (by omega) (by omega)).mono ?_
    rintro e w' ⟨rfl, rfl⟩
    go_wp2
    go_ret
    exact ⟨rfl, Below.refl _ _⟩
  have hpos : ¬ ((1048576 : Int) - (y.length : Int) < 0) := by omega
  by_cases hbig2 : 1048576 - (y.length : Int) < z.length
  ·
    go_enter Try.func12, Try.ntmps12
    go_wp2_with fail
    refine (szEntryS_fits _ _ _ _ _ (by omega) (by omega)).mono ?_
    rintro e w' ⟨rfl, rfl⟩
    go_wp2_with fail
    refine (szActionS_big _ _ _ _ _ (by omega) (by omega) (by omega)).mono ?_
    rintro e w' ⟨rfl, rfl⟩
    go_wp2
    go_ret
    exact ⟨rfl, Below.refl _ _⟩
  ·
    have hpos2 : ¬ ((1048576 : Int) - (y.length : Int) - (z.length : Int) < 0) := by omega
    have hst32 := serSt_len y z
    have h0B : Below w.heap.size w w := Below.refl _ _
    go_enter Try.func12, Try.ntmps12
    go_wp2_with fail
    refine (szEntryS_fits _ _ _ _ _ (by omega) (by omega)).mono ?_
    rintro e w' ⟨rfl, rfl⟩
    go_wp2_with fail
    refine (szActionS_fits _ _ _ _ _ (by omega) (by omega)).mono ?_
    rintro e w' ⟨rfl, rfl⟩
    go_wp2_with fail
    refine (toEntryS_any _ _ y _ (Hy.out.below h0B) (by omega)).mono ?_
    rintro e w1 ⟨A_t0, c_t0, rfl, o3, hb2⟩
    have lt_t0 := Lib.hid (own_lt o3)
    have hB4 := h0B.trans (hb2.mono h0B.size)
    have z5 : (World.heap w).size ≤ (World.heap w1).size := hb2.size
    clear hb2
    go_wp2_with fail
    refine (toActionS_any _ _ z _ (Hz.out.below hB4) (by omega)).mono ?_
    rintro e w6 ⟨A_t1, c_t1, rfl, o8, hb7⟩
    have lt_t1 := Lib.hid (own_lt o8)
    have o9 := own_below o3 hb7
    clear o3
    have hB10 := hB4.trans (hb7.mono hB4.size)
    have z11 : (World.heap w1).size ≤ (World.heap w6).size := hb7.size
    clear hb7
    go_wp2_with fail
    refine (specRunSerial_any _ _ y _ _ z _ (ents_of_own o9) (by omega) (acts_of_own o8) (by omega)).mono ?_
    rintro e w12 ⟨A_w0, c_w0, A_w1, c_w1, Z_w1, rfl, hz_w1, o14, o15, hb13⟩
    have hlt_w1 := EffsOwn.effsLt o15
    have ⟨n_w1, l_w1, t_w1⟩ := effs_sm hz_w1 (serEf_len _ _) (serEf_small _ _)
    have lt_w1 := Lib.hid hlt_w1
    have lt_w0 := Lib.hid (own_lt o14)
    have HZ_w1 := Lib.hid hz_w1
    have L_w1 := Lib.hid l_w1
    clear hz_w1 l_w1 hlt_w1
    have o16 := own_below o9 hb13
    clear o9
    have o17 := own_below o8 hb13
    clear o8
    have hB18 := hB10.trans (hb13.mono hB10.size)
    have z19 : (World.heap w6).size ≤ (World.heap w12).size := hb13.size
    clear hb13
    clear o16
    clear o17
    go_wp2_with fail
    refine (toEntryS_any _ _ y _ (Hy.out.below hB18) (by omega)).mono ?_
    rintro e w20 ⟨A_x0, c_x0, rfl, o22, hb21⟩
    have lt_x0 := Lib.hid (own_lt o22)
    have o23 := EffsOwn.below o15 hb21
    clear o15
    have o24 := own_below o14 hb21
    clear o14
    have hB25 := hB18.trans (hb21.mono hB18.size)
    have z26 : (World.heap w12).size ≤ (World.heap w20).size := hb21.size
    clear hb21
    go_wp2_with fail
    refine (toActionS_any _ _ z _ (Hz.out.below hB25) (by omega)).mono ?_
    rintro e w27 ⟨A_x1, c_x1, rfl, o29, hb28⟩
    have lt_x1 := Lib.hid (own_lt o29)
    have o30 := EffsOwn.below o23 hb28
    clear o23
    have o31 := own_below o24 hb28
    clear o24
    have o32 := own_below o22 hb28
    clear o22
    have hB33 := hB25.trans (hb28.mono hB25.size)
    have z34 : (World.heap w20).size ≤ (World.heap w27).size := hb28.size
    clear hb28
    go_wp2_with fail
    refine (RunSerial_any _ _ y _ _ z _ (ents_of_own o32) (by omega) (acts_of_own o29) (by omega)).mono ?_
    rintro e w35 ⟨A_g0, c_g0, A_g1, c_g1, Z_g1, S_g1, rfl, hz_g1, o37, o38, hs1_g1, hs2_g1, hlt_g1, hb36⟩
    have ⟨n_g1, l_g1, t_g1⟩ := effs_sm hz_g1 (serEf_len _ _) (serEf_small _ _)
    have lt_g1 := Lib.hid hlt_g1
    have lt_g0 := Lib.hid (own_lt o37)
    have HZ_g1 := Lib.hid hz_g1
    have L_g1 := Lib.hid l_g1
    clear hz_g1 l_g1 hlt_g1
    have o39 := EffsOwn.below o30 hb36
    clear o30
    have o40 := own_below o31 hb36
    clear o31
    have o41 := own_below o32 hb36
    clear o32
    have o42 := own_below o29 hb36
    clear o29
    have hB43 := hB33.trans (hb36.mono hB33.size)
    have z44 : (World.heap w27).size ≤ (World.heap w35).size := hb36.size
    clear hb36
    go_wp2_with fail
    refine (eqEntryS_any _ _ _ _ _ _ _ (ents_of_own o37) (ents_of_own o40) (by omega) (by omega)).mono ?_
    rintro e w45 ⟨rfl, hb46⟩
    have o47 := EffsOwn.below o39 hb46
    clear o39
    have o48 := own_below o40 hb46
    clear o40
    have o49 := own_below o41 hb46
    clear o41
    have o50 := own_below o42 hb46
    clear o42
    have o51 := EffsOwn.below o38 hb46
    clear o38
    have o52 := own_below o37 hb46
    clear o37
    have hB53 := hB43.trans (hb46.mono hB43.size)
    have z54 : (World.heap w35).size ≤ (World.heap w45).size := hb46.size
    clear hb46
    go_wp2_with fail
    refine (eqEffectS_any _ _ _ _ Z_g1 Z_w1 _ (EffsOwn.at_ o51) (EffsOwn.at_ o47) (by omega) (by omega) (le16 L_g1.out) (le16 L_w1.out)).mono ?_
    rintro e w55 ⟨rfl, hb56⟩
    rw [HZ_g1.out, HZ_w1.out]
    have o57 := EffsOwn.below o47 hb56
    clear o47
    have o58 := own_below o48 hb56
    clear o48
    have o59 := own_below o49 hb56
    clear o49
    have o60 := own_below o50 hb56
    clear o50
    have o61 := EffsOwn.below o51 hb56
    clear o51
    have o62 := own_below o52 hb56
    clear o52
    have hB63 := hB53.trans (hb56.mono hB53.size)
    have z64 : (World.heap w45).size ≤ (World.heap w55).size := hb56.size
    clear hb56
    go_wp2_with fail
    refine (toEntryS_any _ _ y _ (Hy.out.below hB63) (by omega)).mono ?_
    rintro e w65 ⟨A_u0, c_u0, rfl, o67, hb66⟩
    have lt_u0 := Lib.hid (own_lt o67)
    have o68 := EffsOwn.below o57 hb66
    clear o57
    have o69 := own_below o58 hb66
    clear o58
    have o70 := own_below o59 hb66
    clear o59
    have o71 := own_below o60 hb66
    clear o60
    have o72 := EffsOwn.below o61 hb66
    clear o61
    have o73 := own_below o62 hb66
    clear o62
    have hB74 := hB63.trans (hb66.mono hB63.size)
    have z75 : (World.heap w55).size ≤ (World.heap w65).size := hb66.size
    clear hb66
    go_wp2_with fail
    refine (eqEntryS_any _ _ _ _ _ _ _ (ents_of_own o70) (ents_of_own o67) (by omega) (by omega)).mono ?_
    rintro e w76 ⟨rfl, hb77⟩
    have o78 := EffsOwn.below o68 hb77
    clear o68
    have o79 := own_below o69 hb77
    clear o69
    have o80 := own_below o70 hb77
    clear o70
    have o81 := own_below o71 hb77
    clear o71
    have o82 := EffsOwn.below o72 hb77
    clear o72
    have o83 := own_below o73 hb77
    clear o73
    have o84 := own_below o67 hb77
    clear o67
    have hB85 := hB74.trans (hb77.mono hB74.size)
    have z86 : (World.heap w65).size ≤ (World.heap w76).size := hb77.size
    clear hb77
    clear o84
    go_wp2_with fail
    refine (toActionS_any _ _ z _ (Hz.out.below hB85) (by omega)).mono ?_
    rintro e w87 ⟨A_u1, c_u1, rfl, o89, hb88⟩
    have lt_u1 := Lib.hid (own_lt o89)
    have o90 := EffsOwn.below o78 hb88
    clear o78
    have o91 := own_below o79 hb88
    clear o79
    have o92 := own_below o80 hb88
    clear o80
    have o93 := own_below o81 hb88
    clear o81
    have o94 := EffsOwn.below o82 hb88
    clear o82
    have o95 := own_below o83 hb88
    clear o83
    have hB96 := hB85.trans (hb88.mono hB85.size)
    have z97 : (World.heap w76).size ≤ (World.heap w87).size := hb88.size
    clear hb88
    go_wp2_with fail
    refine (eqActionS_any _ _ _ _ _ _ _ (acts_of_own o93) (acts_of_own o89) (by omega) (by omega)).mono ?_
    rintro e w98 ⟨rfl, hb99⟩
    have o100 := EffsOwn.below o90 hb99
    clear o90
    have o101 := own_below o91 hb99
    clear o91
    have o102 := own_below o92 hb99
    clear o92
    have o103 := own_below o93 hb99
    clear o93
    have o104 := EffsOwn.below o94 hb99
    clear o94
    have o105 := own_below o95 hb99
    clear o95
    have o106 := own_below o89 hb99
    clear o89
    have hB107 := hB96.trans (hb99.mono hB96.size)
    have z108 : (World.heap w87).size ≤ (World.heap w98).size := hb99.size
    clear hb99
    clear o106
    go_wp2_with fail
    refine (markEntryS_any _ _ _ _ _ _ _ _ o102 (by omega) (by omega) (by omega)).mono ?_
    rintro e w109 ⟨rfl, o111, hg110⟩
    have ho112 := only_mark (hi := (World.heap w20).size) o102 hg110 lt_x0.out
    clear hg110 o102
    have o113 := EffsOwn.only_lt o100 ho112 lt_w1.out (by omega)
    clear o100
    have o114 := own_only_lt o101 ho112 lt_w0.out (by omega)
    clear o101
    have o115 := own_only_hi o103 ho112 (by omega)
    clear o103
    have o116 := EffsOwn.only_hi o104 ho112 (by omega)
    clear o104
    have o117 := own_only_hi o105 ho112 (by omega)
    clear o105
    have hB118 := Only.below hB107 ho112 (by omega) hB107.size
    have z119 : (World.heap w98).size ≤ (World.heap w109).size := ho112.size
    clear ho112
    go_wp2_with fail
    refine (markActionS_any _ _ _ _ _ _ _ _ o115 (by omega) (by omega) (by omega)).mono ?_
    rintro e w120 ⟨rfl, o122, hg121⟩
    have ho123 := only_mark (hi := (World.heap w27).size) o115 hg121 lt_x1.out
    clear hg121 o115
    have o124 := EffsOwn.only_lt o113 ho123 lt_w1.out (by omega)
    clear o113
    have o125 := own_only_lt o114 ho123 lt_w0.out (by omega)
    clear o114
    have o126 := own_only_lt o111 ho123 lt_x0.out (by omega)
    clear o111
    have o127 := EffsOwn.only_hi o116 ho123 (by omega)
    clear o116
    have o128 := own_only_hi o117 ho123 (by omega)
    clear o117
    have hB129 := Only.below hB118 ho123 (by omega) hB118.size
    have z130 : (World.heap w109).size ≤ (World.heap w120).size := ho123.size
    clear ho123
    go_wp2_with fail
    refine (eqEntryS_any _ _ _ _ _ _ _ (ents_of_own o128) (ents_of_own o125) (by omega) (by omega)).mono ?_
    rintro e w131 ⟨rfl, hb132⟩
    have o133 := EffsOwn.below o124 hb132
    clear o124
    have o134 := own_below o125 hb132
    clear o125
    have o135 := own_below o126 hb132
    clear o126
    have o136 := own_below o122 hb132
    clear o122
    have o137 := EffsOwn.below o127 hb132
    clear o127
    have o138 := own_below o128 hb132
    clear o128
    have hB139 := hB129.trans (hb132.mono hB129.size)
    have z140 : (World.heap w120).size ≤ (World.heap w131).size := hb132.size
    clear hb132
    go_wp2_with fail
    refine (eqEffectS_any _ _ _ _ Z_g1 Z_w1 _ (EffsOwn.at_ o137) (EffsOwn.at_ o133) (by omega) (by omega) (le16 L_g1.out) (le16 L_w1.out)).mono ?_
    rintro e w141 ⟨rfl, hb142⟩
    rw [HZ_g1.out, HZ_w1.out]
    have o143 := EffsOwn.below o133 hb142
    clear o133
    have o144 := own_below o134 hb142
    clear o134
    have o145 := own_below o135 hb142
    clear o135
    have o146 := own_below o136 hb142
    clear o136
    have o147 := EffsOwn.below o137 hb142
    clear o137
    have o148 := own_below o138 hb142
    clear o138
    have hB149 := hB139.trans (hb142.mono hB139.size)
    have z150 : (World.heap w131).size ≤ (World.heap w141).size := hb142.size
    clear hb142
    clear o145
    clear o146
    go_wp2_with fail
    refine (markEntryS_any _ _ _ _ _ _ _ _ o148 (by omega) (by omega) (by omega)).mono ?_
    rintro e w151 ⟨rfl, o153, hg152⟩
    have ho154 := only_mark (hi := (World.heap w35).size) o148 hg152 lt_g0.out
    clear hg152 o148
    have o155 := EffsOwn.only_lt o143 ho154 lt_w1.out (by omega)
    clear o143
    have o156 := own_only_lt o144 ho154 lt_w0.out (by omega)
    clear o144
    have o157 := EffsOwn.only_lt o147 ho154 lt_g1.out (by omega)
    clear o147
    have hB158 := Only.below hB149 ho154 (by omega) hB149.size
    have z159 : (World.heap w141).size ≤ (World.heap w151).size := ho154.size
    clear ho154
    have E_g1 : 0 ≤ endEs ((1 + ((serSt y z).length : Int) * 2)) Z_g1 ∧ endEs ((1 + ((serSt y z).length : Int) * 2)) Z_g1 ≤ 1099511627776 := by have h1 := endEs_eq Z_g1 ((1 + ((serSt y z).length : Int) * 2)); omega
    go_wp2_with fail
    refine (markEffectS_any (World.heap w27).size S_g1 _ _ _ (1 + ((serSt y z).length : Int) * 2) _ o157 lt_g1.out (by omega) (le16 L_g1.out) (by omega) E_g1.2).mono ?_
    rintro e w160 ⟨rfl, o161, ho162⟩
    clear o157
    have o163 := EffsOwn.only_lt o155 ho162 lt_w1.out (by omega)
    clear o155
    have o164 := own_only_lt o156 ho162 lt_w0.out (by omega)
    clear o156
    have o165 := own_only_hi o153 ho162 (by omega)
    clear o153
    have hB166 := Only.below hB158 ho162 (by omega) hB158.size
    have z167 : (World.heap w151).size ≤ (World.heap w160).size := ho162.size
    clear ho162
    go_wp2_with fail
    refine (heldEntryS_any _ _ _ _ _ (cells_of_own o165) (by omega) (by omega) (by omega)).mono ?_
    rintro e w' ⟨rfl, rfl⟩
    go_wp2_with fail
    refine (heldEffectS_any _ _ Z_g1 (1 + ((serSt y z).length : Int) * 2) _ (EffsOwn.at_ o161) (by omega) (le16 L_g1.out) (by omega) E_g1.2).mono ?_
    rintro e w' ⟨rfl, rfl⟩
    go_wp2_with fail
    refine (toEntryS_any _ _ y _ (Hy.out.below hB166) (by omega)).mono ?_
    rintro e w168 ⟨A_v0, c_v0, rfl, o170, hb169⟩
    have lt_v0 := Lib.hid (own_lt o170)
    have o171 := EffsOwn.below o163 hb169
    clear o163
    have o172 := own_below o164 hb169
    clear o164
    have o173 := EffsOwn.below o161 hb169
    clear o161
    have o174 := own_below o165 hb169
    clear o165
    have hB175 := hB166.trans (hb169.mono hB166.size)
    have z176 : (World.heap w160).size ≤ (World.heap w168).size := hb169.size
    clear hb169
    go_wp2_with fail
    refine (toActionS_any _ _ z _ (Hz.out.below hB175) (by omega)).mono ?_
    rintro e w177 ⟨A_v1, c_v1, rfl, o179, hb178⟩
    have lt_v1 := Lib.hid (own_lt o179)
    have o180 := EffsOwn.below o171 hb178
    clear o171
    have o181 := own_below o172 hb178
    clear o172
    have o182 := EffsOwn.below o173 hb178
    clear o173
    have o183 := own_below o174 hb178
    clear o174
    have o184 := own_below o170 hb178
    clear o170
    have hB185 := hB175.trans (hb178.mono hB175.size)
    have z186 : (World.heap w168).size ≤ (World.heap w177).size := hb178.size
    clear hb178
    go_wp2_with fail
    refine (RunSerial_any _ _ y _ _ z _ (ents_of_own o184) (by omega) (acts_of_own o179) (by omega)).mono ?_
    rintro e w187 ⟨A_h0, c_h0, A_h1, c_h1, Z_h1, S_h1, rfl, hz_h1, o189, o190, hs1_h1, hs2_h1, hlt_h1, hb188⟩
    have ⟨n_h1, l_h1, t_h1⟩ := effs_sm hz_h1 (serEf_len _ _) (serEf_small _ _)
    have lt_h1 := Lib.hid hlt_h1
    have lt_h0 := Lib.hid (own_lt o189)
    have HZ_h1 := Lib.hid hz_h1
    have L_h1 := Lib.hid l_h1
    clear hz_h1 l_h1 hlt_h1
    have o191 := EffsOwn.below o180 hb188
    clear o180
    have o192 := own_below o181 hb188
    clear o181
    have o193 := EffsOwn.below o182 hb188
    clear o182
    have o194 := own_below o183 hb188
    clear o183
    have o195 := own_below o184 hb188
    clear o184
    have o196 := own_below o179 hb188
    clear o179
    have hB197 := hB185.trans (hb188.mono hB185.size)
    have z198 : (World.heap w177).size ≤ (World.heap w187).size := hb188.size
    clear hb188
    go_wp2_with fail
    refine (eqEntryS_any _ _ _ _ _ _ _ (ents_of_own o189) (ents_of_own o192) (by omega) (by omega)).mono ?_
    rintro e w199 ⟨rfl, hb200⟩
    have o201 := EffsOwn.below o191 hb200
    clear o191
    have o202 := own_below o192 hb200
    clear o192
    have o203 := EffsOwn.below o193 hb200
    clear o193
    have o204 := own_below o194 hb200
    clear o194
    have o205 := own_below o195 hb200
    clear o195
    have o206 := own_below o196 hb200
    clear o196
    have o207 := EffsOwn.below o190 hb200
    clear o190
    have o208 := own_below o189 hb200
    clear o189
    have hB209 := hB197.trans (hb200.mono hB197.size)
    have z210 : (World.heap w187).size ≤ (World.heap w199).size := hb200.size
    clear hb200
    go_wp2_with fail
    refine (eqEffectS_any _ _ _ _ Z_h1 Z_w1 _ (EffsOwn.at_ o207) (EffsOwn.at_ o201) (by omega) (by omega) (le16 L_h1.out) (le16 L_w1.out)).mono ?_
    rintro e w211 ⟨rfl, hb212⟩
    rw [HZ_h1.out, HZ_w1.out]
    have o213 := EffsOwn.below o201 hb212
    clear o201
    have o214 := own_below o202 hb212
    clear o202
    have o215 := EffsOwn.below o203 hb212
    clear o203
    have o216 := own_below o204 hb212
    clear o204
    have o217 := own_below o205 hb212
    clear o205
    have o218 := own_below o206 hb212
    clear o206
    have o219 := EffsOwn.below o207 hb212
    clear o207
    have o220 := own_below o208 hb212
    clear o208
    have hB221 := hB209.trans (hb212.mono hB209.size)
    have z222 : (World.heap w199).size ≤ (World.heap w211).size := hb212.size
    clear hb212
    go_wp2_with fail
    refine (heldEntryS_any _ _ _ _ _ (cells_of_own o216) (by omega) (by omega) (by omega)).mono ?_
    rintro e w' ⟨rfl, rfl⟩
    go_wp2_with fail
    refine (heldEffectS_any _ _ Z_g1 (1 + ((serSt y z).length : Int) * 2) _ (EffsOwn.at_ o215) (by omega) (le16 L_g1.out) (by omega) E_g1.2).mono ?_
    rintro e w' ⟨rfl, rfl⟩
    go_wp2
    go_ret
    exact ⟨rfl, hB221⟩

/-! ### The row's step: the walk's theorem, laid into the given statement's frame -/
set_option maxRecDepth 100000 in
theorem FnExactRunSerial_lifted (os : Os) (started : os.Started) (H : Type) (enc : TypeId × Value → H) :
    ReturnsInHanded {} Try.checked os 12 .any (Rows.fnExactRunSerialSpec.pre6 enc Try.prog Try.f12 Rows.fnExactRunSerialRow.domain false) (Rows.fnExactRunSerialSpec.post enc Try.prog Try.f12 false true false false) := by
  refine returnsInHanded_of_change (C := Try.checked) own started (by kernel_rfl) Try.func12
    (ChangeSpec.witness6 (enc := enc) (C := Try.checked) false ⟨#[], #[.slice none 0 0, .slice none 0 0], []⟩ 8 (by kernel_rfl) (by kernel_rfl) (by kernel_rfl) (by kernel_rfl)) ?_
  intro W base args ds gs before hval0 hW hcnd _
  have hval : ∀ (j : Nat) t v, Try.f12.params[j]? = some t → args[j]? = some v → Value.okWide Try.prog W .any base t v := hval0
  have hW' := hW
  obtain ⟨p, q, hA0, hV, rfl, hfz, hnd⟩ := hW
  have hA : DataW.TrodAll enc Try.prog W 0 (fun _ => true) true Try.f12.params.toList args.toList ds p := hA0
  rw [Try.params12] at hA hval
  obtain ⟨v0, vs0, d0, ds0, p0, q0, hargs, rfl, rfl, h0, r0⟩ := trodAll_cons hA
  obtain ⟨v1, vs1, d1, ds1, p1, q1, rfl, rfl, rfl, h1, r1⟩ := trodAll_cons r0
  obtain ⟨rfl, rfl, rfl⟩ := trodAll_nil r1
  obtain rfl : args = #[v0, v1] := by cases args; simp_all
  obtain ⟨rfl, rfl⟩ := trodVars_none hV
  have k0 := h0
  have lt0 : ∀ x ∈ p0, x.block < W.heap.size := by obtain ⟨m, hm⟩ := k0; exact DataW.trod_lt m _ _ _ hm
  have k1 := h1
  have lt1 : ∀ x ∈ p1, x.block < W.heap.size := by obtain ⟨m, hm⟩ := k1; exact DataW.trod_lt m _ _ _ hm
  obtain ⟨A0, c0, z0, e0, m0, w0⟩ := open_ents_ h0 (okWide_slice Try.underlying36 (hval 0 36 v0 rfl rfl))
  subst e0
  obtain ⟨A1, c1, z1, e1, m1, w1⟩ := open_acts_ h1 (okWide_slice Try.underlying64 (hval 1 64 v1 rfl rfl))
  subst e1
  refine (FnExactRunSerial_walk A0 c0 z0 A1 c1 z1 W m0 w0 m1 w1).mono fun e W' ⟨he, bel⟩ => ?_
  subst he
  exact ⟨_, rfl, _, _, _, [], _, [], hW', trodAll_mk1 (shut_bool Try.underlying4 _), (trodAll_cons_mk (Below.trod laidOut (by kernel_rfl) (of_decide_eq_true (by kernel_rfl)) k0 bel lt0) (trodAll_cons_mk (Below.trod laidOut (by kernel_rfl) (of_decide_eq_true (by kernel_rfl)) k1 bel lt1) trodAll_mk0)), rfl, bel.frame _, fun h => by cases h⟩

theorem FnExactRunSerial_over : Rows.fnExactRunSerialRow.holds Try.pinned (OpenSpec.ofChange Rows.fnExactRunSerialSpec) :=
  OpenClaim.holds_of_wide 12 Try.f12 rfl rfl rfl rfl rfl rfl rfl ⟨rfl, rfl, rfl, rfl, rfl⟩ rfl rfl rfl rfl rfl (by kernel_rfl) Try.func12 (by kernel_rfl)
    (of_decide_eq_true (by kernel_rfl)) (by unfold Func.isWrapper; first | (rw [if_pos (by decide +kernel)]; kernel_rfl) | (rw [if_neg (by decide +kernel)]; exact ⟨rfl, rfl⟩))
    (fun os started H enc _ => FnExactRunSerial_lifted os started H enc)

/-- The given statement. -/
theorem FnExactRunSerial_holds : Rows.FnExactRunSerialSaid := FnExactRunSerial_over

end Go.Proofs.Ytmmfblkgappljaa
