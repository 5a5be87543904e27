/-
  Texts of a proof, one behind the other (part 6).
-/
import Derived.Shelf.SlGeneric
import Derived.Shelf.Strings.Search3
import Derived.Shelf.Strconv.Itoa3
import Derived.Shelf.Sort.Plain
import Derived.Shelf.Small.Strs
import Derived.Test.YtdbeblhifnfocaaGreatDoorProg
import Derived.Test.YtdbeblhifnfocaaGreatDoorTn4
set_option linter.unusedVariables false
set_option linter.unusedSimpArgs false
namespace Go.Proofs.YtdbeblhifnfocaaGreatDoor.Rn
set_option linter.unusedVariables false
noncomputable def ft : FT := (.node 141 Tryz.f141 (.node 71 Tryz.f71 (.node 37 Tryz.f37 (.node 20 Tryz.f20 (.node 11 Tryz.f11 (.node 7 Tryz.f7 (.node 5 Tryz.f5 (.node 4 Tryz.f4 (.node 3 Tryz.f3 .leaf .leaf) .leaf) (.node 6 Tryz.f6 .leaf .leaf)) (.node 9 Tryz.f9 (.node 8 Tryz.f8 .leaf .leaf) (.node 10 Tryz.f10 .leaf .leaf))) (.node 16 Tryz.f16 (.node 14 Tryz.f14 (.node 13 Tryz.f13 (.node 12 Tryz.f12 .leaf .leaf) .leaf) (.node 15 Tryz.f15 .leaf .leaf)) (.node 18 Tryz.f18 (.node 17 Tryz.f17 .leaf .leaf) (.node 19 Tryz.f19 .leaf .leaf)))) (.node 29 Tryz.f29 (.node 25 Tryz.f25 (.node 23 Tryz.f23 (.node 22 Tryz.f22 (.node 21 Tryz.f21 .leaf .leaf) .leaf) (.node 24 Tryz.f24 .leaf .leaf)) (.node 27 Tryz.f27 (.node 26 Tryz.f26 .leaf .leaf) (.node 28 Tryz.f28 .leaf .leaf))) (.node 33 Tryz.f33 (.node 31 Tryz.f31 (.node 30 Tryz.f30 .leaf .leaf) (.node 32 Tryz.f32 .leaf .leaf)) (.node 35 Tryz.f35 (.node 34 Tryz.f34 .leaf .leaf) (.node 36 Tryz.f36 .leaf .leaf))))) (.node 54 Tryz.f54 (.node 46 Tryz.f46 (.node 42 Tryz.f42 (.node 40 Tryz.f40 (.node 39 Tryz.f39 (.node 38 Tryz.f38 .leaf .leaf) .leaf) (.node 41 Tryz.f41 .leaf .leaf)) (.node 44 Tryz.f44 (.node 43 Tryz.f43 .leaf .leaf) (.node 45 Tryz.f45 .leaf .leaf))) (.node 50 Tryz.f50 (.node 48 Tryz.f48 (.node 47 Tryz.f47 .leaf .leaf) (.node 49 Tryz.f49 .leaf .leaf)) (.node 52 Tryz.f52 (.node 51 Tryz.f51 .leaf .leaf) (.node 53 Tryz.f53 .leaf .leaf)))) (.node 63 Tryz.f63 (.node 59 Tryz.f59 (.node 57 Tryz.f57 (.node 56 Tryz.f56 (.node 55 Tryz.f55 .leaf .leaf) .leaf) (.node 58 Tryz.f58 .leaf .leaf)) (.node 61 Tryz.f61 (.node 60 Tryz.f60 .leaf .leaf) (.node 62 Tryz.f62 .leaf .leaf))) (.node 67 Tryz.f67 (.node 65 Tryz.f65 (.node 64 Tryz.f64 .leaf .leaf) (.node 66 Tryz.f66 .leaf .leaf)) (.node 69 Tryz.f69 (.node 68 Tryz.f68 .leaf .leaf) (.node 70 Tryz.f70 .leaf .leaf)))))) (.node 106 Tryz.f106 (.node 88 Tryz.f88 (.node 80 Tryz.f80 (.node 76 Tryz.f76 (.node 74 Tryz.f74 (.node 73 Tryz.f73 (.node 72 Tryz.f72 .leaf .leaf) .leaf) (.node 75 Tryz.f75 .leaf .leaf)) (.node 78 Tryz.f78 (.node 77 Tryz.f77 .leaf .leaf) (.node 79 Tryz.f79 .leaf .leaf))) (.node 84 Tryz.f84 (.node 82 Tryz.f82 (.node 81 Tryz.f81 .leaf .leaf) (.node 83 Tryz.f83 .leaf .leaf)) (.node 86 Tryz.f86 (.node 85 Tryz.f85 .leaf .leaf) (.node 87 Tryz.f87 .leaf .leaf)))) (.node 98 Tryz.f98 (.node 94 Tryz.f94 (.node 92 Tryz.f92 (.node 91 Tryz.f91 (.node 89 Tryz.f89 .leaf .leaf) .leaf) (.node 93 Tryz.f93 .leaf .leaf)) (.node 96 Tryz.f96 (.node 95 Tryz.f95 .leaf .leaf) (.node 97 Tryz.f97 .leaf .leaf))) (.node 102 Tryz.f102 (.node 100 Tryz.f100 (.node 99 Tryz.f99 .leaf .leaf) (.node 101 Tryz.f101 .leaf .leaf)) (.node 104 Tryz.f104 (.node 103 Tryz.f103 .leaf .leaf) (.node 105 Tryz.f105 .leaf .leaf))))) (.node 123 Tryz.f123 (.node 115 Tryz.f115 (.node 111 Tryz.f111 (.node 109 Tryz.f109 (.node 108 Tryz.f108 (.node 107 Tryz.f107 .leaf .leaf) .leaf) (.node 110 Tryz.f110 .leaf .leaf)) (.node 113 Tryz.f113 (.node 112 Tryz.f112 .leaf .leaf) (.node 114 Tryz.f114 .leaf .leaf))) (.node 119 Tryz.f119 (.node 117 Tryz.f117 (.node 116 Tryz.f116 .leaf .leaf) (.node 118 Tryz.f118 .leaf .leaf)) (.node 121 Tryz.f121 (.node 120 Tryz.f120 .leaf .leaf) (.node 122 Tryz.f122 .leaf .leaf)))) (.node 132 Tryz.f132 (.node 128 Tryz.f128 (.node 126 Tryz.f126 (.node 125 Tryz.f125 (.node 124 Tryz.f124 .leaf .leaf) .leaf) (.node 127 Tryz.f127 .leaf .leaf)) (.node 130 Tryz.f130 (.node 129 Tryz.f129 .leaf .leaf) (.node 131 Tryz.f131 .leaf .leaf))) (.node 137 Tryz.f137 (.node 134 Tryz.f134 (.node 133 Tryz.f133 .leaf .leaf) (.node 136 Tryz.f136 .leaf .leaf)) (.node 139 Tryz.f139 (.node 138 Tryz.f138 .leaf .leaf) (.node 140 Tryz.f140 .leaf .leaf))))))) (.node 211 Tryz.f211 (.node 175 Tryz.f175 (.node 158 Tryz.f158 (.node 150 Tryz.f150 (.node 146 Tryz.f146 (.node 144 Tryz.f144 (.node 143 Tryz.f143 (.node 142 Tryz.f142 .leaf .leaf) .leaf) (.node 145 Tryz.f145 .leaf .leaf)) (.node 148 Tryz.f148 (.node 147 Tryz.f147 .leaf .leaf) (.node 149 Tryz.f149 .leaf .leaf))) (.node 154 Tryz.f154 (.node 152 Tryz.f152 (.node 151 Tryz.f151 .leaf .leaf) (.node 153 Tryz.f153 .leaf .leaf)) (.node 156 Tryz.f156 (.node 155 Tryz.f155 .leaf .leaf) (.node 157 Tryz.f157 .leaf .leaf)))) (.node 167 Tryz.f167 (.node 163 Tryz.f163 (.node 161 Tryz.f161 (.node 160 Tryz.f160 (.node 159 Tryz.f159 .leaf .leaf) .leaf) (.node 162 Tryz.f162 .leaf .leaf)) (.node 165 Tryz.f165 (.node 164 Tryz.f164 .leaf .leaf) (.node 166 Tryz.f166 .leaf .leaf))) (.node 171 Tryz.f171 (.node 169 Tryz.f169 (.node 168 Tryz.f168 .leaf .leaf) (.node 170 Tryz.f170 .leaf .leaf)) (.node 173 Tryz.f173 (.node 172 Tryz.f172 .leaf .leaf) (.node 174 Tryz.f174 .leaf .leaf))))) (.node 193 Tryz.f193 (.node 184 Tryz.f184 (.node 180 Tryz.f180 (.node 178 Tryz.f178 (.node 177 Tryz.f177 (.node 176 Tryz.f176 .leaf .leaf) .leaf) (.node 179 Tryz.f179 .leaf .leaf)) (.node 182 Tryz.f182 (.node 181 Tryz.f181 .leaf .leaf) (.node 183 Tryz.f183 .leaf .leaf))) (.node 189 Tryz.f189 (.node 187 Tryz.f187 (.node 185 Tryz.f185 .leaf .leaf) (.node 188 Tryz.f188 .leaf .leaf)) (.node 191 Tryz.f191 (.node 190 Tryz.f190 .leaf .leaf) (.node 192 Tryz.f192 .leaf .leaf)))) (.node 202 Tryz.f202 (.node 198 Tryz.f198 (.node 196 Tryz.f196 (.node 195 Tryz.f195 (.node 194 Tryz.f194 .leaf .leaf) .leaf) (.node 197 Tryz.f197 .leaf .leaf)) (.node 200 Tryz.f200 (.node 199 Tryz.f199 .leaf .leaf) (.node 201 Tryz.f201 .leaf .leaf))) (.node 206 Tryz.f206 (.node 204 Tryz.f204 (.node 203 Tryz.f203 .leaf .leaf) (.node 205 Tryz.f205 .leaf .leaf)) (.node 208 Tryz.f208 (.node 207 Tryz.f207 .leaf .leaf) (.node 210 Tryz.f210 .leaf .leaf)))))) (.node 250 Tryz.f250 (.node 229 Tryz.f229 (.node 220 Tryz.f220 (.node 216 Tryz.f216 (.node 214 Tryz.f214 (.node 213 Tryz.f213 (.node 212 Tryz.f212 .leaf .leaf) .leaf) (.node 215 Tryz.f215 .leaf .leaf)) (.node 218 Tryz.f218 (.node 217 Tryz.f217 .leaf .leaf) (.node 219 Tryz.f219 .leaf .leaf))) (.node 224 Tryz.f224 (.node 222 Tryz.f222 (.node 221 Tryz.f221 .leaf .leaf) (.node 223 Tryz.f223 .leaf .leaf)) (.node 227 Tryz.f227 (.node 226 Tryz.f226 .leaf .leaf) (.node 228 Tryz.f228 .leaf .leaf)))) (.node 242 Tryz.f242 (.node 234 Tryz.f234 (.node 232 Tryz.f232 (.node 231 Tryz.f231 (.node 230 Tryz.f230 .leaf .leaf) .leaf) (.node 233 Tryz.f233 .leaf .leaf)) (.node 236 Tryz.f236 (.node 235 Tryz.f235 .leaf .leaf) (.node 241 Tryz.f241 .leaf .leaf))) (.node 246 Tryz.f246 (.node 244 Tryz.f244 (.node 243 Tryz.f243 .leaf .leaf) (.node 245 Tryz.f245 .leaf .leaf)) (.node 248 Tryz.f248 (.node 247 Tryz.f247 .leaf .leaf) (.node 249 Tryz.f249 .leaf .leaf))))) (.node 274 Tryz.f274 (.node 259 Tryz.f259 (.node 255 Tryz.f255 (.node 253 Tryz.f253 (.node 252 Tryz.f252 (.node 251 Tryz.f251 .leaf .leaf) .leaf) (.node 254 Tryz.f254 .leaf .leaf)) (.node 257 Tryz.f257 (.node 256 Tryz.f256 .leaf .leaf) (.node 258 Tryz.f258 .leaf .leaf))) (.node 263 Tryz.f263 (.node 261 Tryz.f261 (.node 260 Tryz.f260 .leaf .leaf) (.node 262 Tryz.f262 .leaf .leaf)) (.node 265 Tryz.f265 (.node 264 Tryz.f264 .leaf .leaf) (.node 273 Tryz.f273 .leaf .leaf)))) (.node 283 Tryz.f283 (.node 279 Tryz.f279 (.node 277 Tryz.f277 (.node 276 Tryz.f276 (.node 275 Tryz.f275 .leaf .leaf) .leaf) (.node 278 Tryz.f278 .leaf .leaf)) (.node 281 Tryz.f281 (.node 280 Tryz.f280 .leaf .leaf) (.node 282 Tryz.f282 .leaf .leaf))) (.node 289 Tryz.f289 (.node 287 Tryz.f287 (.node 286 Tryz.f286 .leaf .leaf) (.node 288 Tryz.f288 .leaf .leaf)) (.node 291 Tryz.f291 (.node 290 Tryz.f290 .leaf .leaf) (.node 292 Tryz.f292 .leaf .leaf))))))))
theorem go3 : Ab.isGo Tryz.prog 3 = true := by kernel_rfl
theorem go4 : Ab.isGo Tryz.prog 4 = true := by kernel_rfl
theorem go5 : Ab.isGo Tryz.prog 5 = true := by kernel_rfl
theorem go6 : Ab.isGo Tryz.prog 6 = true := by kernel_rfl
theorem go7 : Ab.isGo Tryz.prog 7 = true := by kernel_rfl
theorem go8 : Ab.isGo Tryz.prog 8 = true := by kernel_rfl
theorem go9 : Ab.isGo Tryz.prog 9 = true := by kernel_rfl
theorem go10 : Ab.isGo Tryz.prog 10 = true := by kernel_rfl
theorem go11 : Ab.isGo Tryz.prog 11 = true := by kernel_rfl
theorem go12 : Ab.isGo Tryz.prog 12 = true := by kernel_rfl
theorem go13 : Ab.isGo Tryz.prog 13 = true := by kernel_rfl
theorem go14 : Ab.isGo Tryz.prog 14 = true := by kernel_rfl
theorem go15 : Ab.isGo Tryz.prog 15 = true := by kernel_rfl
theorem go16 : Ab.isGo Tryz.prog 16 = true := by kernel_rfl
theorem go17 : Ab.isGo Tryz.prog 17 = true := by kernel_rfl
theorem go18 : Ab.isGo Tryz.prog 18 = true := by kernel_rfl
theorem go19 : Ab.isGo Tryz.prog 19 = true := by kernel_rfl
theorem go20 : Ab.isGo Tryz.prog 20 = true := by kernel_rfl
theorem go21 : Ab.isGo Tryz.prog 21 = true := by kernel_rfl
theorem go22 : Ab.isGo Tryz.prog 22 = true := by kernel_rfl
theorem go23 : Ab.isGo Tryz.prog 23 = true := by kernel_rfl
theorem go24 : Ab.isGo Tryz.prog 24 = true := by kernel_rfl
theorem go25 : Ab.isGo Tryz.prog 25 = true := by kernel_rfl
theorem go26 : Ab.isGo Tryz.prog 26 = true := by kernel_rfl
theorem go27 : Ab.isGo Tryz.prog 27 = true := by kernel_rfl
theorem go28 : Ab.isGo Tryz.prog 28 = true := by kernel_rfl
theorem go29 : Ab.isGo Tryz.prog 29 = true := by kernel_rfl
theorem go30 : Ab.isGo Tryz.prog 30 = true := by kernel_rfl
theorem go31 : Ab.isGo Tryz.prog 31 = true := by kernel_rfl
theorem go32 : Ab.isGo Tryz.prog 32 = true := by kernel_rfl
theorem go33 : Ab.isGo Tryz.prog 33 = true := by kernel_rfl
theorem go34 : Ab.isGo Tryz.prog 34 = true := by kernel_rfl
theorem go35 : Ab.isGo Tryz.prog 35 = true := by kernel_rfl
theorem go36 : Ab.isGo Tryz.prog 36 = true := by kernel_rfl
theorem go37 : Ab.isGo Tryz.prog 37 = true := by kernel_rfl
theorem go38 : Ab.isGo Tryz.prog 38 = true := by kernel_rfl
theorem go39 : Ab.isGo Tryz.prog 39 = true := by kernel_rfl
theorem go40 : Ab.isGo Tryz.prog 40 = true := by kernel_rfl
theorem go41 : Ab.isGo Tryz.prog 41 = true := by kernel_rfl
theorem go42 : Ab.isGo Tryz.prog 42 = true := by kernel_rfl
theorem go43 : Ab.isGo Tryz.prog 43 = true := by kernel_rfl
theorem go44 : Ab.isGo Tryz.prog 44 = true := by kernel_rfl
theorem go45 : Ab.isGo Tryz.prog 45 = true := by kernel_rfl
theorem go46 : Ab.isGo Tryz.prog 46 = true := by kernel_rfl
theorem go47 : Ab.isGo Tryz.prog 47 = true := by kernel_rfl
theorem go48 : Ab.isGo Tryz.prog 48 = true := by kernel_rfl
theorem go49 : Ab.isGo Tryz.prog 49 = true := by kernel_rfl
theorem go50 : Ab.isGo Tryz.prog 50 = true := by kernel_rfl
theorem go51 : Ab.isGo Tryz.prog 51 = true := by kernel_rfl
theorem go52 : Ab.isGo Tryz.prog 52 = true := by kernel_rfl
theorem go53 : Ab.isGo Tryz.prog 53 = true := by kernel_rfl
theorem go54 : Ab.isGo Tryz.prog 54 = true := by kernel_rfl
theorem go55 : Ab.isGo Tryz.prog 55 = true := by kernel_rfl
theorem go56 : Ab.isGo Tryz.prog 56 = true := by kernel_rfl
theorem go57 : Ab.isGo Tryz.prog 57 = true := by kernel_rfl
theorem go58 : Ab.isGo Tryz.prog 58 = true := by kernel_rfl
theorem go59 : Ab.isGo Tryz.prog 59 = true := by kernel_rfl
theorem go60 : Ab.isGo Tryz.prog 60 = true := by kernel_rfl
theorem go61 : Ab.isGo Tryz.prog 61 = true := by kernel_rfl
theorem go62 : Ab.isGo Tryz.prog 62 = true := by kernel_rfl
theorem go63 : Ab.isGo Tryz.prog 63 = true := by kernel_rfl
theorem go64 : Ab.isGo Tryz.prog 64 = true := by kernel_rfl
theorem go65 : Ab.isGo Tryz.prog 65 = true := by kernel_rfl
theorem go66 : Ab.isGo Tryz.prog 66 = true := by kernel_rfl
theorem go67 : Ab.isGo Tryz.prog 67 = true := by kernel_rfl
theorem go68 : Ab.isGo Tryz.prog 68 = true := by kernel_rfl
theorem go69 : Ab.isGo Tryz.prog 69 = true := by kernel_rfl
theorem go70 : Ab.isGo Tryz.prog 70 = true := by kernel_rfl
theorem go71 : Ab.isGo Tryz.prog 71 = true := by kernel_rfl
theorem go72 : Ab.isGo Tryz.prog 72 = true := by kernel_rfl
theorem go73 : Ab.isGo Tryz.prog 73 = true := by kernel_rfl
theorem go74 : Ab.isGo Tryz.prog 74 = true := by kernel_rfl
theorem go75 : Ab.isGo Tryz.prog 75 = true := by kernel_rfl
theorem go76 : Ab.isGo Tryz.prog 76 = true := by kernel_rfl
theorem go77 : Ab.isGo Tryz.prog 77 = true := by kernel_rfl
theorem go78 : Ab.isGo Tryz.prog 78 = true := by kernel_rfl
theorem go79 : Ab.isGo Tryz.prog 79 = true := by kernel_rfl
theorem go80 : Ab.isGo Tryz.prog 80 = true := by kernel_rfl
theorem go81 : Ab.isGo Tryz.prog 81 = true := by kernel_rfl
theorem go82 : Ab.isGo Tryz.prog 82 = true := by kernel_rfl
theorem go83 : Ab.isGo Tryz.prog 83 = true := by kernel_rfl
theorem go84 : Ab.isGo Tryz.prog 84 = true := by kernel_rfl
theorem go85 : Ab.isGo Tryz.prog 85 = true := by kernel_rfl
theorem go86 : Ab.isGo Tryz.prog 86 = true := by kernel_rfl
theorem go87 : Ab.isGo Tryz.prog 87 = true := by kernel_rfl
theorem go88 : Ab.isGo Tryz.prog 88 = true := by kernel_rfl
theorem go89 : Ab.isGo Tryz.prog 89 = true := by kernel_rfl
theorem go91 : Ab.isGo Tryz.prog 91 = true := by kernel_rfl
theorem go92 : Ab.isGo Tryz.prog 92 = true := by kernel_rfl
theorem go93 : Ab.isGo Tryz.prog 93 = true := by kernel_rfl
theorem go94 : Ab.isGo Tryz.prog 94 = true := by kernel_rfl
theorem go95 : Ab.isGo Tryz.prog 95 = true := by kernel_rfl
theorem go96 : Ab.isGo Tryz.prog 96 = true := by kernel_rfl
theorem go97 : Ab.isGo Tryz.prog 97 = true := by kernel_rfl
theorem go98 : Ab.isGo Tryz.prog 98 = true := by kernel_rfl
theorem go99 : Ab.isGo Tryz.prog 99 = true := by kernel_rfl
theorem go100 : Ab.isGo Tryz.prog 100 = true := by kernel_rfl
theorem go101 : Ab.isGo Tryz.prog 101 = true := by kernel_rfl
theorem go102 : Ab.isGo Tryz.prog 102 = true := by kernel_rfl
theorem go103 : Ab.isGo Tryz.prog 103 = true := by kernel_rfl
theorem go104 : Ab.isGo Tryz.prog 104 = true := by kernel_rfl
theorem go105 : Ab.isGo Tryz.prog 105 = true := by kernel_rfl
theorem go106 : Ab.isGo Tryz.prog 106 = true := by kernel_rfl
theorem go107 : Ab.isGo Tryz.prog 107 = true := by kernel_rfl
theorem go108 : Ab.isGo Tryz.prog 108 = true := by kernel_rfl
theorem go109 : Ab.isGo Tryz.prog 109 = true := by kernel_rfl
theorem go110 : Ab.isGo Tryz.prog 110 = true := by kernel_rfl
theorem go111 : Ab.isGo Tryz.prog 111 = true := by kernel_rfl
theorem go112 : Ab.isGo Tryz.prog 112 = true := by kernel_rfl
theorem go113 : Ab.isGo Tryz.prog 113 = true := by kernel_rfl
theorem go114 : Ab.isGo Tryz.prog 114 = true := by kernel_rfl
theorem go115 : Ab.isGo Tryz.prog 115 = true := by kernel_rfl
theorem go116 : Ab.isGo Tryz.prog 116 = true := by kernel_rfl
theorem go117 : Ab.isGo Tryz.prog 117 = true := by kernel_rfl
theorem go118 : Ab.isGo Tryz.prog 118 = true := by kernel_rfl
theorem go119 : Ab.isGo Tryz.prog 119 = true := by kernel_rfl
theorem go120 : Ab.isGo Tryz.prog 120 = true := by kernel_rfl
theorem go121 : Ab.isGo Tryz.prog 121 = true := by kernel_rfl
theorem go122 : Ab.isGo Tryz.prog 122 = true := by kernel_rfl
theorem go123 : Ab.isGo Tryz.prog 123 = true := by kernel_rfl
theorem go124 : Ab.isGo Tryz.prog 124 = true := by kernel_rfl
theorem go125 : Ab.isGo Tryz.prog 125 = true := by kernel_rfl
theorem go126 : Ab.isGo Tryz.prog 126 = true := by kernel_rfl
theorem go127 : Ab.isGo Tryz.prog 127 = true := by kernel_rfl
theorem go128 : Ab.isGo Tryz.prog 128 = true := by kernel_rfl
theorem go129 : Ab.isGo Tryz.prog 129 = true := by kernel_rfl
theorem go130 : Ab.isGo Tryz.prog 130 = true := by kernel_rfl
theorem go131 : Ab.isGo Tryz.prog 131 = true := by kernel_rfl
theorem go132 : Ab.isGo Tryz.prog 132 = true := by kernel_rfl
theorem go133 : Ab.isGo Tryz.prog 133 = true := by kernel_rfl
theorem go134 : Ab.isGo Tryz.prog 134 = true := by kernel_rfl
theorem go136 : Ab.isGo Tryz.prog 136 = true := by kernel_rfl
theorem go137 : Ab.isGo Tryz.prog 137 = true := by kernel_rfl
theorem go138 : Ab.isGo Tryz.prog 138 = true := by kernel_rfl
theorem go139 : Ab.isGo Tryz.prog 139 = true := by kernel_rfl
theorem go140 : Ab.isGo Tryz.prog 140 = true := by kernel_rfl
theorem go141 : Ab.isGo Tryz.prog 141 = true := by kernel_rfl
theorem go142 : Ab.isGo Tryz.prog 142 = true := by kernel_rfl
theorem go143 : Ab.isGo Tryz.prog 143 = true := by kernel_rfl
theorem go144 : Ab.isGo Tryz.prog 144 = true := by kernel_rfl
theorem go145 : Ab.isGo Tryz.prog 145 = true := by kernel_rfl
theorem go146 : Ab.isGo Tryz.prog 146 = true := by kernel_rfl
theorem go147 : Ab.isGo Tryz.prog 147 = true := by kernel_rfl
theorem go148 : Ab.isGo Tryz.prog 148 = true := by kernel_rfl
theorem go149 : Ab.isGo Tryz.prog 149 = true := by kernel_rfl
theorem go150 : Ab.isGo Tryz.prog 150 = true := by kernel_rfl
theorem go151 : Ab.isGo Tryz.prog 151 = true := by kernel_rfl
theorem go152 : Ab.isGo Tryz.prog 152 = true := by kernel_rfl
theorem go153 : Ab.isGo Tryz.prog 153 = true := by kernel_rfl
theorem go154 : Ab.isGo Tryz.prog 154 = true := by kernel_rfl
theorem go155 : Ab.isGo Tryz.prog 155 = true := by kernel_rfl
theorem go156 : Ab.isGo Tryz.prog 156 = true := by kernel_rfl
theorem go157 : Ab.isGo Tryz.prog 157 = true := by kernel_rfl
theorem go158 : Ab.isGo Tryz.prog 158 = true := by kernel_rfl
theorem go159 : Ab.isGo Tryz.prog 159 = true := by kernel_rfl
theorem go160 : Ab.isGo Tryz.prog 160 = true := by kernel_rfl
theorem go161 : Ab.isGo Tryz.prog 161 = true := by kernel_rfl
theorem go162 : Ab.isGo Tryz.prog 162 = true := by kernel_rfl
theorem go163 : Ab.isGo Tryz.prog 163 = true := by kernel_rfl
theorem go164 : Ab.isGo Tryz.prog 164 = true := by kernel_rfl
theorem go165 : Ab.isGo Tryz.prog 165 = true := by kernel_rfl
theorem go166 : Ab.isGo Tryz.prog 166 = true := by kernel_rfl
theorem go167 : Ab.isGo Tryz.prog 167 = true := by kernel_rfl
theorem go168 : Ab.isGo Tryz.prog 168 = true := by kernel_rfl
theorem go169 : Ab.isGo Tryz.prog 169 = true := by kernel_rfl
theorem go170 : Ab.isGo Tryz.prog 170 = true := by kernel_rfl
theorem go171 : Ab.isGo Tryz.prog 171 = true := by kernel_rfl
theorem go172 : Ab.isGo Tryz.prog 172 = true := by kernel_rfl
theorem go173 : Ab.isGo Tryz.prog 173 = true := by kernel_rfl
theorem go174 : Ab.isGo Tryz.prog 174 = true := by kernel_rfl
theorem go175 : Ab.isGo Tryz.prog 175 = true := by kernel_rfl
theorem go176 : Ab.isGo Tryz.prog 176 = true := by kernel_rfl
theorem go177 : Ab.isGo Tryz.prog 177 = true := by kernel_rfl
theorem go178 : Ab.isGo Tryz.prog 178 = true := by kernel_rfl
theorem go179 : Ab.isGo Tryz.prog 179 = true := by kernel_rfl
theorem go180 : Ab.isGo Tryz.prog 180 = true := by kernel_rfl
theorem go181 : Ab.isGo Tryz.prog 181 = true := by kernel_rfl
theorem go182 : Ab.isGo Tryz.prog 182 = true := by kernel_rfl
theorem go183 : Ab.isGo Tryz.prog 183 = true := by kernel_rfl
theorem go184 : Ab.isGo Tryz.prog 184 = true := by kernel_rfl
theorem go185 : Ab.isGo Tryz.prog 185 = true := by kernel_rfl
theorem go187 : Ab.isGo Tryz.prog 187 = true := by kernel_rfl
theorem go188 : Ab.isGo Tryz.prog 188 = true := by kernel_rfl
theorem go189 : Ab.isGo Tryz.prog 189 = true := by kernel_rfl
theorem go190 : Ab.isGo Tryz.prog 190 = true := by kernel_rfl
theorem go191 : Ab.isGo Tryz.prog 191 = true := by kernel_rfl
theorem go192 : Ab.isGo Tryz.prog 192 = true := by kernel_rfl
theorem go193 : Ab.isGo Tryz.prog 193 = true := by kernel_rfl
theorem go194 : Ab.isGo Tryz.prog 194 = true := by kernel_rfl
theorem go195 : Ab.isGo Tryz.prog 195 = true := by kernel_rfl
theorem go196 : Ab.isGo Tryz.prog 196 = true := by kernel_rfl
theorem go197 : Ab.isGo Tryz.prog 197 = true := by kernel_rfl
theorem go198 : Ab.isGo Tryz.prog 198 = true := by kernel_rfl
theorem go199 : Ab.isGo Tryz.prog 199 = true := by kernel_rfl
theorem go200 : Ab.isGo Tryz.prog 200 = true := by kernel_rfl
theorem go201 : Ab.isGo Tryz.prog 201 = true := by kernel_rfl
theorem go202 : Ab.isGo Tryz.prog 202 = true := by kernel_rfl
theorem go203 : Ab.isGo Tryz.prog 203 = true := by kernel_rfl
theorem go204 : Ab.isGo Tryz.prog 204 = true := by kernel_rfl
theorem go205 : Ab.isGo Tryz.prog 205 = true := by kernel_rfl
theorem go206 : Ab.isGo Tryz.prog 206 = true := by kernel_rfl
theorem go207 : Ab.isGo Tryz.prog 207 = true := by kernel_rfl
theorem go208 : Ab.isGo Tryz.prog 208 = true := by kernel_rfl
theorem go210 : Ab.isGo Tryz.prog 210 = true := by kernel_rfl
theorem go211 : Ab.isGo Tryz.prog 211 = true := by kernel_rfl
theorem go212 : Ab.isGo Tryz.prog 212 = true := by kernel_rfl
theorem go213 : Ab.isGo Tryz.prog 213 = true := by kernel_rfl
theorem go214 : Ab.isGo Tryz.prog 214 = true := by kernel_rfl
theorem go215 : Ab.isGo Tryz.prog 215 = true := by kernel_rfl
theorem go216 : Ab.isGo Tryz.prog 216 = true := by kernel_rfl
theorem go217 : Ab.isGo Tryz.prog 217 = true := by kernel_rfl
theorem go218 : Ab.isGo Tryz.prog 218 = true := by kernel_rfl
theorem go219 : Ab.isGo Tryz.prog 219 = true := by kernel_rfl
theorem go220 : Ab.isGo Tryz.prog 220 = true := by kernel_rfl
theorem go221 : Ab.isGo Tryz.prog 221 = true := by kernel_rfl
theorem go222 : Ab.isGo Tryz.prog 222 = true := by kernel_rfl
theorem go223 : Ab.isGo Tryz.prog 223 = true := by kernel_rfl
theorem go224 : Ab.isGo Tryz.prog 224 = true := by kernel_rfl
theorem go226 : Ab.isGo Tryz.prog 226 = true := by kernel_rfl
theorem go227 : Ab.isGo Tryz.prog 227 = true := by kernel_rfl
theorem go228 : Ab.isGo Tryz.prog 228 = true := by kernel_rfl
theorem go229 : Ab.isGo Tryz.prog 229 = true := by kernel_rfl
theorem go230 : Ab.isGo Tryz.prog 230 = true := by kernel_rfl
theorem go231 : Ab.isGo Tryz.prog 231 = true := by kernel_rfl
theorem go232 : Ab.isGo Tryz.prog 232 = true := by kernel_rfl
theorem go233 : Ab.isGo Tryz.prog 233 = true := by kernel_rfl
theorem go234 : Ab.isGo Tryz.prog 234 = true := by kernel_rfl
theorem go235 : Ab.isGo Tryz.prog 235 = true := by kernel_rfl
theorem go236 : Ab.isGo Tryz.prog 236 = true := by kernel_rfl
theorem go241 : Ab.isGo Tryz.prog 241 = true := by kernel_rfl
theorem go242 : Ab.isGo Tryz.prog 242 = true := by kernel_rfl
theorem go243 : Ab.isGo Tryz.prog 243 = true := by kernel_rfl
theorem go244 : Ab.isGo Tryz.prog 244 = true := by kernel_rfl
theorem go245 : Ab.isGo Tryz.prog 245 = true := by kernel_rfl
theorem go246 : Ab.isGo Tryz.prog 246 = true := by kernel_rfl
theorem go247 : Ab.isGo Tryz.prog 247 = true := by kernel_rfl
theorem go248 : Ab.isGo Tryz.prog 248 = true := by kernel_rfl
theorem go249 : Ab.isGo Tryz.prog 249 = true := by kernel_rfl
theorem go250 : Ab.isGo Tryz.prog 250 = true := by kernel_rfl
theorem go251 : Ab.isGo Tryz.prog 251 = true := by kernel_rfl
theorem go252 : Ab.isGo Tryz.prog 252 = true := by kernel_rfl
theorem go253 : Ab.isGo Tryz.prog 253 = true := by kernel_rfl
theorem go254 : Ab.isGo Tryz.prog 254 = true := by kernel_rfl
theorem go255 : Ab.isGo Tryz.prog 255 = true := by kernel_rfl
theorem go256 : Ab.isGo Tryz.prog 256 = true := by kernel_rfl
theorem go257 : Ab.isGo Tryz.prog 257 = true := by kernel_rfl
theorem go258 : Ab.isGo Tryz.prog 258 = true := by kernel_rfl
theorem go259 : Ab.isGo Tryz.prog 259 = true := by kernel_rfl
theorem go260 : Ab.isGo Tryz.prog 260 = true := by kernel_rfl
theorem go261 : Ab.isGo Tryz.prog 261 = true := by kernel_rfl
theorem go262 : Ab.isGo Tryz.prog 262 = true := by kernel_rfl
theorem go263 : Ab.isGo Tryz.prog 263 = true := by kernel_rfl
theorem go264 : Ab.isGo Tryz.prog 264 = true := by kernel_rfl
theorem go265 : Ab.isGo Tryz.prog 265 = true := by kernel_rfl
theorem go273 : Ab.isGo Tryz.prog 273 = true := by kernel_rfl
theorem go274 : Ab.isGo Tryz.prog 274 = true := by kernel_rfl
theorem go275 : Ab.isGo Tryz.prog 275 = true := by kernel_rfl
theorem go276 : Ab.isGo Tryz.prog 276 = true := by kernel_rfl
theorem go277 : Ab.isGo Tryz.prog 277 = true := by kernel_rfl
theorem go278 : Ab.isGo Tryz.prog 278 = true := by kernel_rfl
theorem go279 : Ab.isGo Tryz.prog 279 = true := by kernel_rfl
theorem go280 : Ab.isGo Tryz.prog 280 = true := by kernel_rfl
theorem go281 : Ab.isGo Tryz.prog 281 = true := by kernel_rfl
theorem go282 : Ab.isGo Tryz.prog 282 = true := by kernel_rfl
theorem go283 : Ab.isGo Tryz.prog 283 = true := by kernel_rfl
theorem go286 : Ab.isGo Tryz.prog 286 = true := by kernel_rfl
theorem go287 : Ab.isGo Tryz.prog 287 = true := by kernel_rfl
theorem go288 : Ab.isGo Tryz.prog 288 = true := by kernel_rfl
theorem go289 : Ab.isGo Tryz.prog 289 = true := by kernel_rfl
theorem go290 : Ab.isGo Tryz.prog 290 = true := by kernel_rfl
theorem go291 : Ab.isGo Tryz.prog 291 = true := by kernel_rfl
theorem go292 : Ab.isGo Tryz.prog 292 = true := by kernel_rfl
set_option maxRecDepth 100000 in
theorem ftOk : FOk Tryz.prog ft := (.node Tryz.func141 go141 (.node Tryz.func71 go71 (.node Tryz.func37 go37 (.node Tryz.func20 go20 (.node Tryz.func11 go11 (.node Tryz.func7 go7 (.node Tryz.func5 go5 (.node Tryz.func4 go4 (.node Tryz.func3 go3 (.leaf _) (.leaf _)) (.leaf _)) (.node Tryz.func6 go6 (.leaf _) (.leaf _))) (.node Tryz.func9 go9 (.node Tryz.func8 go8 (.leaf _) (.leaf _)) (.node Tryz.func10 go10 (.leaf _) (.leaf _)))) (.node Tryz.func16 go16 (.node Tryz.func14 go14 (.node Tryz.func13 go13 (.node Tryz.func12 go12 (.leaf _) (.leaf _)) (.leaf _)) (.node Tryz.func15 go15 (.leaf _) (.leaf _))) (.node Tryz.func18 go18 (.node Tryz.func17 go17 (.leaf _) (.leaf _)) (.node Tryz.func19 go19 (.leaf _) (.leaf _))))) (.node Tryz.func29 go29 (.node Tryz.func25 go25 (.node Tryz.func23 go23 (.node Tryz.func22 go22 (.node Tryz.func21 go21 (.leaf _) (.leaf _)) (.leaf _)) (.node Tryz.func24 go24 (.leaf _) (.leaf _))) (.node Tryz.func27 go27 (.node Tryz.func26 go26 (.leaf _) (.leaf _)) (.node Tryz.func28 go28 (.leaf _) (.leaf _)))) (.node Tryz.func33 go33 (.node Tryz.func31 go31 (.node Tryz.func30 go30 (.leaf _) (.leaf _)) (.node Tryz.func32 go32 (.leaf _) (.leaf _))) (.node Tryz.func35 go35 (.node Tryz.func34 go34 (.leaf _) (.leaf _)) (.node Tryz.func36 go36 (.leaf _) (.leaf _)))))) (.node Tryz.func54 go54 (.node Tryz.func46 go46 (.node Tryz.func42 go42 (.node Tryz.func40 go40 (.node Tryz.func39 go39 (.node Tryz.func38 go38 (.leaf _) (.leaf _)) (.leaf _)) (.node Tryz.func41 go41 (.leaf _) (.leaf _))) (.node Tryz.func44 go44 (.node Tryz.func43 go43 (.leaf _) (.leaf _)) (.node Tryz.func45 go45 (.leaf _) (.leaf _)))) (.node Tryz.func50 go50 (.node Tryz.func48 go48 (.node Tryz.func47 go47 (.leaf _) (.leaf _)) (.node Tryz.func49 go49 (.leaf _) (.leaf _))) (.node Tryz.func52 go52 (.node Tryz.func51 go51 (.leaf _) (.leaf _)) (.node Tryz.func53 go53 (.leaf _) (.leaf _))))) (.node Tryz.func63 go63 (.node Tryz.func59 go59 (.node Tryz.func57 go57 (.node Tryz.func56 go56 (.node Tryz.func55 go55 (.leaf _) (.leaf _)) (.leaf _)) (.node Tryz.func58 go58 (.leaf _) (.leaf _))) (.node Tryz.func61 go61 (.node Tryz.func60 go60 (.leaf _) (.leaf _)) (.node Tryz.func62 go62 (.leaf _) (.leaf _)))) (.node Tryz.func67 go67 (.node Tryz.func65 go65 (.node Tryz.func64 go64 (.leaf _) (.leaf _)) (.node Tryz.func66 go66 (.leaf _) (.leaf _))) (.node Tryz.func69 go69 (.node Tryz.func68 go68 (.leaf _) (.leaf _)) (.node Tryz.func70 go70 (.leaf _) (.leaf _))))))) (.node Tryz.func106 go106 (.node Tryz.func88 go88 (.node Tryz.func80 go80 (.node Tryz.func76 go76 (.node Tryz.func74 go74 (.node Tryz.func73 go73 (.node Tryz.func72 go72 (.leaf _) (.leaf _)) (.leaf _)) (.node Tryz.func75 go75 (.leaf _) (.leaf _))) (.node Tryz.func78 go78 (.node Tryz.func77 go77 (.leaf _) (.leaf _)) (.node Tryz.func79 go79 (.leaf _) (.leaf _)))) (.node Tryz.func84 go84 (.node Tryz.func82 go82 (.node Tryz.func81 go81 (.leaf _) (.leaf _)) (.node Tryz.func83 go83 (.leaf _) (.leaf _))) (.node Tryz.func86 go86 (.node Tryz.func85 go85 (.leaf _) (.leaf _)) (.node Tryz.func87 go87 (.leaf _) (.leaf _))))) (.node Tryz.func98 go98 (.node Tryz.func94 go94 (.node Tryz.func92 go92 (.node Tryz.func91 go91 (.node Tryz.func89 go89 (.leaf _) (.leaf _)) (.leaf _)) (.node Tryz.func93 go93 (.leaf _) (.leaf _))) (.node Tryz.func96 go96 (.node Tryz.func95 go95 (.leaf _) (.leaf _)) (.node Tryz.func97 go97 (.leaf _) (.leaf _)))) (.node Tryz.func102 go102 (.node Tryz.func100 go100 (.node Tryz.func99 go99 (.leaf _) (.leaf _)) (.node Tryz.func101 go101 (.leaf _) (.leaf _))) (.node Tryz.func104 go104 (.node Tryz.func103 go103 (.leaf _) (.leaf _)) (.node Tryz.func105 go105 (.leaf _) (.leaf _)))))) (.node Tryz.func123 go123 (.node Tryz.func115 go115 (.node Tryz.func111 go111 (.node Tryz.func109 go109 (.node Tryz.func108 go108 (.node Tryz.func107 go107 (.leaf _) (.leaf _)) (.leaf _)) (.node Tryz.func110 go110 (.leaf _) (.leaf _))) (.node Tryz.func113 go113 (.node Tryz.func112 go112 (.leaf _) (.leaf _)) (.node Tryz.func114 go114 (.leaf _) (.leaf _)))) (.node Tryz.func119 go119 (.node Tryz.func117 go117 (.node Tryz.func116 go116 (.leaf _) (.leaf _)) (.node Tryz.func118 go118 (.leaf _) (.leaf _))) (.node Tryz.func121 go121 (.node Tryz.func120 go120 (.leaf _) (.leaf _)) (.node Tryz.func122 go122 (.leaf _) (.leaf _))))) (.node Tryz.func132 go132 (.node Tryz.func128 go128 (.node Tryz.func126 go126 (.node Tryz.func125 go125 (.node Tryz.func124 go124 (.leaf _) (.leaf _)) (.leaf _)) (.node Tryz.func127 go127 (.leaf _) (.leaf _))) (.node Tryz.func130 go130 (.node Tryz.func129 go129 (.leaf _) (.leaf _)) (.node Tryz.func131 go131 (.leaf _) (.leaf _)))) (.node Tryz.func137 go137 (.node Tryz.func134 go134 (.node Tryz.func133 go133 (.leaf _) (.leaf _)) (.node Tryz.func136 go136 (.leaf _) (.leaf _))) (.node Tryz.func139 go139 (.node Tryz.func138 go138 (.leaf _) (.leaf _)) (.node Tryz.func140 go140 (.leaf _) (.leaf _)))))))) (.node Tryz.func211 go211 (.node Tryz.func175 go175 (.node Tryz.func158 go158 (.node Tryz.func150 go150 (.node Tryz.func146 go146 (.node Tryz.func144 go144 (.node Tryz.func143 go143 (.node Tryz.func142 go142 (.leaf _) (.leaf _)) (.leaf _)) (.node Tryz.func145 go145 (.leaf _) (.leaf _))) (.node Tryz.func148 go148 (.node Tryz.func147 go147 (.leaf _) (.leaf _)) (.node Tryz.func149 go149 (.leaf _) (.leaf _)))) (.node Tryz.func154 go154 (.node Tryz.func152 go152 (.node Tryz.func151 go151 (.leaf _) (.leaf _)) (.node Tryz.func153 go153 (.leaf _) (.leaf _))) (.node Tryz.func156 go156 (.node Tryz.func155 go155 (.leaf _) (.leaf _)) (.node Tryz.func157 go157 (.leaf _) (.leaf _))))) (.node Tryz.func167 go167 (.node Tryz.func163 go163 (.node Tryz.func161 go161 (.node Tryz.func160 go160 (.node Tryz.func159 go159 (.leaf _) (.leaf _)) (.leaf _)) (.node Tryz.func162 go162 (.leaf _) (.leaf _))) (.node Tryz.func165 go165 (.node Tryz.func164 go164 (.leaf _) (.leaf _)) (.node Tryz.func166 go166 (.leaf _) (.leaf _)))) (.node Tryz.func171 go171 (.node Tryz.func169 go169 (.node Tryz.func168 go168 (.leaf _) (.leaf _)) (.node Tryz.func170 go170 (.leaf _) (.leaf _))) (.node Tryz.func173 go173 (.node Tryz.func172 go172 (.leaf _) (.leaf _)) (.node Tryz.func174 go174 (.leaf _) (.leaf _)))))) (.node Tryz.func193 go193 (.node Tryz.func184 go184 (.node Tryz.func180 go180 (.node Tryz.func178 go178 (.node Tryz.func177 go177 (.node Tryz.func176 go176 (.leaf _) (.leaf _)) (.leaf _)) (.node Tryz.func179 go179 (.leaf _) (.leaf _))) (.node Tryz.func182 go182 (.node Tryz.func181 go181 (.leaf _) (.leaf _)) (.node Tryz.func183 go183 (.leaf _) (.leaf _)))) (.node Tryz.func189 go189 (.node Tryz.func187 go187 (.node Tryz.func185 go185 (.leaf _) (.leaf _)) (.node Tryz.func188 go188 (.leaf _) (.leaf _))) (.node Tryz.func191 go191 (.node Tryz.func190 go190 (.leaf _) (.leaf _)) (.node Tryz.func192 go192 (.leaf _) (.leaf _))))) (.node Tryz.func202 go202 (.node Tryz.func198 go198 (.node Tryz.func196 go196 (.node Tryz.func195 go195 (.node Tryz.func194 go194 (.leaf _) (.leaf _)) (.leaf _)) (.node Tryz.func197 go197 (.leaf _) (.leaf _))) (.node Tryz.func200 go200 (.node Tryz.func199 go199 (.leaf _) (.leaf _)) (.node Tryz.func201 go201 (.leaf _) (.leaf _)))) (.node Tryz.func206 go206 (.node Tryz.func204 go204 (.node Tryz.func203 go203 (.leaf _) (.leaf _)) (.node Tryz.func205 go205 (.leaf _) (.leaf _))) (.node Tryz.func208 go208 (.node Tryz.func207 go207 (.leaf _) (.leaf _)) (.node Tryz.func210 go210 (.leaf _) (.leaf _))))))) (.node Tryz.func250 go250 (.node Tryz.func229 go229 (.node Tryz.func220 go220 (.node Tryz.func216 go216 (.node Tryz.func214 go214 (.node Tryz.func213 go213 (.node Tryz.func212 go212 (.leaf _) (.leaf _)) (.leaf _)) (.node Tryz.func215 go215 (.leaf _) (.leaf _))) (.node Tryz.func218 go218 (.node Tryz.func217 go217 (.leaf _) (.leaf _)) (.node Tryz.func219 go219 (.leaf _) (.leaf _)))) (.node Tryz.func224 go224 (.node Tryz.func222 go222 (.node Tryz.func221 go221 (.leaf _) (.leaf _)) (.node Tryz.func223 go223 (.leaf _) (.leaf _))) (.node Tryz.func227 go227 (.node Tryz.func226 go226 (.leaf _) (.leaf _)) (.node Tryz.func228 go228 (.leaf _) (.leaf _))))) (.node Tryz.func242 go242 (.node Tryz.func234 go234 (.node Tryz.func232 go232 (.node Tryz.func231 go231 (.node Tryz.func230 go230 (.leaf _) (.leaf _)) (.leaf _)) (.node Tryz.func233 go233 (.leaf _) (.leaf _))) (.node Tryz.func236 go236 (.node Tryz.func235 go235 (.leaf _) (.leaf _)) (.node Tryz.func241 go241 (.leaf _) (.leaf _)))) (.node Tryz.func246 go246 (.node Tryz.func244 go244 (.node Tryz.func243 go243 (.leaf _) (.leaf _)) (.node Tryz.func245 go245 (.leaf _) (.leaf _))) (.node Tryz.func248 go248 (.node Tryz.func247 go247 (.leaf _) (.leaf _)) (.node Tryz.func249 go249 (.leaf _) (.leaf _)))))) (.node Tryz.func274 go274 (.node Tryz.func259 go259 (.node Tryz.func255 go255 (.node Tryz.func253 go253 (.node Tryz.func252 go252 (.node Tryz.func251 go251 (.leaf _) (.leaf _)) (.leaf _)) (.node Tryz.func254 go254 (.leaf _) (.leaf _))) (.node Tryz.func257 go257 (.node Tryz.func256 go256 (.leaf _) (.leaf _)) (.node Tryz.func258 go258 (.leaf _) (.leaf _)))) (.node Tryz.func263 go263 (.node Tryz.func261 go261 (.node Tryz.func260 go260 (.leaf _) (.leaf _)) (.node Tryz.func262 go262 (.leaf _) (.leaf _))) (.node Tryz.func265 go265 (.node Tryz.func264 go264 (.leaf _) (.leaf _)) (.node Tryz.func273 go273 (.leaf _) (.leaf _))))) (.node Tryz.func283 go283 (.node Tryz.func279 go279 (.node Tryz.func277 go277 (.node Tryz.func276 go276 (.node Tryz.func275 go275 (.leaf _) (.leaf _)) (.leaf _)) (.node Tryz.func278 go278 (.leaf _) (.leaf _))) (.node Tryz.func281 go281 (.node Tryz.func280 go280 (.leaf _) (.leaf _)) (.node Tryz.func282 go282 (.leaf _) (.leaf _)))) (.node Tryz.func289 go289 (.node Tryz.func287 go287 (.node Tryz.func286 go286 (.leaf _) (.leaf _)) (.node Tryz.func288 go288 (.leaf _) (.leaf _))) (.node Tryz.func291 go291 (.node Tryz.func290 go290 (.leaf _) (.leaf _)) (.node Tryz.func292 go292 (.leaf _) (.leaf _)))))))))
theorem runs {fuel : Nat} {f : FuncId} {args : List Value} {v : Value} (h : runF Tryz.prog Ab.tab ft fuel f args = some v) (w : World) :
    Calls Tryz.prog f args.toArray w fun x w' => x = .returned v ∧ w'.os = w.os ∧ w'.tape = w.tape ∧ w'.output = w.output ∧ w.heap.size ≤ w'.heap.size ∧ ∀ k, k < w.heap.size → w'.heap[k]? = w.heap[k]? := runF_good Ab.tabOk ftOk Ab.mixed h w
end Go.Proofs.YtdbeblhifnfocaaGreatDoor.Rn

namespace Go.Proofs.YtdbeblhifnfocaaGreatDoor.Rn
set_option linter.unusedVariables false
open Go.RowKit
open Go.Proofs.YtdbeblhifnfocaaGreatDoor.Ab (TE TTab tlook TabOk TFacts win setW setW_get win_get Sh)
structure Ent where
  f : FuncId
  args : List V
  n : Nat
  h : Hp
  lo : Nat
  r : V × Nat × Hp × Nat
def EntOk (P : Program) (E : Ent) : Prop := Ab.isGo P E.f = true ∧ Syn E.n E.h E.lo E.r.2.1 E.r.2.2.1 E.r.2.2.2 ∧
  ∀ ι (us : Array Value) w, HRel ι E.h.get w → LRel ι E.args us.toList → Free ι E.n E.r.2.1 → Calls P E.f us w (Ends ι E.n E.h w E.r)
def entIs (f : FuncId) (args : List V) (n : Nat) (h : Hp) (lo : Nat) (E : Ent) : Bool := Nat.beq E.f f && (Nat.beq E.n n && (Nat.beq E.lo lo && (veqs E.args args && trEq bEq E.h h)))
def orc (T : List Ent) (f : FuncId) (args : List V) (n : Nat) (h : Hp) (lo : Nat) : R := match T.find? (entIs f args n h lo) with
  | some E => some E.r
  | none => none
def PfOk (P : Program) (pf : FuncId → List V → Option V) : Prop := ∀ f args v, pf f args = some v → Ab.isGo P f = true ∧
  ∀ (us : Array Value) w, (∀ ι, LRel ι args us.toList → True) → (∃ ι, LRel ι args us.toList) → Calls P f us w fun x w' => ∃ u, x = .returned u ∧ (∀ ι, VRel ι v u) ∧ w'.os = w.os ∧ w'.tape = w.tape ∧ w'.output = w.output ∧ w.heap.size ≤ w'.heap.size ∧ ∀ k, k < w.heap.size → w'.heap[k]? = w.heap[k]?
def rcallO (T : List Ent) (pf : FuncId → List V → Option V) (call : FuncId → List V → Nat → Hp → Nat → R) (f : FuncId) (args : List V) (n : Nat) (h : Hp) (lo : Nat) : R := match pf f args with
  | some v => some (v, n, h, lo)
  | none => match orc T f args n h lo with
    | some r => some r
    | none => call f args n h lo
section
variable {P : Program} {tab : TTab}
theorem orc_good {T : List Ent} (hT : ∀ E ∈ T, EntOk P E) : CallOk P (orc T) := by
  intro f args n h lo r hr
  unfold orc at hr
  split at hr
  · rename_i E hE
    have hm := List.mem_of_find?_eq_some hE
    have hi := List.find?_some hE
    cases hr
    unfold entIs at hi
    simp only [Bool.and_eq_true] at hi
    obtain ⟨h1, h2, h3, h4, h5⟩ := hi
    obtain ⟨f', args', n', h', lo', r'⟩ := E
    have e1 := Nat.eq_of_beq_eq_true h1
    have e2 := Nat.eq_of_beq_eq_true h2
    have e3 := Nat.eq_of_beq_eq_true h3
    have e4 := veqs_eq _ _ h4
    have e5 := trEq_eq bEq_eq h5
    dsimp only at e1 e2 e3 e4 e5
    subst e1 e2 e3 e4 e5
    exact hT _ hm
  · cases hr
theorem rcallO_good {T : List Ent} {pf : FuncId → List V → Option V} {call : FuncId → List V → Nat → Hp → Nat → R} (hT : ∀ E ∈ T, EntOk P E) (hP : PfOk P pf) (CO : CallOk P call) : CallOk P (rcallO T pf call) := by
  intro f args n h lo r hr
  unfold rcallO at hr
  split at hr
  · rename_i v hv
    cases hr
    obtain ⟨hg, hc⟩ := hP f args v hv
    refine ⟨hg, Syn.refl _ _ _, fun ι us w H A hf => (hc us w (fun _ _ => trivial) ⟨ι, A⟩).mono ?_⟩
    rintro x w' ⟨u, rfl, h1, h2, h3, h4, h5, h6⟩
    refine ⟨u, ι, rfl, h1 ι, H.keep fun id b r m hb hi => h6 r (H.lt hb hi), h2, h3, h4, h5, Nat.le_refl _, fun _ _ => rfl, fun r hr _ => h6 r hr, fun id b r m a b' _ => ⟨id, b, m, a, b'⟩⟩
  · split at hr
    · rename_i r' ho
      cases hr
      exact orc_good hT f args n h lo _ ho
    · exact CO f args n h lo r hr
def runO (P : Program) (tab : TTab) (ft : FT) (T : List Ent) (pf : FuncId → List V → Option V) (fuel : Nat) : Nat → Code → St → RC := Nat.rec (fun _ _ _ => none) (fun _ ih => rstep (fun nt ops s => rops P tab (rcallO T pf (rcall tab ft ih)) (knownF ft) ops nt ops.toList s) (rdrawA P tab (rcallO T pf (rcall tab ft ih)) (knownF ft)) (rcallG tab ft ih 1) ih) fuel
theorem runO_good {ft : FT} {T : List Ent} {pf : FuncId → List V → Option V} (TO : TabOk P tab) (FO : FOk P ft) (hm : P.follows .mixedOrders = true) (hT : ∀ E ∈ T, EntOk P E) (hP : PfOk P pf) : ∀ fuel, IhOk P (runO P tab ft T pf fuel)
  | 0 => fun nt c s x s' h => by cases h
  | fuel + 1 => by
    have IO := runO_good TO FO hm hT hP fuel
    have CO := rcallO_good hT hP (rcall_good TO FO IO)
    refine rstep_good (fun nt ops s s' hr => ?_) (rdrawA_good TO CO hm) (rcallG_good TO FO IO) IO
    obtain ⟨h1, h2⟩ := rops_good TO CO ops.toList s s' hr
    exact ⟨h1, fun id ι a w R hf => wp_region_list (h2 ι a w R hf _ fun x a' w' h => h)⟩
def callD (P : Program) (tab : TTab) (ft : FT) (T : List Ent) (pf : FuncId → List V → Option V) (fuel : Nat) (D : List Nat) (f : FuncId) (args : List V) (n : Nat) (h : Hp) (lo : Nat) : R := match rcall tab ft (runO P tab ft T pf fuel) f args n h lo with
  | some (v, n', h', lo') => some (v, n', D.foldl Tr.del h', lo')
  | none => none
theorem dels_get (D : List Nat) : ∀ (h : Hp) (j : Nat), (D.foldl Tr.del h).get j = if j ∈ D then none else h.get j := by
  induction D with
  | nil => intro h j; simp
  | cons k D ih =>
    intro h j
    rw [List.foldl_cons, ih, Tr.get_del]
    by_cases h1 : j ∈ D
    · simp [h1]
    · by_cases h2 : j = k
      · simp [h2]
      · simp [h1, h2]
theorem entOk_of {ft : FT} {T : List Ent} {pf : FuncId → List V → Option V} (TO : TabOk P tab) (FO : FOk P ft) (hm : P.follows .mixedOrders = true) (hT : ∀ E ∈ T, EntOk P E) (hP : PfOk P pf) {fuel : Nat} {D : List Nat} (E : Ent) (hD : D.all (fun i => Nat.ble E.n i) = true)
    (hr : callD P tab ft T pf fuel D E.f E.args E.n E.h E.lo = some E.r) : EntOk P E := by
  obtain ⟨f, args, n, h, lo, r⟩ := E
  dsimp only at hD hr
  unfold callD at hr
  split at hr
  · rename_i v n' h' lo' hc
    cases hr
    obtain ⟨g1, g2, g3⟩ := rcall_good TO FO (runO_good TO FO hm hT hP fuel) _ _ _ _ _ _ hc
    have hge : ∀ i ∈ D, n ≤ i := fun i hi => Nat.le_of_ble_eq_true (List.all_eq_true.1 hD i hi)
    have hsub : ∀ id b, (D.foldl Tr.del h').get id = some b → h'.get id = some b := fun id b hb => by
      rw [dels_get] at hb
      split at hb
      · cases hb
      · exact hb
    have hold : ∀ id, id < n → (D.foldl Tr.del h').get id = h'.get id := fun id hid => by
      rw [dels_get, if_neg fun h => by have := hge id h; omega]
    refine ⟨g1, ⟨g2.le, g2.low, g2.lon, fun h1 id hid => ?_, fun hb id b hg => g2.bd hb id b (hsub id b hg), fun id hid hn => ?_⟩, fun ι us w H A hf => (g3 ι us w H A hf).mono ?_⟩
    · have h2 := g2.low
      dsimp only at h1 hid h2
      rw [hold id (by omega)]
      exact g2.same h1 id hid
    · rw [hold id hid]; exact g2.nn id hid hn
    · rintro y w' ⟨u, ι', rfl, q1, q2, q3⟩
      exact ⟨u, ι', rfl, q1, ⟨fun id b hb => q2.blk id b (hsub id b hb), fun i j b b' r m m' hb hb' => q2.inj i j b b' r m m' (hsub i b hb) (hsub j b' hb')⟩, q3.os, q3.tape, q3.output, q3.size, q3.le, q3.same, q3.mem, fun id b r m hb => q3.old id b r m (hsub id b hb)⟩
  · cases hr
def rEq (a : R) (r : V × Nat × Hp × Nat) : Bool := match a with
  | some (v, n, h, lo) => veq v r.1 && (Nat.beq n r.2.1 && (trEq bEq h r.2.2.1 && Nat.beq lo r.2.2.2))
  | none => false
theorem rEq_eq {a : R} {r : V × Nat × Hp × Nat} (h : rEq a r = true) : a = some r := by
  obtain ⟨v, n, g, lo⟩ := r
  unfold rEq at h
  split at h
  · simp only [Bool.and_eq_true] at h
    obtain ⟨h1, h2, h3, h4⟩ := h
    rw [veq_eq _ _ h1, Nat.eq_of_beq_eq_true h2, trEq_eq bEq_eq h3, Nat.eq_of_beq_eq_true h4]
  · cases h
theorem entOk_is {ft : FT} {T : List Ent} {pf : FuncId → List V → Option V} (TO : TabOk P tab) (FO : FOk P ft) (hm : P.follows .mixedOrders = true) (hP : PfOk P pf) {fuel : Nat} {D : List Nat} (E : Ent) (hD : D.all (fun i => Nat.ble E.n i) = true)
    (hr : rEq (callD P tab ft T pf fuel D E.f E.args E.n E.h E.lo) E.r = true) (hT : ∀ E ∈ T, EntOk P E) : EntOk P E := entOk_of TO FO hm hT hP E hD (rEq_eq hr)
theorem ents_nil : ∀ E ∈ ([] : List Ent), EntOk P E := fun _ h => by cases h
theorem ents_cons {E : Ent} {T : List Ent} (h : EntOk P E) (hT : ∀ E ∈ T, EntOk P E) : ∀ X ∈ E :: T, EntOk P X := fun X hX => by
  rcases List.mem_cons.1 hX with rfl | hX
  · exact h
  · exact hT X hX
def isTrue (a : R) : Bool := match a with
  | some (.sc (.bool true), _) => true
  | _ => false
theorem runO_closed {ft : FT} {T : List Ent} {pf : FuncId → List V → Option V} (TO : TabOk P tab) (FO : FOk P ft) (hm : P.follows .mixedOrders = true) (hT : ∀ E ∈ T, EntOk P E) (hP : PfOk P pf) {fuel : Nat} {f : FuncId} {v : Value} {n : Nat} {h : Hp} {lo : Nat} (hr : rcall tab ft (runO P tab ft T pf fuel) f [] 0 .nil 0 = some (.sc v, n, h, lo)) (w : World) :
    Calls P f #[] w fun x w' => x = .returned v ∧ w'.os = w.os ∧ w'.tape = w.tape ∧ w'.output = w.output ∧ w.heap.size ≤ w'.heap.size ∧ ∀ k, k < w.heap.size → w'.heap[k]? = w.heap[k]? := by
  obtain ⟨_, _, h3⟩ := rcall_good TO FO (runO_good TO FO hm hT hP fuel) _ _ _ _ _ _ hr
  have H0 : HRel (fun _ => none) (Tr.nil : Hp).get w := ⟨(fun id b hb => by cases hb), (fun i j b b' r m m' hb => by cases hb)⟩
  refine (h3 (fun _ => none) #[] w H0 LRel.nil (fun _ _ => rfl)).mono ?_
  rintro x w' ⟨u, ι', rfl, h4, h5, h6⟩
  exact ⟨by rw [tv_rel h4 _ rfl], h6.os, h6.tape, h6.output, h6.size, fun k hk => h6.mem k hk fun id b m hb => by cases hb⟩
theorem runO_true {ft : FT} {T : List Ent} {pf : FuncId → List V → Option V} (TO : TabOk P tab) (FO : FOk P ft) (hm : P.follows .mixedOrders = true) (hT : ∀ E ∈ T, EntOk P E) (hP : PfOk P pf) {fuel : Nat} {f : FuncId} (hr : isTrue (rcall tab ft (runO P tab ft T pf fuel) f [] 0 .nil 0) = true) (w : World) :
    Calls P f #[] w fun x w' => x = .returned (.bool true) ∧ w'.os = w.os ∧ w'.tape = w.tape ∧ w'.output = w.output ∧ w.heap.size ≤ w'.heap.size ∧ ∀ k, k < w.heap.size → w'.heap[k]? = w.heap[k]? := by
  unfold isTrue at hr
  split at hr
  · rename_i q hq
    obtain ⟨n, h, lo⟩ := q
    exact runO_closed TO FO hm hT hP hq w
  · cases hr
end
end Go.Proofs.YtdbeblhifnfocaaGreatDoor.Rn

namespace Go.Proofs
open Go.Shelf
def Tryz.laysCont_ren : Go.Shelf.Ren := ⟨fun | 144 => 62 | 143 => 153 | 219 => 225 | 217 => 266 | 225 => 267 | 224 => 268 | 267 => 269 | 266 => 284 | 314 => 285 | n => n, fun | 9 => 9 | 4 => 4 | 3 => 3 | 5 => 5 | 46 => 223 | 146 => 369 | 51 => 23 | n => n, fun | 1 => 0 | n => n⟩
def Tryz.laysItoa_ren : Go.Shelf.Ren := ⟨fun | 171 => 34 | 243 => 90 | 246 => 186 | 283 => 237 | 284 => 238 | 285 => 239 | 286 => 240 | 129 => 197 | 317 => 270 | 318 => 271 | 319 => 272 | 320 => 273 | 337 => 286 | 338 => 287 | n => n, fun | 3 => 3 | 9 => 9 | 2 => 2 | 4 => 4 | 171 => 332 | 0 => 0 | 53 => 240 | 37 => 160 | 5 => 5 | 173 => 334 | 212 => 362 | 51 => 23 | 20 => 20 | 213 => 363 | 46 => 223 | 232 => 371 | 233 => 372 | n => n, fun | 17 => 1 | 18 => 2 | 19 => 3 | n => n⟩
def Tryz.laysSortS_ren : Go.Shelf.Ren := ⟨fun | 190 => 37 | 125 => 118 | 258 => 117 | 128 => 196 | 129 => 197 | 302 => 187 | 303 => 188 | 304 => 189 | 305 => 190 | 306 => 191 | 307 => 192 | 308 => 193 | 309 => 194 | 310 => 195 | 333 => 241 | 329 => 242 | 330 => 243 | 334 => 244 | 335 => 245 | 336 => 246 | 344 => 274 | n => n, fun | 31 => 47 | 9 => 9 | 3 => 3 | 46 => 223 | 0 => 0 | 51 => 23 | 53 => 240 | 4 => 4 | 183 => 293 | 182 => 292 | 131 => 297 | 5 => 5 | 218 => 336 | 222 => 340 | 228 => 364 | 229 => 365 | n => n, fun | n => n⟩
def Tryz.laysCmpS_ren : Go.Shelf.Ren := ⟨fun | 106 => 52 | 213 => 135 | 265 => 209 | n => n, fun | 9 => 9 | 3 => 3 | n => n, fun | n => n⟩
theorem Tryz.laysCmpS : Go.Proofs.Lays.n106 Tryz.prog Tryz.laysCmpS_ren := {
  mixed := by kernel_rfl
  f106 := Tryz.func52.trans (congrArg some (by kernel_rfl))
  f213 := Tryz.func135.trans (congrArg some (by kernel_rfl))
  f265 := Tryz.func209.trans (congrArg some (by kernel_rfl))
  t3 := Tryz.underlying3
  a3 := Tryz.isAgg3
  z3 := Tryz.sizeOf3
  v3 := Tryz.zeroValue3
  t9 := Tryz.underlying9
  a9 := Tryz.isAgg9
  z9 := Tryz.sizeOf9
  v9 := Tryz.zeroValue9 }
end Go.Proofs
